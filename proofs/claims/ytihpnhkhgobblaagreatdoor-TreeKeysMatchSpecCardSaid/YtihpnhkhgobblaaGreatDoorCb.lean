/- Contracts: the check of a list of words. Conditions: in each. -/
import Derived.Test.YtihpnhkhgobblaaGreatDoorCa
namespace Go.Eng
open Go Go.Proofs

set_option maxRecDepth 10000

def nibs : List Int := [0, 75628553, 151257106, 226885659, 302514212, 378142765, 453771318, 529399871, 605028424, 546439233, 756285530, 697696339, 907542636, 848953445, 1058799742, 1000210551]

/-- The table of hash, where the program lays it. -/
def NibG (σ : Heap) : Prop := σ.rds 0 0 16 = some (nibs.map (.int .u64 ·))

theorem nibG_ins {σ : Heap} (h : NibG σ) {r : Nat} (hr : σ r = none) (a : AObj) : NibG (σ.ins r a) := by
  have hne : (0 : Nat) ≠ r := by
    rintro rfl
    simp [NibG, Heap.rds, Heap.rd, hr] at h
  unfold NibG
  rw [rds_ne σ hne]
  exact h

theorem nibG_ins' {σ : Heap} {r : Nat} {a b : AObj} (h : NibG (σ.ins r a)) (hr : σ r = none) (h0 : NibG σ) : NibG (σ.ins r b) := by
  have := h
  exact nibG_ins h0 hr b

theorem c70 {σ : Heap} {R : Value → Heap → Prop} (h : R (.agg #[.int .u64 1099511627775]) σ) : ACalls Tryz.prog 70 [] σ R := by
  refine ACalls_fn fn70 rfl ?_
  repeat' first
    | refine go rfl ?_
    | refine ifT rfl ?_
    | refine ifF rfl ?_
    | refine doT rfl rfl rfl rfl rfl (as0 rfl ?_)
    | refine doF rfl rfl rfl rfl rfl (as0 rfl ?_)
    | refine noT rfl rfl rfl rfl rfl ?_
    | refine noF rfl rfl rfl rfl rfl ?_
    | refine noU rfl rfl rfl rfl rfl rfl ?_
    | refine go_block ?_
  refine op rfl rfl rfl rfl (as_alloc rfl rfl fun r hr => ?_)
  repeat' first
    | refine go rfl ?_
    | refine ifT rfl ?_
    | refine ifF rfl ?_
    | refine doT rfl rfl rfl rfl rfl (as0 rfl ?_)
    | refine doF rfl rfl rfl rfl rfl (as0 rfl ?_)
    | refine noT rfl rfl rfl rfl rfl ?_
    | refine noF rfl rfl rfl rfl rfl ?_
    | refine noU rfl rfl rfl rfl rfl rfl ?_
    | refine go_block ?_
  refine opn rfl rfl rfl (as_store_at [.int .u64 1099511627775] rfl rfl rfl rfl rfl (Heap.ins_same ..) rfl rfl rfl rfl ?_)
  rw [ins_ins]
  repeat' first
    | refine go rfl ?_
    | refine ifT rfl ?_
    | refine ifF rfl ?_
    | refine doT rfl rfl rfl rfl rfl (as0 rfl ?_)
    | refine doF rfl rfl rfl rfl rfl (as0 rfl ?_)
    | refine noT rfl rfl rfl rfl rfl ?_
    | refine noF rfl rfl rfl rfl rfl ?_
    | refine noU rfl rfl rfl rfl rfl rfl ?_
    | refine go_block ?_
  refine go_ret' (ares_cell rfl rfl (ldn (o := 0) (l := [.int .u64 1099511627775]) (Heap.ins_same ..) rfl rfl rfl) rfl ares_nil) (weak_ins hr _) ?_
  exact h

def nibAt (reg n : Int) : Int := andI .u8 (xorI .u8 (IntKind.wrap .u8 (shrI .u64 reg 36)) n) 15
def nibM (reg n : Int) : Int := xorI .u64 (andI .u64 (shlI .u64 reg 4) 1099511627775) (nibs.getD (nibAt reg n).toNat 0)

theorem and15 (x : Int) : 0 ≤ andI .u8 x 15 ∧ andI .u8 x 15 < 16 := by
  unfold andI
  have h : (BitVec.ofInt IntKind.u8.bits x &&& BitVec.ofInt IntKind.u8.bits 15).toNat < 16 := by
    rw [BitVec.toNat_and]
    have h2 : (BitVec.ofInt IntKind.u8.bits 15).toNat = 15 := by decide
    rw [h2]
    exact Nat.lt_of_le_of_lt Nat.and_le_right (by decide)
  have e : IntKind.wrap .u8 ((BitVec.ofInt IntKind.u8.bits x &&& BitVec.ofInt IntKind.u8.bits 15).toNat : Int) = ((BitVec.ofInt IntKind.u8.bits x &&& BitVec.ofInt IntKind.u8.bits 15).toNat : Int) := by
    simp only [IntKind.wrap, IntKind.bits, IntKind.signed] at h ⊢
    simp
    omega
  rw [e]
  omega

theorem nib_ld {σ : Heap} (h : NibG σ) {x : Int} (h0 : 0 ≤ x) (h1 : x < 16) : σ.ldT ti138 (padd (some ⟨0, 0, none⟩) (x.toNat * ti138.size)) = some (.int .u64 (nibs.getD x.toNat 0)) := by
  rw [padd_some]
  refine ldT_one rfl ?_
  have hlt : x.toNat < 16 := by omega
  have hg : (nibs.map (Value.int .u64 ·))[x.toNat]? = some (.int .u64 (nibs.getD x.toNat 0)) := by
    rw [List.getElem?_map, List.getD_eq_getElem?_getD]
    have : x.toNat < nibs.length := hlt
    simp [List.getElem?_eq_getElem this]
  have := (rds_get h).2 hg
  have e : x.toNat * ti138.size = x.toNat := by simp [ti138]
  rw [e]
  exact this

theorem c71 {reg n : Int} {σ : Heap} {R : Value → Heap → Prop} (hG : NibG σ) (h : R (.agg #[.int .u64 (nibM reg n)]) σ) : ACalls Tryz.prog 71 [.agg #[.int .u64 reg], .int .u8 n] σ R := by
  refine ACalls_fn fn71 rfl ?_
  repeat' first
    | refine go rfl ?_
    | refine ifT rfl ?_
    | refine ifF rfl ?_
    | refine doT rfl rfl rfl rfl rfl (as0 rfl ?_)
    | refine doF rfl rfl rfl rfl rfl (as0 rfl ?_)
    | refine noT rfl rfl rfl rfl rfl ?_
    | refine noF rfl rfl rfl rfl rfl ?_
    | refine noU rfl rfl rfl rfl rfl rfl ?_
    | refine go_block ?_
  refine op rfl rfl rfl rfl (as_box rfl rfl fun r hr => ?_)
  refine op rfl rfl rfl rfl (as_alloc rfl rfl fun s hs => ?_)
  obtain ⟨hsr, hs'⟩ := ins_none hs
  repeat' first
    | refine go rfl ?_
    | refine ifT rfl ?_
    | refine ifF rfl ?_
    | refine doT rfl rfl rfl rfl rfl (as0 rfl ?_)
    | refine doF rfl rfl rfl rfl rfl (as0 rfl ?_)
    | refine noT rfl rfl rfl rfl rfl ?_
    | refine noF rfl rfl rfl rfl rfl ?_
    | refine noU rfl rfl rfl rfl rfl rfl ?_
    | refine go_block ?_
  refine op rfl rfl rfl rfl (as1 rfl rfl ?_)
  have hr1 : ∀ b : AObj, ((σ.ins r (.cells 1 [.int .u64 reg] 140 1)).ins s b) r = some (.cells 1 [.int .u64 reg] 140 1) := fun b => by
    rw [ins_at _ (Ne.symm hsr)]
    exact Heap.ins_same ..
  refine opl (i := ti138) rfl rfl rfl rfl rfl rfl rfl rfl (ld1 (o := 0) (hr1 _) rfl rfl) ⟨reg, rfl⟩ ?_
  refine op rfl rfl rfl rfl (as1 rfl (by decide) ?_)
  repeat' first
    | refine go rfl ?_
    | refine ifT rfl ?_
    | refine ifF rfl ?_
    | refine doT rfl rfl rfl rfl rfl (as0 rfl ?_)
    | refine doF rfl rfl rfl rfl rfl (as0 rfl ?_)
    | refine noT rfl rfl rfl rfl rfl ?_
    | refine noF rfl rfl rfl rfl rfl ?_
    | refine noU rfl rfl rfl rfl rfl rfl ?_
    | refine go_block ?_
  refine op rfl rfl rfl rfl (as1 rfl rfl ?_)
  refine opl (i := ti138) rfl rfl rfl rfl rfl rfl rfl rfl (ld1 (o := 0) (hr1 _) rfl rfl) ⟨reg, rfl⟩ ?_
  refine op rfl rfl rfl rfl (as1 rfl (by decide) ?_)
  repeat' first
    | refine go rfl ?_
    | refine ifT rfl ?_
    | refine ifF rfl ?_
    | refine doT rfl rfl rfl rfl rfl (as0 rfl ?_)
    | refine doF rfl rfl rfl rfl rfl (as0 rfl ?_)
    | refine noT rfl rfl rfl rfl rfl ?_
    | refine noF rfl rfl rfl rfl rfl ?_
    | refine noU rfl rfl rfl rfl rfl rfl ?_
    | refine go_block ?_
  obtain ⟨h0, h1⟩ := and15 (xorI .u8 (IntKind.wrap .u8 (shrI .u64 reg 36)) n)
  refine op rfl rfl rfl rfl (as3 rfl h0 h1 rfl ?_)
  refine opl (i := ti138) rfl rfl rfl rfl rfl rfl rfl rfl (nib_ld (nibG_ins (nibG_ins hG hr _) hs _) h0 h1) ⟨_, rfl⟩ ?_
  repeat' first
    | refine go rfl ?_
    | refine ifT rfl ?_
    | refine ifF rfl ?_
    | refine doT rfl rfl rfl rfl rfl (as0 rfl ?_)
    | refine doF rfl rfl rfl rfl rfl (as0 rfl ?_)
    | refine noT rfl rfl rfl rfl rfl ?_
    | refine noF rfl rfl rfl rfl rfl ?_
    | refine noU rfl rfl rfl rfl rfl rfl ?_
    | refine go_block ?_
  refine opn rfl rfl rfl (as_store_at [.int .u64 (nibM reg n)] rfl rfl rfl rfl rfl (Heap.ins_same ..) rfl rfl rfl rfl ?_)
  rw [ins_ins]
  repeat' first
    | refine go rfl ?_
    | refine ifT rfl ?_
    | refine ifF rfl ?_
    | refine doT rfl rfl rfl rfl rfl (as0 rfl ?_)
    | refine doF rfl rfl rfl rfl rfl (as0 rfl ?_)
    | refine noT rfl rfl rfl rfl rfl ?_
    | refine noF rfl rfl rfl rfl rfl ?_
    | refine noU rfl rfl rfl rfl rfl rfl ?_
    | refine go_block ?_
  refine go_ret' (ares_cell rfl rfl (ldn (o := 0) (l := [.int .u64 (nibM reg n)]) (Heap.ins_same ..) rfl rfl rfl) rfl ares_nil) ((weak_ins hs _).trans (weak_ins hr _)) ?_
  exact h

def crcOut (reg : Int) : Int := IntKind.wrap .i64 (xorI .u64 reg 1099511627775)

theorem c72 {reg : Int} {σ : Heap} {R : Value → Heap → Prop} (h : R (.int .i64 (crcOut reg)) σ) : ACalls Tryz.prog 72 [.agg #[.int .u64 reg]] σ R := by
  refine ACalls_fn fn72 rfl ?_
  repeat' first
    | refine go rfl ?_
    | refine ifT rfl ?_
    | refine ifF rfl ?_
    | refine doT rfl rfl rfl rfl rfl (as0 rfl ?_)
    | refine doF rfl rfl rfl rfl rfl (as0 rfl ?_)
    | refine noT rfl rfl rfl rfl rfl ?_
    | refine noF rfl rfl rfl rfl rfl ?_
    | refine noU rfl rfl rfl rfl rfl rfl ?_
    | refine go_block ?_
  refine op rfl rfl rfl rfl (as_box rfl rfl fun r hr => ?_)
  repeat' first
    | refine go rfl ?_
    | refine ifT rfl ?_
    | refine ifF rfl ?_
    | refine doT rfl rfl rfl rfl rfl (as0 rfl ?_)
    | refine doF rfl rfl rfl rfl rfl (as0 rfl ?_)
    | refine noT rfl rfl rfl rfl rfl ?_
    | refine noF rfl rfl rfl rfl rfl ?_
    | refine noU rfl rfl rfl rfl rfl rfl ?_
    | refine go_block ?_
  refine op rfl rfl rfl rfl (as1 rfl rfl ?_)
  refine opl (i := ti138) rfl rfl rfl rfl rfl rfl rfl rfl (ld1 (o := 0) (Heap.ins_same ..) rfl rfl) ⟨reg, rfl⟩ ?_
  repeat' first
    | refine go rfl ?_
    | refine ifT rfl ?_
    | refine ifF rfl ?_
    | refine doT rfl rfl rfl rfl rfl (as0 rfl ?_)
    | refine doF rfl rfl rfl rfl rfl (as0 rfl ?_)
    | refine noT rfl rfl rfl rfl rfl ?_
    | refine noF rfl rfl rfl rfl rfl ?_
    | refine noU rfl rfl rfl rfl rfl rfl ?_
    | refine go_block ?_
  refine go_ret' (ares_tmp rfl ares_nil) (weak_ins hr _) ?_
  exact h

/-- The register behind the first nibbles of a word. -/
def crcUpto (n reg : Int) : Nat → Int
  | 0 => reg
  | j + 1 => nibM (crcUpto n reg j) (IntKind.wrap .u8 (andI .i64 (shrI .i64 n (36 - 4 * (j : Int))) 15))

def crcWord (reg n : Int) : Int := crcUpto n reg 10
def hashM (l : List Int) : Int := crcOut (l.foldl crcWord 1099511627775)

theorem c39 {q : Option Addr} {cp : Nat} {l : List Int} {σ : Heap} {R : Value → Heap → Prop} (hG : NibG σ) (hl : σ.row q l.length (ints l)) (hm : l.length < 9223372036854775807) (h : R (.int .i64 (hashM l)) σ) :
    ACalls Tryz.prog 39 [.slice q l.length cp] σ R := by
  refine ACalls_fn fn39 rfl ?_
  repeat' first
    | refine go rfl ?_
    | refine ifT rfl ?_
    | refine ifF rfl ?_
    | refine doT rfl rfl rfl rfl rfl (as0 rfl ?_)
    | refine doF rfl rfl rfl rfl rfl (as0 rfl ?_)
    | refine noT rfl rfl rfl rfl rfl ?_
    | refine noF rfl rfl rfl rfl rfl ?_
    | refine noU rfl rfl rfl rfl rfl rfl ?_
    | refine go_block ?_
  refine opc rfl rfl rfl rfl rfl rfl rfl rfl rfl rfl (c70 (shK_mk ⟨_, rfl⟩ ?_))
  refine op rfl rfl rfl rfl (as_alloc rfl rfl fun r hr => ?_)
  refine opn rfl rfl rfl (as_store_at [.int .u64 1099511627775] rfl rfl rfl rfl rfl (Heap.ins_same ..) rfl rfl rfl rfl ?_)
  rw [ins_ins]
  repeat' first
    | refine go rfl ?_
    | refine ifT rfl ?_
    | refine ifF rfl ?_
    | refine doT rfl rfl rfl rfl rfl (as0 rfl ?_)
    | refine doF rfl rfl rfl rfl rfl (as0 rfl ?_)
    | refine noT rfl rfl rfl rfl rfl ?_
    | refine noF rfl rfl rfl rfl rfl ?_
    | refine noU rfl rfl rfl rfl rfl rfl ?_
    | refine go_block ?_
  refine go_loop [(3, .pointer (some ⟨r, 0, none⟩)), (8, .slice q l.length cp), (9, .int .i64 l.length)] [(10, .sc (.int .i64))]
    (fun (i : Int) σ' => ∃ pre suf, l = pre ++ suf ∧ i = (pre.length : Int) ∧ σ' = σ.ins r (.cells 1 [.int .u64 (pre.foldl crcWord 1099511627775)] 140 1)) (fun (i : Int) _ => (l.length - i.toNat : Nat)) (0 : Int)
    ⟨rfl, rfl, rfl, trivial⟩ rfl ⟨[], l, rfl, rfl, rfl⟩ ?_
  rintro (i : Int) σ' ⟨pre, suf, e, hi, rfl⟩
  repeat' first
    | refine go rfl ?_
    | refine ifT rfl ?_
    | refine ifF rfl ?_
    | refine doT rfl rfl rfl rfl rfl (as0 rfl ?_)
    | refine doF rfl rfl rfl rfl rfl (as0 rfl ?_)
    | refine noT rfl rfl rfl rfl rfl ?_
    | refine noF rfl rfl rfl rfl rfl ?_
    | refine noU rfl rfl rfl rfl rfl rfl ?_
    | refine go_block ?_
  refine go_cond rfl (fun hlt => ?_) (fun hlt => ?_)
  · obtain ⟨y, suf, rfl⟩ := more_cons e hi hlt
    obtain ⟨h1, h2⟩ := row_at (row_ne (a := .cells 1 [.int .u64 (pre.foldl crcWord 1099511627775)] 140 1) hr hl) (ints_at e) hi (t := ti3) rfl rfl
    repeat' first
      | refine go rfl ?_
      | refine ifT rfl ?_
      | refine ifF rfl ?_
      | refine doT rfl rfl rfl rfl rfl (as0 rfl ?_)
      | refine doF rfl rfl rfl rfl rfl (as0 rfl ?_)
      | refine noT rfl rfl rfl rfl rfl ?_
      | refine noF rfl rfl rfl rfl rfl ?_
      | refine noU rfl rfl rfl rfl rfl rfl ?_
      | refine go_block ?_
    refine op rfl rfl rfl rfl (as3 rfl (by rw [hi]; omega) (in_lt e hi) h1 ?_)
    refine opl (i := ti3) rfl rfl rfl rfl rfl rfl rfl rfl h2 ⟨y, rfl⟩ ?_
    repeat' first
      | refine go rfl ?_
      | refine ifT rfl ?_
      | refine ifF rfl ?_
      | refine doT rfl rfl rfl rfl rfl (as0 rfl ?_)
      | refine doF rfl rfl rfl rfl rfl (as0 rfl ?_)
      | refine noT rfl rfl rfl rfl rfl ?_
      | refine noF rfl rfl rfl rfl rfl ?_
      | refine noU rfl rfl rfl rfl rfl rfl ?_
    refine go_block_cut [(3, .pointer (some ⟨r, 0, none⟩)), (8, .slice q l.length cp), (9, .int .i64 l.length), (10, .int .i64 i)] [] (fun _ σ' => σ' = σ.ins r (.cells 1 [.int .u64 ((pre ++ [y]).foldl crcWord 1099511627775)] 140 1)) ?_ ?_
    · refine go_loop [(3, .pointer (some ⟨r, 0, none⟩)), (8, .slice q l.length cp), (9, .int .i64 l.length), (10, .int .i64 i), (5, .int .i64 y)] [(6, .sc (.int .i64))]
        (fun (s : Int) σ' => ∃ j : Nat, j ≤ 10 ∧ s = 36 - 4 * (j : Int) ∧ σ' = σ.ins r (.cells 1 [.int .u64 (crcUpto y (pre.foldl crcWord 1099511627775) j)] 140 1)) (fun (s : Int) _ => (s + 4).toNat) (36 : Int)
        ⟨rfl, rfl, rfl, rfl, rfl, trivial⟩ rfl ⟨0, by omega, rfl, rfl⟩ ?_
      rintro (s : Int) σ' ⟨j, hj, hs, rfl⟩
      repeat' first
        | refine go rfl ?_
        | refine ifT rfl ?_
        | refine ifF rfl ?_
        | refine doT rfl rfl rfl rfl rfl (as0 rfl ?_)
        | refine doF rfl rfl rfl rfl rfl (as0 rfl ?_)
        | refine noT rfl rfl rfl rfl rfl ?_
        | refine noF rfl rfl rfl rfl rfl ?_
        | refine noU rfl rfl rfl rfl rfl rfl ?_
        | refine go_block ?_
      refine go_cond rfl (fun hge => ?_) (fun hge => ?_)
      · have hge' : 0 ≤ s := of_decide_eq_true hge
        repeat' first
          | refine go rfl ?_
          | refine ifT rfl ?_
          | refine ifF rfl ?_
          | refine doT rfl rfl rfl rfl rfl (as0 rfl ?_)
          | refine doF rfl rfl rfl rfl rfl (as0 rfl ?_)
          | refine noT rfl rfl rfl rfl rfl ?_
          | refine noF rfl rfl rfl rfl rfl ?_
          | refine noU rfl rfl rfl rfl rfl rfl ?_
          | refine go_block ?_
        refine opl (i := ti140) rfl rfl rfl rfl rfl rfl rfl rfl (ldn (o := 0) (l := [.int .u64 (crcUpto y (pre.foldl crcWord 1099511627775) j)]) (Heap.ins_same ..) rfl rfl rfl) ⟨(_ : Int), rfl⟩ ?_
        repeat' first
          | refine go rfl ?_
          | refine ifT rfl ?_
          | refine ifF rfl ?_
          | refine doT rfl rfl rfl rfl rfl (as0 rfl ?_)
          | refine doF rfl rfl rfl rfl rfl (as0 rfl ?_)
          | refine noT rfl rfl rfl rfl rfl ?_
          | refine noF rfl rfl rfl rfl rfl ?_
          | refine noU rfl rfl rfl rfl rfl rfl ?_
          | refine go_block ?_
        refine op rfl rfl rfl rfl (as1 rfl hge' ?_)
        repeat' first
          | refine go rfl ?_
          | refine ifT rfl ?_
          | refine ifF rfl ?_
          | refine doT rfl rfl rfl rfl rfl (as0 rfl ?_)
          | refine doF rfl rfl rfl rfl rfl (as0 rfl ?_)
          | refine noT rfl rfl rfl rfl rfl ?_
          | refine noF rfl rfl rfl rfl rfl ?_
          | refine noU rfl rfl rfl rfl rfl rfl ?_
          | refine go_block ?_
        refine opc rfl rfl rfl rfl rfl rfl rfl rfl rfl rfl (c71 (nibG_ins hG hr _) (shK_mk ⟨_, rfl⟩ ?_))
        refine opn rfl rfl rfl (as_store_at [.int .u64 (nibM (crcUpto y (pre.foldl crcWord 1099511627775) j) (IntKind.wrap .u8 (andI .i64 (shrI .i64 y s) 15)))] rfl rfl rfl rfl rfl (Heap.ins_same ..) rfl rfl rfl rfl ?_)
        rw [ins_ins]
        repeat' first
          | refine go rfl ?_
          | refine ifT rfl ?_
          | refine ifF rfl ?_
          | refine doT rfl rfl rfl rfl rfl (as0 rfl ?_)
          | refine doF rfl rfl rfl rfl rfl (as0 rfl ?_)
          | refine noT rfl rfl rfl rfl rfl ?_
          | refine noF rfl rfl rfl rfl rfl ?_
          | refine noU rfl rfl rfl rfl rfl rfl ?_
          | refine go_block ?_
        have hw : IntKind.wrap .i64 (s - 4) = 36 - 4 * ((j + 1 : Nat) : Int) := by
          rw [wrap_i64 (by omega) (by omega), hs]
          omega
        refine go_meet (36 - 4 * ((j + 1 : Nat) : Int) : Int) ⟨rfl, rfl, rfl, rfl, rfl, trivial⟩ (by rw [← hw]; rfl) ⟨⟨j + 1, by omega, rfl, ?_⟩, ?_⟩
        · rw [hs]; rfl
        · rw [hs] at hge' ⊢
          omega
      · have hlt' : ¬ 0 ≤ s := of_decide_eq_false hge
        have : j = 10 := by omega
        subst this
        repeat' first
          | refine go rfl ?_
          | refine ifT rfl ?_
          | refine ifF rfl ?_
          | refine doT rfl rfl rfl rfl rfl (as0 rfl ?_)
          | refine doF rfl rfl rfl rfl rfl (as0 rfl ?_)
          | refine noT rfl rfl rfl rfl rfl ?_
          | refine noF rfl rfl rfl rfl rfl ?_
          | refine noU rfl rfl rfl rfl rfl rfl ?_
          | refine go_block ?_
        refine go_by_exit ?_
        refine meetB () ⟨rfl, rfl, rfl, rfl, trivial⟩ rfl ?_
        simp [crcWord]
    · rintro _ σ' rfl
      repeat' first
        | refine go rfl ?_
        | refine ifT rfl ?_
        | refine ifF rfl ?_
        | refine doT rfl rfl rfl rfl rfl (as0 rfl ?_)
        | refine doF rfl rfl rfl rfl rfl (as0 rfl ?_)
        | refine noT rfl rfl rfl rfl rfl ?_
        | refine noF rfl rfl rfl rfl rfl ?_
        | refine noU rfl rfl rfl rfl rfl rfl ?_
        | refine go_block ?_
      refine go_meet ((pre ++ [y]).length : Int) ⟨rfl, rfl, rfl, trivial⟩ (by rw [← wrap_next e hi hm]; rfl) ⟨⟨pre ++ [y], suf, app_next e, rfl, rfl⟩, less_next e hi⟩
  · have := more_nil e hi hlt
    subst this
    have hpre : l = pre := by simpa using e
    repeat' first
      | refine go rfl ?_
      | refine ifT rfl ?_
      | refine ifF rfl ?_
      | refine doT rfl rfl rfl rfl rfl (as0 rfl ?_)
      | refine doF rfl rfl rfl rfl rfl (as0 rfl ?_)
      | refine noT rfl rfl rfl rfl rfl ?_
      | refine noF rfl rfl rfl rfl rfl ?_
      | refine noU rfl rfl rfl rfl rfl rfl ?_
      | refine go_block ?_
    refine go_by_exit ?_
    repeat' first
      | refine go rfl ?_
      | refine ifT rfl ?_
      | refine ifF rfl ?_
      | refine doT rfl rfl rfl rfl rfl (as0 rfl ?_)
      | refine doF rfl rfl rfl rfl rfl (as0 rfl ?_)
      | refine noT rfl rfl rfl rfl rfl ?_
      | refine noF rfl rfl rfl rfl rfl ?_
      | refine noU rfl rfl rfl rfl rfl rfl ?_
      | refine go_block ?_
    refine opl (i := ti140) rfl rfl rfl rfl rfl rfl rfl rfl (ldn (o := 0) (l := [.int .u64 (pre.foldl crcWord 1099511627775)]) (Heap.ins_same ..) rfl rfl rfl) ⟨(_ : Int), rfl⟩ ?_
    repeat' first
      | refine go rfl ?_
      | refine ifT rfl ?_
      | refine ifF rfl ?_
      | refine doT rfl rfl rfl rfl rfl (as0 rfl ?_)
      | refine doF rfl rfl rfl rfl rfl (as0 rfl ?_)
      | refine noT rfl rfl rfl rfl rfl ?_
      | refine noF rfl rfl rfl rfl rfl ?_
      | refine noU rfl rfl rfl rfl rfl rfl ?_
      | refine go_block ?_
    refine opc rfl rfl rfl rfl rfl rfl rfl rfl rfl rfl (c72 (shK_mk ⟨_, rfl⟩ ?_))
    repeat' first
      | refine go rfl ?_
      | refine ifT rfl ?_
      | refine ifF rfl ?_
      | refine doT rfl rfl rfl rfl rfl (as0 rfl ?_)
      | refine doF rfl rfl rfl rfl rfl (as0 rfl ?_)
      | refine noT rfl rfl rfl rfl rfl ?_
      | refine noF rfl rfl rfl rfl rfl ?_
      | refine noU rfl rfl rfl rfl rfl rfl ?_
      | refine go_block ?_
    refine go_ret' (ares_tmp rfl ares_nil) (weak_ins hr _) ?_
    rw [hpre] at h
    exact h

end Go.Eng

/- Contracts: the specification's check of a list of words; which key is above. Conditions: in each. -/
namespace Go.Eng
open Go Go.Proofs

set_option maxRecDepth 10000

def u8s (l : List Int) : List Value := l.map (.int .u8 ·)

def stepM (reg bit : Int) : Int :=
  if xorI .u64 (andI .u64 (shrI .u64 reg 39) 1) bit = 1 then xorI .u64 (andI .u64 (shlI .u64 reg 1) 1099511627775) 75628553 else andI .u64 (shlI .u64 reg 1) 1099511627775

theorem c94 {reg bit : Int} {σ : Heap} {R : Value → Heap → Prop} (h : R (.int .u64 (stepM reg bit)) σ) : ACalls Tryz.prog 94 [.int .u64 reg, .int .u64 bit] σ R := by
  unfold stepM at h
  refine ACalls_fn fn94 rfl ?_
  repeat' first
    | refine go rfl ?_
    | refine ifT rfl ?_
    | refine ifF rfl ?_
    | refine doT rfl rfl rfl rfl rfl (as0 rfl ?_)
    | refine doF rfl rfl rfl rfl rfl (as0 rfl ?_)
    | refine noT rfl rfl rfl rfl rfl ?_
    | refine noF rfl rfl rfl rfl rfl ?_
    | refine noU rfl rfl rfl rfl rfl rfl ?_
    | refine go_block ?_
  refine op rfl rfl rfl rfl (as1 rfl (by decide) ?_)
  repeat' first
    | refine go rfl ?_
    | refine ifT rfl ?_
    | refine ifF rfl ?_
    | refine doT rfl rfl rfl rfl rfl (as0 rfl ?_)
    | refine doF rfl rfl rfl rfl rfl (as0 rfl ?_)
    | refine noT rfl rfl rfl rfl rfl ?_
    | refine noF rfl rfl rfl rfl rfl ?_
    | refine noU rfl rfl rfl rfl rfl rfl ?_
    | refine go_block ?_
  refine op rfl rfl rfl rfl (as1 rfl (by decide) ?_)
  repeat' first
    | refine go rfl ?_
    | refine ifT rfl ?_
    | refine ifF rfl ?_
    | refine doT rfl rfl rfl rfl rfl (as0 rfl ?_)
    | refine doF rfl rfl rfl rfl rfl (as0 rfl ?_)
    | refine noT rfl rfl rfl rfl rfl ?_
    | refine noF rfl rfl rfl rfl rfl ?_
    | refine noU rfl rfl rfl rfl rfl rfl ?_
    | refine go_block ?_
  refine go_cond rfl (fun hb => ?_) (fun hb => ?_)
  · rw [if_pos (of_decide_eq_true hb)] at h
    repeat' first
      | refine go rfl ?_
      | refine ifT rfl ?_
      | refine ifF rfl ?_
      | refine doT rfl rfl rfl rfl rfl (as0 rfl ?_)
      | refine doF rfl rfl rfl rfl rfl (as0 rfl ?_)
      | refine noT rfl rfl rfl rfl rfl ?_
      | refine noF rfl rfl rfl rfl rfl ?_
      | refine noU rfl rfl rfl rfl rfl rfl ?_
      | refine go_block ?_
    refine go_ret rfl ?_
    exact h
  · rw [if_neg (of_decide_eq_false hb)] at h
    repeat' first
      | refine go rfl ?_
      | refine ifT rfl ?_
      | refine ifF rfl ?_
      | refine doT rfl rfl rfl rfl rfl (as0 rfl ?_)
      | refine doF rfl rfl rfl rfl rfl (as0 rfl ?_)
      | refine noT rfl rfl rfl rfl rfl ?_
      | refine noF rfl rfl rfl rfl rfl ?_
      | refine noU rfl rfl rfl rfl rfl rfl ?_
      | refine go_block ?_
    refine go_ret rfl ?_
    exact h

def fiveUpto (n : Int) : Nat → List Int
  | 0 => []
  | j + 1 => fiveUpto n j ++ [IntKind.wrap .u8 (shrI .i64 n (32 - 8 * (j : Int)))]

theorem fiveUpto_len (n : Int) : ∀ j, (fiveUpto n j).length = j
  | 0 => rfl
  | j + 1 => by simp [fiveUpto, fiveUpto_len n j]

def fiveM (n : Int) : List Int := fiveUpto n 5

theorem c95 {n : Int} {σ : Heap} {R : Value → Heap → Prop} (h : ∀ s σ', Acc 5 1 σ s (u8s (fiveM n)) σ' → R (.slice s.p s.len s.cap) σ') : ACalls Tryz.prog 95 [.int .i64 n] σ R := by
  refine ACalls_fn fn95 rfl ?_
  repeat' first
    | refine go rfl ?_
    | refine ifT rfl ?_
    | refine ifF rfl ?_
    | refine doT rfl rfl rfl rfl rfl (as0 rfl ?_)
    | refine doF rfl rfl rfl rfl rfl (as0 rfl ?_)
    | refine noT rfl rfl rfl rfl rfl ?_
    | refine noF rfl rfl rfl rfl rfl ?_
    | refine noU rfl rfl rfl rfl rfl rfl ?_
    | refine go_block ?_
  refine go_loop [(0, .int .i64 n)] [(3, .sc .slice), (4, .sc (.int .i64))]
    (fun (s : Sl × Int) σ' => ∃ j : Nat, j ≤ 5 ∧ s.2 = (j : Int) ∧ Acc 5 1 σ s.1 (u8s (fiveUpto n j)) σ') (fun (s : Sl × Int) _ => (5 - s.2.toNat : Nat)) ((⟨none, 0, 0⟩, 0) : Sl × Int)
    ⟨rfl, trivial⟩ rfl ⟨0, by omega, rfl, acc_nil⟩ ?_
  rintro ⟨(s : Sl), (i : Int)⟩ σ' ⟨j, hj, hi, ha⟩
  replace hi : i = (j : Int) := hi
  replace ha : Acc 5 1 σ s (u8s (fiveUpto n j)) σ' := ha
  have hlen : s.len = j := by
    have := ha.1
    simp [u8s, fiveUpto_len] at this
    omega
  repeat' first
    | refine go rfl ?_
    | refine ifT rfl ?_
    | refine ifF rfl ?_
    | refine doT rfl rfl rfl rfl rfl (as0 rfl ?_)
    | refine doF rfl rfl rfl rfl rfl (as0 rfl ?_)
    | refine noT rfl rfl rfl rfl rfl ?_
    | refine noF rfl rfl rfl rfl rfl ?_
    | refine noU rfl rfl rfl rfl rfl rfl ?_
    | refine go_block ?_
  refine go_cond rfl (fun hlt => ?_) (fun hlt => ?_)
  · have hlt' : i < 5 := of_decide_eq_true hlt
    repeat' first
      | refine go rfl ?_
      | refine ifT rfl ?_
      | refine ifF rfl ?_
      | refine doT rfl rfl rfl rfl rfl (as0 rfl ?_)
      | refine doF rfl rfl rfl rfl rfl (as0 rfl ?_)
      | refine noT rfl rfl rfl rfl rfl ?_
      | refine noF rfl rfl rfl rfl rfl ?_
      | refine noU rfl rfl rfl rfl rfl rfl ?_
      | refine go_block ?_
    have hw1 : IntKind.wrap .i64 (8 * i) = 8 * (j : Int) := by rw [wrap_i64 (by omega) (by omega), hi]
    have hw2 : IntKind.wrap .i64 (32 - IntKind.wrap .i64 (8 * i)) = 32 - 8 * (j : Int) := by rw [hw1, wrap_i64 (by omega) (by omega)]
    refine op rfl rfl rfl rfl (as1 rfl (by rw [hw2]; omega) ?_)
    repeat' first
      | refine go rfl ?_
      | refine ifT rfl ?_
      | refine ifF rfl ?_
      | refine doT rfl rfl rfl rfl rfl (as0 rfl ?_)
      | refine doF rfl rfl rfl rfl rfl (as0 rfl ?_)
      | refine noT rfl rfl rfl rfl rfl ?_
      | refine noF rfl rfl rfl rfl rfl ?_
      | refine noU rfl rfl rfl rfl rfl rfl ?_
      | refine go_block ?_
    refine op rfl rfl rfl rfl (as_buildSlice (cs := [.int .u8 (IntKind.wrap .u8 (shrI .i64 n (32 - 8 * (j : Int))))]) rfl rfl rfl rfl rfl rfl rfl (by rw [hw2]; rfl) fun r hr => ?_)
    obtain ⟨hr0, ha'⟩ := acc_ins ha hr (.cells 1 [.int .u8 (IntKind.wrap .u8 (shrI .i64 n (32 - 8 * (j : Int))))] 5 1)
    refine op rfl rfl rfl rfl (as_append (ie := ti5) rfl rfl rfl rfl rfl rfl rfl (acc_append ha' (row_block (Heap.ins_same ..) rfl) (one_cons rfl one_nil) (by show (s.len + 1) * 1 ≤ _; omega) (by show s.len + 1 ≤ _; omega) (by decide) rfl fun s' σ2 ha2 hl2 => ?_))
    repeat' first
      | refine go rfl ?_
      | refine ifT rfl ?_
      | refine ifF rfl ?_
      | refine doT rfl rfl rfl rfl rfl (as0 rfl ?_)
      | refine doF rfl rfl rfl rfl rfl (as0 rfl ?_)
      | refine noT rfl rfl rfl rfl rfl ?_
      | refine noF rfl rfl rfl rfl rfl ?_
      | refine noU rfl rfl rfl rfl rfl rfl ?_
      | refine go_block ?_
    obtain ⟨τ, hw, hτ⟩ := acc_forget hr0 ha2
    have hw3 : IntKind.wrap .i64 (i + 1) = ((j + 1 : Nat) : Int) := by
      rw [wrap_i64 (by omega) (by omega), hi]
      simp
    refine meetW ((s', ((j + 1 : Nat) : Int)) : Sl × Int) ⟨rfl, trivial⟩ (by rw [← hw3]; rfl) hw ⟨⟨j + 1, by omega, rfl, ?_⟩, ?_⟩
    · have e : u8s (fiveUpto n (j + 1)) = u8s (fiveUpto n j) ++ [.int .u8 (IntKind.wrap .u8 (shrI .i64 n (32 - 8 * (j : Int))))] := by simp [u8s, fiveUpto]
      rw [e]
      exact hτ
    · simp only [hi]
      omega
  · have hge : ¬ i < 5 := of_decide_eq_false hlt
    have : j = 5 := by omega
    subst this
    repeat' first
      | refine go rfl ?_
      | refine ifT rfl ?_
      | refine ifF rfl ?_
      | refine doT rfl rfl rfl rfl rfl (as0 rfl ?_)
      | refine doF rfl rfl rfl rfl rfl (as0 rfl ?_)
      | refine noT rfl rfl rfl rfl rfl ?_
      | refine noF rfl rfl rfl rfl rfl ?_
      | refine noU rfl rfl rfl rfl rfl rfl ?_
      | refine go_block ?_
    refine go_by_exit ?_
    repeat' first
      | refine go rfl ?_
      | refine ifT rfl ?_
      | refine ifF rfl ?_
      | refine doT rfl rfl rfl rfl rfl (as0 rfl ?_)
      | refine doF rfl rfl rfl rfl rfl (as0 rfl ?_)
      | refine noT rfl rfl rfl rfl rfl ?_
      | refine noF rfl rfl rfl rfl rfl ?_
      | refine noU rfl rfl rfl rfl rfl rfl ?_
      | refine go_block ?_
    refine go_ret rfl ?_
    exact h s σ' ha

theorem u8s_length (l : List Int) : (u8s l).length = l.length := by simp [u8s]

theorem flat_len (l : List Int) : (l.flatMap fiveM).length = 5 * l.length := by
  induction l with
  | nil => rfl
  | cons x l ih => simp [List.flatMap_cons, ih, fiveM, fiveUpto_len]; omega

theorem c74 {q : Option Addr} {cp : Nat} {l : List Int} {σ : Heap} {R : Value → Heap → Prop} (hl : σ.row q l.length (ints l)) (hm : l.length ≤ 1000000) (h : ∀ s σ', Acc 5 1 σ s (u8s (l.flatMap fiveM)) σ' → R (.slice s.p s.len s.cap) σ') :
    ACalls Tryz.prog 74 [.slice q l.length cp] σ R := by
  refine ACalls_fn fn74 rfl ?_
  repeat' first
    | refine go rfl ?_
    | refine ifT rfl ?_
    | refine ifF rfl ?_
    | refine doT rfl rfl rfl rfl rfl (as0 rfl ?_)
    | refine doF rfl rfl rfl rfl rfl (as0 rfl ?_)
    | refine noT rfl rfl rfl rfl rfl ?_
    | refine noF rfl rfl rfl rfl rfl ?_
    | refine noU rfl rfl rfl rfl rfl rfl ?_
    | refine go_block ?_
  refine go_loop [(0, .slice q l.length cp)] [(3, .sc .slice), (4, .sc (.int .i64))]
    (fun (s : Sl × Int) σ' => ∃ pre suf, l = pre ++ suf ∧ s.2 = (pre.length : Int) ∧ Acc 5 1 σ s.1 (u8s (pre.flatMap fiveM)) σ') (fun (s : Sl × Int) _ => (l.length - s.2.toNat : Nat)) ((⟨none, 0, 0⟩, 0) : Sl × Int)
    ⟨rfl, trivial⟩ rfl ⟨[], l, rfl, rfl, acc_nil⟩ ?_
  rintro ⟨(s : Sl), (i : Int)⟩ σ' ⟨pre, suf, e, hi, ha⟩
  replace hi : i = (pre.length : Int) := hi
  replace ha : Acc 5 1 σ s (u8s (pre.flatMap fiveM)) σ' := ha
  have hlen : s.len = 5 * pre.length := by
    have := ha.1
    rw [u8s_length, flat_len] at this
    omega
  have hpl : pre.length ≤ l.length := by rw [e]; simp
  repeat' first
    | refine go rfl ?_
    | refine ifT rfl ?_
    | refine ifF rfl ?_
    | refine doT rfl rfl rfl rfl rfl (as0 rfl ?_)
    | refine doF rfl rfl rfl rfl rfl (as0 rfl ?_)
    | refine noT rfl rfl rfl rfl rfl ?_
    | refine noF rfl rfl rfl rfl rfl ?_
    | refine noU rfl rfl rfl rfl rfl rfl ?_
    | refine go_block ?_
  refine go_cond rfl (fun hlt => ?_) (fun hlt => ?_)
  · obtain ⟨y, suf, rfl⟩ := more_cons e hi hlt
    obtain ⟨h1, h2⟩ := row_at (acc_oldrow ha hl) (ints_at e) hi (t := ti3) rfl rfl
    repeat' first
      | refine go rfl ?_
      | refine ifT rfl ?_
      | refine ifF rfl ?_
      | refine doT rfl rfl rfl rfl rfl (as0 rfl ?_)
      | refine doF rfl rfl rfl rfl rfl (as0 rfl ?_)
      | refine noT rfl rfl rfl rfl rfl ?_
      | refine noF rfl rfl rfl rfl rfl ?_
      | refine noU rfl rfl rfl rfl rfl rfl ?_
      | refine go_block ?_
    refine op rfl rfl rfl rfl (as3 rfl (by rw [hi]; omega) (in_lt e hi) h1 ?_)
    refine opl (i := ti3) rfl rfl rfl rfl rfl rfl rfl rfl h2 ⟨y, rfl⟩ ?_
    refine opc rfl rfl rfl rfl rfl rfl rfl rfl rfl rfl (c95 fun s5 σ1 ha5 => shK_mk ⟨_, rfl⟩ ?_)
    obtain ⟨b, hb1, hb2⟩ := acc_acc ha ha5
    have h5 : s5.len = 5 := by
      have := ha5.1
      rw [u8s_length] at this
      simp [fiveM, fiveUpto_len] at this
      omega
    refine op rfl rfl rfl rfl (as_append (ie := ti5) rfl rfl rfl rfl rfl rfl rfl (acc_append hb1 (acc_row ha5) (fun v hv => by simp [u8s] at hv; obtain ⟨x, _, rfl⟩ := hv; rfl) (by show (s.len + s5.len) * 1 ≤ _; omega) (by show s.len + s5.len ≤ _; omega) (by decide) rfl fun s' σ2 ha2 hl2 => ?_))
    repeat' first
      | refine go rfl ?_
      | refine ifT rfl ?_
      | refine ifF rfl ?_
      | refine doT rfl rfl rfl rfl rfl (as0 rfl ?_)
      | refine doF rfl rfl rfl rfl rfl (as0 rfl ?_)
      | refine noT rfl rfl rfl rfl rfl ?_
      | refine noF rfl rfl rfl rfl rfl ?_
      | refine noU rfl rfl rfl rfl rfl rfl ?_
      | refine go_block ?_
    obtain ⟨τ, hw, hτ⟩ := hb2 ha2
    refine meetW ((s', ((pre ++ [y]).length : Int)) : Sl × Int) ⟨rfl, trivial⟩ (by rw [← wrap_next e hi (by omega)]; rfl) hw ⟨⟨pre ++ [y], suf, app_next e, rfl, ?_⟩, less_next e hi⟩
    have e2 : u8s ((pre ++ [y]).flatMap fiveM) = u8s (pre.flatMap fiveM) ++ u8s (fiveM y) := by simp [u8s]
    rw [e2]
    exact hτ
  · have := more_nil e hi hlt
    subst this
    have hpre : l = pre := by simpa using e
    repeat' first
      | refine go rfl ?_
      | refine ifT rfl ?_
      | refine ifF rfl ?_
      | refine doT rfl rfl rfl rfl rfl (as0 rfl ?_)
      | refine doF rfl rfl rfl rfl rfl (as0 rfl ?_)
      | refine noT rfl rfl rfl rfl rfl ?_
      | refine noF rfl rfl rfl rfl rfl ?_
      | refine noU rfl rfl rfl rfl rfl rfl ?_
      | refine go_block ?_
    refine go_by_exit ?_
    repeat' first
      | refine go rfl ?_
      | refine ifT rfl ?_
      | refine ifF rfl ?_
      | refine doT rfl rfl rfl rfl rfl (as0 rfl ?_)
      | refine doF rfl rfl rfl rfl rfl (as0 rfl ?_)
      | refine noT rfl rfl rfl rfl rfl ?_
      | refine noF rfl rfl rfl rfl rfl ?_
      | refine noU rfl rfl rfl rfl rfl rfl ?_
      | refine go_block ?_
    refine go_ret rfl ?_
    rw [← hpre] at ha
    exact h s σ' ha

/-- The register behind the first bits of a byte. -/
def byteUpto (b reg : Int) : Nat → Int
  | 0 => reg
  | j + 1 => stepM (byteUpto b reg j) (andI .u64 (shrI .u64 (IntKind.wrap .u64 b) (7 - (j : Int))) 1)

def crcByte (reg b : Int) : Int := byteUpto b reg 8
def crc40M (l : List Int) : Int := crcOut (l.foldl crcByte 1099511627775)

theorem u8s_at {l pre suf : List Int} {y : Int} (h : l = pre ++ y :: suf) : (u8s l)[pre.length]? = some (.int .u8 y) := by
  simp [u8s, h]

theorem c73 {q : Option Addr} {n cp : Nat} {l : List Int} {σ : Heap} {R : Value → Heap → Prop} (hl : σ.row q (n * 1) (u8s l)) (hn : n = l.length) (hm : l.length < 9223372036854775807) (h : R (.int .i64 (crc40M l)) σ) :
    ACalls Tryz.prog 73 [.slice q n cp] σ R := by
  subst hn
  refine ACalls_fn fn73 rfl ?_
  repeat' first
    | refine go rfl ?_
    | refine ifT rfl ?_
    | refine ifF rfl ?_
    | refine doT rfl rfl rfl rfl rfl (as0 rfl ?_)
    | refine doF rfl rfl rfl rfl rfl (as0 rfl ?_)
    | refine noT rfl rfl rfl rfl rfl ?_
    | refine noF rfl rfl rfl rfl rfl ?_
    | refine noU rfl rfl rfl rfl rfl rfl ?_
    | refine go_block ?_
  refine go_loop [(0, .slice q l.length cp)] [(3, .sc (.int .u64)), (4, .sc (.int .i64))]
    (fun (s : Int × Int) σ' => σ = σ' ∧ ∃ pre suf, l = pre ++ suf ∧ s.2 = (pre.length : Int) ∧ s.1 = pre.foldl crcByte 1099511627775) (fun (s : Int × Int) _ => (l.length - s.2.toNat : Nat)) ((1099511627775, 0) : Int × Int)
    ⟨rfl, trivial⟩ rfl ⟨rfl, [], l, rfl, rfl, rfl⟩ ?_
  rintro ⟨(reg : Int), (i : Int)⟩ σ' ⟨rfl, pre, suf, e, hi, hreg⟩
  replace hi : i = (pre.length : Int) := hi
  replace hreg : reg = pre.foldl crcByte 1099511627775 := hreg
  repeat' first
    | refine go rfl ?_
    | refine ifT rfl ?_
    | refine ifF rfl ?_
    | refine doT rfl rfl rfl rfl rfl (as0 rfl ?_)
    | refine doF rfl rfl rfl rfl rfl (as0 rfl ?_)
    | refine noT rfl rfl rfl rfl rfl ?_
    | refine noF rfl rfl rfl rfl rfl ?_
    | refine noU rfl rfl rfl rfl rfl rfl ?_
    | refine go_block ?_
  refine go_cond rfl (fun hlt => ?_) (fun hlt => ?_)
  · obtain ⟨y, suf, rfl⟩ := more_cons e hi hlt
    obtain ⟨h1, h2⟩ := row_at hl (u8s_at e) hi (t := ti5) rfl rfl
    repeat' first
      | refine go rfl ?_
      | refine ifT rfl ?_
      | refine ifF rfl ?_
      | refine doT rfl rfl rfl rfl rfl (as0 rfl ?_)
      | refine doF rfl rfl rfl rfl rfl (as0 rfl ?_)
      | refine noT rfl rfl rfl rfl rfl ?_
      | refine noF rfl rfl rfl rfl rfl ?_
      | refine noU rfl rfl rfl rfl rfl rfl ?_
    refine go_block ?_
    repeat' first
      | refine go rfl ?_
      | refine ifT rfl ?_
      | refine ifF rfl ?_
      | refine doT rfl rfl rfl rfl rfl (as0 rfl ?_)
      | refine doF rfl rfl rfl rfl rfl (as0 rfl ?_)
      | refine noT rfl rfl rfl rfl rfl ?_
      | refine noF rfl rfl rfl rfl rfl ?_
      | refine noU rfl rfl rfl rfl rfl rfl ?_
    refine go_block_cut [(0, .slice q l.length cp), (4, .int .i64 i)] [(3, .sc (.int .u64))] (fun (g : Int) σ' => σ = σ' ∧ g = crcByte reg y) ?_ ?_
    · refine go_loop [(0, .slice q l.length cp), (4, .int .i64 i)] [(3, .sc (.int .u64)), (5, .sc (.int .i64))]
        (fun (s : Int × Int) σ' => σ = σ' ∧ ∃ j : Nat, j ≤ 8 ∧ s.2 = (j : Int) ∧ s.1 = byteUpto y reg j) (fun (s : Int × Int) _ => (8 - s.2.toNat : Nat)) ((reg, 0) : Int × Int)
        ⟨rfl, rfl, trivial⟩ rfl ⟨rfl, 0, by omega, rfl, rfl⟩ ?_
      rintro ⟨(g : Int), (k : Int)⟩ σ' ⟨rfl, j, hj, hk, hg⟩
      replace hk : k = (j : Int) := hk
      replace hg : g = byteUpto y reg j := hg
      repeat' first
        | refine go rfl ?_
        | refine ifT rfl ?_
        | refine ifF rfl ?_
        | refine doT rfl rfl rfl rfl rfl (as0 rfl ?_)
        | refine doF rfl rfl rfl rfl rfl (as0 rfl ?_)
        | refine noT rfl rfl rfl rfl rfl ?_
        | refine noF rfl rfl rfl rfl rfl ?_
        | refine noU rfl rfl rfl rfl rfl rfl ?_
        | refine go_block ?_
      refine go_cond rfl (fun hge => ?_) (fun hge => ?_)
      · have hge' : k < 8 := of_decide_eq_true hge
        repeat' first
          | refine go rfl ?_
          | refine ifT rfl ?_
          | refine ifF rfl ?_
          | refine doT rfl rfl rfl rfl rfl (as0 rfl ?_)
          | refine doF rfl rfl rfl rfl rfl (as0 rfl ?_)
          | refine noT rfl rfl rfl rfl rfl ?_
          | refine noF rfl rfl rfl rfl rfl ?_
          | refine noU rfl rfl rfl rfl rfl rfl ?_
          | refine go_block ?_
        refine op rfl rfl rfl rfl (as3 rfl (by show (0 : Int) ≤ i; rw [hi]; omega) (in_lt e hi) h1 ?_)
        refine opl (i := ti5) rfl rfl rfl rfl rfl rfl rfl rfl h2 ⟨y, rfl⟩ ?_
        repeat' first
          | refine go rfl ?_
          | refine ifT rfl ?_
          | refine ifF rfl ?_
          | refine doT rfl rfl rfl rfl rfl (as0 rfl ?_)
          | refine doF rfl rfl rfl rfl rfl (as0 rfl ?_)
          | refine noT rfl rfl rfl rfl rfl ?_
          | refine noF rfl rfl rfl rfl rfl ?_
          | refine noU rfl rfl rfl rfl rfl rfl ?_
          | refine go_block ?_
        have hw : IntKind.wrap .i64 (7 - k) = 7 - (j : Int) := by rw [wrap_i64 (by omega) (by omega), hk]
        refine op rfl rfl rfl rfl (as1 rfl (by show (0 : Int) ≤ IntKind.wrap .i64 (7 - k); rw [hw]; omega) ?_)
        repeat' first
          | refine go rfl ?_
          | refine ifT rfl ?_
          | refine ifF rfl ?_
          | refine doT rfl rfl rfl rfl rfl (as0 rfl ?_)
          | refine doF rfl rfl rfl rfl rfl (as0 rfl ?_)
          | refine noT rfl rfl rfl rfl rfl ?_
          | refine noF rfl rfl rfl rfl rfl ?_
          | refine noU rfl rfl rfl rfl rfl rfl ?_
          | refine go_block ?_
        refine opc rfl rfl rfl rfl rfl rfl rfl rfl rfl rfl (c94 (shK_mk ⟨_, rfl⟩ ?_))
        repeat' first
          | refine go rfl ?_
          | refine ifT rfl ?_
          | refine ifF rfl ?_
          | refine doT rfl rfl rfl rfl rfl (as0 rfl ?_)
          | refine doF rfl rfl rfl rfl rfl (as0 rfl ?_)
          | refine noT rfl rfl rfl rfl rfl ?_
          | refine noF rfl rfl rfl rfl rfl ?_
          | refine noU rfl rfl rfl rfl rfl rfl ?_
          | refine go_block ?_
        have hw2 : IntKind.wrap .i64 (k + 1) = ((j + 1 : Nat) : Int) := by
          rw [wrap_i64 (by omega) (by omega), hk]
          simp
        refine go_meet ((byteUpto y reg (j + 1), ((j + 1 : Nat) : Int)) : Int × Int) ⟨rfl, rfl, trivial⟩ (by rw [← hw2, byteUpto, ← hg, ← hw]; rfl) ⟨⟨rfl, j + 1, by omega, rfl, rfl⟩, ?_⟩
        simp only [hk]
        omega
      · have hlt' : ¬ k < 8 := of_decide_eq_false hge
        have : j = 8 := by omega
        subst this
        repeat' first
          | refine go rfl ?_
          | refine ifT rfl ?_
          | refine ifF rfl ?_
          | refine doT rfl rfl rfl rfl rfl (as0 rfl ?_)
          | refine doF rfl rfl rfl rfl rfl (as0 rfl ?_)
          | refine noT rfl rfl rfl rfl rfl ?_
          | refine noF rfl rfl rfl rfl rfl ?_
          | refine noU rfl rfl rfl rfl rfl rfl ?_
          | refine go_block ?_
        refine go_by_exit ?_
        refine meetB (g : Int) ⟨rfl, rfl, trivial⟩ rfl ⟨rfl, hg⟩
    · rintro (g : Int) σ' ⟨rfl, hg⟩
      repeat' first
        | refine go rfl ?_
        | refine ifT rfl ?_
        | refine ifF rfl ?_
        | refine doT rfl rfl rfl rfl rfl (as0 rfl ?_)
        | refine doF rfl rfl rfl rfl rfl (as0 rfl ?_)
        | refine noT rfl rfl rfl rfl rfl ?_
        | refine noF rfl rfl rfl rfl rfl ?_
        | refine noU rfl rfl rfl rfl rfl rfl ?_
        | refine go_block ?_
      refine go_meet ((g, ((pre ++ [y]).length : Int)) : Int × Int) ⟨rfl, trivial⟩ (by rw [← wrap_next e hi hm]; rfl) ⟨⟨rfl, pre ++ [y], suf, app_next e, rfl, ?_⟩, less_next e hi⟩
      show g = (pre ++ [y]).foldl crcByte 1099511627775
      rw [hg, hreg]
      simp
  · have := more_nil e hi hlt
    subst this
    have hpre : l = pre := by simpa using e
    repeat' first
      | refine go rfl ?_
      | refine ifT rfl ?_
      | refine ifF rfl ?_
      | refine doT rfl rfl rfl rfl rfl (as0 rfl ?_)
      | refine doF rfl rfl rfl rfl rfl (as0 rfl ?_)
      | refine noT rfl rfl rfl rfl rfl ?_
      | refine noF rfl rfl rfl rfl rfl ?_
      | refine noU rfl rfl rfl rfl rfl rfl ?_
      | refine go_block ?_
    refine go_by_exit ?_
    repeat' first
      | refine go rfl ?_
      | refine ifT rfl ?_
      | refine ifF rfl ?_
      | refine doT rfl rfl rfl rfl rfl (as0 rfl ?_)
      | refine doF rfl rfl rfl rfl rfl (as0 rfl ?_)
      | refine noT rfl rfl rfl rfl rfl ?_
      | refine noF rfl rfl rfl rfl rfl ?_
      | refine noU rfl rfl rfl rfl rfl rfl ?_
      | refine go_block ?_
    refine go_ret rfl ?_
    rw [hpre, crc40M, ← hreg] at h
    exact h

def refHash (l : List Int) : Int := crc40M (l.flatMap fiveM)

theorem c40 {q : Option Addr} {cp : Nat} {l : List Int} {σ : Heap} {R : Value → Heap → Prop} (hl : σ.row q l.length (ints l)) (hm : l.length ≤ 1000000) (h : R (.int .i64 (refHash l)) σ) :
    ACalls Tryz.prog 40 [.slice q l.length cp] σ R := by
  refine ACalls_fn fn40 rfl ?_
  repeat' first
    | refine go rfl ?_
    | refine ifT rfl ?_
    | refine ifF rfl ?_
    | refine doT rfl rfl rfl rfl rfl (as0 rfl ?_)
    | refine doF rfl rfl rfl rfl rfl (as0 rfl ?_)
    | refine noT rfl rfl rfl rfl rfl ?_
    | refine noF rfl rfl rfl rfl rfl ?_
    | refine noU rfl rfl rfl rfl rfl rfl ?_
    | refine go_block ?_
  refine opc rfl rfl rfl rfl rfl rfl rfl rfl rfl rfl (c74 hl hm fun s σ' ha => shK_mk ⟨_, rfl⟩ ?_)
  refine opc rfl rfl rfl rfl rfl rfl rfl rfl rfl rfl (c73 (acc_row ha) (by have := ha.1; rw [u8s_length] at this; omega) (by rw [flat_len]; omega) (shK_mk ⟨_, rfl⟩ ?_))
  repeat' first
    | refine go rfl ?_
    | refine ifT rfl ?_
    | refine ifF rfl ?_
    | refine doT rfl rfl rfl rfl rfl (as0 rfl ?_)
    | refine doF rfl rfl rfl rfl rfl (as0 rfl ?_)
    | refine noT rfl rfl rfl rfl rfl ?_
    | refine noF rfl rfl rfl rfl rfl ?_
    | refine noU rfl rfl rfl rfl rfl rfl ?_
    | refine go_block ?_
  refine go_ret' (ares_tmp rfl ares_nil) (acc_weak ha) ?_
  exact h

/-- Is the first key above the second? -/
def aboveM (a b : List Int) : Bool := decide (orL [cmpI (hashM b) (hashM a), cmpL a b] < 0)

theorem c13 {q q' : Option Addr} {cp cp' : Nat} {a b : List Int} {σ : Heap} {R : Value → Heap → Prop} (hG : NibG σ) (ha : σ.row q a.length (ints a)) (hb : σ.row q' b.length (ints b)) (hma : a.length < 9223372036854775807) (hmb : b.length < 9223372036854775807)
    (h : R (.bool (aboveM a b)) σ) : ACalls Tryz.prog 13 [.slice q a.length cp, .slice q' b.length cp'] σ R := by
  refine ACalls_fn fn13 rfl ?_
  repeat' first
    | refine go rfl ?_
    | refine ifT rfl ?_
    | refine ifF rfl ?_
    | refine doT rfl rfl rfl rfl rfl (as0 rfl ?_)
    | refine doF rfl rfl rfl rfl rfl (as0 rfl ?_)
    | refine noT rfl rfl rfl rfl rfl ?_
    | refine noF rfl rfl rfl rfl rfl ?_
    | refine noU rfl rfl rfl rfl rfl rfl ?_
    | refine go_block ?_
  refine opc rfl rfl rfl rfl rfl rfl rfl rfl rfl rfl (c39 hG hb hmb (shK_mk ⟨_, rfl⟩ ?_))
  repeat' first
    | refine go rfl ?_
    | refine ifT rfl ?_
    | refine ifF rfl ?_
    | refine doT rfl rfl rfl rfl rfl (as0 rfl ?_)
    | refine doF rfl rfl rfl rfl rfl (as0 rfl ?_)
    | refine noT rfl rfl rfl rfl rfl ?_
    | refine noF rfl rfl rfl rfl rfl ?_
    | refine noU rfl rfl rfl rfl rfl rfl ?_
    | refine go_block ?_
  refine opc rfl rfl rfl rfl rfl rfl rfl rfl rfl rfl (c39 hG ha hma (shK_mk ⟨_, rfl⟩ ?_))
  refine opc rfl rfl rfl rfl rfl rfl rfl rfl rfl rfl (c38 (shK_mk ⟨_, rfl⟩ ?_))
  repeat' first
    | refine go rfl ?_
    | refine ifT rfl ?_
    | refine ifF rfl ?_
    | refine doT rfl rfl rfl rfl rfl (as0 rfl ?_)
    | refine doF rfl rfl rfl rfl rfl (as0 rfl ?_)
    | refine noT rfl rfl rfl rfl rfl ?_
    | refine noF rfl rfl rfl rfl rfl ?_
    | refine noU rfl rfl rfl rfl rfl rfl ?_
    | refine go_block ?_
  refine opc rfl rfl rfl rfl rfl rfl rfl rfl rfl rfl (c11 ha hb hma (shK_mk ⟨_, rfl⟩ ?_))
  refine op rfl rfl rfl rfl (as_buildSlice (cs := ints [cmpI (hashM b) (hashM a), cmpL a b]) rfl rfl rfl rfl rfl rfl rfl rfl fun r hr => ?_)
  refine opc rfl rfl rfl rfl rfl rfl rfl rfl rfl rfl (c37 (l := [cmpI (hashM b) (hashM a), cmpL a b]) (row_block (Heap.ins_same ..) rfl) (by simp) (shK_mk ⟨_, rfl⟩ ?_))
  repeat' first
    | refine go rfl ?_
    | refine ifT rfl ?_
    | refine ifF rfl ?_
    | refine doT rfl rfl rfl rfl rfl (as0 rfl ?_)
    | refine doF rfl rfl rfl rfl rfl (as0 rfl ?_)
    | refine noT rfl rfl rfl rfl rfl ?_
    | refine noF rfl rfl rfl rfl rfl ?_
    | refine noU rfl rfl rfl rfl rfl rfl ?_
    | refine go_block ?_
  refine go_ret' (ares_tmp rfl ares_nil) (weak_ins hr _) ?_
  exact h

def refAbove (a b : List Int) : Bool := decide (refHash b < refHash a) || (decide (refHash a = refHash b) && decide (cmpL a b < 0))

theorem c14 {q q' : Option Addr} {cp cp' : Nat} {a b : List Int} {σ : Heap} {R : Value → Heap → Prop} (ha : σ.row q a.length (ints a)) (hb : σ.row q' b.length (ints b)) (hma : a.length ≤ 1000000) (hmb : b.length ≤ 1000000)
    (h : R (.bool (refAbove a b)) σ) : ACalls Tryz.prog 14 [.slice q a.length cp, .slice q' b.length cp'] σ R := by
  unfold refAbove at h
  refine ACalls_fn fn14 rfl ?_
  repeat' first
    | refine go rfl ?_
    | refine ifT rfl ?_
    | refine ifF rfl ?_
    | refine doT rfl rfl rfl rfl rfl (as0 rfl ?_)
    | refine doF rfl rfl rfl rfl rfl (as0 rfl ?_)
    | refine noT rfl rfl rfl rfl rfl ?_
    | refine noF rfl rfl rfl rfl rfl ?_
    | refine noU rfl rfl rfl rfl rfl rfl ?_
    | refine go_block ?_
  refine opc rfl rfl rfl rfl rfl rfl rfl rfl rfl rfl (c40 ha hma (shK_mk ⟨_, rfl⟩ ?_))
  repeat' first
    | refine go rfl ?_
    | refine ifT rfl ?_
    | refine ifF rfl ?_
    | refine doT rfl rfl rfl rfl rfl (as0 rfl ?_)
    | refine doF rfl rfl rfl rfl rfl (as0 rfl ?_)
    | refine noT rfl rfl rfl rfl rfl ?_
    | refine noF rfl rfl rfl rfl rfl ?_
    | refine noU rfl rfl rfl rfl rfl rfl ?_
    | refine go_block ?_
  refine opc rfl rfl rfl rfl rfl rfl rfl rfl rfl rfl (c40 hb hmb (shK_mk ⟨_, rfl⟩ ?_))
  repeat' first
    | refine go rfl ?_
    | refine ifT rfl ?_
    | refine ifF rfl ?_
    | refine doT rfl rfl rfl rfl rfl (as0 rfl ?_)
    | refine doF rfl rfl rfl rfl rfl (as0 rfl ?_)
    | refine noT rfl rfl rfl rfl rfl ?_
    | refine noF rfl rfl rfl rfl rfl ?_
    | refine noU rfl rfl rfl rfl rfl rfl ?_
    | refine go_block ?_
  cases h1 : decide (refHash b < refHash a) <;> rw [h1] at h
  · repeat' first
      | refine go rfl ?_
      | refine ifT rfl ?_
      | refine ifF rfl ?_
      | refine doT rfl rfl rfl rfl rfl (as0 rfl ?_)
      | refine doF rfl rfl rfl rfl rfl (as0 rfl ?_)
      | refine noT rfl rfl rfl rfl rfl ?_
      | refine noF rfl rfl rfl rfl rfl ?_
      | refine noU rfl rfl rfl rfl rfl rfl ?_
      | refine go_block ?_
    cases h2 : decide (refHash a = refHash b) <;> rw [h2] at h
    · repeat' first
        | refine go rfl ?_
        | refine ifT rfl ?_
        | refine ifF rfl ?_
        | refine doT rfl rfl rfl rfl rfl (as0 rfl ?_)
        | refine doF rfl rfl rfl rfl rfl (as0 rfl ?_)
        | refine noT rfl rfl rfl rfl rfl ?_
        | refine noF rfl rfl rfl rfl rfl ?_
        | refine noU rfl rfl rfl rfl rfl rfl ?_
        | refine go_block ?_
      refine go_ret rfl ?_
      exact h
    · repeat' first
        | refine go rfl ?_
        | refine ifT rfl ?_
        | refine ifF rfl ?_
        | refine doT rfl rfl rfl rfl rfl (as0 rfl ?_)
        | refine doF rfl rfl rfl rfl rfl (as0 rfl ?_)
        | refine noT rfl rfl rfl rfl rfl ?_
        | refine noF rfl rfl rfl rfl rfl ?_
        | refine noU rfl rfl rfl rfl rfl rfl ?_
        | refine go_block ?_
      refine doT rfl rfl rfl rfl rfl ?_
      refine as_call rfl rfl rfl rfl rfl rfl ?_
      refine c12 ha hb (by omega) (shK_mk ⟨_, rfl⟩ ?_)
      repeat' first
        | refine go rfl ?_
        | refine ifT rfl ?_
        | refine ifF rfl ?_
        | refine doT rfl rfl rfl rfl rfl (as0 rfl ?_)
        | refine doF rfl rfl rfl rfl rfl (as0 rfl ?_)
        | refine noT rfl rfl rfl rfl rfl ?_
        | refine noF rfl rfl rfl rfl rfl ?_
        | refine noU rfl rfl rfl rfl rfl rfl ?_
        | refine go_block ?_
      refine go_ret rfl ?_
      exact h
  · repeat' first
      | refine go rfl ?_
      | refine ifT rfl ?_
      | refine ifF rfl ?_
      | refine doT rfl rfl rfl rfl rfl (as0 rfl ?_)
      | refine doF rfl rfl rfl rfl rfl (as0 rfl ?_)
      | refine noT rfl rfl rfl rfl rfl ?_
      | refine noF rfl rfl rfl rfl rfl ?_
      | refine noU rfl rfl rfl rfl rfl rfl ?_
      | refine go_block ?_
    refine go_ret rfl ?_
    exact h

end Go.Eng
