/- Contracts: pointers and headers. Conditions: in each. -/
import Derived.Test.YtihpnhkhgobblaaGreatDoorCb
namespace Go.Eng
open Go Go.Proofs

set_option maxRecDepth 10000

def i64s (l : List Int) : List Value := l.map (.int .i64 ·)
def ptrs : List Int := [0, 12, 12, 20]
def hdrs : List Int := [0, 4, 4, 3, 7, 20]
def db32 : List Int := [0, 1, 28, 2, 29, 14, 24, 3, 30, 22, 20, 15, 25, 17, 4, 8, 31, 27, 13, 23, 21, 19, 16, 7, 26, 12, 18, 6, 11, 5, 10, 9]
def db64 : List Int := [0, 1, 56, 2, 57, 49, 28, 3, 61, 58, 42, 50, 38, 29, 17, 4, 62, 47, 59, 36, 45, 43, 51, 22, 53, 39, 33, 30, 24, 18, 12, 5, 63, 55, 48, 27, 60, 41, 37, 16, 46, 35, 44, 21, 52, 32, 23, 11, 54, 26, 40, 15, 34, 20, 31, 10, 25, 14, 19, 9, 13, 8, 7, 6]

/-- The program's tables, where it lays them. -/
structure Glob (σ : Heap) : Prop where
  nib : NibG σ
  ptr : σ.rds 1 0 4 = some (i64s ptrs)
  hdr : σ.rds 2 0 6 = some (i64s hdrs)
  d32 : σ.rds 3 0 32 = some (u8s db32)
  d64 : σ.rds 4 0 64 = some (u8s db64)
  low : ∀ b, b < 5 → ∀ o, σ b = some o → o.tag < 8192

theorem rds_frame {σ : Heap} {r b o n : Nat} {l : List Value} (h : σ.rds b o (n + 1) = some l) (hr : σ r = none) (a : AObj) : (σ.ins r a).rds b o (n + 1) = some l := by
  have hne : b ≠ r := by
    rintro rfl
    simp [Heap.rds, Heap.rd, hr] at h
  rw [rds_ne σ hne]
  exact h

theorem Glob.ins {σ : Heap} (h : Glob σ) {r : Nat} (hr : σ r = none) (a : AObj) : Glob (σ.ins r a) :=
  ⟨nibG_ins h.nib hr a, rds_frame h.ptr hr a, rds_frame h.hdr hr a, rds_frame h.d32 hr a, rds_frame h.d64 hr a, fun b hb o ho => by
    have has : ∀ {l n}, σ.rds b 0 (n + 1) = some l → b ≠ r := fun hl => by
      rintro rfl
      simp [Heap.rds, Heap.rd, hr] at hl
    have hne : b ≠ r := by
      match b, hb with
      | 0, _ => exact has h.nib
      | 1, _ => exact has h.ptr
      | 2, _ => exact has h.hdr
      | 3, _ => exact has h.d32
      | 4, _ => exact has h.d64
    rw [ins_at _ hne] at ho
    exact h.low b hb o ho⟩

/-- A pair of a table of pairs. -/
theorem pair_ld {σ : Heap} {b n : Nat} {l : List Int} (h : σ.rds b 0 n = some (i64s l)) {i : Nat} {x y : Int} (hx : l[2 * i]? = some x) (hy : l[2 * i + 1]? = some y) {o : Nat} (ho : o = 2 * i) : σ.ldT ti212 (some ⟨b, o, none⟩) = some (.agg #[.int .i64 x, .int .i64 y]) := by
  subst ho
  have h1 : σ.rd b (2 * i) = some (.int .i64 x) := by
    have := (rds_get h).2 (i := 2 * i) (v := .int .i64 x) (by simp [i64s, hx])
    rwa [Nat.zero_add] at this
  have h2 : σ.rd b (2 * i + 1) = some (.int .i64 y) := by
    have := (rds_get h).2 (i := 2 * i + 1) (v := .int .i64 y) (by simp [i64s, hy])
    rwa [Nat.zero_add] at this
  refine ldT_agg rfl ?_
  show σ.rds b (2 * i) 2 = _
  simp only [Heap.rds, h1, h2]

theorem cell_ld {σ : Heap} {b n : Nat} {l : List Int} (h : σ.rds b 0 n = some (i64s l)) {i : Nat} {x : Int} (hx : l[i]? = some x) : σ.ldT ti3 (some ⟨b, i, none⟩) = some (.int .i64 x) := by
  have h1 : σ.rd b i = some (.int .i64 x) := by
    have := (rds_get h).2 (i := i) (v := .int .i64 x) (by simp [i64s, hx])
    rwa [Nat.zero_add] at this
  exact ldT_one rfl h1

theorem c116 {w : Int} {σ : Heap} {R : Value → Heap → Prop} (h : ∀ r, σ r = none → R (.func (.func 144) #[] #[.pointer (some ⟨r, 0, none⟩)]) (σ.ins r (.cells 1 [.int .i64 w] 3 1))) : ACalls Tryz.prog 116 [.int .i64 w] σ R := by
  refine ACalls_fn fn116 rfl ?_
  repeat' first
    | refine go rfl ?_
    | refine ifT rfl ?_
    | refine ifF rfl ?_
    | refine doT rfl rfl rfl rfl rfl (as0 rfl ?_)
    | refine doF rfl rfl rfl rfl rfl (as0 rfl ?_)
    | refine noT rfl rfl rfl rfl rfl ?_
    | refine noF rfl rfl rfl rfl rfl ?_
    | refine noU rfl rfl rfl rfl rfl rfl ?_
    | refine go_block ?_
  refine op rfl rfl rfl rfl (as_box rfl rfl fun r hr => ?_)
  repeat' first
    | refine go rfl ?_
    | refine ifT rfl ?_
    | refine ifF rfl ?_
    | refine doT rfl rfl rfl rfl rfl (as0 rfl ?_)
    | refine doF rfl rfl rfl rfl rfl (as0 rfl ?_)
    | refine noT rfl rfl rfl rfl rfl ?_
    | refine noF rfl rfl rfl rfl rfl ?_
    | refine noU rfl rfl rfl rfl rfl rfl ?_
    | refine go_block ?_
  refine go_ret rfl ?_
  exact h r hr

def partM (w at_ bits : Int) : Int := andI .i64 (shrI .i64 w at_) (IntKind.wrap .i64 (shlI .i64 1 bits - 1))

theorem c144 {a b w : Int} {r : Nat} {σ : Heap} {R : Value → Heap → Prop} (hr : σ r = some (.cells 1 [.int .i64 w] 3 1)) (ha : 0 ≤ a) (hb : 0 ≤ b) (h : R (.int .i64 (partM w a b)) σ) :
    ACalls Tryz.prog 144 [.agg #[.int .i64 a, .int .i64 b], .pointer (some ⟨r, 0, none⟩)] σ R := by
  refine ACalls_fn fn144 rfl ?_
  repeat' first
    | refine go rfl ?_
    | refine ifT rfl ?_
    | refine ifF rfl ?_
    | refine doT rfl rfl rfl rfl rfl (as0 rfl ?_)
    | refine doF rfl rfl rfl rfl rfl (as0 rfl ?_)
    | refine noT rfl rfl rfl rfl rfl ?_
    | refine noF rfl rfl rfl rfl rfl ?_
    | refine noU rfl rfl rfl rfl rfl rfl ?_
    | refine go_block ?_
  refine op rfl rfl rfl rfl (as_box rfl rfl fun s hs => ?_)
  repeat' first
    | refine go rfl ?_
    | refine ifT rfl ?_
    | refine ifF rfl ?_
    | refine doT rfl rfl rfl rfl rfl (as0 rfl ?_)
    | refine doF rfl rfl rfl rfl rfl (as0 rfl ?_)
    | refine noT rfl rfl rfl rfl rfl ?_
    | refine noF rfl rfl rfl rfl rfl ?_
    | refine noU rfl rfl rfl rfl rfl rfl ?_
    | refine go_block ?_
  refine opl (i := ti3) rfl rfl rfl rfl rfl rfl rfl rfl (ld1 (o := 0) ((ins_at σ (Ne.symm (ne_of_some hs hr))).trans hr) rfl rfl) ⟨(_ : Int), rfl⟩ ?_
  refine op rfl rfl rfl rfl (as1 rfl rfl ?_)
  refine opl (i := ti3) rfl rfl rfl rfl rfl rfl rfl rfl (ld1 (o := 0) (Heap.ins_same ..) rfl rfl) ⟨(_ : Int), rfl⟩ ?_
  refine op rfl rfl rfl rfl (as1 rfl ha ?_)
  refine op rfl rfl rfl rfl (as1 rfl rfl ?_)
  refine opl (i := ti3) rfl rfl rfl rfl rfl rfl rfl rfl (ld1 (o := 1) (Heap.ins_same ..) rfl rfl) ⟨(_ : Int), rfl⟩ ?_
  refine op rfl rfl rfl rfl (as1 rfl hb ?_)
  repeat' first
    | refine go rfl ?_
    | refine ifT rfl ?_
    | refine ifF rfl ?_
    | refine doT rfl rfl rfl rfl rfl (as0 rfl ?_)
    | refine doF rfl rfl rfl rfl rfl (as0 rfl ?_)
    | refine noT rfl rfl rfl rfl rfl ?_
    | refine noF rfl rfl rfl rfl rfl ?_
    | refine noU rfl rfl rfl rfl rfl rfl ?_
    | refine go_block ?_
  refine go_ret' (ares_tmp rfl ares_nil) (weak_ins hs _) ?_
  exact h

def wordB (w : Int) : Bool := decide (0 ≤ w) && decide (w ≤ 1099511627775)

theorem c117 {w : Int} {σ : Heap} {R : Value → Heap → Prop} (h : R (.bool (wordB w)) σ) : ACalls Tryz.prog 117 [.int .i64 w] σ R := by
  unfold wordB at h
  refine ACalls_fn fn117 rfl ?_
  repeat' first
    | refine go rfl ?_
    | refine ifT rfl ?_
    | refine ifF rfl ?_
    | refine doT rfl rfl rfl rfl rfl (as0 rfl ?_)
    | refine doF rfl rfl rfl rfl rfl (as0 rfl ?_)
    | refine noT rfl rfl rfl rfl rfl ?_
    | refine noF rfl rfl rfl rfl rfl ?_
    | refine noU rfl rfl rfl rfl rfl rfl ?_
    | refine go_block ?_
  cases h1 : decide (0 ≤ w) <;> rw [h1] at h
  · repeat' first
      | refine go rfl ?_
      | refine ifT rfl ?_
      | refine ifF rfl ?_
      | refine doT rfl rfl rfl rfl rfl (as0 rfl ?_)
      | refine doF rfl rfl rfl rfl rfl (as0 rfl ?_)
      | refine noT rfl rfl rfl rfl rfl ?_
      | refine noF rfl rfl rfl rfl rfl ?_
      | refine noU rfl rfl rfl rfl rfl rfl ?_
      | refine go_block ?_
    refine go_ret rfl ?_
    exact h
  · repeat' first
      | refine go rfl ?_
      | refine ifT rfl ?_
      | refine ifF rfl ?_
      | refine doT rfl rfl rfl rfl rfl (as0 rfl ?_)
      | refine doF rfl rfl rfl rfl rfl (as0 rfl ?_)
      | refine noT rfl rfl rfl rfl rfl ?_
      | refine noF rfl rfl rfl rfl rfl ?_
      | refine noU rfl rfl rfl rfl rfl rfl ?_
      | refine go_block ?_
    refine go_ret rfl ?_
    exact h

/-- Is the number a pointer, or 0? -/
def rightP (p : Int) : Bool := decide (p = 0) || (wordB p && decide (shrI .i64 p 32 = 0) && decide (0 < partM p 0 12) && decide (0 < partM p 12 20))

theorem c87 {p : Int} {σ : Heap} {R : Value → Heap → Prop} (hG : Glob σ) (h : R (.bool (rightP p)) σ) : ACalls Tryz.prog 87 [.int .i64 p] σ R := by
  unfold rightP at h
  refine ACalls_fn fn87 rfl ?_
  repeat' first
    | refine go rfl ?_
    | refine ifT rfl ?_
    | refine ifF rfl ?_
    | refine doT rfl rfl rfl rfl rfl (as0 rfl ?_)
    | refine doF rfl rfl rfl rfl rfl (as0 rfl ?_)
    | refine noT rfl rfl rfl rfl rfl ?_
    | refine noF rfl rfl rfl rfl rfl ?_
    | refine noU rfl rfl rfl rfl rfl rfl ?_
    | refine go_block ?_
  refine opc rfl rfl rfl rfl rfl rfl rfl rfl rfl rfl (c116 fun r hr => shK_mk ⟨_, rfl⟩ ?_)
  have hG' := hG.ins hr (.cells 1 [.int .i64 p] 3 1)
  repeat' first
    | refine go rfl ?_
    | refine ifT rfl ?_
    | refine ifF rfl ?_
    | refine doT rfl rfl rfl rfl rfl (as0 rfl ?_)
    | refine doF rfl rfl rfl rfl rfl (as0 rfl ?_)
    | refine noT rfl rfl rfl rfl rfl ?_
    | refine noF rfl rfl rfl rfl rfl ?_
    | refine noU rfl rfl rfl rfl rfl rfl ?_
    | refine go_block ?_
  cases h1 : decide (p = 0) <;> rw [h1] at h
  · repeat' first
      | refine go rfl ?_
      | refine ifT rfl ?_
      | refine ifF rfl ?_
      | refine doT rfl rfl rfl rfl rfl (as0 rfl ?_)
      | refine doF rfl rfl rfl rfl rfl (as0 rfl ?_)
      | refine noT rfl rfl rfl rfl rfl ?_
      | refine noF rfl rfl rfl rfl rfl ?_
      | refine noU rfl rfl rfl rfl rfl rfl ?_
      | refine go_block ?_
    refine doF rfl rfl rfl rfl rfl ?_
    refine as_call rfl rfl rfl rfl rfl rfl ?_
    refine c117 (shK_mk ⟨_, rfl⟩ ?_)
    repeat' first
      | refine go rfl ?_
      | refine ifT rfl ?_
      | refine ifF rfl ?_
      | refine doT rfl rfl rfl rfl rfl (as0 rfl ?_)
      | refine doF rfl rfl rfl rfl rfl (as0 rfl ?_)
      | refine noT rfl rfl rfl rfl rfl ?_
      | refine noF rfl rfl rfl rfl rfl ?_
      | refine noU rfl rfl rfl rfl rfl rfl ?_
      | refine go_block ?_
    cases h2 : wordB p <;> rw [h2] at h
    · repeat' first
        | refine go rfl ?_
        | refine ifT rfl ?_
        | refine ifF rfl ?_
        | refine doT rfl rfl rfl rfl rfl (as0 rfl ?_)
        | refine doF rfl rfl rfl rfl rfl (as0 rfl ?_)
        | refine noT rfl rfl rfl rfl rfl ?_
        | refine noF rfl rfl rfl rfl rfl ?_
        | refine noU rfl rfl rfl rfl rfl rfl ?_
        | refine go_block ?_
      refine go_ret' (ares_tmp rfl ares_nil) (weak_ins hr _) ?_
      exact h
    · repeat' first
        | refine go rfl ?_
        | refine ifT rfl ?_
        | refine ifF rfl ?_
        | refine doT rfl rfl rfl rfl rfl (as0 rfl ?_)
        | refine doF rfl rfl rfl rfl rfl (as0 rfl ?_)
        | refine noT rfl rfl rfl rfl rfl ?_
        | refine noF rfl rfl rfl rfl rfl ?_
        | refine noU rfl rfl rfl rfl rfl rfl ?_
        | refine go_block ?_
      refine doT rfl rfl rfl rfl rfl (as1 rfl (by decide) ?_)
      repeat' first
        | refine go rfl ?_
        | refine ifT rfl ?_
        | refine ifF rfl ?_
        | refine doT rfl rfl rfl rfl rfl (as0 rfl ?_)
        | refine doF rfl rfl rfl rfl rfl (as0 rfl ?_)
        | refine noT rfl rfl rfl rfl rfl ?_
        | refine noF rfl rfl rfl rfl rfl ?_
        | refine noU rfl rfl rfl rfl rfl rfl ?_
        | refine go_block ?_
      cases h3 : decide (shrI .i64 p 32 = 0) <;> rw [h3] at h
      · repeat' first
          | refine go rfl ?_
          | refine ifT rfl ?_
          | refine ifF rfl ?_
          | refine doT rfl rfl rfl rfl rfl (as0 rfl ?_)
          | refine doF rfl rfl rfl rfl rfl (as0 rfl ?_)
          | refine noT rfl rfl rfl rfl rfl ?_
          | refine noF rfl rfl rfl rfl rfl ?_
          | refine noU rfl rfl rfl rfl rfl rfl ?_
          | refine go_block ?_
        refine go_ret' (ares_tmp rfl ares_nil) (weak_ins hr _) ?_
        exact h
      · repeat' first
          | refine go rfl ?_
          | refine ifT rfl ?_
          | refine ifF rfl ?_
          | refine doT rfl rfl rfl rfl rfl (as0 rfl ?_)
          | refine doF rfl rfl rfl rfl rfl (as0 rfl ?_)
          | refine noT rfl rfl rfl rfl rfl ?_
          | refine noF rfl rfl rfl rfl rfl ?_
          | refine noU rfl rfl rfl rfl rfl rfl ?_
          | refine go_block ?_
        refine doT rfl rfl rfl rfl rfl (as3 rfl (by decide) (by decide) rfl ?_)
        refine doT rfl rfl rfl rfl rfl ?_
        refine as_load rfl rfl rfl rfl (pair_ld (i := 0) hG'.ptr rfl rfl rfl) ⟨((_ : Int), (_ : Int)), rfl⟩ ?_
        refine doT rfl rfl rfl rfl rfl ?_
        refine as_call rfl rfl rfl rfl rfl rfl ?_
        refine c144 (Heap.ins_same ..) (by decide) (by decide) (shK_mk ⟨_, rfl⟩ ?_)
        repeat' first
          | refine go rfl ?_
          | refine ifT rfl ?_
          | refine ifF rfl ?_
          | refine doT rfl rfl rfl rfl rfl (as0 rfl ?_)
          | refine doF rfl rfl rfl rfl rfl (as0 rfl ?_)
          | refine noT rfl rfl rfl rfl rfl ?_
          | refine noF rfl rfl rfl rfl rfl ?_
          | refine noU rfl rfl rfl rfl rfl rfl ?_
          | refine go_block ?_
        cases h4 : decide (0 < partM p 0 12) <;> rw [h4] at h
        · repeat' first
            | refine go rfl ?_
            | refine ifT rfl ?_
            | refine ifF rfl ?_
            | refine doT rfl rfl rfl rfl rfl (as0 rfl ?_)
            | refine doF rfl rfl rfl rfl rfl (as0 rfl ?_)
            | refine noT rfl rfl rfl rfl rfl ?_
            | refine noF rfl rfl rfl rfl rfl ?_
            | refine noU rfl rfl rfl rfl rfl rfl ?_
            | refine go_block ?_
          refine go_ret' (ares_tmp rfl ares_nil) (weak_ins hr _) ?_
          exact h
        · repeat' first
            | refine go rfl ?_
            | refine ifT rfl ?_
            | refine ifF rfl ?_
            | refine doT rfl rfl rfl rfl rfl (as0 rfl ?_)
            | refine doF rfl rfl rfl rfl rfl (as0 rfl ?_)
            | refine noT rfl rfl rfl rfl rfl ?_
            | refine noF rfl rfl rfl rfl rfl ?_
            | refine noU rfl rfl rfl rfl rfl rfl ?_
            | refine go_block ?_
          refine doT rfl rfl rfl rfl rfl (as3 rfl (by decide) (by decide) rfl ?_)
          refine doT rfl rfl rfl rfl rfl ?_
          refine as_load rfl rfl rfl rfl (pair_ld (i := 1) hG'.ptr rfl rfl rfl) ⟨((_ : Int), (_ : Int)), rfl⟩ ?_
          refine doT rfl rfl rfl rfl rfl ?_
          refine as_call rfl rfl rfl rfl rfl rfl ?_
          refine c144 (Heap.ins_same ..) (by decide) (by decide) (shK_mk ⟨_, rfl⟩ ?_)
          repeat' first
            | refine go rfl ?_
            | refine ifT rfl ?_
            | refine ifF rfl ?_
            | refine doT rfl rfl rfl rfl rfl (as0 rfl ?_)
            | refine doF rfl rfl rfl rfl rfl (as0 rfl ?_)
            | refine noT rfl rfl rfl rfl rfl ?_
            | refine noF rfl rfl rfl rfl rfl ?_
            | refine noU rfl rfl rfl rfl rfl rfl ?_
            | refine go_block ?_
          refine go_ret' (ares_tmp rfl ares_nil) (weak_ins hr _) ?_
          exact h
  · repeat' first
      | refine go rfl ?_
      | refine ifT rfl ?_
      | refine ifF rfl ?_
      | refine doT rfl rfl rfl rfl rfl (as0 rfl ?_)
      | refine doF rfl rfl rfl rfl rfl (as0 rfl ?_)
      | refine noT rfl rfl rfl rfl rfl ?_
      | refine noF rfl rfl rfl rfl rfl ?_
      | refine noU rfl rfl rfl rfl rfl rfl ?_
      | refine go_block ?_
    refine go_ret' (ares_tmp rfl ares_nil) (weak_ins hr _) ?_
    exact h

/-- Is the number a header? -/
def formedH (w : Int) : Bool := wordB w && decide (shrI .i64 w 27 = 0) && decide (partM w 4 3 ≤ 4)

theorem c145 {w : Int} {σ : Heap} {R : Value → Heap → Prop} (hG : Glob σ) (h : R (.bool (formedH w)) σ) : ACalls Tryz.prog 145 [.int .i64 w] σ R := by
  unfold formedH at h
  refine ACalls_fn fn145 rfl ?_
  repeat' first
    | refine go rfl ?_
    | refine ifT rfl ?_
    | refine ifF rfl ?_
    | refine doT rfl rfl rfl rfl rfl (as0 rfl ?_)
    | refine doF rfl rfl rfl rfl rfl (as0 rfl ?_)
    | refine noT rfl rfl rfl rfl rfl ?_
    | refine noF rfl rfl rfl rfl rfl ?_
    | refine noU rfl rfl rfl rfl rfl rfl ?_
    | refine go_block ?_
  refine opc rfl rfl rfl rfl rfl rfl rfl rfl rfl rfl (c117 (shK_mk ⟨_, rfl⟩ ?_))
  repeat' first
    | refine go rfl ?_
    | refine ifT rfl ?_
    | refine ifF rfl ?_
    | refine doT rfl rfl rfl rfl rfl (as0 rfl ?_)
    | refine doF rfl rfl rfl rfl rfl (as0 rfl ?_)
    | refine noT rfl rfl rfl rfl rfl ?_
    | refine noF rfl rfl rfl rfl rfl ?_
    | refine noU rfl rfl rfl rfl rfl rfl ?_
    | refine go_block ?_
  cases h2 : wordB w <;> rw [h2] at h
  · repeat' first
      | refine go rfl ?_
      | refine ifT rfl ?_
      | refine ifF rfl ?_
      | refine doT rfl rfl rfl rfl rfl (as0 rfl ?_)
      | refine doF rfl rfl rfl rfl rfl (as0 rfl ?_)
      | refine noT rfl rfl rfl rfl rfl ?_
      | refine noF rfl rfl rfl rfl rfl ?_
      | refine noU rfl rfl rfl rfl rfl rfl ?_
      | refine go_block ?_
    refine noTk rfl rfl rfl rfl rfl (keep0 rfl rfl rfl (keep_nil ?_))
    repeat' first
      | refine go rfl ?_
      | refine ifT rfl ?_
      | refine ifF rfl ?_
      | refine doT rfl rfl rfl rfl rfl (as0 rfl ?_)
      | refine doF rfl rfl rfl rfl rfl (as0 rfl ?_)
      | refine noT rfl rfl rfl rfl rfl ?_
      | refine noF rfl rfl rfl rfl rfl ?_
      | refine noU rfl rfl rfl rfl rfl rfl ?_
      | refine go_block ?_
    refine go_ret rfl ?_
    exact h
  · repeat' first
      | refine go rfl ?_
      | refine ifT rfl ?_
      | refine ifF rfl ?_
      | refine doT rfl rfl rfl rfl rfl (as0 rfl ?_)
      | refine doF rfl rfl rfl rfl rfl (as0 rfl ?_)
      | refine noT rfl rfl rfl rfl rfl ?_
      | refine noF rfl rfl rfl rfl rfl ?_
      | refine noU rfl rfl rfl rfl rfl rfl ?_
      | refine go_block ?_
    refine doT rfl rfl rfl rfl rfl (as1 rfl (by decide) ?_)
    repeat' first
      | refine go rfl ?_
      | refine ifT rfl ?_
      | refine ifF rfl ?_
      | refine doT rfl rfl rfl rfl rfl (as0 rfl ?_)
      | refine doF rfl rfl rfl rfl rfl (as0 rfl ?_)
      | refine noT rfl rfl rfl rfl rfl ?_
      | refine noF rfl rfl rfl rfl rfl ?_
      | refine noU rfl rfl rfl rfl rfl rfl ?_
      | refine go_block ?_
    cases h3 : decide (shrI .i64 w 27 = 0) <;> rw [h3] at h
    · repeat' first
        | refine go rfl ?_
        | refine ifT rfl ?_
        | refine ifF rfl ?_
        | refine doT rfl rfl rfl rfl rfl (as0 rfl ?_)
        | refine doF rfl rfl rfl rfl rfl (as0 rfl ?_)
        | refine noT rfl rfl rfl rfl rfl ?_
        | refine noF rfl rfl rfl rfl rfl ?_
        | refine noU rfl rfl rfl rfl rfl rfl ?_
        | refine go_block ?_
      refine noTk rfl rfl rfl rfl rfl (keep0 rfl rfl rfl (keep_nil ?_))
      repeat' first
        | refine go rfl ?_
        | refine ifT rfl ?_
        | refine ifF rfl ?_
        | refine doT rfl rfl rfl rfl rfl (as0 rfl ?_)
        | refine doF rfl rfl rfl rfl rfl (as0 rfl ?_)
        | refine noT rfl rfl rfl rfl rfl ?_
        | refine noF rfl rfl rfl rfl rfl ?_
        | refine noU rfl rfl rfl rfl rfl rfl ?_
        | refine go_block ?_
      refine go_ret rfl ?_
      exact h
    · repeat' first
        | refine go rfl ?_
        | refine ifT rfl ?_
        | refine ifF rfl ?_
        | refine doT rfl rfl rfl rfl rfl (as0 rfl ?_)
        | refine doF rfl rfl rfl rfl rfl (as0 rfl ?_)
        | refine noT rfl rfl rfl rfl rfl ?_
        | refine noF rfl rfl rfl rfl rfl ?_
        | refine noU rfl rfl rfl rfl rfl rfl ?_
        | refine go_block ?_
      refine doT rfl rfl rfl rfl rfl (as3 rfl (by decide) (by decide) rfl ?_)
      refine doT rfl rfl rfl rfl rfl ?_
      refine as_load rfl rfl rfl rfl (pair_ld (i := 1) hG.hdr rfl rfl rfl) ⟨((_ : Int), (_ : Int)), rfl⟩ ?_
      refine doTk rfl rfl rfl rfl rfl ?_
      refine as_call rfl rfl rfl rfl rfl rfl ?_
      refine c116 fun r hr => shK_mk ⟨_, rfl⟩ ?_
      refine keep1 rfl rfl rfl rfl rfl rfl rfl (pair_ld (i := 1) (hG.ins hr _).hdr rfl rfl rfl) (keep_nil ?_)
      refine doT rfl rfl rfl rfl rfl ?_
      refine as_call rfl rfl rfl rfl rfl rfl ?_
      refine c144 (Heap.ins_same ..) (by decide) (by decide) (shK_mk ⟨_, rfl⟩ ?_)
      repeat' first
        | refine go rfl ?_
        | refine ifT rfl ?_
        | refine ifF rfl ?_
        | refine doT rfl rfl rfl rfl rfl (as0 rfl ?_)
        | refine doF rfl rfl rfl rfl rfl (as0 rfl ?_)
        | refine noT rfl rfl rfl rfl rfl ?_
        | refine noF rfl rfl rfl rfl rfl ?_
        | refine noU rfl rfl rfl rfl rfl rfl ?_
        | refine go_block ?_
      refine go_ret' (ares_tmp rfl ares_nil) (weak_ins hr _) ?_
      exact h

/-- A part of a header. -/
def headM (w at_ bits : Int) : Int := if formedH w then partM w at_ bits else 0

theorem c147 {w : Int} {i : Nat} {a b : Int} (ha : hdrs[2 * i]? = some a) (hb : hdrs[2 * i + 1]? = some b) (ha0 : 0 ≤ a) (hb0 : 0 ≤ b) {σ : Heap} {R : Value → Heap → Prop} (hG : Glob σ) (h : R (.int .i64 (headM w a b)) σ) :
    ACalls Tryz.prog 147 [.int .i64 w, .int .i64 i] σ R := by
  have hi : i < 3 := by
    have := (List.getElem?_eq_some_iff.1 hb).1
    simp [hdrs] at this
    omega
  unfold headM at h
  refine ACalls_fn fn147 rfl ?_
  repeat' first
    | refine go rfl ?_
    | refine ifT rfl ?_
    | refine ifF rfl ?_
    | refine doT rfl rfl rfl rfl rfl (as0 rfl ?_)
    | refine doF rfl rfl rfl rfl rfl (as0 rfl ?_)
    | refine noT rfl rfl rfl rfl rfl ?_
    | refine noF rfl rfl rfl rfl rfl ?_
    | refine noU rfl rfl rfl rfl rfl rfl ?_
    | refine go_block ?_
  refine opc rfl rfl rfl rfl rfl rfl rfl rfl rfl rfl (c145 hG (shK_mk ⟨_, rfl⟩ ?_))
  repeat' first
    | refine go rfl ?_
    | refine ifT rfl ?_
    | refine ifF rfl ?_
    | refine doT rfl rfl rfl rfl rfl (as0 rfl ?_)
    | refine doF rfl rfl rfl rfl rfl (as0 rfl ?_)
    | refine noT rfl rfl rfl rfl rfl ?_
    | refine noF rfl rfl rfl rfl rfl ?_
    | refine noU rfl rfl rfl rfl rfl rfl ?_
    | refine go_block ?_
  cases h2 : formedH w <;> rw [h2] at h
  · repeat' first
      | refine go rfl ?_
      | refine ifT rfl ?_
      | refine ifF rfl ?_
      | refine doT rfl rfl rfl rfl rfl (as0 rfl ?_)
      | refine doF rfl rfl rfl rfl rfl (as0 rfl ?_)
      | refine noT rfl rfl rfl rfl rfl ?_
      | refine noF rfl rfl rfl rfl rfl ?_
      | refine noU rfl rfl rfl rfl rfl rfl ?_
      | refine go_block ?_
    refine go_ret rfl ?_
    exact h
  · repeat' first
      | refine go rfl ?_
      | refine ifT rfl ?_
      | refine ifF rfl ?_
      | refine doT rfl rfl rfl rfl rfl (as0 rfl ?_)
      | refine doF rfl rfl rfl rfl rfl (as0 rfl ?_)
      | refine noT rfl rfl rfl rfl rfl ?_
      | refine noF rfl rfl rfl rfl rfl ?_
      | refine noU rfl rfl rfl rfl rfl rfl ?_
      | refine go_block ?_
    refine op rfl rfl rfl rfl (as3 rfl (by omega) (by omega) rfl ?_)
    have hld : ∀ {σ' : Heap}, Glob σ' → σ'.ldT ti212 (padd (some ⟨2, 0, none⟩) ((i : Int).toNat * ti212.size)) = some (.agg #[.int .i64 a, .int .i64 b]) := fun hG' => by
      rw [padd_some]
      exact pair_ld hG'.hdr ha hb (by simp [ti212]; omega)
    refine opl (i := ti212) rfl rfl rfl rfl rfl rfl rfl rfl (hld hG) ⟨((_ : Int), (_ : Int)), rfl⟩ ?_
    refine opck rfl rfl rfl rfl rfl rfl rfl rfl rfl rfl (c116 fun r hr => shK_mk ⟨_, rfl⟩ ?_)
    refine keep1 rfl rfl rfl rfl rfl rfl rfl (hld (hG.ins hr _)) (keep_nil ?_)
    refine opc rfl rfl rfl rfl rfl rfl rfl rfl rfl rfl (c144 (Heap.ins_same ..) ha0 hb0 (shK_mk ⟨_, rfl⟩ ?_))
    repeat' first
      | refine go rfl ?_
      | refine ifT rfl ?_
      | refine ifF rfl ?_
      | refine doT rfl rfl rfl rfl rfl (as0 rfl ?_)
      | refine doF rfl rfl rfl rfl rfl (as0 rfl ?_)
      | refine noT rfl rfl rfl rfl rfl ?_
      | refine noF rfl rfl rfl rfl rfl ?_
      | refine noU rfl rfl rfl rfl rfl rfl ?_
      | refine go_block ?_
    refine go_ret' (ares_tmp rfl ares_nil) (weak_ins hr _) ?_
    exact h

def kindM (w : Int) : Int := headM w 0 4
def classM (w : Int) : Int := headM w 4 3
def genM (w : Int) : Int := headM w 7 20

theorem c121 {w : Int} {σ : Heap} {R : Value → Heap → Prop} (hG : Glob σ) (h : R (.int .i64 (kindM w)) σ) : ACalls Tryz.prog 121 [.int .i64 w] σ R := by
  refine ACalls_fn fn121 rfl ?_
  repeat' first
    | refine go rfl ?_
    | refine ifT rfl ?_
    | refine ifF rfl ?_
    | refine doT rfl rfl rfl rfl rfl (as0 rfl ?_)
    | refine doF rfl rfl rfl rfl rfl (as0 rfl ?_)
    | refine noT rfl rfl rfl rfl rfl ?_
    | refine noF rfl rfl rfl rfl rfl ?_
    | refine noU rfl rfl rfl rfl rfl rfl ?_
    | refine go_block ?_
  refine opc rfl rfl rfl rfl rfl rfl rfl rfl rfl rfl (c147 (i := 0) rfl rfl (by decide) (by decide) hG (shK_mk ⟨_, rfl⟩ ?_))
  repeat' first
    | refine go rfl ?_
    | refine ifT rfl ?_
    | refine ifF rfl ?_
    | refine doT rfl rfl rfl rfl rfl (as0 rfl ?_)
    | refine doF rfl rfl rfl rfl rfl (as0 rfl ?_)
    | refine noT rfl rfl rfl rfl rfl ?_
    | refine noF rfl rfl rfl rfl rfl ?_
    | refine noU rfl rfl rfl rfl rfl rfl ?_
    | refine go_block ?_
  refine go_ret rfl ?_
  exact h

theorem c146 {w : Int} {σ : Heap} {R : Value → Heap → Prop} (hG : Glob σ) (h : R (.int .i64 (classM w)) σ) : ACalls Tryz.prog 146 [.int .i64 w] σ R := by
  refine ACalls_fn fn146 rfl ?_
  repeat' first
    | refine go rfl ?_
    | refine ifT rfl ?_
    | refine ifF rfl ?_
    | refine doT rfl rfl rfl rfl rfl (as0 rfl ?_)
    | refine doF rfl rfl rfl rfl rfl (as0 rfl ?_)
    | refine noT rfl rfl rfl rfl rfl ?_
    | refine noF rfl rfl rfl rfl rfl ?_
    | refine noU rfl rfl rfl rfl rfl rfl ?_
    | refine go_block ?_
  refine opc rfl rfl rfl rfl rfl rfl rfl rfl rfl rfl (c147 (i := 1) rfl rfl (by decide) (by decide) hG (shK_mk ⟨_, rfl⟩ ?_))
  repeat' first
    | refine go rfl ?_
    | refine ifT rfl ?_
    | refine ifF rfl ?_
    | refine doT rfl rfl rfl rfl rfl (as0 rfl ?_)
    | refine doF rfl rfl rfl rfl rfl (as0 rfl ?_)
    | refine noT rfl rfl rfl rfl rfl ?_
    | refine noF rfl rfl rfl rfl rfl ?_
    | refine noU rfl rfl rfl rfl rfl rfl ?_
    | refine go_block ?_
  refine go_ret rfl ?_
  exact h

theorem c122 {w : Int} {σ : Heap} {R : Value → Heap → Prop} (hG : Glob σ) (h : R (.int .i64 (genM w)) σ) : ACalls Tryz.prog 122 [.int .i64 w] σ R := by
  refine ACalls_fn fn122 rfl ?_
  repeat' first
    | refine go rfl ?_
    | refine ifT rfl ?_
    | refine ifF rfl ?_
    | refine doT rfl rfl rfl rfl rfl (as0 rfl ?_)
    | refine doF rfl rfl rfl rfl rfl (as0 rfl ?_)
    | refine noT rfl rfl rfl rfl rfl ?_
    | refine noF rfl rfl rfl rfl rfl ?_
    | refine noU rfl rfl rfl rfl rfl rfl ?_
    | refine go_block ?_
  refine opc rfl rfl rfl rfl rfl rfl rfl rfl rfl rfl (c147 (i := 2) rfl rfl (by decide) (by decide) hG (shK_mk ⟨_, rfl⟩ ?_))
  repeat' first
    | refine go rfl ?_
    | refine ifT rfl ?_
    | refine ifF rfl ?_
    | refine doT rfl rfl rfl rfl rfl (as0 rfl ?_)
    | refine doF rfl rfl rfl rfl rfl (as0 rfl ?_)
    | refine noT rfl rfl rfl rfl rfl ?_
    | refine noF rfl rfl rfl rfl rfl ?_
    | refine noU rfl rfl rfl rfl rfl rfl ?_
    | refine go_block ?_
  refine go_ret rfl ?_
  exact h

def lineP (p : Int) : Int := if rightP p then partM p 0 12 else 0
def genP (p : Int) : Int := if rightP p then partM p 12 20 else 0

theorem c89 {p : Int} {σ : Heap} {R : Value → Heap → Prop} (hG : Glob σ) (h : R (.int .i64 (lineP p)) σ) : ACalls Tryz.prog 89 [.int .i64 p] σ R := by
  unfold lineP at h
  refine ACalls_fn fn89 rfl ?_
  repeat' first
    | refine go rfl ?_
    | refine ifT rfl ?_
    | refine ifF rfl ?_
    | refine doT rfl rfl rfl rfl rfl (as0 rfl ?_)
    | refine doF rfl rfl rfl rfl rfl (as0 rfl ?_)
    | refine noT rfl rfl rfl rfl rfl ?_
    | refine noF rfl rfl rfl rfl rfl ?_
    | refine noU rfl rfl rfl rfl rfl rfl ?_
    | refine go_block ?_
  refine opc rfl rfl rfl rfl rfl rfl rfl rfl rfl rfl (c87 hG (shK_mk ⟨_, rfl⟩ ?_))
  repeat' first
    | refine go rfl ?_
    | refine ifT rfl ?_
    | refine ifF rfl ?_
    | refine doT rfl rfl rfl rfl rfl (as0 rfl ?_)
    | refine doF rfl rfl rfl rfl rfl (as0 rfl ?_)
    | refine noT rfl rfl rfl rfl rfl ?_
    | refine noF rfl rfl rfl rfl rfl ?_
    | refine noU rfl rfl rfl rfl rfl rfl ?_
    | refine go_block ?_
  cases h2 : rightP p <;> rw [h2] at h
  · repeat' first
      | refine go rfl ?_
      | refine ifT rfl ?_
      | refine ifF rfl ?_
      | refine doT rfl rfl rfl rfl rfl (as0 rfl ?_)
      | refine doF rfl rfl rfl rfl rfl (as0 rfl ?_)
      | refine noT rfl rfl rfl rfl rfl ?_
      | refine noF rfl rfl rfl rfl rfl ?_
      | refine noU rfl rfl rfl rfl rfl rfl ?_
      | refine go_block ?_
    refine go_ret rfl ?_
    exact h
  · repeat' first
      | refine go rfl ?_
      | refine ifT rfl ?_
      | refine ifF rfl ?_
      | refine doT rfl rfl rfl rfl rfl (as0 rfl ?_)
      | refine doF rfl rfl rfl rfl rfl (as0 rfl ?_)
      | refine noT rfl rfl rfl rfl rfl ?_
      | refine noF rfl rfl rfl rfl rfl ?_
      | refine noU rfl rfl rfl rfl rfl rfl ?_
      | refine go_block ?_
    refine op rfl rfl rfl rfl (as3 rfl (by decide) (by decide) rfl ?_)
    refine opl (i := ti212) rfl rfl rfl rfl rfl rfl rfl rfl (pair_ld (i := 0) hG.ptr rfl rfl rfl) ⟨((_ : Int), (_ : Int)), rfl⟩ ?_
    refine opck rfl rfl rfl rfl rfl rfl rfl rfl rfl rfl (c116 fun r hr => shK_mk ⟨_, rfl⟩ ?_)
    refine keep1 rfl rfl rfl rfl rfl rfl rfl (pair_ld (i := 0) (hG.ins hr _).ptr rfl rfl rfl) (keep_nil ?_)
    refine opc rfl rfl rfl rfl rfl rfl rfl rfl rfl rfl (c144 (Heap.ins_same ..) (by decide) (by decide) (shK_mk ⟨_, rfl⟩ ?_))
    repeat' first
      | refine go rfl ?_
      | refine ifT rfl ?_
      | refine ifF rfl ?_
      | refine doT rfl rfl rfl rfl rfl (as0 rfl ?_)
      | refine doF rfl rfl rfl rfl rfl (as0 rfl ?_)
      | refine noT rfl rfl rfl rfl rfl ?_
      | refine noF rfl rfl rfl rfl rfl ?_
      | refine noU rfl rfl rfl rfl rfl rfl ?_
      | refine go_block ?_
    refine go_ret' (ares_tmp rfl ares_nil) (weak_ins hr _) ?_
    exact h

theorem c90 {p : Int} {σ : Heap} {R : Value → Heap → Prop} (hG : Glob σ) (h : R (.int .i64 (genP p)) σ) : ACalls Tryz.prog 90 [.int .i64 p] σ R := by
  unfold genP at h
  refine ACalls_fn fn90 rfl ?_
  repeat' first
    | refine go rfl ?_
    | refine ifT rfl ?_
    | refine ifF rfl ?_
    | refine doT rfl rfl rfl rfl rfl (as0 rfl ?_)
    | refine doF rfl rfl rfl rfl rfl (as0 rfl ?_)
    | refine noT rfl rfl rfl rfl rfl ?_
    | refine noF rfl rfl rfl rfl rfl ?_
    | refine noU rfl rfl rfl rfl rfl rfl ?_
    | refine go_block ?_
  refine opc rfl rfl rfl rfl rfl rfl rfl rfl rfl rfl (c87 hG (shK_mk ⟨_, rfl⟩ ?_))
  repeat' first
    | refine go rfl ?_
    | refine ifT rfl ?_
    | refine ifF rfl ?_
    | refine doT rfl rfl rfl rfl rfl (as0 rfl ?_)
    | refine doF rfl rfl rfl rfl rfl (as0 rfl ?_)
    | refine noT rfl rfl rfl rfl rfl ?_
    | refine noF rfl rfl rfl rfl rfl ?_
    | refine noU rfl rfl rfl rfl rfl rfl ?_
    | refine go_block ?_
  cases h2 : rightP p <;> rw [h2] at h
  · repeat' first
      | refine go rfl ?_
      | refine ifT rfl ?_
      | refine ifF rfl ?_
      | refine doT rfl rfl rfl rfl rfl (as0 rfl ?_)
      | refine doF rfl rfl rfl rfl rfl (as0 rfl ?_)
      | refine noT rfl rfl rfl rfl rfl ?_
      | refine noF rfl rfl rfl rfl rfl ?_
      | refine noU rfl rfl rfl rfl rfl rfl ?_
      | refine go_block ?_
    refine go_ret rfl ?_
    exact h
  · repeat' first
      | refine go rfl ?_
      | refine ifT rfl ?_
      | refine ifF rfl ?_
      | refine doT rfl rfl rfl rfl rfl (as0 rfl ?_)
      | refine doF rfl rfl rfl rfl rfl (as0 rfl ?_)
      | refine noT rfl rfl rfl rfl rfl ?_
      | refine noF rfl rfl rfl rfl rfl ?_
      | refine noU rfl rfl rfl rfl rfl rfl ?_
      | refine go_block ?_
    refine op rfl rfl rfl rfl (as3 rfl (by decide) (by decide) rfl ?_)
    refine opl (i := ti212) rfl rfl rfl rfl rfl rfl rfl rfl (pair_ld (i := 1) hG.ptr rfl rfl rfl) ⟨((_ : Int), (_ : Int)), rfl⟩ ?_
    refine opck rfl rfl rfl rfl rfl rfl rfl rfl rfl rfl (c116 fun r hr => shK_mk ⟨_, rfl⟩ ?_)
    refine keep1 rfl rfl rfl rfl rfl rfl rfl (pair_ld (i := 1) (hG.ins hr _).ptr rfl rfl rfl) (keep_nil ?_)
    refine opc rfl rfl rfl rfl rfl rfl rfl rfl rfl rfl (c144 (Heap.ins_same ..) (by decide) (by decide) (shK_mk ⟨_, rfl⟩ ?_))
    repeat' first
      | refine go rfl ?_
      | refine ifT rfl ?_
      | refine ifF rfl ?_
      | refine doT rfl rfl rfl rfl rfl (as0 rfl ?_)
      | refine doF rfl rfl rfl rfl rfl (as0 rfl ?_)
      | refine noT rfl rfl rfl rfl rfl ?_
      | refine noF rfl rfl rfl rfl rfl ?_
      | refine noU rfl rfl rfl rfl rfl rfl ?_
      | refine go_block ?_
    refine go_ret' (ares_tmp rfl ares_nil) (weak_ins hr _) ?_
    exact h

end Go.Eng
