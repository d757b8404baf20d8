/- Contracts: a line with its code is clean; what it shows. Conditions: in each. -/
import Derived.Test.YtihpnhkhgobblaaGreatDoorCe
namespace Go.Eng
open Go Go.Proofs

set_option maxRecDepth 10000

theorem par_all : ∀ s : Fin 512, popM (IntKind.wrap .u64 (orI .i64 (s.1 : Int) 512)) = popM (IntKind.wrap .u64 (s.1 : Int)) + 1 ∧ andI .i64 (orI .i64 (s.1 : Int) 512) 511 = s.1 ∧ andI .i64 (s.1 : Int) 511 = s.1 ∧
    xorI .i64 (s.1 : Int) (s.1 : Int) = 0 ∧ 0 ≤ popM (IntKind.wrap .u64 (s.1 : Int)) ∧ popM (IntKind.wrap .u64 (s.1 : Int)) ≤ 64 ∧ 0 ≤ orI .i64 (s.1 : Int) 512 ∧ orI .i64 (s.1 : Int) 512 ≤ 1023 := by decide +kernel

theorem sumGo_num : ∀ (f : Nat) {k x : Int} {p : Int × Int}, 0 ≤ x → x ≤ 1099511627775 → 0 ≤ p.2 → p.2 + x < 4611686018427387904 → 0 ≤ (sumGo f k x p).2 ∧ (sumGo f k x p).2 ≤ p.2 + x
  | 0, k, x, p, hx, _, h1, _ => ⟨h1, by simp [sumGo]; omega⟩
  | f + 1, k, x, p, hx, hx', h1, h2 => by
    unfold sumGo
    split
    · exact ⟨h1, by omega⟩
    · rename_i hne
      obtain ⟨a1, a2⟩ := and_less (x := x) (by omega) (by omega)
      have hw : IntKind.wrap .i64 (p.2 + 1) = p.2 + 1 := wrap_i64 (by omega) (by omega)
      have := sumGo_num f (k := k) (x := andI .i64 x (IntKind.wrap .i64 (x - 1))) (p := (xorI .i64 p.1 (posM k (tzM (IntKind.wrap .u64 x))), IntKind.wrap .i64 (p.2 + 1))) a1 (by omega) (by simp only [hw]; omega) (by simp only [hw]; omega)
      simp only [hw] at this ⊢
      omega

theorem sumW_num : ∀ (l : List Int) {k : Int} {p : Int × Int}, (∀ x ∈ l, okW x) → 0 ≤ p.2 → p.2 + (l.length : Int) * 1099511627775 < 4611686018427387904 → 0 ≤ (sumW l k p).2 ∧ (sumW l k p).2 ≤ p.2 + (l.length : Int) * 1099511627775
  | [], k, p, _, h1, _ => ⟨h1, by simp [sumW]⟩
  | x :: l, k, p, hl, h1, h2 => by
    have hx := hl x (List.mem_cons_self ..)
    simp only [List.length_cons] at h2 ⊢
    obtain ⟨a, b⟩ := sumGo_num x.toNat (k := k) hx.1 hx.2 h1 (by have := hx.2; omega)
    have hx2 := hx.2
    obtain ⟨c, d⟩ := sumW_num l (k := k + 1) (p := sumGo x.toNat k x p) (fun y hy => hl y (List.mem_cons_of_mem _ hy)) a (by omega)
    unfold sumW
    exact ⟨c, by omega⟩

theorem tmod2 {n : Int} (h0 : 0 ≤ n) (h1 : n < 4611686018427387904) : Int.tmod (IntKind.wrap .i64 n) 2 = n % 2 := by
  rw [wrap_i64 (by omega) (by omega), Int.tmod_eq_emod_of_nonneg h0]

/-- The facts of a line and its code. -/
theorem enc_facts {W : List Int} (hW : OkL W) : andI .i64 (encM W) 511 = (sumW W 0 (0, 0)).1 ∧ xorI .i64 (sumW W 0 (0, 0)).1 (sumW W 0 (0, 0)).1 = 0 ∧ oddM (encM W) (sumW W 0 (0, 0)).2 = false ∧ 0 ≤ encM W ∧ encM W ≤ 1023 := by
  obtain ⟨s0, s1⟩ := sumW_range W (k := 0) (p := (0, 0)) (by omega) (by rw [hW.len]; decide) hW.ok (by decide) (by decide)
  obtain ⟨n0, n1⟩ := sumW_num W (k := 0) (p := (0, 0)) hW.ok (by decide) (by rw [hW.len]; decide)
  rw [hW.len] at n1
  have hp := par_all ⟨(sumW W 0 (0, 0)).1.toNat, by omega⟩
  have e : (((sumW W 0 (0, 0)).1.toNat : Nat) : Int) = (sumW W 0 (0, 0)).1 := by omega
  simp only [e] at hp
  obtain ⟨p1, p2, p3, p4, p5, p6, p7, p8⟩ := hp
  have n1' : (sumW W 0 (0, 0)).2 ≤ 8796093022200 := by simpa using n1
  unfold encM
  dsimp only
  split
  · rename_i ho
    refine ⟨p2, p4, ?_, p7, p8⟩
    unfold oddM at ho ⊢
    rw [p1]
    rw [tmod2 (by omega) (by omega)] at ho ⊢
    have := of_decide_eq_true ho
    refine decide_eq_false ?_
    omega
  · rename_i ho
    exact ⟨p3, p4, by simpa using ho, s0, by omega⟩

theorem c141 {W : List Int} {σ : Heap} {R : Value → Heap → Prop} (hG : Glob σ) (hW : OkL W) (h : R (.tuple #[.int .i64 0, .int .i64 0, .int .i64 0]) σ) : ACalls Tryz.prog 141 [lineV W, .int .i64 (encM W)] σ R := by
  obtain ⟨f1, f2, f3, f4, f5⟩ := enc_facts hW
  have hval : validM W (encM W) = true := by
    unfold validM
    have : W.any badW = false := by
      rw [Bool.eq_false_iff]
      intro hb
      obtain ⟨x, hx, hb⟩ := List.any_eq_true.1 hb
      rw [okW_bad.1 (hW.ok x hx)] at hb
      cases hb
    rw [this]
    simp [f4, f5]
  obtain ⟨a, b, c, d, e, f, g, i, hWW⟩ := eight hW.len
  have hV : lineV W = lineV [a, b, c, d, e, f, g, i] := by rw [hWW]
  have hV2 : ∀ σ : Heap, ∀ r, (σ.ins r (.cells 1 (vcells (lineV W)) 149 (vcells (lineV W)).length)) = σ.ins r (.cells 1 (ints [a, b, c, d, e, f, g, i]) 149 8) := fun σ r => by rw [hWW]; rfl
  generalize encM W = code at *
  refine ACalls_fn fn141 rfl ?_
  repeat' first
    | refine go rfl ?_
    | refine ifT rfl ?_
    | refine ifF rfl ?_
    | refine doT rfl rfl rfl rfl rfl (as0 rfl ?_)
    | refine doF rfl rfl rfl rfl rfl (as0 rfl ?_)
    | refine noT rfl rfl rfl rfl rfl ?_
    | refine noF rfl rfl rfl rfl rfl ?_
    | refine noU rfl rfl rfl rfl rfl rfl ?_
    | refine go_block ?_
  refine op rfl rfl rfl rfl (as_box rfl rfl fun b2 h2 => ?_)
  rw [hV2]
  refine op rfl rfl rfl rfl (as_new [.int .i64 0] 1 rfl rfl rfl rfl fun b4 h4 => ?_)
  refine op rfl rfl rfl rfl (as_new [.int .i64 0] 1 rfl rfl rfl rfl fun b5 h5 => ?_)
  refine op rfl rfl rfl rfl (as_new [.int .i64 0] 1 rfl rfl rfl rfl fun b6 h6 => ?_)
  obtain ⟨n42, h4'⟩ := ins_none h4
  obtain ⟨n54, h5'⟩ := ins_none h5
  obtain ⟨n52, h5''⟩ := ins_none h5'
  obtain ⟨n65, h6'⟩ := ins_none h6
  obtain ⟨n64, h6''⟩ := ins_none h6'
  obtain ⟨n62, h6'''⟩ := ins_none h6''
  repeat' first
    | refine go rfl ?_
    | refine ifT rfl ?_
    | refine ifF rfl ?_
    | refine doT rfl rfl rfl rfl rfl (as0 rfl ?_)
    | refine doF rfl rfl rfl rfl rfl (as0 rfl ?_)
    | refine noT rfl rfl rfl rfl rfl ?_
    | refine noF rfl rfl rfl rfl rfl ?_
    | refine noU rfl rfl rfl rfl rfl rfl ?_
    | refine go_block ?_
  refine opl (i := ti149) rfl rfl rfl rfl rfl rfl rfl rfl (ldn (o := 0) (l := ints [a, b, c, d, e, f, g, i]) (miss (Ne.symm n62) (miss (Ne.symm n52) (miss (Ne.symm n42) (hit ..)))) rfl rfl rfl) ⟨((_ : Int), (_ : Int), (_ : Int), (_ : Int), (_ : Int), (_ : Int), (_ : Int), (_ : Int)), rfl⟩ ?_
  repeat' first
    | refine go rfl ?_
    | refine ifT rfl ?_
    | refine ifF rfl ?_
    | refine doT rfl rfl rfl rfl rfl (as0 rfl ?_)
    | refine doF rfl rfl rfl rfl rfl (as0 rfl ?_)
    | refine noT rfl rfl rfl rfl rfl ?_
    | refine noF rfl rfl rfl rfl rfl ?_
    | refine noU rfl rfl rfl rfl rfl rfl ?_
    | refine go_block ?_
  refine opc rfl rfl rfl rfl rfl rfl rfl rfl rfl rfl (c96 (W := [a, b, c, d, e, f, g, i]) rfl (shK_mk ⟨_, rfl⟩ ?_))
  rw [← hWW, hval]
  repeat' first
    | refine go rfl ?_
    | refine ifT rfl ?_
    | refine ifF rfl ?_
    | refine doT rfl rfl rfl rfl rfl (as0 rfl ?_)
    | refine doF rfl rfl rfl rfl rfl (as0 rfl ?_)
    | refine noT rfl rfl rfl rfl rfl ?_
    | refine noF rfl rfl rfl rfl rfl ?_
    | refine noU rfl rfl rfl rfl rfl rfl ?_
    | refine go_block ?_
  rw [hWW]
  refine opl (i := ti149) rfl rfl rfl rfl rfl rfl rfl rfl (ldn (o := 0) (l := ints [a, b, c, d, e, f, g, i]) (miss (Ne.symm n62) (miss (Ne.symm n52) (miss (Ne.symm n42) (hit ..)))) rfl rfl rfl) ⟨((_ : Int), (_ : Int), (_ : Int), (_ : Int), (_ : Int), (_ : Int), (_ : Int), (_ : Int)), rfl⟩ ?_
  refine opc rfl rfl rfl rfl rfl rfl rfl rfl rfl rfl (c97 (W := [a, b, c, d, e, f, g, i]) ((((hG.ins h2 _).ins h4 _).ins h5 _).ins h6 _) (by rw [← hWW]; exact hW) (shK_mk ⟨((_ : Int), (_ : Int)), rfl⟩ ?_))
  rw [← hWW]
  repeat' first
    | refine go rfl ?_
    | refine ifT rfl ?_
    | refine ifF rfl ?_
    | refine doT rfl rfl rfl rfl rfl (as0 rfl ?_)
    | refine doF rfl rfl rfl rfl rfl (as0 rfl ?_)
    | refine noT rfl rfl rfl rfl rfl ?_
    | refine noF rfl rfl rfl rfl rfl ?_
    | refine noU rfl rfl rfl rfl rfl rfl ?_
    | refine go_block ?_
  refine op rfl rfl rfl rfl (as_new [.int .i64 0] 1 rfl rfl rfl rfl fun b7 h7 => ?_)
  obtain ⟨n76, h7'⟩ := ins_none h7
  obtain ⟨n75, h7''⟩ := ins_none h7'
  obtain ⟨n74, h7'''⟩ := ins_none h7''
  obtain ⟨n72, h7''''⟩ := ins_none h7'''
  refine opn rfl rfl rfl (as_store_at [.int .i64 (sumW W 0 (0, 0)).1] rfl rfl rfl rfl rfl (Heap.ins_same ..) rfl rfl rfl rfl ?_)
  rw [ins_ins]
  repeat' first
    | refine go rfl ?_
    | refine ifT rfl ?_
    | refine ifF rfl ?_
    | refine doT rfl rfl rfl rfl rfl (as0 rfl ?_)
    | refine doF rfl rfl rfl rfl rfl (as0 rfl ?_)
    | refine noT rfl rfl rfl rfl rfl ?_
    | refine noF rfl rfl rfl rfl rfl ?_
    | refine noU rfl rfl rfl rfl rfl rfl ?_
    | refine go_block ?_
  refine opl (i := ti3) rfl rfl rfl rfl rfl rfl rfl rfl (ld1 (o := 0) (Heap.ins_same ..) rfl rfl) ⟨(_ : Int), rfl⟩ ?_
  repeat' first
    | refine go rfl ?_
    | refine ifT rfl ?_
    | refine ifF rfl ?_
    | refine doT rfl rfl rfl rfl rfl (as0 rfl ?_)
    | refine doF rfl rfl rfl rfl rfl (as0 rfl ?_)
    | refine noT rfl rfl rfl rfl rfl ?_
    | refine noF rfl rfl rfl rfl rfl ?_
    | refine noU rfl rfl rfl rfl rfl rfl ?_
    | refine go_block ?_
  refine opn rfl rfl rfl (as_store_at [.int .i64 (xorI .i64 (sumW W 0 (0, 0)).1 (andI .i64 code 511))] rfl rfl rfl rfl rfl (Heap.ins_same ..) rfl rfl rfl rfl ?_)
  rw [ins_ins, f1, f2]
  repeat' first
    | refine go rfl ?_
    | refine ifT rfl ?_
    | refine ifF rfl ?_
    | refine doT rfl rfl rfl rfl rfl (as0 rfl ?_)
    | refine doF rfl rfl rfl rfl rfl (as0 rfl ?_)
    | refine noT rfl rfl rfl rfl rfl ?_
    | refine noF rfl rfl rfl rfl rfl ?_
    | refine noU rfl rfl rfl rfl rfl rfl ?_
    | refine go_block ?_
  refine opc rfl rfl rfl rfl rfl rfl rfl rfl rfl rfl (c98 (shK_mk ⟨_, rfl⟩ ?_))
  repeat' first
    | refine go rfl ?_
    | refine ifT rfl ?_
    | refine ifF rfl ?_
    | refine doT rfl rfl rfl rfl rfl (as0 rfl ?_)
    | refine doF rfl rfl rfl rfl rfl (as0 rfl ?_)
    | refine noT rfl rfl rfl rfl rfl ?_
    | refine noF rfl rfl rfl rfl rfl ?_
    | refine noU rfl rfl rfl rfl rfl rfl ?_
    | refine go_block ?_
  refine op rfl rfl rfl rfl (as1 rfl (by decide) ?_)
  repeat' first
    | refine go rfl ?_
    | refine ifT rfl ?_
    | refine ifF rfl ?_
    | refine doT rfl rfl rfl rfl rfl (as0 rfl ?_)
    | refine doF rfl rfl rfl rfl rfl (as0 rfl ?_)
    | refine noT rfl rfl rfl rfl rfl ?_
    | refine noF rfl rfl rfl rfl rfl ?_
    | refine noU rfl rfl rfl rfl rfl rfl ?_
    | refine go_block ?_
  rw [show (decide (Int.tmod (IntKind.wrap .i64 ((sumW W 0 (0, 0)).2 + popM (IntKind.wrap .u64 code))) 2 = 1)) = false from f3]
  repeat' first
    | refine go rfl ?_
    | refine ifT rfl ?_
    | refine ifF rfl ?_
    | refine doT rfl rfl rfl rfl rfl (as0 rfl ?_)
    | refine doF rfl rfl rfl rfl rfl (as0 rfl ?_)
    | refine noT rfl rfl rfl rfl rfl ?_
    | refine noF rfl rfl rfl rfl rfl ?_
    | refine noU rfl rfl rfl rfl rfl rfl ?_
    | refine go_block ?_
  refine doT rfl rfl rfl rfl rfl ?_
  refine as_load (i := ti3) rfl rfl rfl rfl (ld1 (o := 0) (hit ..) rfl rfl) ⟨(_ : Int), rfl⟩ ?_
  repeat' first
    | refine go rfl ?_
    | refine ifT rfl ?_
    | refine ifF rfl ?_
    | refine doT rfl rfl rfl rfl rfl (as0 rfl ?_)
    | refine doF rfl rfl rfl rfl rfl (as0 rfl ?_)
    | refine noT rfl rfl rfl rfl rfl ?_
    | refine noF rfl rfl rfl rfl rfl ?_
    | refine noU rfl rfl rfl rfl rfl rfl ?_
    | refine go_block ?_
  have a4 : ∀ X, (((((σ.ins b2 (.cells 1 (ints W) 149 8)).ins b4 (.cells 1 [.int .i64 0] 3 1)).ins b5 (.cells 1 [.int .i64 0] 3 1)).ins b6 (.cells 1 [.int .i64 0] 3 1)).ins b7 X) b4 = some (.cells 1 [.int .i64 0] 3 1) :=
    fun X => miss (Ne.symm n74) (miss (Ne.symm n64) (miss (Ne.symm n54) (hit ..)))
  have a5 : ∀ X, (((((σ.ins b2 (.cells 1 (ints W) 149 8)).ins b4 (.cells 1 [.int .i64 0] 3 1)).ins b5 (.cells 1 [.int .i64 0] 3 1)).ins b6 (.cells 1 [.int .i64 0] 3 1)).ins b7 X) b5 = some (.cells 1 [.int .i64 0] 3 1) :=
    fun X => miss (Ne.symm n75) (miss (Ne.symm n65) (hit ..))
  have a6 : ∀ X, (((((σ.ins b2 (.cells 1 (ints W) 149 8)).ins b4 (.cells 1 [.int .i64 0] 3 1)).ins b5 (.cells 1 [.int .i64 0] 3 1)).ins b6 (.cells 1 [.int .i64 0] 3 1)).ins b7 X) b6 = some (.cells 1 [.int .i64 0] 3 1) :=
    fun X => miss (Ne.symm n76) (hit ..)
  refine opn rfl rfl rfl (as_store_at [.int .i64 0] rfl rfl rfl rfl rfl (a4 _) rfl rfl rfl rfl ?_)
  rw [ins_id (a4 _)]
  refine opn rfl rfl rfl (as_store_at [.int .i64 0] rfl rfl rfl rfl rfl (a5 _) rfl rfl rfl rfl ?_)
  rw [ins_id (a5 _)]
  refine opn rfl rfl rfl (as_store_at [.int .i64 0] rfl rfl rfl rfl rfl (a6 _) rfl rfl rfl rfl ?_)
  rw [ins_id (a6 _)]
  repeat' first
    | refine go rfl ?_
    | refine ifT rfl ?_
    | refine ifF rfl ?_
    | refine doT rfl rfl rfl rfl rfl (as0 rfl ?_)
    | refine doF rfl rfl rfl rfl rfl (as0 rfl ?_)
    | refine noT rfl rfl rfl rfl rfl ?_
    | refine noF rfl rfl rfl rfl rfl ?_
    | refine noU rfl rfl rfl rfl rfl rfl ?_
    | refine go_block ?_
  refine go_ret' (ares_cell rfl rfl (ld1 (o := 0) (a4 _) rfl rfl) rfl (ares_cell rfl rfl (ld1 (o := 0) (a5 _) rfl rfl) rfl (ares_cell rfl rfl (ld1 (o := 0) (a6 _) rfl rfl) rfl ares_nil)))
    ((((((Ext.refl σ).ins h2 _).ins h4' _).ins h5'' _).ins h6''' _).ins h7'''' _).weak ?_
  exact h

/-- Reading a line with its code. -/
theorem c148 {W : List Int} {σ : Heap} {R : Value → Heap → Prop} (hG : Glob σ) (hW : OkL W) (h : R (.tuple #[lineV W, .int .i64 (encM W), .int .i64 0]) σ) : ACalls Tryz.prog 148 [lineV W, .int .i64 (encM W)] σ R := by
  obtain ⟨f1, f2, f3, f4, f5⟩ := enc_facts hW
  have hval : validM W (encM W) = true := by
    unfold validM
    have : W.any badW = false := by
      rw [Bool.eq_false_iff]
      intro hb
      obtain ⟨x, hx, hb⟩ := List.any_eq_true.1 hb
      rw [okW_bad.1 (hW.ok x hx)] at hb
      cases hb
    rw [this]
    simp [f4, f5]
  have hck : ∀ {σ' : Heap} {R : Value → Heap → Prop}, Glob σ' → R (.tuple #[.int .i64 0, .int .i64 0, .int .i64 0]) σ' → ACalls Tryz.prog 141 [lineV W, .int .i64 (encM W)] σ' R := fun hG' h' => c141 hG' hW h'
  generalize encM W = code at *
  obtain ⟨a, b, c, d, e, f, g, i, rfl⟩ := eight hW.len
  refine ACalls_fn fn148 rfl ?_
  repeat' first
    | refine go rfl ?_
    | refine ifT rfl ?_
    | refine ifF rfl ?_
    | refine doT rfl rfl rfl rfl rfl (as0 rfl ?_)
    | refine doF rfl rfl rfl rfl rfl (as0 rfl ?_)
    | refine noT rfl rfl rfl rfl rfl ?_
    | refine noF rfl rfl rfl rfl rfl ?_
    | refine noU rfl rfl rfl rfl rfl rfl ?_
    | refine go_block ?_
  refine op rfl rfl rfl rfl (as_box rfl rfl fun b2 h2 => ?_)
  refine op rfl rfl rfl rfl (as_alloc rfl rfl fun b4 h4 => ?_)
  obtain ⟨n42, h4'⟩ := ins_none h4
  have a2 : ∀ X, ((σ.ins b2 (.cells 1 (ints [a, b, c, d, e, f, g, i]) 149 8)).ins b4 X) b2 = some (.cells 1 (ints [a, b, c, d, e, f, g, i]) 149 8) := fun X => miss (Ne.symm n42) (hit ..)
  repeat' first
    | refine go rfl ?_
    | refine ifT rfl ?_
    | refine ifF rfl ?_
    | refine doT rfl rfl rfl rfl rfl (as0 rfl ?_)
    | refine doF rfl rfl rfl rfl rfl (as0 rfl ?_)
    | refine noT rfl rfl rfl rfl rfl ?_
    | refine noF rfl rfl rfl rfl rfl ?_
    | refine noU rfl rfl rfl rfl rfl rfl ?_
    | refine go_block ?_
  refine opl (i := ti149) rfl rfl rfl rfl rfl rfl rfl rfl (ldn (o := 0) (l := ints [a, b, c, d, e, f, g, i]) (a2 _) rfl rfl rfl) ⟨((_ : Int), (_ : Int), (_ : Int), (_ : Int), (_ : Int), (_ : Int), (_ : Int), (_ : Int)), rfl⟩ ?_
  repeat' first
    | refine go rfl ?_
    | refine ifT rfl ?_
    | refine ifF rfl ?_
    | refine doT rfl rfl rfl rfl rfl (as0 rfl ?_)
    | refine doF rfl rfl rfl rfl rfl (as0 rfl ?_)
    | refine noT rfl rfl rfl rfl rfl ?_
    | refine noF rfl rfl rfl rfl rfl ?_
    | refine noU rfl rfl rfl rfl rfl rfl ?_
    | refine go_block ?_
  refine opc rfl rfl rfl rfl rfl rfl rfl rfl rfl rfl (c96 (W := [a, b, c, d, e, f, g, i]) rfl (shK_mk ⟨_, rfl⟩ ?_))
  rw [hval]
  repeat' first
    | refine go rfl ?_
    | refine ifT rfl ?_
    | refine ifF rfl ?_
    | refine doT rfl rfl rfl rfl rfl (as0 rfl ?_)
    | refine doF rfl rfl rfl rfl rfl (as0 rfl ?_)
    | refine noT rfl rfl rfl rfl rfl ?_
    | refine noF rfl rfl rfl rfl rfl ?_
    | refine noU rfl rfl rfl rfl rfl rfl ?_
    | refine go_block ?_
  refine opl (i := ti149) rfl rfl rfl rfl rfl rfl rfl rfl (ldn (o := 0) (l := ints [a, b, c, d, e, f, g, i]) (a2 _) rfl rfl rfl) ⟨((_ : Int), (_ : Int), (_ : Int), (_ : Int), (_ : Int), (_ : Int), (_ : Int), (_ : Int)), rfl⟩ ?_
  repeat' first
    | refine go rfl ?_
    | refine ifT rfl ?_
    | refine ifF rfl ?_
    | refine doT rfl rfl rfl rfl rfl (as0 rfl ?_)
    | refine doF rfl rfl rfl rfl rfl (as0 rfl ?_)
    | refine noT rfl rfl rfl rfl rfl ?_
    | refine noF rfl rfl rfl rfl rfl ?_
    | refine noU rfl rfl rfl rfl rfl rfl ?_
    | refine go_block ?_
  refine opc rfl rfl rfl rfl rfl rfl rfl rfl rfl rfl (hck ((hG.ins h2 _).ins h4 _) (shK_mk ⟨((_ : Int), (_ : Int), (_ : Int)), rfl⟩ ?_))
  repeat' first
    | refine go rfl ?_
    | refine ifT rfl ?_
    | refine ifF rfl ?_
    | refine doT rfl rfl rfl rfl rfl (as0 rfl ?_)
    | refine doF rfl rfl rfl rfl rfl (as0 rfl ?_)
    | refine noT rfl rfl rfl rfl rfl ?_
    | refine noF rfl rfl rfl rfl rfl ?_
    | refine noU rfl rfl rfl rfl rfl rfl ?_
    | refine go_block ?_
  refine opl (i := ti149) rfl rfl rfl rfl rfl rfl rfl rfl (ldn (o := 0) (l := ints [a, b, c, d, e, f, g, i]) (a2 _) rfl rfl rfl) ⟨((_ : Int), (_ : Int), (_ : Int), (_ : Int), (_ : Int), (_ : Int), (_ : Int), (_ : Int)), rfl⟩ ?_
  repeat' first
    | refine go rfl ?_
    | refine ifT rfl ?_
    | refine ifF rfl ?_
    | refine doT rfl rfl rfl rfl rfl (as0 rfl ?_)
    | refine doF rfl rfl rfl rfl rfl (as0 rfl ?_)
    | refine noT rfl rfl rfl rfl rfl ?_
    | refine noF rfl rfl rfl rfl rfl ?_
    | refine noU rfl rfl rfl rfl rfl rfl ?_
    | refine go_block ?_
  refine opn rfl rfl rfl (as_store_at (ints [a, b, c, d, e, f, g, i]) rfl rfl rfl rfl rfl (Heap.ins_same ..) rfl rfl rfl rfl ?_)
  rw [ins_ins]
  repeat' first
    | refine go rfl ?_
    | refine ifT rfl ?_
    | refine ifF rfl ?_
    | refine doT rfl rfl rfl rfl rfl (as0 rfl ?_)
    | refine doF rfl rfl rfl rfl rfl (as0 rfl ?_)
    | refine noT rfl rfl rfl rfl rfl ?_
    | refine noF rfl rfl rfl rfl rfl ?_
    | refine noU rfl rfl rfl rfl rfl rfl ?_
    | refine go_block ?_
  refine go_ret' (ares_cell rfl rfl (ldn (o := 0) (l := ints [a, b, c, d, e, f, g, i]) (Heap.ins_same ..) rfl rfl rfl) rfl (ares_tmp rfl (ares_tmp rfl ares_nil))) (((Ext.refl σ).ins h2 _).ins h4' _).weak ?_
  exact h

end Go.Eng

/- Contracts: what a line shows behind some of its pending stores. Conditions: in each. -/
namespace Go.Eng
open Go Go.Proofs

set_option maxRecDepth 10000

theorem c124 {rm len cap : Nat} {lp : Option Addr} {i : Int} {σ : Heap} {R : Value → Heap → Prop} (hm : σ.ldT ti147 (some ⟨rm, 0, none⟩) = some (.slice lp len cap)) (h : R (.bool (decide (0 ≤ i) && decide (i < (len : Int)))) σ) :
    ACalls Tryz.prog 124 [.pointer (some ⟨rm, 0, none⟩), .int .i64 i] σ R := by
  refine ACalls_fn fn124 rfl ?_
  repeat' first
    | refine go rfl ?_
    | refine ifT rfl ?_
    | refine ifF rfl ?_
    | refine doT rfl rfl rfl rfl rfl (as0 rfl ?_)
    | refine doF rfl rfl rfl rfl rfl (as0 rfl ?_)
    | refine noT rfl rfl rfl rfl rfl ?_
    | refine noF rfl rfl rfl rfl rfl ?_
    | refine noU rfl rfl rfl rfl rfl rfl ?_
    | refine go_block ?_
  cases h1 : decide (0 ≤ i) <;> rw [h1] at h
  · repeat' first
      | refine go rfl ?_
      | refine ifT rfl ?_
      | refine ifF rfl ?_
      | refine doT rfl rfl rfl rfl rfl (as0 rfl ?_)
      | refine doF rfl rfl rfl rfl rfl (as0 rfl ?_)
      | refine noT rfl rfl rfl rfl rfl ?_
      | refine noF rfl rfl rfl rfl rfl ?_
      | refine noU rfl rfl rfl rfl rfl rfl ?_
      | refine go_block ?_
    refine go_ret rfl ?_
    exact h
  · repeat' first
      | refine go rfl ?_
      | refine ifT rfl ?_
      | refine ifF rfl ?_
      | refine doT rfl rfl rfl rfl rfl (as0 rfl ?_)
      | refine doF rfl rfl rfl rfl rfl (as0 rfl ?_)
      | refine noT rfl rfl rfl rfl rfl ?_
      | refine noF rfl rfl rfl rfl rfl ?_
      | refine noU rfl rfl rfl rfl rfl rfl ?_
      | refine go_block ?_
    refine doT rfl rfl rfl rfl rfl (as1 rfl rfl ?_)
    refine doT rfl rfl rfl rfl rfl (as1 rfl rfl ?_)
    refine doT rfl rfl rfl rfl rfl ?_
    refine as_load (i := ti147) rfl rfl rfl rfl hm ⟨(⟨lp, len, cap⟩ : Sl), rfl⟩ ?_
    repeat' first
      | refine go rfl ?_
      | refine ifT rfl ?_
      | refine ifF rfl ?_
      | refine doT rfl rfl rfl rfl rfl (as0 rfl ?_)
      | refine doF rfl rfl rfl rfl rfl (as0 rfl ?_)
      | refine noT rfl rfl rfl rfl rfl ?_
      | refine noF rfl rfl rfl rfl rfl ?_
      | refine noU rfl rfl rfl rfl rfl rfl ?_
      | refine go_block ?_
    refine go_ret rfl ?_
    exact h

/-- Pending stores, as cells. -/
def pcells (P : List (Int × Int)) : List Value := P.flatMap fun x => [.int .i64 x.1, .int .i64 x.2]

theorem pcells_length (P : List (Int × Int)) : (pcells P).length = P.length * 2 := by
  unfold pcells
  induction P with
  | nil => rfl
  | cons x l ih => simp [List.flatMap_cons, ih]; omega

theorem pcells_at {l pre suf : List (Int × Int)} {y : Int × Int} (h : l = pre ++ y :: suf) : ((pcells l).drop (pre.length * 2)).take 2 = [.int .i64 y.1, .int .i64 y.2] := by
  subst h
  unfold pcells
  rw [List.flatMap_append, List.drop_append_of_le_length (by have := pcells_length pre; unfold pcells at this; omega), List.drop_eq_nil_of_le (by have := pcells_length pre; unfold pcells at this; omega)]
  simp [List.flatMap_cons]

/-- The words that a line shows behind pending stores. -/
def showM (W : List Int) (P : List (Int × Int)) : List Int := P.foldl (fun w x => w.set x.1.toNat x.2) W

theorem showM_len (W : List Int) : ∀ P : List (Int × Int), (showM W P).length = W.length := by
  intro P
  induction P generalizing W with
  | nil => rfl
  | cons x l ih => simp [showM, ih (W.set x.1.toNat x.2)] ; unfold showM at ih; rw [ih]; simp

theorem lset_one : ∀ (cs : List Value) (o : Nat) (v : Value), o < cs.length → lset cs o [v] = cs.set o v
  | [], o, v, h => by simp at h
  | c :: cs, 0, v, h => by cases cs <;> simp [lset]
  | c :: cs, o + 1, v, h => by
    simp only [lset, List.set_cons_succ]
    rw [lset_one cs o v (by simpa using h)]

theorem ints_set (W : List Int) (i : Nat) (x : Int) : (ints W).set i (.int .i64 x) = ints (W.set i x) := by
  simp [ints, List.map_set]

theorem rds_sub {σ : Heap} {r o n : Nat} {cs : List Value} (h : σ.rds r o n = some cs) {k : Nat} {l : List Value} (hl : (cs.drop k).take l.length = l) : σ.rds r (o + k) l.length = some l := by
  refine rds_of fun i v hi => ?_
  have h2 := (rds_get h).2 (i := k + i) (v := v) (by
    rw [← hl, List.getElem?_take] at hi
    split at hi
    · simpa using hi
    · cases hi)
  rw [Nat.add_assoc]
  exact h2

/-- Some cells of a row. -/
theorem row_ldn {σ : Heap} {p : Option Addr} {n : Nat} {cs : List Value} (h : σ.row p n cs) {k j : Nat} {l : List Value} (hl : (cs.drop k).take l.length = l) (h0 : l ≠ []) (hj : j = k) {t : TI} (ht : t.isAgg = true) (hs : l.length = t.size) :
    p.isSome = true ∧ σ.ldT t (padd p j) = some (.agg l.toArray) := by
  subst hj
  unfold Heap.row at h
  split at h
  · refine ⟨rfl, ?_⟩
    rw [padd_some]
    refine ldT_agg ht ?_
    rw [← hs]
    exact rds_sub h hl
  · exfalso
    rw [h.2] at hl
    simp at hl
    exact h0 hl
  · exact h.elim

theorem c125 {rl o k : Nat} {W : List Int} {P : List (Int × Int)} {s : Sl} {σ : Heap} {R : Value → Heap → Prop} (hG : Glob σ) (hW : OkL W) (hw : σ.ldT ti149 (some ⟨rl, o, none⟩) = some (lineV W)) (hc : σ.ldT ti3 (some ⟨rl, o + 8, none⟩) = some (.int .i64 (encM W)))
    (hp : σ.ldT ti152 (some ⟨rl, o + 9, none⟩) = some (.slice s.p s.len s.cap)) (hr : σ.row s.p (s.len * 2) (pcells P)) (hk : k ≤ P.length) (hcap : P.length ≤ s.cap) (hcap' : P.length ≤ 1000000000) (hP : ∀ x ∈ P, 0 ≤ x.1 ∧ x.1 < 8)
    (h : R (.tuple #[lineV (showM W (P.take k)), .int .i64 0]) σ) : ACalls Tryz.prog 125 [.pointer (some ⟨rl, o, none⟩), .int .i64 k] σ R := by
  have hck : ∀ {σ' : Heap} {R : Value → Heap → Prop}, Glob σ' → R (.tuple #[lineV W, .int .i64 (encM W), .int .i64 0]) σ' → ACalls Tryz.prog 148 [lineV W, .int .i64 (encM W)] σ' R := fun hG' h' => c148 hG' hW h'
  generalize encM W = code at *
  obtain ⟨a, b, c, d, e, f, g, i, rfl⟩ := eight hW.len
  refine ACalls_fn fn125 rfl ?_
  repeat' first
    | refine go rfl ?_
    | refine ifT rfl ?_
    | refine ifF rfl ?_
    | refine doT rfl rfl rfl rfl rfl (as0 rfl ?_)
    | refine doF rfl rfl rfl rfl rfl (as0 rfl ?_)
    | refine noT rfl rfl rfl rfl rfl ?_
    | refine noF rfl rfl rfl rfl rfl ?_
    | refine noU rfl rfl rfl rfl rfl rfl ?_
    | refine go_block ?_
  refine op rfl rfl rfl rfl (as_new (ints [0, 0, 0, 0, 0, 0, 0, 0]) 8 rfl rfl rfl rfl fun b4 h4 => ?_)
  have E4 := (Ext.refl σ).ins h4 (.cells 1 (ints [0, 0, 0, 0, 0, 0, 0, 0]) 149 8)
  repeat' first
    | refine go rfl ?_
    | refine ifT rfl ?_
    | refine ifF rfl ?_
    | refine doT rfl rfl rfl rfl rfl (as0 rfl ?_)
    | refine doF rfl rfl rfl rfl rfl (as0 rfl ?_)
    | refine noT rfl rfl rfl rfl rfl ?_
    | refine noF rfl rfl rfl rfl rfl ?_
    | refine noU rfl rfl rfl rfl rfl rfl ?_
    | refine go_block ?_
  refine op rfl rfl rfl rfl (as1 rfl rfl ?_)
  refine op rfl rfl rfl rfl (as1 rfl rfl ?_)
  refine op rfl rfl rfl rfl (as1 rfl rfl ?_)
  refine opl (i := ti149) rfl rfl rfl rfl rfl rfl rfl rfl (E4.ldT hw) ⟨((_ : Int), (_ : Int), (_ : Int), (_ : Int), (_ : Int), (_ : Int), (_ : Int), (_ : Int)), rfl⟩ ?_
  repeat' first
    | refine go rfl ?_
    | refine ifT rfl ?_
    | refine ifF rfl ?_
    | refine doT rfl rfl rfl rfl rfl (as0 rfl ?_)
    | refine doF rfl rfl rfl rfl rfl (as0 rfl ?_)
    | refine noT rfl rfl rfl rfl rfl ?_
    | refine noF rfl rfl rfl rfl rfl ?_
    | refine noU rfl rfl rfl rfl rfl rfl ?_
    | refine go_block ?_
  refine op rfl rfl rfl rfl (as1 rfl rfl ?_)
  refine op rfl rfl rfl rfl (as1 rfl rfl ?_)
  refine op rfl rfl rfl rfl (as1 rfl rfl ?_)
  refine opl (i := ti3) rfl rfl rfl rfl rfl rfl rfl rfl (E4.ldT hc) ⟨(_ : Int), rfl⟩ ?_
  refine opc rfl rfl rfl rfl rfl rfl rfl rfl rfl rfl (hck (hG.ins h4 _) (shK_mk ⟨(((_ : Int), (_ : Int), (_ : Int), (_ : Int), (_ : Int), (_ : Int), (_ : Int), (_ : Int)), (_ : Int), (_ : Int)), rfl⟩ ?_))
  repeat' first
    | refine go rfl ?_
    | refine ifT rfl ?_
    | refine ifF rfl ?_
    | refine doT rfl rfl rfl rfl rfl (as0 rfl ?_)
    | refine doF rfl rfl rfl rfl rfl (as0 rfl ?_)
    | refine noT rfl rfl rfl rfl rfl ?_
    | refine noF rfl rfl rfl rfl rfl ?_
    | refine noU rfl rfl rfl rfl rfl rfl ?_
    | refine go_block ?_
  refine op rfl rfl rfl rfl (as_new (ints [0, 0, 0, 0, 0, 0, 0, 0]) 8 rfl rfl rfl rfl fun b6 h6 => ?_)
  obtain ⟨n64, h6'⟩ := ins_none h6
  refine opn rfl rfl rfl (as_store_at (ints [a, b, c, d, e, f, g, i]) rfl rfl rfl rfl rfl (hit ..) rfl rfl rfl rfl ?_)
  rw [ins_ins]
  have E6 := E4.ins h6' (.cells 1 (ints [a, b, c, d, e, f, g, i]) 149 8)
  repeat' first
    | refine go rfl ?_
    | refine ifT rfl ?_
    | refine ifF rfl ?_
    | refine doT rfl rfl rfl rfl rfl (as0 rfl ?_)
    | refine doF rfl rfl rfl rfl rfl (as0 rfl ?_)
    | refine noT rfl rfl rfl rfl rfl ?_
    | refine noF rfl rfl rfl rfl rfl ?_
    | refine noU rfl rfl rfl rfl rfl rfl ?_
    | refine go_block ?_
  refine op rfl rfl rfl rfl (as1 rfl rfl ?_)
  refine op rfl rfl rfl rfl (as1 rfl rfl ?_)
  refine opl (i := ti152) rfl rfl rfl rfl rfl rfl rfl rfl (E6.ldT hp) ⟨(s : Sl), rfl⟩ ?_
  repeat' first
    | refine go rfl ?_
    | refine ifT rfl ?_
    | refine ifF rfl ?_
    | refine doT rfl rfl rfl rfl rfl (as0 rfl ?_)
    | refine doF rfl rfl rfl rfl rfl (as0 rfl ?_)
    | refine noT rfl rfl rfl rfl rfl ?_
    | refine noF rfl rfl rfl rfl rfl ?_
    | refine noU rfl rfl rfl rfl rfl rfl ?_
    | refine go_block ?_
  refine op rfl rfl rfl rfl (as2 rfl (by omega) (by omega) ?_)
  repeat' first
    | refine go rfl ?_
    | refine ifT rfl ?_
    | refine ifF rfl ?_
    | refine doT rfl rfl rfl rfl rfl (as0 rfl ?_)
    | refine doF rfl rfl rfl rfl rfl (as0 rfl ?_)
    | refine noT rfl rfl rfl rfl rfl ?_
    | refine noF rfl rfl rfl rfl rfl ?_
    | refine noU rfl rfl rfl rfl rfl rfl ?_
    | refine go_block ?_
  have hkk : (k : Int).toNat = k := by omega
  have eP : P = P.take k ++ P.drop k := (List.take_append_drop k P).symm
  have hlk : (P.take k).length = k := by simp; omega
  refine go_loop [(4, .pointer (some ⟨b4, 0, none⟩)), (6, .pointer (some ⟨b6, 0, none⟩)), (35, .slice s.p (k : Int).toNat s.cap), (36, .int .i64 ((k : Int).toNat : Nat))] [(37, .sc (.int .i64))]
    (fun (j : Int) σ' => Ext σ σ' ∧ ∃ pre suf, P.take k = pre ++ suf ∧ j = (pre.length : Int) ∧ σ' b4 = some (.cells 1 (ints [0, 0, 0, 0, 0, 0, 0, 0]) 149 8) ∧ σ' b6 = some (.cells 1 (ints (showM [a, b, c, d, e, f, g, i] pre)) 149 8))
    (fun (j : Int) _ => (k - j.toNat : Nat)) (0 : Int) ⟨rfl, rfl, rfl, rfl, trivial⟩ rfl ⟨E6, [], P.take k, rfl, rfl, miss (Ne.symm n64) (hit ..), hit ..⟩ ?_
  rintro (j : Int) σ' ⟨E, pre, suf, hpp, hj, hb4, hb6⟩
  repeat' first
    | refine go rfl ?_
    | refine ifT rfl ?_
    | refine ifF rfl ?_
    | refine doT rfl rfl rfl rfl rfl (as0 rfl ?_)
    | refine doF rfl rfl rfl rfl rfl (as0 rfl ?_)
    | refine noT rfl rfl rfl rfl rfl ?_
    | refine noF rfl rfl rfl rfl rfl ?_
    | refine noU rfl rfl rfl rfl rfl rfl ?_
    | refine go_block ?_
  refine go_cond rfl (fun hlt => ?_) (fun hlt => ?_)
  · obtain ⟨y, suf, rfl⟩ := more_cons hpp hj (by rw [hlk, ← hkk]; exact hlt)
    have hjk : j < ((k : Int).toNat : Int) := of_decide_eq_true hlt
    have eP2 : P = pre ++ y :: (suf ++ P.drop k) := by
      rw [← List.cons_append, ← List.append_assoc, ← hpp]
      exact eP
    have hy := hP y (by rw [eP2]; simp)
    obtain ⟨q1, q2⟩ := row_ldn (E.row hr) (k := pre.length * 2) (j := j.toNat * ti244.size) (l := [.int .i64 y.1, .int .i64 y.2]) (pcells_at eP2) (by simp) (by rw [hj]; rfl) (t := ti244) rfl rfl
    repeat' first
      | refine go rfl ?_
      | refine ifT rfl ?_
      | refine ifF rfl ?_
      | refine doT rfl rfl rfl rfl rfl (as0 rfl ?_)
      | refine doF rfl rfl rfl rfl rfl (as0 rfl ?_)
      | refine noT rfl rfl rfl rfl rfl ?_
      | refine noF rfl rfl rfl rfl rfl ?_
      | refine noU rfl rfl rfl rfl rfl rfl ?_
      | refine go_block ?_
    refine op rfl rfl rfl rfl (as3 rfl (by omega) hjk q1 ?_)
    refine opl (i := ti244) rfl rfl rfl rfl rfl rfl rfl rfl q2 ⟨((_ : Int), (_ : Int)), rfl⟩ ?_
    repeat' first
      | refine go rfl ?_
      | refine ifT rfl ?_
      | refine ifF rfl ?_
      | refine doT rfl rfl rfl rfl rfl (as0 rfl ?_)
      | refine doF rfl rfl rfl rfl rfl (as0 rfl ?_)
      | refine noT rfl rfl rfl rfl rfl ?_
      | refine noF rfl rfl rfl rfl rfl ?_
      | refine noU rfl rfl rfl rfl rfl rfl ?_
      | refine go_block ?_
    refine op rfl rfl rfl rfl (as_new [.int .i64 0, .int .i64 0] 2 rfl rfl rfl rfl fun b10 h10 => ?_)
    have m4 : b4 ≠ b10 := fun e => by rw [e, h10] at hb4; cases hb4
    have m6 : b6 ≠ b10 := fun e => by rw [e, h10] at hb6; cases hb6
    refine opn rfl rfl rfl (as_store_at [.int .i64 y.1, .int .i64 y.2] rfl rfl rfl rfl rfl (hit ..) rfl rfl rfl rfl ?_)
    rw [ins_ins]
    repeat' first
      | refine go rfl ?_
      | refine ifT rfl ?_
      | refine ifF rfl ?_
      | refine doT rfl rfl rfl rfl rfl (as0 rfl ?_)
      | refine doF rfl rfl rfl rfl rfl (as0 rfl ?_)
      | refine noT rfl rfl rfl rfl rfl ?_
      | refine noF rfl rfl rfl rfl rfl ?_
      | refine noU rfl rfl rfl rfl rfl rfl ?_
      | refine go_block ?_
    refine op rfl rfl rfl rfl (as1 rfl rfl ?_)
    refine opl (i := ti3) rfl rfl rfl rfl rfl rfl rfl rfl (ld1 (o := 0) (hit ..) rfl rfl) ⟨(_ : Int), rfl⟩ ?_
    refine op rfl rfl rfl rfl (as1 rfl rfl ?_)
    refine opl (i := ti3) rfl rfl rfl rfl rfl rfl rfl rfl (ld1 (o := 1) (hit ..) rfl rfl) ⟨(_ : Int), rfl⟩ ?_
    refine op rfl rfl rfl rfl (as3 rfl hy.1 hy.2 rfl ?_)
    have hlen : (ints (showM [a, b, c, d, e, f, g, i] pre)).length = 8 := by rw [ints_length, showM_len]; rfl
    rw [padd_some b6 0 (y.1.toNat * ti3.size)]
    refine opn rfl rfl rfl (as_store_at (off := 0 + y.1.toNat * ti3.size) (ints (showM [a, b, c, d, e, f, g, i] (pre ++ [y]))) rfl rfl rfl rfl rfl (miss m6 hb6) rfl ?_ rfl ?_ ?_)
    · rw [hlen]
      have : 0 + y.1.toNat * ti3.size + 1 ≤ 8 := by simp [ti3]; omega
      exact Nat.ble_eq_true_of_le this
    · have e1 : 0 + y.1.toNat * ti3.size = y.1.toNat := by simp [ti3]
      rw [e1]
      show lset _ _ [.int .i64 y.2] = _
      rw [lset_one _ _ _ (by rw [hlen]; omega), ints_set]
      simp [showM]
    repeat' first
      | refine go rfl ?_
      | refine ifT rfl ?_
      | refine ifF rfl ?_
      | refine doT rfl rfl rfl rfl rfl (as0 rfl ?_)
      | refine doF rfl rfl rfl rfl rfl (as0 rfl ?_)
      | refine noT rfl rfl rfl rfl rfl ?_
      | refine noF rfl rfl rfl rfl rfl ?_
      | refine noU rfl rfl rfl rfl rfl rfl ?_
      | refine go_block ?_
    refine go_meet ((pre ++ [y]).length : Int) ⟨rfl, rfl, rfl, rfl, trivial⟩ (by rw [← wrap_next hpp hj (by rw [hlk]; omega)]; rfl)
      ⟨⟨(E.ins (E.none h10) _).ins h6' _, pre ++ [y], suf, app_next hpp, rfl, miss (Ne.symm n64) (miss m4 hb4), hit ..⟩, by have := less_next hpp hj; rw [hlk] at this; exact this⟩
  · have := more_nil hpp hj (by rw [hlk, ← hkk]; exact hlt)
    subst this
    have hpre : P.take k = pre := by simpa using hpp
    repeat' first
      | refine go rfl ?_
      | refine ifT rfl ?_
      | refine ifF rfl ?_
      | refine doT rfl rfl rfl rfl rfl (as0 rfl ?_)
      | refine doF rfl rfl rfl rfl rfl (as0 rfl ?_)
      | refine noT rfl rfl rfl rfl rfl ?_
      | refine noF rfl rfl rfl rfl rfl ?_
      | refine noU rfl rfl rfl rfl rfl rfl ?_
      | refine go_block ?_
    refine go_by_exit ?_
    repeat' first
      | refine go rfl ?_
      | refine ifT rfl ?_
      | refine ifF rfl ?_
      | refine doT rfl rfl rfl rfl rfl (as0 rfl ?_)
      | refine doF rfl rfl rfl rfl rfl (as0 rfl ?_)
      | refine noT rfl rfl rfl rfl rfl ?_
      | refine noF rfl rfl rfl rfl rfl ?_
      | refine noU rfl rfl rfl rfl rfl rfl ?_
      | refine go_block ?_
    obtain ⟨a', b', c', d', e', f', g', i', hW'⟩ := eight (W := showM [a, b, c, d, e, f, g, i] pre) (by rw [showM_len]; rfl)
    rw [hW'] at hb6
    rw [hpre, hW'] at h
    refine opl (i := ti149) rfl rfl rfl rfl rfl rfl rfl rfl (ldn (o := 0) (l := ints [a', b', c', d', e', f', g', i']) hb6 rfl rfl rfl) ⟨((_ : Int), (_ : Int), (_ : Int), (_ : Int), (_ : Int), (_ : Int), (_ : Int), (_ : Int)), rfl⟩ ?_
    refine opn rfl rfl rfl (as_store_at (ints [a', b', c', d', e', f', g', i']) rfl rfl rfl rfl rfl hb4 rfl rfl rfl rfl ?_)
    repeat' first
      | refine go rfl ?_
      | refine ifT rfl ?_
      | refine ifF rfl ?_
      | refine doT rfl rfl rfl rfl rfl (as0 rfl ?_)
      | refine doF rfl rfl rfl rfl rfl (as0 rfl ?_)
      | refine noT rfl rfl rfl rfl rfl ?_
      | refine noF rfl rfl rfl rfl rfl ?_
      | refine noU rfl rfl rfl rfl rfl rfl ?_
      | refine go_block ?_
    refine go_ret' (ares_cell rfl rfl (ldn (o := 0) (l := ints [a', b', c', d', e', f', g', i']) (hit ..) rfl rfl rfl) rfl (ares_tmp rfl ares_nil)) (E.ins h4 _).weak ?_
    exact h

end Go.Eng

/- A memory in the view; loading a word. Conditions: in each. -/
namespace Go.Eng
open Go Go.Proofs

set_option maxRecDepth 10000

/-- A line of a memory: its durable words, its pending stores and the slice that holds them, how many of them are flushed. -/
structure MLine where
  w : List Int
  p : List (Int × Int)
  s : Sl
  mark : Nat

def MLine.cells (L : MLine) : List Value := ints L.w ++ [.int .i64 (encM L.w), .slice L.s.p L.s.len L.s.cap, .int .i64 L.mark]

theorem has_bigK : ∃ n : Nat, n = 8192 := ⟨_, rfl⟩

/-- 8192, which nothing computes with. -/
noncomputable def bigK : Nat := Classical.choose has_bigK
theorem bigK_eq : bigK = 8192 := Classical.choose_spec has_bigK

/-- The tags of the blocks of the object number g. -/
noncomputable def tagM (g x : Nat) : Nat := g * bigK + x + bigK
theorem tagM_eq (g x : Nat) : tagM g x = g * 8192 + x + 8192 := by unfold tagM; rw [bigK_eq]

theorem tagM_ne0 (g x : Nat) : Nat.beq (tagM g x) 0 = false := by
  rw [tagM_eq]
  cases h : Nat.beq (g * 8192 + x + 8192) 0 with
  | false => rfl
  | true => have := Nat.eq_of_beq_eq_true h; omega

/-- A slice with pairs of one's own. -/
def OwnP (σ : Heap) (t : Nat) (el : TypeId) (size : Nat) (s : Sl) (cs : List Value) : Prop :=
  cs.length = s.len * size ∧ ((s.len = 0 ∧ s.cap = 0 ∧ σ.row s.p 0 []) ∨ ∃ r, s.p = some ⟨r, 0, none⟩ ∧ s.len ≤ s.cap ∧ σ r = some (.cells t cs el (s.cap * size)))

structure LineOK (σ : Heap) (t : Nat) (L : MLine) : Prop where
  ok : OkL L.w
  pend : ∀ x ∈ L.p, (0 ≤ x.1 ∧ x.1 < 8) ∧ okW x.2
  own : OwnP σ t 244 2 L.s (pcells L.p)
  few : L.p.length ≤ 1000000
  mark : L.mark ≤ L.p.length

/-- The map of the busy lines: the lines with something pending, each once. -/
structure BusyOK (es : Array MapEntry) (clock : Nat) (ls : List MLine) (B : List Nat) : Prop where
  ents : es.toList.map (fun e => (e.key, e.val)) = B.map fun i => (.int .i64 (i : Int), .bool true)
  nodup : B.Nodup
  born : ∀ e ∈ es.toList, e.born < clock
  stamps : (es.toList.map (·.born)).Nodup
  iff : ∀ i, i ∈ B ↔ ∃ L, ls[i]? = some L ∧ L.p ≠ []

/-- A memory at a block of the view, its lines, how many events it has at most. -/
def MemAt (g : Nat) (σ : Heap) (rm : Nat) (ls : List MLine) (ev : Nat) : Prop :=
  ∃ (rl rb : Nat) (span : Int) (es : Array MapEntry) (clock : Nat) (B : List Nat) (e : Sl) (cs : List Value),
    σ rm = some (.cells (tagM g 0) [.slice (some ⟨rl, 0, none⟩) ls.length ls.length, .map (some rb), .int .i64 span, .slice e.p e.len e.cap] 158 4) ∧
    σ rl = some (.cells (tagM g 1) (ls.flatMap MLine.cells) 154 (ls.length * 11)) ∧
    σ rb = some (.other (tagM g 2) (.map es clock)) ∧ OwnP σ (tagM g 3) 240 12 e cs ∧ e.len ≤ ev ∧ BusyOK es clock ls B ∧ (∀ (i : Nat) (L : MLine), ls[i]? = some L → LineOK σ (tagM g (4 + i)) L) ∧ ls.length ≤ 4096

theorem lineCells_length {L : MLine} (h : L.w.length = 8) : L.cells.length = 11 := by
  unfold MLine.cells
  simp [ints_length, h]

theorem flat_get {ls : List MLine} (h : ∀ L ∈ ls, L.w.length = 8) {i j : Nat} {L : MLine} (hi : ls[i]? = some L) (hj : j < 11) : (ls.flatMap MLine.cells)[i * 11 + j]? = L.cells[j]? := by
  induction ls generalizing i with
  | nil => simp at hi
  | cons x ls ih =>
    have hx := lineCells_length (h x (List.mem_cons_self ..))
    rw [List.flatMap_cons]
    cases i with
    | zero =>
      simp only [List.getElem?_cons_zero, Option.some.injEq] at hi
      subst hi
      rw [List.getElem?_append_left (by omega)]
      simp
    | succ i =>
      rw [List.getElem?_append_right (by omega), hx]
      have e : (i + 1) * 11 + j - 11 = i * 11 + j := by omega
      rw [e]
      exact ih (fun L hL => h L (List.mem_cons_of_mem _ hL)) (by simpa using hi)

theorem lines_len {ls : List MLine} (h : ∀ L ∈ ls, L.w.length = 8) : (ls.flatMap MLine.cells).length = ls.length * 11 := by
  induction ls with
  | nil => rfl
  | cons x ls ih =>
    rw [List.flatMap_cons, List.length_append, lineCells_length (h x (List.mem_cons_self ..)), ih (fun L hL => h L (List.mem_cons_of_mem _ hL)), List.length_cons]
    omega

theorem flat_seg {ls : List MLine} (h : ∀ L ∈ ls, L.w.length = 8) {i : Nat} {L : MLine} (hi : ls[i]? = some L) : ((ls.flatMap MLine.cells).drop (i * 11)).take 11 = L.cells := by
  have hL : L ∈ ls := List.mem_of_getElem? hi
  have hlen := lineCells_length (h L hL)
  have hlt : i < ls.length := (List.getElem?_eq_some_iff.1 hi).1
  apply List.ext_getElem?
  intro j
  rw [List.getElem?_take]
  by_cases hj : j < 11
  · rw [if_pos hj, List.getElem?_drop, flat_get h hi hj]
  · rw [if_neg hj, List.getElem?_eq_none (by omega)]

section
variable {g : Nat} {σ : Heap} {rm : Nat} {ls : List MLine} {ev : Nat}

theorem MemAt.w8 (h : MemAt g σ rm ls ev) : ∀ L ∈ ls, L.w.length = 8 := by
  obtain ⟨rl, rb, span, es, clock, B, e, cs, h1, h2, h3, h4, h5, h6, h7, h8⟩ := h
  intro L hL
  obtain ⟨i, hi⟩ := List.mem_iff_getElem?.1 hL
  exact (h7 i L hi).ok.len

/-- The slice of the lines. -/
theorem MemAt.lines (h : MemAt g σ rm ls ev) : ∃ rl, σ.ldT ti147 (some ⟨rm, 0, none⟩) = some (.slice (some ⟨rl, 0, none⟩) ls.length ls.length) ∧ σ rl = some (.cells (tagM g 1) (ls.flatMap MLine.cells) 154 (ls.length * 11)) := by
  obtain ⟨rl, rb, span, es, clock, B, e, cs, h1, h2, h3, h4, h5, h6, h7, h8⟩ := h
  exact ⟨rl, ld1 (o := 0) h1 rfl rfl, h2⟩

theorem MemAt.ext (h : MemAt g σ rm ls ev) {σ' : Heap} (E : Ext σ σ') : MemAt g σ' rm ls ev := by
  obtain ⟨rl, rb, span, es, clock, B, e, cs, h1, h2, h3, ⟨h4, h4'⟩, h5, h6, h7, h8⟩ := h
  have own : ∀ {t el size s cs}, OwnP σ t el size s cs → OwnP σ' t el size s cs := fun ⟨a, b⟩ => ⟨a, b.elim (fun ⟨x, y, z⟩ => .inl ⟨x, y, E.row z⟩) (fun ⟨r, x, y, z⟩ => .inr ⟨r, x, y, E _ _ z⟩)⟩
  exact ⟨rl, rb, span, es, clock, B, e, cs, E _ _ h1, E _ _ h2, E _ _ h3, own ⟨h4, h4'⟩, h5, h6, fun i L hi => ⟨(h7 i L hi).ok, (h7 i L hi).pend, own (h7 i L hi).own, (h7 i L hi).few, (h7 i L hi).mark⟩, h8⟩

theorem OwnP.row {t el size : Nat} {s : Sl} {cs : List Value} (h : OwnP σ t el size s cs) : σ.row s.p (s.len * size) cs := by
  obtain ⟨h0, ⟨h1, h2, h3⟩ | ⟨r, h1, h2, h3⟩⟩ := h
  · have : cs = [] := by rw [h1] at h0; simpa using h0
    subst this
    rw [h1]
    simpa using h3
  · rw [h1]
    exact row_block h3 h0

theorem OwnP.cap {t el size : Nat} {s : Sl} {cs : List Value} (h : OwnP σ t el size s cs) : s.len ≤ s.cap := by
  obtain ⟨h0, ⟨h1, h2, h3⟩ | ⟨r, h1, h2, h3⟩⟩ := h
  · omega
  · exact h2

/-- The parts of a line. -/
theorem MemAt.line (h : MemAt g σ rm ls ev) {rl : Nat} (hl : σ rl = some (.cells (tagM g 1) (ls.flatMap MLine.cells) 154 (ls.length * 11))) {i : Nat} {L : MLine} (hi : ls[i]? = some L) :
    LineOK σ (tagM g (4 + i)) L ∧ σ.ldT ti149 (some ⟨rl, i * 11, none⟩) = some (lineV L.w) ∧ σ.ldT ti3 (some ⟨rl, i * 11 + 8, none⟩) = some (.int .i64 (encM L.w)) ∧ σ.ldT ti152 (some ⟨rl, i * 11 + 9, none⟩) = some (.slice L.s.p L.s.len L.s.cap) ∧
      σ.ldT ti3 (some ⟨rl, i * 11 + 10, none⟩) = some (.int .i64 L.mark) := by
  have hw := h.w8
  obtain ⟨rl', rb, span, es, clock, B, e, cs, h1, h2, h3, h4, h5, h6, h7, h8⟩ := h
  have hL := h7 i L hi
  have h8' := hL.ok.len
  have at_ : ∀ j v, L.cells[j]? = some v → j < 11 → (ls.flatMap MLine.cells)[i * 11 + j]? = some v := fun j v hv hj => (flat_get hw hi hj).trans hv
  have hlen : (ints L.w).length = 8 := by rw [ints_length, h8']
  have c8 : L.cells[8]? = some (.int .i64 (encM L.w)) := by
    unfold MLine.cells
    rw [List.getElem?_append_right (by omega), hlen]; rfl
  have c9 : L.cells[9]? = some (.slice L.s.p L.s.len L.s.cap) := by
    unfold MLine.cells
    rw [List.getElem?_append_right (by omega), hlen]; rfl
  have c10 : L.cells[10]? = some (.int .i64 L.mark) := by
    unfold MLine.cells
    rw [List.getElem?_append_right (by omega), hlen]; rfl
  refine ⟨hL, ldn hl rfl hlen ?_, ld1 hl rfl (at_ 8 _ c8 (by omega)), ld1 hl rfl (at_ 9 _ c9 (by omega)), ld1 hl rfl (at_ 10 _ c10 (by omega))⟩
  have hseg := flat_seg hw hi
  have : ((ls.flatMap MLine.cells).drop (i * 11)).take 8 = ints L.w := by
    have e : ((ls.flatMap MLine.cells).drop (i * 11)).take 8 = (((ls.flatMap MLine.cells).drop (i * 11)).take 11).take 8 := by rw [List.take_take]; rfl
    rw [e, hseg]
    unfold MLine.cells
    rw [List.take_append_of_le_length (by omega), List.take_of_length_le (by omega)]
  rw [hlen]
  exact this

end

/-- The word at an address, and whether there is one. -/
def loadM (ls : List MLine) (at_ : Int) : Int × Int :=
  if at_ < 0 then (0, 40) else match ls[(at_ / 8).toNat]? with
    | some L => ((showM L.w L.p).getD (at_ % 8).toNat 0, 0)
    | none => (0, 40)

theorem quo_eq {x : Int} (h0 : 0 ≤ x) (h1 : x < 9223372036854775808) {n : Int} (hn : 0 < n) (hn1 : n ≤ 1000000) : quoI .i64 x n = x / n := by
  unfold quoI
  have e : Int.tdiv x n = x / n := Int.tdiv_eq_ediv_of_nonneg h0
  rw [e]
  have h2 : 0 ≤ x / n := Int.ediv_nonneg h0 (by omega)
  have h3 : x / n ≤ x := Int.ediv_le_self n h0
  exact wrap_i64 (by omega) (by omega)

theorem rem_eq {x : Int} (h0 : 0 ≤ x) (n : Int) : Int.tmod x n = x % n := Int.tmod_eq_emod_of_nonneg h0

theorem c93 {g : Nat} {σ : Heap} {rm : Nat} {ls : List MLine} {ev : Nat} {x : Int} {R : Value → Heap → Prop} (hG : Glob σ) (hM : MemAt g σ rm ls ev) (hx : x < 9223372036854775808) (h : R (pairV (loadM ls x)) σ) :
    ACalls Tryz.prog 93 [.pointer (some ⟨rm, 0, none⟩), .int .i64 x] σ R := by
  obtain ⟨rl, hm, hl⟩ := hM.lines
  unfold loadM at h
  refine ACalls_fn fn93 rfl ?_
  repeat' first
    | refine go rfl ?_
    | refine ifT rfl ?_
    | refine ifF rfl ?_
    | refine doT rfl rfl rfl rfl rfl (as0 rfl ?_)
    | refine doF rfl rfl rfl rfl rfl (as0 rfl ?_)
    | refine noT rfl rfl rfl rfl rfl ?_
    | refine noF rfl rfl rfl rfl rfl ?_
    | refine noU rfl rfl rfl rfl rfl rfl ?_
    | refine go_block ?_
  cases h1 : decide (x < 0)
  · have hx0 : ¬ x < 0 := of_decide_eq_false h1
    rw [if_neg hx0] at h
    have hq : quoI .i64 x 8 = x / 8 := quo_eq (by omega) hx (by decide) (by decide)
    have hi0 : 0 ≤ x / 8 := by omega
    repeat' first
      | refine go rfl ?_
      | refine ifT rfl ?_
      | refine ifF rfl ?_
      | refine doT rfl rfl rfl rfl rfl (as0 rfl ?_)
      | refine doF rfl rfl rfl rfl rfl (as0 rfl ?_)
      | refine noT rfl rfl rfl rfl rfl ?_
      | refine noF rfl rfl rfl rfl rfl ?_
      | refine noU rfl rfl rfl rfl rfl rfl ?_
      | refine go_block ?_
    refine doF rfl rfl rfl rfl rfl (as1 rfl (by decide) ?_)
    refine doF rfl rfl rfl rfl rfl ?_
    refine as_call rfl rfl rfl rfl rfl rfl ?_
    refine c124 hm (shK_mk ⟨_, rfl⟩ ?_)
    rw [hq]
    have hd : decide (0 ≤ x / 8) = true := decide_eq_true hi0
    rw [hd]
    cases hL : ls[(x / 8).toNat]? with
    | none =>
      rw [hL] at h
      dsimp only at h
      have hge : ls.length ≤ (x / 8).toNat := List.getElem?_eq_none_iff.1 hL
      have : decide (x / 8 < (ls.length : Int)) = false := decide_eq_false (by omega)
      rw [this]
      repeat' first
        | refine go rfl ?_
        | refine ifT rfl ?_
        | refine ifF rfl ?_
        | refine doT rfl rfl rfl rfl rfl (as0 rfl ?_)
        | refine doF rfl rfl rfl rfl rfl (as0 rfl ?_)
        | refine noT rfl rfl rfl rfl rfl ?_
        | refine noF rfl rfl rfl rfl rfl ?_
        | refine noU rfl rfl rfl rfl rfl rfl ?_
        | refine go_block ?_
      refine go_ret rfl ?_
      exact h
    | some L =>
      rw [hL] at h
      dsimp only at h
      have hlt : (x / 8).toNat < ls.length := (List.getElem?_eq_some_iff.1 hL).1
      have hlt' : x / 8 < (ls.length : Int) := by omega
      have : decide (x / 8 < (ls.length : Int)) = true := decide_eq_true hlt'
      rw [this]
      obtain ⟨hok, l1, l2, l3, l4⟩ := hM.line hl hL
      repeat' first
        | refine go rfl ?_
        | refine ifT rfl ?_
        | refine ifF rfl ?_
        | refine doT rfl rfl rfl rfl rfl (as0 rfl ?_)
        | refine doF rfl rfl rfl rfl rfl (as0 rfl ?_)
        | refine noT rfl rfl rfl rfl rfl ?_
        | refine noF rfl rfl rfl rfl rfl ?_
        | refine noU rfl rfl rfl rfl rfl rfl ?_
        | refine go_block ?_
      refine op rfl rfl rfl rfl (as1 rfl rfl ?_)
      refine op rfl rfl rfl rfl (as1 rfl rfl ?_)
      refine opl (i := ti147) rfl rfl rfl rfl rfl rfl rfl rfl hm ⟨((⟨some ⟨rl, 0, none⟩, ls.length, ls.length⟩) : Sl), rfl⟩ ?_
      repeat' first
        | refine go rfl ?_
        | refine ifT rfl ?_
        | refine ifF rfl ?_
        | refine doT rfl rfl rfl rfl rfl (as0 rfl ?_)
        | refine doF rfl rfl rfl rfl rfl (as0 rfl ?_)
        | refine noT rfl rfl rfl rfl rfl ?_
        | refine noF rfl rfl rfl rfl rfl ?_
        | refine noU rfl rfl rfl rfl rfl rfl ?_
        | refine go_block ?_
      refine op rfl rfl rfl rfl (as1 rfl (by decide) ?_)
      rw [hq]
      refine op rfl rfl rfl rfl (as3 rfl hi0 hlt' rfl ?_)
      have ea : padd (some ⟨rl, 0, none⟩) ((x / 8).toNat * ti154.size) = some ⟨rl, (x / 8).toNat * 11, none⟩ := by
        rw [padd_some]
        simp [ti154]
      rw [ea]
      repeat' first
        | refine go rfl ?_
        | refine ifT rfl ?_
        | refine ifF rfl ?_
        | refine doT rfl rfl rfl rfl rfl (as0 rfl ?_)
        | refine doF rfl rfl rfl rfl rfl (as0 rfl ?_)
        | refine noT rfl rfl rfl rfl rfl ?_
        | refine noF rfl rfl rfl rfl rfl ?_
        | refine noU rfl rfl rfl rfl rfl rfl ?_
        | refine go_block ?_
      refine op rfl rfl rfl rfl (as1 rfl rfl ?_)
      refine op rfl rfl rfl rfl (as1 rfl rfl ?_)
      refine opl (i := ti152) rfl rfl rfl rfl rfl rfl rfl rfl l3 ⟨(L.s : Sl), rfl⟩ ?_
      repeat' first
        | refine go rfl ?_
        | refine ifT rfl ?_
        | refine ifF rfl ?_
        | refine doT rfl rfl rfl rfl rfl (as0 rfl ?_)
        | refine doF rfl rfl rfl rfl rfl (as0 rfl ?_)
        | refine noT rfl rfl rfl rfl rfl ?_
        | refine noF rfl rfl rfl rfl rfl ?_
        | refine noU rfl rfl rfl rfl rfl rfl ?_
        | refine go_block ?_
      have hpl : L.p.length = L.s.len := by
        have := hok.own.1
        rw [pcells_length] at this
        omega
      obtain ⟨a, b, c, d, e, f, g', i', hs8⟩ := eight (W := showM L.w L.p) (by rw [showM_len]; exact hok.ok.len)
      refine opc rfl rfl rfl rfl rfl rfl rfl rfl rfl rfl (c125 (k := L.s.len) hG hok.ok l1 l2 l3 hok.own.row (by omega) (by have := hok.own.cap; omega) (by have := hok.few; omega) (fun y hy => (hok.pend y hy).1) (shK_mk (by rw [List.take_of_length_le (by omega), hs8]; exact ⟨(((_ : Int), (_ : Int), (_ : Int), (_ : Int), (_ : Int), (_ : Int), (_ : Int), (_ : Int)), (_ : Int)), rfl⟩) ?_))
      rw [List.take_of_length_le (by omega), hs8]
      rw [hs8] at h
      repeat' first
        | refine go rfl ?_
        | refine ifT rfl ?_
        | refine ifF rfl ?_
        | refine doT rfl rfl rfl rfl rfl (as0 rfl ?_)
        | refine doF rfl rfl rfl rfl rfl (as0 rfl ?_)
        | refine noT rfl rfl rfl rfl rfl ?_
        | refine noF rfl rfl rfl rfl rfl ?_
        | refine noU rfl rfl rfl rfl rfl rfl ?_
        | refine go_block ?_
      refine op rfl rfl rfl rfl (as_new (ints [0, 0, 0, 0, 0, 0, 0, 0]) 8 rfl rfl rfl rfl fun b7 h7 => ?_)
      refine opn rfl rfl rfl (as_store_at (ints [a, b, c, d, e, f, g', i']) rfl rfl rfl rfl rfl (hit ..) rfl rfl rfl rfl ?_)
      rw [ins_ins]
      repeat' first
        | refine go rfl ?_
        | refine ifT rfl ?_
        | refine ifF rfl ?_
        | refine doT rfl rfl rfl rfl rfl (as0 rfl ?_)
        | refine doF rfl rfl rfl rfl rfl (as0 rfl ?_)
        | refine noT rfl rfl rfl rfl rfl ?_
        | refine noF rfl rfl rfl rfl rfl ?_
        | refine noU rfl rfl rfl rfl rfl rfl ?_
        | refine go_block ?_
      refine op rfl rfl rfl rfl (as1 rfl (by decide) ?_)
      have hr : Int.tmod x 8 = x % 8 := rem_eq (by omega) 8
      rw [hr]
      refine op rfl rfl rfl rfl (as3 rfl (by omega) (by omega) rfl ?_)
      have eb : padd (some ⟨b7, 0, none⟩) ((x % 8).toNat * ti3.size) = some ⟨b7, (x % 8).toNat, none⟩ := by
        rw [padd_some]
        simp [ti3]
      rw [eb]
      have hg : (ints [a, b, c, d, e, f, g', i'])[(x % 8).toNat]? = some (.int .i64 ([a, b, c, d, e, f, g', i'].getD (x % 8).toNat 0)) := by
        have : (x % 8).toNat < [a, b, c, d, e, f, g', i'].length := by simp; omega
        rw [ints_get, List.getD_eq_getElem?_getD, List.getElem?_eq_getElem this]
        rfl
      refine opl (i := ti3) rfl rfl rfl rfl rfl rfl rfl rfl (ld1 (hit ..) rfl hg) ⟨(_ : Int), rfl⟩ ?_
      repeat' first
        | refine go rfl ?_
        | refine ifT rfl ?_
        | refine ifF rfl ?_
        | refine doT rfl rfl rfl rfl rfl (as0 rfl ?_)
        | refine doF rfl rfl rfl rfl rfl (as0 rfl ?_)
        | refine noT rfl rfl rfl rfl rfl ?_
        | refine noF rfl rfl rfl rfl rfl ?_
        | refine noU rfl rfl rfl rfl rfl rfl ?_
        | refine go_block ?_
      refine go_ret' (ares_tmp rfl (ares_tmp rfl ares_nil)) (weak_ins h7 _) ?_
      exact h
  · rw [if_pos (of_decide_eq_true h1)] at h
    repeat' first
      | refine go rfl ?_
      | refine ifT rfl ?_
      | refine ifF rfl ?_
      | refine doT rfl rfl rfl rfl rfl (as0 rfl ?_)
      | refine doF rfl rfl rfl rfl rfl (as0 rfl ?_)
      | refine noT rfl rfl rfl rfl rfl ?_
      | refine noF rfl rfl rfl rfl rfl ?_
      | refine noU rfl rfl rfl rfl rfl rfl ?_
      | refine go_block ?_
    refine go_ret rfl ?_
    exact h

end Go.Eng
