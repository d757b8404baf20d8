/- Contracts: a new memory. Conditions: in each. -/
import Derived.Test.YtihpnhkhgobblaaGreatDoorXC22
namespace Go.Eng
open Go Go.Proofs

set_option maxRecDepth 10000

section
variable {P : Program} {T : TT} {e : Env} {o : Oper} {σ : Heap} {k : Value → Heap → Prop}
theorem as_makeSlice {t el : TypeId} {x y : Operand} {i ie : TI} {k1 k2 : IntKind} {l c : Int} (ho : o.op = .makeSlice t x y) (hi : T t = some i) (hx : e.eval x = some (.int k1 l)) (hy : e.eval y = some (.int k2 c)) (hk : i.k = .slice el) (hie : T el = some ie)
    (h : amake el ie l c σ k) : astep P T e o σ k := by
  unfold astep
  rw [ho]
  simp only [hi, hx, hy, hk, hie]
  exact h
theorem as_makeMap {t : TypeId} (ho : o.op = .makeMap t none) (h : anewo (.map #[] 0) σ fun r σ' => k (.map (some r)) σ') : astep P T e o σ k := by
  unfold astep
  rw [ho]
  exact h
end

theorem enc_zero : encM [0, 0, 0, 0, 0, 0, 0, 0] = 0 := by decide +kernel

theorem lset_same {cs : List Value} {o : Nat} {v : Value} (h : cs[o]? = some v) : lset cs o [v] = cs := by
  have hlt := (List.getElem?_eq_some_iff.1 h).1
  rw [lset_one _ _ _ hlt]
  apply List.ext_getElem?
  intro j
  rw [List.getElem?_set]
  by_cases e : o = j
  · subst e
    rw [if_pos rfl, if_pos hlt, h]
  · rw [if_neg e]

theorem zline : ∀ n : Nat, (newM n).flatMap MLine.cells = zrep ti154.zero n
  | 0 => rfl
  | n + 1 => by
    unfold newM
    rw [List.replicate_succ, List.flatMap_cons]
    have := zline n
    unfold newM at this
    rw [this]
    have hz : MLine.cells { w := [0, 0, 0, 0, 0, 0, 0, 0], p := [], s := ⟨none, 0, 0⟩, mark := 0 } = ti154.zero := by
      unfold MLine.cells
      rw [enc_zero]
      rfl
    rw [hz]
    rfl

theorem newM_w8 (n : Nat) : ∀ L ∈ newM n, L.w.length = 8 := fun L hL => by
  rw [List.eq_of_mem_replicate hL]; rfl

theorem okZ : OkL [0, 0, 0, 0, 0, 0, 0, 0] := ⟨rfl, fun x hx => by
  simp at hx
  subst hx
  exact ⟨Int.le_refl 0, by decide⟩⟩

theorem c43 {g : Nat} {σ : Heap} {n : Nat} {R : Value → Heap → Prop} (hG : Glob σ) (h1 : 1 ≤ n) (h2 : n ≤ 4096) (h : ∀ rm σ', MemAt g σ' rm (newM n) 0 → Ext σ σ' → R (.pointer (some ⟨rm, 0, none⟩)) σ') : ACalls Tryz.prog 43 [.int .i64 n] σ R := by
  have d1 : decide (((n : Nat) : Int) < 1) = false := decide_eq_false (by omega)
  have d2 : decide ((4096 : Int) < ((n : Nat) : Int)) = false := decide_eq_false (by omega)
  refine ACalls_fn fn43 rfl ?_
  repeat' first
    | refine go rfl ?_
    | refine ifT rfl ?_
    | refine ifF rfl ?_
    | refine doT rfl rfl rfl rfl rfl (as0 rfl ?_)
    | refine doF rfl rfl rfl rfl rfl (as0 rfl ?_)
    | refine noT rfl rfl rfl rfl rfl ?_
    | refine noF rfl rfl rfl rfl rfl ?_
    | refine noU rfl rfl rfl rfl rfl rfl ?_
    | refine go_block ?_
  rw [d1]
  repeat' first
    | refine go rfl ?_
    | refine ifT rfl ?_
    | refine ifF rfl ?_
    | refine doT rfl rfl rfl rfl rfl (as0 rfl ?_)
    | refine doF rfl rfl rfl rfl rfl (as0 rfl ?_)
    | refine noT rfl rfl rfl rfl rfl ?_
    | refine noF rfl rfl rfl rfl rfl ?_
    | refine noU rfl rfl rfl rfl rfl rfl ?_
    | refine go_block ?_
  rw [d2]
  repeat' first
    | refine go rfl ?_
    | refine ifT rfl ?_
    | refine ifF rfl ?_
    | refine doT rfl rfl rfl rfl rfl (as0 rfl ?_)
    | refine doF rfl rfl rfl rfl rfl (as0 rfl ?_)
    | refine noT rfl rfl rfl rfl rfl ?_
    | refine noF rfl rfl rfl rfl rfl ?_
    | refine noU rfl rfl rfl rfl rfl rfl ?_
    | refine go_block ?_
  refine op rfl rfl rfl rfl (as_makeSlice rfl rfl rfl rfl rfl rfl ⟨by omega, by omega, by omega, by show ((n : Nat) : Int) * 104 ≤ _; omega, rfl, tagM g 1, fun rl hrl => ?_⟩)
  have hn : ((n : Nat) : Int).toNat = n := by omega
  rw [hn]
  have E1 : Ext σ (σ.ins rl (.cells (tagM g 1) (zrep ti154.zero n) 154 (n * ti154.size))) := (Ext.refl σ).ins hrl _
  repeat' first
    | refine go rfl ?_
    | refine ifT rfl ?_
    | refine ifF rfl ?_
    | refine doT rfl rfl rfl rfl rfl (as0 rfl ?_)
    | refine doF rfl rfl rfl rfl rfl (as0 rfl ?_)
    | refine noT rfl rfl rfl rfl rfl ?_
    | refine noF rfl rfl rfl rfl rfl ?_
    | refine noU rfl rfl rfl rfl rfl rfl ?_
    | refine go_block ?_
  refine opc rfl rfl rfl rfl rfl rfl rfl rfl rfl rfl (c75 (W := [0, 0, 0, 0, 0, 0, 0, 0]) (E1.keep (g := g) |>.glob hG) okZ (shK_mk ⟨_, rfl⟩ ?_))
  rw [enc_zero]
  repeat' first
    | refine go rfl ?_
    | refine ifT rfl ?_
    | refine ifF rfl ?_
    | refine doT rfl rfl rfl rfl rfl (as0 rfl ?_)
    | refine doF rfl rfl rfl rfl rfl (as0 rfl ?_)
    | refine noT rfl rfl rfl rfl rfl ?_
    | refine noF rfl rfl rfl rfl rfl ?_
    | refine noU rfl rfl rfl rfl rfl rfl ?_
    | refine go_block ?_
  refine go_loop [(0, .int .i64 n), (3, .slice (some ⟨rl, 0, none⟩) n n), (4, .int .i64 0), (17, .int .i64 n)] [(18, .sc (.int .i64))]
    (fun (i : Int) σ' => σ' = σ.ins rl (.cells (tagM g 1) (zrep ti154.zero n) 154 (n * ti154.size)) ∧ 0 ≤ i) (fun (i : Int) _ => n - i.toNat) (0 : Int) ⟨rfl, rfl, rfl, rfl, trivial⟩ rfl ⟨rfl, Int.le_refl 0⟩ ?_
  rintro (i : Int) σ' ⟨rfl, hi0⟩
  have hlenz : (zrep ti154.zero n).length = n * 11 := by rw [← zline, lines_len (newM_w8 n), newM, List.length_replicate]
  repeat' first
    | refine go rfl ?_
    | refine ifT rfl ?_
    | refine ifF rfl ?_
    | refine doT rfl rfl rfl rfl rfl (as0 rfl ?_)
    | refine doF rfl rfl rfl rfl rfl (as0 rfl ?_)
    | refine noT rfl rfl rfl rfl rfl ?_
    | refine noF rfl rfl rfl rfl rfl ?_
    | refine noU rfl rfl rfl rfl rfl rfl ?_
    | refine go_block ?_
  refine go_cond rfl (fun hb => ?_) (fun hb => ?_)
  · have hlt : i < (n : Int) := of_decide_eq_true hb
    repeat' first
      | refine go rfl ?_
      | refine ifT rfl ?_
      | refine ifF rfl ?_
      | refine doT rfl rfl rfl rfl rfl (as0 rfl ?_)
      | refine doF rfl rfl rfl rfl rfl (as0 rfl ?_)
      | refine noT rfl rfl rfl rfl rfl ?_
      | refine noF rfl rfl rfl rfl rfl ?_
      | refine noU rfl rfl rfl rfl rfl rfl ?_
      | refine go_block ?_
    refine op rfl rfl rfl rfl (as3 rfl hi0 hlt rfl ?_)
    have ea : padd (some ⟨rl, 0, none⟩) (i.toNat * ti154.size) = some ⟨rl, i.toNat * 11, none⟩ := by
      rw [padd_some]
      simp [ti154]
    rw [ea]
    refine op rfl rfl rfl rfl (as1 rfl rfl ?_)
    refine op rfl rfl rfl rfl (as1 rfl rfl ?_)
    have hget : (zrep ti154.zero n)[i.toNat * 11 + 8]? = some (.int .i64 0) := by
      rw [← zline]
      have hL : (newM n)[i.toNat]? = some { w := [0, 0, 0, 0, 0, 0, 0, 0], p := [], s := ⟨none, 0, 0⟩, mark := 0 } := by
        unfold newM
        rw [List.getElem?_replicate, if_pos (by omega)]
      rw [flat_get (newM_w8 n) hL (by decide)]
      unfold MLine.cells
      rw [enc_zero]
      rfl
    refine opn rfl rfl rfl (as_store_at (r := rl) (off := i.toNat * 11 + 8) (zrep ti154.zero n) rfl rfl rfl rfl rfl (hit ..) (tagM_ne0 ..) ?_ rfl (lset_same hget) ?_)
    · refine Nat.ble_eq_true_of_le ?_
      show i.toNat * 11 + 8 + 1 ≤ _
      rw [hlenz]
      omega
    rw [ins_ins]
    repeat' first
      | refine go rfl ?_
      | refine ifT rfl ?_
      | refine ifF rfl ?_
      | refine doT rfl rfl rfl rfl rfl (as0 rfl ?_)
      | refine doF rfl rfl rfl rfl rfl (as0 rfl ?_)
      | refine noT rfl rfl rfl rfl rfl ?_
      | refine noF rfl rfl rfl rfl rfl ?_
      | refine noU rfl rfl rfl rfl rfl rfl ?_
      | refine go_block ?_
    have hw : IntKind.wrap .i64 (i + 1) = i + 1 := wrap_i64 (by omega) (by omega)
    refine go_meet (IntKind.wrap .i64 (i + 1)) ⟨rfl, rfl, rfl, rfl, trivial⟩ rfl ⟨⟨rfl, by rw [hw]; omega⟩, by rw [hw]; omega⟩
  · repeat' first
      | refine go rfl ?_
      | refine ifT rfl ?_
      | refine ifF rfl ?_
      | refine doT rfl rfl rfl rfl rfl (as0 rfl ?_)
      | refine doF rfl rfl rfl rfl rfl (as0 rfl ?_)
      | refine noT rfl rfl rfl rfl rfl ?_
      | refine noF rfl rfl rfl rfl rfl ?_
      | refine noU rfl rfl rfl rfl rfl rfl ?_
      | refine go_block ?_
    refine go_by_exit ?_
    repeat' first
      | refine go rfl ?_
      | refine ifT rfl ?_
      | refine ifF rfl ?_
      | refine doT rfl rfl rfl rfl rfl (as0 rfl ?_)
      | refine doF rfl rfl rfl rfl rfl (as0 rfl ?_)
      | refine noT rfl rfl rfl rfl rfl ?_
      | refine noF rfl rfl rfl rfl rfl ?_
      | refine noU rfl rfl rfl rfl rfl rfl ?_
      | refine go_block ?_
    refine op rfl rfl rfl rfl (as_makeMap rfl ⟨tagM g 2, fun rb hrb => ?_⟩)
    repeat' first
      | refine go rfl ?_
      | refine ifT rfl ?_
      | refine ifF rfl ?_
      | refine doT rfl rfl rfl rfl rfl (as0 rfl ?_)
      | refine doF rfl rfl rfl rfl rfl (as0 rfl ?_)
      | refine noT rfl rfl rfl rfl rfl ?_
      | refine noF rfl rfl rfl rfl rfl ?_
      | refine noU rfl rfl rfl rfl rfl rfl ?_
      | refine go_block ?_
    have E2 := E1.ins (E1.none hrb) (.other (tagM g 2) (.map #[] 0))
    refine op rfl rfl rfl rfl (as_put [.slice (some ⟨rl, 0, none⟩) n n, .map (some rb), .int .i64 0, .slice none 0 0] 4 rfl rfl rfl rfl fun rm hrm => ?_)
    repeat' first
      | refine go rfl ?_
      | refine ifT rfl ?_
      | refine ifF rfl ?_
      | refine doT rfl rfl rfl rfl rfl (as0 rfl ?_)
      | refine doF rfl rfl rfl rfl rfl (as0 rfl ?_)
      | refine noT rfl rfl rfl rfl rfl ?_
      | refine noF rfl rfl rfl rfl rfl ?_
      | refine noU rfl rfl rfl rfl rfl rfl ?_
      | refine go_block ?_
    have nrb : rl ≠ rb := Ne.symm (ins_none hrb).1
    have n1 := ins_none hrm
    have n2 := ins_none n1.2
    refine go_ret' rfl (weak_tag (g' := tagM g 0) (hit ..) (by decide)) ?_
    rw [ins_ins]
    refine h rm _ ?_ ?_
    · have hlen : (newM n).length = n := by unfold newM; rw [List.length_replicate]
      refine ⟨rl, rb, 0, #[], 0, [], ⟨none, 0, 0⟩, [], ?_, ?_, ?_, ?_, Nat.le_refl _, ?_, fun i L hL => ?_, by rw [hlen]; exact h2⟩
      · rw [hlen]; exact hit ..
      · rw [hlen, zline]
        exact miss (Ne.symm n2.1) (miss nrb (hit ..))
      · exact miss (Ne.symm n1.1) (hit ..)
      · exact ⟨rfl, .inl ⟨rfl, rfl, ⟨rfl, rfl⟩⟩⟩
      · refine ⟨rfl, List.nodup_nil, fun e he => by simp at he, by simp, fun i => ⟨fun h => (by cases h), ?_⟩⟩
        rintro ⟨L, hL, hp⟩
        rw [List.eq_of_mem_replicate (List.mem_of_getElem? hL)] at hp
        exact absurd rfl hp
      · rw [List.eq_of_mem_replicate (List.mem_of_getElem? hL)]
        exact ⟨okZ, fun x hx => (by cases hx), ⟨rfl, .inl ⟨rfl, rfl, ⟨rfl, rfl⟩⟩⟩, by decide, Nat.le_refl _⟩
    · intro x a hx
      have hxl : x ≠ rl := Ne.symm (ne_of_some hrl hx)
      have hxb : x ≠ rb := Ne.symm (ne_of_some (E1.none hrb) hx)
      have hxm : x ≠ rm := Ne.symm (ne_of_some (E2.none hrm) hx)
      exact miss hxm (miss hxb (miss hxl hx))

end Go.Eng
