/- TreeKeysMatchSpec: for every two lists of integers the statement returns true; the lists read as before. Conditions: the program's tables hold what the text lays. -/
import Derived.Carry
import Derived.Handy
import Derived.Test.YtihpnhkhgobblaaGreatDoorXR1
namespace Go.Proofs.YtihpnhkhgobblaaGreatDoor
open Go Go.Eng Go.ChangeShapes Go.WideShapes Go.ChangeAt Go.RowKit

theorem seatOwn : ownKnob Tryz.prog.godebug = none := by kernel_rfl
theorem seatLaid : laidOutB Tryz.prog = true := by kernel_rfl

set_option maxRecDepth 100000 in
/-- A slice of integers that is handed in, in the view of all rows. -/
theorem slice_row {H : Type} {enc : TypeId × Value → H} {W : World} {v : Value} {d : DataW H} {p : List MemPlace} {base : Nat} (hok : Value.okWide Tryz.prog W .any base 22 v) (h : DataW.Trod enc Tryz.prog W 0 (fun _ => true) true 22 v d p) :
    ∃ (q : Option Addr) (l : List Int) (cp : Nat), v = .slice q l.length cp ∧ (ofW W).row q l.length (ints l) := by
  obtain ⟨a, len, cap, rfl⟩ := okWide_slice Tryz.underlying22 hok
  obtain ⟨fuel, hf⟩ := h
  rcases open_ints Tryz.underlying22 Tryz.underlying3 (by kernel_rfl) hf with ⟨hcs, _⟩ | ⟨a', len', cap', zs, hcs, _, hl, hm, hz, _, hcell, _⟩
  · simp [Value.cells] at hcs
    obtain ⟨rfl, rfl, rfl⟩ := hcs
    exact ⟨none, [], 0, rfl, ⟨rfl, rfl⟩⟩
  · simp [Value.cells] at hcs
    obtain ⟨rfl, rfl, rfl⟩ := hcs
    simp only [if_true] at hz
    have hsp : a'.spot = none := by
      simp only [Value.okWide, Tryz.underlying22, Cell.okWide, Cell.ok] at hok
      exact hok.2.2.2.1
    obtain ⟨b, o, s⟩ := a'
    dsimp only at hsp
    subst hsp
    have hlen : (zs.take len).length = len := by rw [List.length_take, hz]; omega
    refine ⟨some ⟨b, o, none⟩, zs.take len, cap, by rw [hlen], ?_⟩
    · show (ofW W).rds b o _ = _
      have hil : (ints (zs.take len)).length = (zs.take len).length := ints_length _
      rw [← hil]
      refine ofW_rds fun i u hu => ?_
      rw [ints_get] at hu
      cases hzi : (zs.take len)[i]? with
      | none => rw [hzi] at hu; cases hu
      | some z =>
        rw [hzi] at hu
        cases hu
        rw [List.getElem?_take] at hzi
        split at hzi
        · rename_i hi
          have hc := hcell i (by rw [hz]; omega)
          rw [add_none] at hc
          rw [hc, List.getD_eq_getElem?_getD, hzi]
          rfl
        · cases hzi

set_option maxHeartbeats 800000 in
set_option maxRecDepth 100000 in
theorem keys_lifted (os : Os) (started : os.Started) (H : Type) (enc : TypeId × Value → H) :
    ReturnsInHanded {} Tryz.checked os 3 .any (fun w args => (Rows.treeKeysMatchSpecSpec.pre enc Tryz.prog Tryz.f3 [] false w args ∧ laidMetH Tryz.prog Rows.treeKeysMatchSpecRow.laid w) ∧ sizedMet enc Tryz.prog Tryz.f3 (OpenSpec.ofChange Rows.treeKeysMatchSpecSpec) false w args)
      (Rows.treeKeysMatchSpecSpec.post enc Tryz.prog Tryz.f3 false true false false) := by
  refine returnsInHanded_of_change_and (C := Tryz.checked) (X := fun w _ => laidMetH Tryz.prog Rows.treeKeysMatchSpecRow.laid w) (fun _ _ _ hh h => h.of_heap hh) seatOwn started (by kernel_rfl) Tryz.func3
    (ChangeSpec.witness_shaped (enc := enc) (C := Tryz.checked) (os := os) (X := fun w _ => laidMetH Tryz.prog Rows.treeKeysMatchSpecRow.laid w) false (World.laidAll Tryz.prog os Rows.treeKeysMatchSpecRow.laid) #[.slice none 0 0, .slice none 0 0] 8 (World.laidAll_os _ _ _)
      (World.shaped_of_ZipB (by kernel_rfl) (by kernel_rfl)) (by kernel_rfl) (by kernel_rfl) (by kernel_rfl)
      (by rw [MakeChecks.laidMetH_plain _ _ _ (by kernel_rfl)]; exact laidMet_laidAll _ (by kernel_rfl) (by kernel_rfl))) ?_
  intro W base args ds gs before hval0 hW _ _ hL _
  have hval : ∀ (j : Nat) t v, Tryz.f3.params[j]? = some t → args[j]? = some v → Value.okWide Tryz.prog W .any base t v := hval0
  have hW' := hW
  obtain ⟨p, q, hA0, hV, rfl, _, _⟩ := hW
  have hA : DataW.TrodAll enc Tryz.prog W 0 (fun _ => true) true Tryz.f3.params.toList args.toList ds p := hA0
  rw [Tryz.params3] at hA hval
  obtain ⟨v0, v1, d0, d1, p0, p1, rfl, rfl, rfl, h0, h1⟩ := trodAll_two hA
  obtain ⟨rfl, rfl⟩ := trodVars_none hV
  obtain ⟨q0, a, cp0, e0, r0⟩ := slice_row (hval 0 22 v0 rfl rfl) h0
  obtain ⟨q1, b, cp1, e1, r1⟩ := slice_row (hval 1 22 v1 rfl rfl) h1
  subst e0
  subst e1
  simp only [List.append_nil] at hW'
  have hlt : ∀ x ∈ p0 ++ p1, x.block < W.heap.size := fun x hx => by simpa using hW'.lt x hx
  have hlt0 : ∀ x ∈ p0, x.block < W.heap.size := fun x hx => hlt x (List.mem_append.2 (.inl hx))
  have hlt1 : ∀ x ∈ p1, x.block < W.heap.size := fun x hx => hlt x (List.mem_append.2 (.inr hx))
  have hG : Glob (ofW W) := glob_of hL
  have hF : FrOK 0 (ofW W) := ⟨hG, fun r o ho => by rw [ofW_tag ho]; exact low_not (by decide)⟩
  have key : ACalls Tryz.prog 3 [.slice q0 a.length cp0, .slice q1 b.length cp1] (ofW W) fun v _ => v = .bool true := c3 hF r0 r1 fun _ _ => rfl
  refine (calls_below key).mono fun e W' ⟨v, σ', he, hv, _, hb⟩ => ?_
  subst he
  subst hv
  exact ⟨_, rfl, _, _, _, [], p0 ++ p1, [], hW', trodAll_mk1 (shut_bool Tryz.underlying4 _),
    trodAll_mk2 (Below.trod seatLaid (by kernel_rfl) (of_decide_eq_true (by kernel_rfl)) h0 hb hlt0) (Below.trod seatLaid (by kernel_rfl) (of_decide_eq_true (by kernel_rfl)) h1 hb hlt1), rfl, hb.frame _, fun h => by cases h⟩

theorem keys_holds : Rows.TreeKeysMatchSpecSaid :=
  OpenClaim.holds_of_wide 3 Tryz.f3 rfl rfl rfl rfl rfl rfl rfl ⟨rfl, rfl, rfl, rfl, rfl⟩ rfl rfl rfl rfl rfl (by kernel_rfl) Tryz.func3 (by kernel_rfl)
    (of_decide_eq_true (by kernel_rfl)) (by unfold Func.isWrapper; first | (rw [if_pos (by decide +kernel)]; kernel_rfl) | (rw [if_neg (by decide +kernel)]; exact ⟨rfl, rfl⟩))
    (fun os started H enc _ => keys_lifted os started H enc)

theorem treeKeysMatchSpec_holds : Rows.TreeKeysMatchSpecCardSaid :=
  Claim7.holds_tied_plain_at .later [] [.data, .data, .data, .data, .data] true (true, "194b0ed593273ba1e4cd1ca247cf4732ee2312a649df36cb6362aff9c281968a") false keys_holds (fun _ h => by cases h) (by kernel_rfl) (fun _ h => by cases h) treeKeysMatchSpec_row_tie rfl ⟨rfl, rfl⟩ (by kernel_rfl) rfl
    (fun f fn hf hfn => by
      obtain rfl : f = 3 := Option.some.inj ((show Tryz.prog.funcNamed "alum/alumlaw15.TreeKeysMatchSpec" = some 3 by kernel_rfl).symm.trans hf) |>.symm
      obtain rfl : fn = Tryz.f3 := (Option.some.inj (Tryz.func3.symm.trans hfn)).symm
      exact ⟨by kernel_rfl, fun j t ht => by
        rw [Tryz.params3] at ht
        have hm : t ∈ [22, 22] := by simpa using Array.mem_of_getElem? ht
        have hall : ([22, 22].all fun u => !Tryz.prog.wantsStandIn u) = true := by kernel_rfl
        exact (show Tryz.prog.wantsStandIn t = false by simpa using List.all_eq_true.1 hall t hm)⟩)
    (by kernel_rfl)
#print axioms treeKeysMatchSpec_holds
end Go.Proofs.YtihpnhkhgobblaaGreatDoor
