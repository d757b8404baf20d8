/- The functions that are not walked by the evaluator, all of them; the examples of the documentation hold. Conditions: what is said of the view around. -/
import Derived.Test.YtihpnhkhgobblaaGreatDoorXC23
import Derived.Test.YtihpnhkhgobblaaGreatDoorXV14
import Derived.Test.YtihpnhkhgobblaaGreatDoorXV15
namespace Go.Eng
open Go Go.Proofs

section
variable {g : Nat} {F : Heap}

theorem bare_settled (L : MLine) (k : Nat) : (L.bare.settled k).bare = (L.settled k).bare := by
  unfold MLine.settled
  cases Nat.beq k 0 <;> rfl

theorem bare_bare (L : MLine) : L.bare.bare = L.bare := rfl

theorem fence_bare (ls : List MLine) : (fenceM (ls.map MLine.bare)).map MLine.bare = (fenceM ls).map MLine.bare := by
  unfold fenceM
  rw [List.map_map, List.map_map, List.map_map]
  congr 1
  funext L
  exact bare_settled L L.mark

theorem hFence_ok (hF : FrOK g F) : Hook1 g F 133 hFence := by
  intro args s v s' h ρ args' σ ha hs R hR
  unfold hFence at h
  split at h
  · rename_i b
    split at h
    · rename_i ls ev hm
      cases hb : Nat.ble ev 1000000000 with
      | false => rw [hb] at h; cases h
      | true =>
        rw [hb, cond_true] at h
        cases h
        obtain ⟨y, L, h1, h2, h3⟩ := memOf_ok hs hm
        obtain ⟨l', rfl, h4⟩ := ha.ptr1 h1
        cases h4
        refine c133 (hs.glob hF) h2 (Nat.le_of_ble_eq_true hb) fun ls' σ' e1 hM hK => ?_
        refine hR ρ _ σ' (Ren.le_refl _) (VR.mk_tup .nil) (hs.kept hF hK (MXrel.set h1 hM ?_))
        rw [e1, ← fence_bare, h3]
        -- the lines of the state are bare
        unfold fenceM
        rw [List.map_map]
        subst h3
        rw [List.map_map, List.map_map]
        congr 1
        funext M
        show (M.bare.settled M.bare.mark).bare = M.bare.settled M.bare.mark
        unfold MLine.settled
        cases Nat.beq M.bare.mark 0 <;> rfl
    · cases h
  · cases h

theorem hNew_ok (hF : FrOK g F) : Hook1 g F 43 hNew := by
  intro args s v s' h ρ args' σ ha hs R hR
  unfold hNew at h
  split at h
  · rename_i n
    split at h
    · cases hb : decide (1 ≤ n) && decide (n ≤ 4096) with
      | false => rw [hb] at h; cases h
      | true =>
        rw [hb, cond_true] at h
        cases h
        rw [Bool.and_eq_true, decide_eq_true_eq, decide_eq_true_eq] at hb
        obtain ⟨b1, b2⟩ := hb
        rw [ha.i1]
        obtain ⟨m, rfl⟩ : ∃ m : Nat, n = (m : Int) := ⟨n.toNat, by omega⟩
        refine c43 (g := g) (hs.glob hF) (by omega) (by omega) fun rm σ' hM hE => ?_
        have hle : ρ.le (ρ.add s.nx ⟨rm, 0, fun _ _ => default⟩) := Ren.le_add _ (hs.nx _ (Nat.le_refl _))
        refine hR (ρ.add s.nx ⟨rm, 0, fun _ _ => default⟩) _ σ' hle (.ptr _ _ _ (Ren.add_same ..)) ⟨fun b o hb => ?_, fun b b' o o' x x' hb hb' hx hx' e => ?_, fun b hb => ?_, fun r a hr => hE _ _ (hs.fr r a hr), fun b o x hb hx => ?_, ?_⟩
        · obtain ⟨y, a, h1, h2, h3⟩ := hs.blk b o hb
          exact ⟨y, a, hle _ _ h1, hE _ _ h2, h3.mono hle⟩
        · obtain ⟨y, _, h1, _⟩ := hs.blk b o hb
          obtain ⟨y', _, h1', _⟩ := hs.blk b' o' hb'
          have e1 := hle _ _ h1
          have e2 := hle _ _ h1'
          rw [hx] at e1
          rw [hx'] at e2
          cases e1
          cases e2
          exact hs.inj _ _ _ _ _ _ hb hb' h1 h1' e
        · have hb' : s.nx + 1 ≤ b := hb
          rw [Ren.add_ne _ _ (by omega)]
          exact hs.nx b (by omega)
        · obtain ⟨y, _, h1, _⟩ := hs.blk b o hb
          have e1 := hle _ _ h1
          rw [hx] at e1
          cases e1
          exact hs.ap _ _ _ hb h1
        · have e : ((m : Nat) : Int).toNat = m := by omega
          rw [e]
          refine ⟨_, newM m, Ren.add_same .., hM, ?_⟩
          unfold newM
          rw [List.map_replicate]
          rfl
    · cases h
  · cases h

theorem hooks_all (hF : FrOK g F) : ∀ p ∈ hooks, Hook1 g F p.1 p.2 := by
  unfold hooks
  refine List.forall_mem_cons.2 ⟨hook_1 hF (fun x σ R _ h => c35 h) (fun ρ x => .bool _), ?_⟩
  refine List.forall_mem_cons.2 ⟨hook_2 hF (fun x y σ R _ h => c38 h) (fun ρ x y => .int _ _), ?_⟩
  refine List.forall_mem_cons.2 ⟨hook_1 hF (fun x σ R hG h => c87 hG h) (fun ρ x => .bool _), ?_⟩
  refine List.forall_mem_cons.2 ⟨hook_1 hF (fun x σ R hG h => c145 hG h) (fun ρ x => .bool _), ?_⟩
  refine List.forall_mem_cons.2 ⟨hook_1 hF (fun x σ R hG h => c121 hG h) (fun ρ x => .int _ _), ?_⟩
  refine List.forall_mem_cons.2 ⟨hook_1 hF (fun x σ R hG h => c146 hG h) (fun ρ x => .int _ _), ?_⟩
  refine List.forall_mem_cons.2 ⟨hook_1 hF (fun x σ R hG h => c122 hG h) (fun ρ x => .int _ _), ?_⟩
  refine List.forall_mem_cons.2 ⟨hook_1 hF (fun x σ R hG h => c89 hG h) (fun ρ x => .int _ _), ?_⟩
  refine List.forall_mem_cons.2 ⟨hook_1 hF (fun x σ R hG h => c90 hG h) (fun ρ x => .int _ _), ?_⟩
  refine List.forall_mem_cons.2 ⟨hook_1 hF (fun x σ R _ h => c91 h) (fun ρ x => .int _ _), ?_⟩
  refine List.forall_mem_cons.2 ⟨hook_1 hF (fun x σ R _ h => c106 h) (fun ρ x => .int _ _), ?_⟩
  refine List.forall_mem_cons.2 ⟨hook_2 hF (fun x y σ R hG h => c107 hG h) (fun ρ x y => .int _ _), ?_⟩
  refine List.forall_mem_cons.2 ⟨hook_2 hF (fun x y σ R _ h => c33 h) (fun ρ x y => .int _ _), ?_⟩
  refine List.forall_mem_cons.2 ⟨hook_3 hF (fun x y z σ R hG h => c110 hG h) (fun ρ x y z => .int _ _), ?_⟩
  refine List.forall_mem_cons.2 ⟨hook_1 hF (fun x σ R _ h => c66 h) (fun ρ x => .int _ _), ?_⟩
  refine List.forall_mem_cons.2 ⟨hook_1 hF (fun x σ R _ h => c78 h) (fun ρ x => vr_pair _), ?_⟩
  refine List.forall_mem_cons.2 ⟨hook_2 hF (fun x y σ R hG h => c120 hG h) (fun ρ x y => .bool _), ?_⟩
  refine List.forall_mem_cons.2 ⟨hLoad_ok hF, ?_⟩
  refine List.forall_mem_cons.2 ⟨hState_ok hF, ?_⟩
  refine List.forall_mem_cons.2 ⟨hStore_ok hF, ?_⟩
  refine List.forall_mem_cons.2 ⟨hFlush_ok hF, ?_⟩
  refine List.forall_mem_cons.2 ⟨hFence_ok hF, ?_⟩
  refine List.forall_mem_cons.2 ⟨hNew_ok hF, ?_⟩
  intro p hp
  cases hp

theorem hooks_ok (hF : FrOK g F) : HookOK Tryz.prog (WM g) F hkOf := by
  intro f k hk args s v s' h ρ args' σ ha hs R hR
  exact hooks_all hF _ (Tr.ofL_mem hk) args s v s' h ρ args' σ ha hs R hR

theorem endB_ok {r : Option (Ex × VEnv × VSM)} (h : endB r = true) : ∃ ve s, r = some (.ret, ve, s) ∧ ve.get 0 = some (.bool true) := by
  unfold endB at h
  split at h
  · rename_i ve s
    split at h
    · rename_i hv
      exact ⟨ve, s, rfl, hv⟩
    · cases h
  · cases h

/-- **The examples of the documentation hold**; the view around lies as it lay. -/
theorem c8 (hF : FrOK g F) {R : Value → Heap → Prop} (h : ∀ σ', (∀ r a, F r = some a → σ' r = some a) → R (.bool true) σ') : ACalls Tryz.prog 8 [] F R := by
  have hfe : fnTr.get 8 = some fe8 := by kernel_rfl
  refine fns_ok 8 fe8 hfe [] F R (Nat.zero_le _) ?_
  show acode Tryz.prog TTr 317 [] true b8 (env0 0 []) F _
  have he0 : EnvR (fun _ => none) lit0.ve (env0 0 []) := fun t v hv => by cases hv
  have hs0 : SR (WM g) F (fun _ => none) lit0.vs F := ⟨fun b o hb => (by cases hb), fun b b' o o' x x' hb => (by cases hb), fun b _ => rfl, fun r a hr => hr, fun b o x hb => (by cases hb), True.intro⟩
  refine lit_ok fns_ok (hooks_ok hF) piece1 he0 hs0 fun ρ1 e1 σ1 _ he1 hs1 => ?_
  refine lit_ok fns_ok (hooks_ok hF) piece2 he1 hs1 fun ρ2 e2 σ2 _ he2 hs2 => ?_
  refine lit_ok fns_ok (hooks_ok hF) piece3 he2 hs2 fun ρ3 e3 σ3 _ he3 hs3 => ?_
  have p4 := piece4
  obtain ⟨ve, s, h4, hv⟩ := endB_ok p4
  rw [show E150 = run TTr fnsT hkOf 150 from frun_eq ..] at h4
  refine (run_ok fns_ok (hooks_ok hF) 150).1 _ _ _ _ _ _ _ _ _ _ h4 ρ3 e3 σ3 he3 hs3 (fun l yc hl => by cases hl) _ fun ρ4 e4 σ4 _ he4 hs4 => ?_
  obtain ⟨v', v1, v2⟩ := he4 0 _ hv
  cases v2
  exact ⟨[.bool true], σ4, by show ares TTr e4 σ4 [.tmp 0] = _; unfold ares; rw [v1]; rfl, Weak.refl _, h σ4 hs4.fr⟩

end
end Go.Eng
