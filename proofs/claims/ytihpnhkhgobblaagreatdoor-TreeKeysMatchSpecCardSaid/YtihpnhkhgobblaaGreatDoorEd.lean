/- The soundness of the walk of a function's code. Conditions: the table of types is the program's; the regions that draw their order pass the check. -/
import Derived.Test.YtihpnhkhgobblaaGreatDoorEc
namespace Go.Eng
open Go

/-- The regions of a piece of code that draw their order pass the check. -/
def masksOf (ops : Array Oper) : List (Nat × List Nat) → List Nat → List Nat
  | [], ms => ms
  | (i, _) :: l, ms => masksOf ops l (match nth ops.toList i with
    | some o => ms.set i (maskOf ms (directs o))
    | none => ms)

def zeros : Nat → List Nat
  | 0 => []
  | n + 1 => 0 :: zeros n

def codeOK (n : Nat) (pl : Plan) : Code → Bool
  | .region id ops draw => bif draw then match pl.get id with
      | some l => drawOK n ops l (masksOf ops l (zeros ops.toList.length))
      | none => false
    else true
  | .seq a b => codeOK n pl a && codeOK n pl b
  | .cond _ a b => codeOK n pl a && codeOK n pl b
  | .block _ b => codeOK n pl b
  | .loop b => codeOK n pl b
  | .rangeFunc _ _ a b => codeOK n pl a && codeOK n pl b
  | _ => true

/-! ### Meeting -/
theorem Env.has_get {e : Env} : ∀ {l : Env}, e.has l → ∀ {t v}, l.get t = some v → e.get t = some v
  | [], _, t, v, h => by simp [Env.get] at h
  | (s, u) :: l, hl, t, v, h => by
    unfold Env.get at h
    cases hb : Nat.beq s t with
    | true =>
      obtain rfl := Nat.eq_of_beq_eq_true hb
      rw [hb, cond_true] at h
      cases h
      exact hl.1
    | false =>
      rw [hb, cond_false] at h
      exact Env.has_get hl.2 h

theorem Env.news_get {e fx : Env} (hf : e.has fx) : ∀ {ks : List (Nat × S1)} {vs : List Value}, e.gets ks = some vs → ∀ {t v}, (Env.news ks vs fx).get t = some v → e.get t = some v
  | [], vs, h, t, v, hg => by
    unfold Env.news at hg
    exact Env.has_get hf hg
  | (s, sh) :: ks, vs, h, t, v, hg => by
    unfold Env.gets at h
    cases hs : e.get s with
    | none => simp [hs] at h
    | some u =>
      rw [hs] at h
      cases hr : e.gets ks with
      | none => simp [hr] at h
      | some us =>
        simp only [hr, Option.some.injEq] at h
        subst h
        simp only [Env.news, Env.get] at hg
        cases hb : Nat.beq s t with
        | true =>
          obtain rfl := Nat.eq_of_beq_eq_true hb
          rw [hb, cond_true] at hg
          cases hg
          exact hs
        | false =>
          rw [hb, cond_false] at hg
          exact Env.news_get hf hr hg

theorem Inv.weak {σ0 : Heap} {w0 : World} {ms : List Nat} {σ : Heap} {w : World} (h : Inv σ0 w0 ms σ w) {σ' : Heap} (hw : Weak σ σ') : Inv σ0 w0 ms σ' w := by
  have hn : ∀ r, σ r = none → σ' r = none := fun r hr => by
    cases ho : σ' r with
    | none => rfl
    | some o =>
      obtain ⟨o', h1, _⟩ := hw r o ho
      rw [hr] at h1; cases h1
  refine ⟨fun r o ho => ?_, h.size, fun r hr h0 => ?_, h.os, h.tape, h.output, fun r hr => ?_, fun r cs t n hr h0 => ?_⟩
  · obtain ⟨o', h1, h2⟩ := hw r o ho
    obtain ⟨c, hc, hf⟩ := h.rel r o' h1
    exact ⟨c, hc, h2 c hf⟩
  · obtain ⟨h1, h2⟩ := h.old r hr h0
    exact ⟨hn r h1, h2⟩
  · obtain ⟨h0, h1, h2⟩ := h.marks r hr
    exact ⟨h0, hn r h1, h2⟩
  · obtain ⟨h1, h2⟩ := h.ro r cs t n hr h0
    refine ⟨h1, fun o' ho => ?_⟩
    obtain ⟨o, h3, h4⟩ := hw r o' ho
    obtain ⟨cs', t', n', rfl⟩ := h2 o h3
    obtain ⟨c, _, c', fz, _, f1, f2, _⟩ := h.rel r _ h3
    have hf := h4 (.cells c' t' (1, 0)) ⟨c', (1, 0), rfl, f1, f2, fun h => absurd rfl h⟩
    cases o' with
    | cells g cs2 t2 n2 =>
      obtain ⟨c2, fz2, e1, _, _, e4⟩ := hf
      cases e1
      by_cases hg : g = 0
      · subst hg; exact ⟨_, _, _, rfl⟩
      · have := e4 hg
        cases this
    | other g ob =>
      obtain ⟨e1, e2⟩ := hf
      subst e1
      cases e2

theorem St.arrived {n : Nat} {σ0 : Heap} {w0 : World} {ms : List Nat} {e : Env} {σ : Heap} {a : Act} {w : World} (h : St n σ0 w0 ms e σ a w) {fx : Env} {ks : List (Nat × S1)} {J : S1.Ts (shs ks) → Heap → Prop}
    (ha : arrive fx ks J e σ) : ∃ s σ', J s σ' ∧ St n σ0 w0 ms (Env.news ks (S1.encs (shs ks) s) fx) σ' a w := by
  obtain ⟨hf, s, σ', hg, hw, hJ⟩ := ha
  exact ⟨s, σ', hJ, ⟨h.env.size, fun t v ht => h.env.get t v (Env.news_get hf hg ht)⟩, h.inv.weak hw, h.defers, h.nodup⟩

def Ex.out : Ex → Exit
  | .normal => .normal
  | .exit id => .exit id
  | .ret => .ret

/-- What may follow a piece of code: the marks of before, or, at the outermost, others. -/
def mksOK (top : Bool) (ms ms' : List Nat) : Prop := top = false → ms' = ms

theorem mksOK.trans {top : Bool} {a b c : List Nat} (h : mksOK top a b) (h' : mksOK top b c) : mksOK top a c := fun ht => (h' ht).trans (h ht)

theorem allBlt_lt {n : Nat} : ∀ {l : List Nat}, allBlt n l = true → ∀ t ∈ l, t < n
  | [], _, t, ht => by cases ht
  | s :: l, h, t, ht => by
    simp only [allBlt, Bool.and_eq_true, Nat.blt_eq] at h
    rcases List.mem_cons.1 ht with rfl | ht
    · exact h.1
    · exact allBlt_lt h.2 t ht

theorem psets_rel {n : Nat} : ∀ {ts : List Nat} {vs : List Value} {e : Env} {a : Act}, EnvRel n e a → (∀ t ∈ ts, t < n) →
    EnvRel n (psets e ts vs) { a with tmps := (ts.zip vs).foldl (fun tmps (t, v) => tmps.setIfInBounds t v) a.tmps }
  | [], vs, e, a, h, _ => by cases vs <;> simpa [psets] using h
  | t :: ts, [], e, a, h, _ => by simpa [psets] using h
  | t :: ts, v :: vs, e, a, h, hl => by
    have h1 : EnvRel n (e.set t v) { a with tmps := a.tmps.setIfInBounds t v } := h.put (hl t (List.mem_cons_self ..)) v
    exact psets_rel (ts := ts) (vs := vs) h1 fun s hs => hl s (List.mem_cons_of_mem _ hs)

theorem FW_inRound (l : Nat) : (FW none).inRound l = FW (some l) := rfl

section
variable {P : Program} {T : TT} {n : Nat} {pl : Plan}

/-- The soundness of one piece of code, as the induction carries it. -/
def Sound (P : Program) (T : TT) (n : Nat) (pl : Plan) (c : Code) : Prop :=
  ∀ (top : Bool) (ro : Option Nat), (top = true → ro = none) → ∀ {σ0 : Heap} {w0 : World} {ms : List Nat} {e : Env} {σ : Heap} {a : Act} {w : World} {k : Ex → Env → Heap → Prop} {Q : Exit → Act → World → Prop},
    codeOK n pl c = true → St n σ0 w0 ms e σ a w → acode P T n pl top c e σ k →
    (∀ x e' σ' a' w' ms', k x e' σ' → St n σ0 w0 ms' e' σ' a' w' → mksOK top ms ms' → Q x.out a' w') → c.wpIn (FW ro) 0 P Q a w

theorem bcond_imp {b : Bool} {x y : Prop} (h : bcond b x y) : if b then x else y := by
  cases b
  · exact h.2 rfl
  · exact h.1 rfl

theorem sound_seq {x y : Code} (hx : Sound P T n pl x) (hy : Sound P T n pl y) : Sound P T n pl (.seq x y) := by
  intro top ro hro σ0 w0 ms e σ a w k Q hok hst h hQ
  simp only [codeOK, Bool.and_eq_true] at hok
  rw [acode] at h
  refine wpIn_seq (hx top ro hro hok.1 hst h fun ex e' σ' a' w' ms' hk hst' hm => ?_)
  cases ex with
  | normal => exact hy top ro hro hok.2 hst' hk fun x' e2 σ2 a2 w2 ms2 hk2 hst2 hm2 => hQ _ _ _ _ _ _ hk2 hst2 (hm.trans hm2)
  | exit id => exact hQ (.exit id) _ _ _ _ _ hk hst' hm
  | ret => exact hQ .ret _ _ _ _ _ hk hst' hm

/-- A cut is as good as none. -/
theorem acut_elim {m : (Env → Heap → Prop) → Prop} {k : Env → Heap → Prop} (h : acut m k) {σ0 : Heap} {w0 : World} {G : Prop}
    (hd : ∀ j, m j → (∀ e σ ms a w, j e σ → St n σ0 w0 ms e σ a w → ∃ e' σ', k e' σ' ∧ St n σ0 w0 ms e' σ' a w) → G) : G := by
  rcases h with h | ⟨fx, ks, J, hm, hJ⟩
  · exact hd k h fun e σ _ _ _ hk hst => ⟨e, σ, hk, hst⟩
  · exact hd _ hm fun e σ _ _ _ ha hst => by
      obtain ⟨s, σ', hj, hst'⟩ := hst.arrived ha
      exact ⟨_, _, hJ _ _ hj, hst'⟩

theorem sound_cond {c : Operand} {x y : Code} (hx : Sound P T n pl x) (hy : Sound P T n pl y) : Sound P T n pl (.cond c x y) := by
  intro top ro hro σ0 w0 ms e σ a w k Q hok hst h hQ
  simp only [codeOK, Bool.and_eq_true] at hok
  rw [acode] at h
  split at h
  · rename_i t hc
    have hc' := hst.env.eval hc
    refine acut_elim (n := n) h (σ0 := σ0) (w0 := w0) fun j hm hj => ?_
    have fin : ∀ (ex : Ex) (e' : Env) (σ' : Heap) (a' : Act) (w' : World) (ms' : List Nat), exN j k ex e' σ' → St n σ0 w0 ms' e' σ' a' w' → mksOK top ms ms' → Q ex.out a' w' := by
      intro ex e' σ' a' w' ms' hk hst' hmk
      cases ex with
      | normal =>
        obtain ⟨e2, σ2, hk2, hst2⟩ := hj _ _ _ _ _ hk hst'
        exact hQ .normal _ _ _ _ _ hk2 hst2 hmk
      | exit id => exact hQ (.exit id) _ _ _ _ _ hk hst' hmk
      | ret => exact hQ .ret _ _ _ _ _ hk hst' hmk
    exact wpIn_cond_split hc' (fun ht => hx top ro hro hok.1 hst (hm.1 ht) fin) (fun ht => hy top ro hro hok.2 hst (hm.2 ht) fin)
  · exact h.elim

theorem sound_block {id : Nat} {b : Code} (hb : Sound P T n pl b) : Sound P T n pl (.block id b) := by
  intro top ro hro σ0 w0 ms e σ a w k Q hok hst h hQ
  simp only [codeOK] at hok
  rw [acode] at h
  refine acut_elim (n := n) h (σ0 := σ0) (w0 := w0) fun j hm hj => ?_
  refine wpIn_block (hb top ro hro hok hst hm fun ex e' σ' a' w' ms' hk hst' hmk => ?_)
  cases ex with
  | normal =>
    obtain ⟨e2, σ2, hk2, hst2⟩ := hj _ _ _ _ _ hk hst'
    exact hQ .normal _ _ _ _ _ hk2 hst2 hmk
  | exit i =>
    simp only [Ex.out, Exit.inBlock]
    simp only [exB] at hk
    cases hi : Nat.beq i id with
    | true =>
      obtain rfl := Nat.eq_of_beq_eq_true hi
      rw [hi, cond_true] at hk
      rw [if_pos rfl]
      obtain ⟨e2, σ2, hk2, hst2⟩ := hj _ _ _ _ _ hk hst'
      exact hQ .normal _ _ _ _ _ hk2 hst2 hmk
    | false =>
      rw [hi, cond_false] at hk
      rw [if_neg (fun h => by rw [h, Nat.beq_refl] at hi; cases hi)]
      exact hQ (.exit i) _ _ _ _ _ hk hst' hmk
  | ret => exact hQ .ret _ _ _ _ _ hk hst' hmk

theorem sound_loop {b : Code} (hb : Sound P T n pl b) : Sound P T n pl (.loop b) := by
  intro top ro hro σ0 w0 ms e σ a w k Q hok hst h hQ
  simp only [codeOK] at hok
  rw [acode] at h
  obtain ⟨fx, ks, s0, hf0, hg0, hl⟩ := h
  intro fb kk cs hrd hfn hroom
  have key := hl (fun s σ => ∀ a1 w1 ms1, St n σ0 w0 ms1 (Env.news ks (S1.encs (shs ks) s) fx) σ a1 w1 → mksOK top ms ms1 →
      ∃ x a' w', Q x a' w' ∧ ArrivesIn (Machine.fenced P (FW ro)) P (lone (fb.atR a1 (.code b :: .inLoop b :: kk)) cs w1) fb kk cs x a' w') ?_
  · obtain ⟨x, a', w', hq, harr⟩ := key a w ms ⟨⟨hst.env.size, fun t v ht => hst.env.get t v (Env.news_get hf0 hg0 ht)⟩, hst.inv, hst.defers, hst.nodup⟩ (fun _ => rfl)
    exact ⟨x, a', w', hq, .of_steps (.one (fenced_calm hfn hroom rfl) stepR_loop) harr⟩
  · intro s σ1 Y hY hbody a1 w1 ms1 hst1 hm1
    obtain ⟨x, a2, w2, hq, harr⟩ := hb top ro hro hok hst1 hbody (Q := Exit.then (fun a2 w2 => ∃ x a' w', Q x a' w' ∧ ArrivesIn (Machine.fenced P (FW ro)) P (lone (fb.atR a2 (.code b :: .inLoop b :: kk)) cs w2) fb kk cs x a' w') Q)
      (fun ex e' σ' a' w' ms' hk hst' hmk => by
        cases ex with
        | normal =>
          obtain ⟨s', σ2, hy, hst2⟩ := hst'.arrived hk
          exact hY _ _ hy a' w' ms' hst2 (hm1.trans hmk)
        | exit id => exact hQ (.exit id) _ _ _ _ _ hk hst' (hm1.trans hmk)
        | ret => exact hQ .ret _ _ _ _ _ hk hst' (hm1.trans hmk)) fb (.inLoop b :: kk) cs hrd hfn hroom
    cases x with
    | normal =>
      obtain ⟨x', a', w', hq', harr'⟩ := hq
      exact ⟨x', a', w', hq', .of_steps (StepsIn.trans harr (.one (fenced_calm hfn hroom rfl) stepR_inLoop)) harr'⟩
    | exit id => exact ⟨_, a2, w2, hq, .pass (x := .inLoop b) rfl (fun _ _ => .inl (by simp)) harr⟩
    | goto l => exact ⟨_, a2, w2, hq, .pass (x := .inLoop b) rfl (fun _ _ => .inl (by simp)) harr⟩
    | ret => exact ⟨_, a2, w2, hq, .pass (x := .inLoop b) rfl (fun _ _ => .inl (by simp)) harr⟩
    | panic ch => exact ⟨_, a2, w2, hq, .pass (x := .inLoop b) rfl (fun _ _ => .inl (by simp)) harr⟩
    | outgrown => exact ⟨_, a2, w2, hq, .pass (x := .inLoop b) rfl (fun _ _ => .inl (by simp)) harr⟩

theorem sound_region (hT : TTok P T) (hm : P.follows .mixedOrders = true) {id : Nat} {ops : Array Oper} {draw : Bool} : Sound P T n pl (.region id ops draw) := by
  intro top ro hro σ0 w0 ms e σ a w k Q hok hst h hQ
  simp only [codeOK] at hok
  rw [acode] at h
  cases draw with
  | true =>
    rw [cond_true] at h hok
    split at h
    · rename_i l hl
      rw [hl] at hok
      refine acut_elim (n := n) h (σ0 := σ0) (w0 := w0) fun j hj hk => ?_
      exact adraw_sound hT hm hok (fun _ h => h) hst (Same.refl _ a) hj fun e' σ' a' w' hj' hst' _ => by
        obtain ⟨e2, σ2, hk2, hst2⟩ := hk _ _ _ _ _ hj' hst'
        exact hQ .normal _ _ _ _ _ hk2 hst2 (fun _ => rfl)
    · exact h.elim
  | false =>
    rw [cond_false] at h
    refine acut_elim (n := n) h (σ0 := σ0) (w0 := w0) fun j hj hk => ?_
    exact wpIn_region_list (aops_sound hT (fun _ h => h) hst (Same.refl _ a) hj fun e' σ' a' w' hj' hst' _ => by
      obtain ⟨e2, σ2, hk2, hst2⟩ := hk _ _ _ _ _ hj' hst'
      exact hQ .normal _ _ _ _ _ hk2 hst2 (fun _ => rfl))

end
end Go.Eng

/- The soundness of the walk of a function's code: the range over a function, and all forms together. Conditions: the table of types is the program's; the regions that draw their order pass the check. -/
namespace Go.Eng
open Go

section
variable {P : Program} {T : TT} {n : Nat} {pl : Plan}

/-- The record of a loop, its state and its pending jump open. -/
def loopObj (fn : FuncId) (tmps : Array Value) (ps : Array Tmp) (as b : Code) (defers : Nat) (s : LoopState) (j : Option Code) : Obj :=
  .loop { state := s, pending := j, fn, tmps, params := ps, assign := as, body := b, defers }

theorem loopObj_cells (fn : FuncId) (tmps : Array Value) (ps : Array Tmp) (as b : Code) (d : Nat) (s : LoopState) (j : Option Code) : Obj.isCells (loopObj fn tmps ps as b d s j) = false := rfl

section
variable {fn : FuncId} {tmps : Array Value} {ps : Array Tmp} {as b : Code} {dd l : Nat} {w : World} {j : Option Code} {s : LoopState}

theorem run_getLoop (h : w.heap[l]? = some (loopObj fn tmps ps as b dd s j)) : (Instr.getLoop l).run P w = .ok { state := s, pending := j, fn := fn, tmps := tmps, params := ps, assign := as, body := b, defers := dd } w := by
  simp only [Instr.getLoop, Sem.run_bind, run_getObj' h rfl, Result.andThen_ok]
  rfl

theorem run_beginRound' (h : w.heap[l]? = some (loopObj fn tmps ps as b dd .ready j)) : (Instr.beginRound l).run P w = .ok () { w with heap := w.heap.setIfInBounds l (loopObj fn tmps ps as b dd .busy j) } := by
  simp only [Instr.beginRound, Sem.run_bind, run_getLoop h, Result.andThen_ok, run_setObj' h rfl]
  rfl

theorem run_endRound' (h : w.heap[l]? = some (loopObj fn tmps ps as b dd .busy j)) (jj : Option Code) :
    (Instr.endRound l jj).run P w = .ok (.bool jj.isNone) { w with heap := w.heap.setIfInBounds l (loopObj fn tmps ps as b dd (if jj.isNone then .ready else .done) jj) } := by
  simp only [Instr.endRound, Sem.run_bind, run_getLoop h, Result.andThen_ok, run_setObj' h rfl, Sem.run_pure]
  rfl

theorem run_endLoop' (h : w.heap[l]? = some (loopObj fn tmps ps as b dd s j)) (hs : (s == .busy) = false) :
    (Instr.endLoop l).run P w = .ok j { w with heap := w.heap.setIfInBounds l (loopObj fn tmps ps as b dd .exhausted j) } := by
  simp only [Instr.endLoop, Sem.run_bind, run_getLoop h, Result.andThen_ok, hs, Bool.false_eq_true, if_false, run_setObj' h rfl, Sem.run_pure]
  rfl

end

theorem sound_round {as b : Code} (ha : Sound P T n pl as) (hb : Sound P T n pl b) (hoka : codeOK n pl as = true) (hokb : codeOK n pl b = true) {ps : Array Tmp} (hps : allBlt n ps.toList = true) {e : Env} {a : Act}
    (he : EnvRel n e a) {fn : FuncId} {dd l : Nat} :
    YieldOK P l (loopObj fn a.tmps ps as b dd) (fun args σ1 R => args.length = ps.toList.length ∧
          acode P T n pl false as (psets e ps.toList args) σ1 fun x e1 σ2 => match x with
            | .normal => σ2 l = some (.other 1 (loopObj fn a.tmps ps as b dd .ready none)) ∧
              acode P T n pl false b e1 (σ2.ins l (.other 1 (loopObj fn a.tmps ps as b dd .busy none))) fun x _ σ3 => σ3 l = some (.other 1 (loopObj fn a.tmps ps as b dd .busy none)) ∧ R x σ3
            | _ => False) := by
  intro args σ R hl ⟨hlen, hA⟩ w hw
  have hlw := (hw.other hl).1
  refine ⟨.round l fn ((ps.zip args.toArray).foldl (fun tmps (t, v) => tmps.setIfInBounds t v) a.tmps) as b, ?_, ?_⟩
  · simp only [Deferred.ofValue, invoke, Sem.run_bind, Sem.run_pure, Result.andThen_ok, Instr.yield]
    have hsz : ¬ (#[] ++ args.toArray ++ #[]).size ≠ ps.size := by simpa using hlen
    have hgl := run_getLoop (P := P) hlw
    have hlen' : args.length = ps.size := by simpa using hlen
    simp [hgl, hlen']
  · refine roundIn_of_wpIn trivial ?_
    rw [FW_inRound]
    have hst : St n σ w [] (psets e ps.toList args) σ { tmps := (ps.zip args.toArray).foldl (fun tmps (t, v) => tmps.setIfInBounds t v) a.tmps, defers := [] } w := by
      refine ⟨?_, Inv.refl hw, rfl, List.nodup_nil⟩
      have := psets_rel (n := n) (ts := ps.toList) (vs := args) he (allBlt_lt hps)
      refine ⟨?_, ?_⟩
      · have h1 := this.size
        simp only at h1 ⊢
        rw [← h1]
        congr 1
        rw [← Array.foldl_toList]
        simp
      · intro t v ht
        have h1 := this.get t v ht
        refine ⟨h1.1, ?_⟩
        rw [← h1.2]
        simp only
        congr 1
        rw [← Array.foldl_toList]
        simp
    refine ha false (some l) (fun h => by cases h) hoka hst hA fun x e1 σ2 a1 w1 ms1 hk hst1 hm1 => ?_
    cases x with
    | normal =>
      obtain ⟨hl2, hB⟩ := hk
      obtain rfl := hm1 rfl
      have h2 := (hst1.inv.rel.other hl2).1
      refine ⟨_, run_beginRound' h2, ?_⟩
      refine hb false (some l) (fun h => by cases h) hokb ⟨hst1.env, hst1.inv.setObj hl2 rfl, hst1.defers, hst1.nodup⟩ hB fun x e3 σ3 a3 w3 ms3 hk3 hst3 hm3 => ?_
      obtain rfl := hm3 rfl
      obtain ⟨hl3, hR⟩ := hk3
      have h3 := (hst3.inv.rel.other hl3).1
      cases x with
      | normal => exact ⟨_, _, run_endRound' h3 none, _, _, rfl, hst3.inv.setObj hl3 rfl, hR⟩
      | exit id => exact ⟨_, _, run_endRound' h3 (some (.exit id)), _, _, rfl, hst3.inv.setObj hl3 rfl, hR⟩
      | ret => exact ⟨_, _, run_endRound' h3 (some .ret), _, _, rfl, hst3.inv.setObj hl3 rfl, hR⟩
    | exit id => exact hk.elim
    | ret => exact hk.elim

theorem sound_range {f : Operand} {ps : Array Tmp} {as b : Code} (ha : Sound P T n pl as) (hb : Sound P T n pl b) : Sound P T n pl (.rangeFunc f ps as b) := by
  intro top ro hro σ0 w0 ms e σ a w k Q hok hst h hQ
  simp only [codeOK, Bool.and_eq_true] at hok
  cases top with
  | false => rw [acode] at h <;> first | exact h.elim | (intros; contradiction)
  | true =>
    obtain rfl := hro rfl
    rw [acode] at h
    split at h
    · rename_i fv hf
      cases hps : allBlt n ps.toList with
      | false => rw [hps, cond_false] at h; exact h.elim
      | true =>
        rw [hps, cond_true] at h
        refine wpIn_rangeFunc fun fn _ => ?_
        -- the block of the deferred calls, and the record
        have hI1 := hst.inv.alloc_hidden (.deferred (some []))
        have hfr : σ w.heap.size = none := hst.inv.rel.fresh
        have hsz : (w.alloc (.deferred (some []))).heap.size = w.heap.size + 1 := by simp
        have hI2 := hI1.alloc (o := loopObj fn a.tmps ps as b w.heap.size .ready none) (ao := .other 1 (loopObj fn a.tmps ps as b w.heap.size .ready none)) ⟨rfl, rfl⟩
        rw [hsz] at hI2
        have hl0 : σ (w.heap.size + 1) = none := by rw [← hsz]; exact hI1.rel.fresh
        have hk := h (w.heap.size + 1) (loopObj fn a.tmps ps as b w.heap.size) hl0 (sound_round ha hb hok.1 hok.2 hps hst.env)
        have hmk : ∀ {σ' w'}, Inv (σ.ins (w.heap.size + 1) (.other 1 (loopObj fn a.tmps ps as b w.heap.size .ready none))) ((w.alloc (.deferred (some []))).alloc (loopObj fn a.tmps ps as b w.heap.size .ready none)) [] σ' w' →
            Inv σ0 w0 (w.heap.size :: ms) σ' w' := by
          intro σ' w' hI
          have hall := hI2.trans hI
          refine ⟨hall.rel, hall.size, hall.old, hall.os, hall.tape, hall.output, fun r hr => ?_, hall.ro⟩
          rcases List.mem_cons.1 hr with rfl | hr
          · have hb1 : ((w.alloc (.deferred (some []))).alloc (loopObj fn a.tmps ps as b w.heap.size .ready none)).heap[w.heap.size]? = some (.deferred (some [])) := by
              rw [heap_push_old (by simp)]
              exact heap_alloc_new w _
            obtain ⟨h3, h4⟩ := hI.old w.heap.size (lt_of_block hb1) (by rw [Heap.ins_ne _ _ (by omega)]; exact hfr)
            exact ⟨hst.inv.size, h3, h4.trans hb1⟩
          · exact hall.marks r hr
        unfold acallR at hk
        split at hk
        · rename_i g first cap
          obtain ⟨⟨fg, hg1, hg2, hg3⟩, hg4⟩ := hk
          have hev := hst.env.eval hf
          refine ⟨w.heap.size + 1, [{ target := .collected w.heap.size, args := #[] }], (w.alloc (.deferred (some []))).alloc (loopObj fn a.tmps ps as b w.heap.size .ready none),
            { target := .fn (.func g) cap, args := first ++ #[.func (.yield (w.heap.size + 1)) #[] #[]] }, (w.alloc (.deferred (some []))).alloc (loopObj fn a.tmps ps as b w.heap.size .ready none), g, first ++ #[.func (.yield (w.heap.size + 1)) #[] #[]] ++ cap, (w.alloc (.deferred (some []))).alloc (loopObj fn a.tmps ps as b w.heap.size .ready none), ?_, ?_, fun _ _ => trivial, ?_, fun h => (by cases h), ?_⟩
          · simp [Instr.enterLoop, FW, loopObj]
          · have hyv : ∀ v, a.eval (.const v) = v := fun v => rfl
            simp only [resolve, hev, List.map_toArray, List.map_cons, List.map_nil, Deferred.ofValue, hyv, Sem.run_pure]
          · simp only [invoke, callFunc, Sem.run_bind, Sem.run_pure, Result.andThen_ok, run_program, hg1, hg2, hg3, Bool.false_eq_true, if_false]
          · have e1 : first ++ #[Value.func (.yield (w.heap.size + 1)) #[] #[]] ++ cap = (first.toList ++ [Value.func (.yield (w.heap.size + 1)) #[] #[]] ++ cap.toList).toArray := by
              apply Array.ext'
              simp
            rw [e1]
            refine (hg4 _ hI2.rel).mono fun ed w3 hp => ?_
            obtain ⟨v, σ3, rfl, hI3, hfin⟩ := hp
            have hI4 := hmk hI3
            have hnd : (w.heap.size :: ms).Nodup := List.nodup_cons.2 ⟨fun hm => by have := lt_of_block (hst.inv.marks _ hm).2.2; omega, hst.nodup⟩
            have fin : ∀ {s : LoopState} {j : Option Code} {x : Ex}, σ3 (w.heap.size + 1) = some (.other 1 (loopObj fn a.tmps ps as b w.heap.size s j)) → (s == .busy) = false → k x e (σ3.del (w.heap.size + 1)) →
                (Instr.endLoop (w.heap.size + 1)).run P w3 = .ok j { w3 with heap := w3.heap.setIfInBounds (w.heap.size + 1) (loopObj fn a.tmps ps as b w.heap.size .exhausted j) } ∧
                Q x.out { a with defers := [{ target := .collected w.heap.size, args := #[] }] ++ a.defers } { w3 with heap := w3.heap.setIfInBounds (w.heap.size + 1) (loopObj fn a.tmps ps as b w.heap.size .exhausted j) } := by
              intro s j x hs hb' hkx
              refine ⟨run_endLoop' (hI4.rel.other hs).1 hb', ?_⟩
              have hI5 := (hI4.setObj (ob' := loopObj fn a.tmps ps as b w.heap.size .exhausted j) hs rfl).forget (w.heap.size + 1)
              have hdel : (σ3.ins (w.heap.size + 1) (.other 1 (loopObj fn a.tmps ps as b w.heap.size .exhausted j))).del (w.heap.size + 1) = σ3.del (w.heap.size + 1) := by
                funext r
                by_cases hr : r = w.heap.size + 1
                · subst hr; simp [Heap.del_same]
                · rw [Heap.del_ne _ hr, Heap.del_ne _ hr, Heap.ins_ne _ _ hr]
              rw [hdel] at hI5
              exact hQ x e (σ3.del (w.heap.size + 1)) _ _ (w.heap.size :: ms) hkx
                ⟨⟨hst.env.size, hst.env.get⟩, hI5, by simp [hst.defers, markOf], hnd⟩ (fun h => by cases h)
            rcases hfin with ⟨hs, hkx⟩ | ⟨id, hs, hkx⟩ | ⟨hs, hkx⟩
            · obtain ⟨f1, f2⟩ := fin hs rfl hkx
              exact ⟨_, _, f1, f2⟩
            · obtain ⟨f1, f2⟩ := fin hs rfl hkx
              exact ⟨_, _, f1, wpIn_exit f2⟩
            · obtain ⟨f1, f2⟩ := fin hs rfl hkx
              exact ⟨_, _, f1, wpIn_ret f2⟩
        · exact hk.elim
    · exact h.elim

/-- **The walk of a piece of code is sound.** -/
theorem acode_sound (hT : TTok P T) (hm : P.follows .mixedOrders = true) : ∀ c : Code, Sound P T n pl c
  | .skip => fun top ro hro σ0 w0 ms e σ a w k Q hok hst h hQ => by
    rw [acode] at h
    exact wpIn_skip (hQ .normal _ _ _ _ _ h hst fun _ => rfl)
  | .region id ops draw => sound_region hT hm
  | .seq a b => sound_seq (acode_sound hT hm a) (acode_sound hT hm b)
  | .cond c a b => sound_cond (acode_sound hT hm a) (acode_sound hT hm b)
  | .block id b => sound_block (acode_sound hT hm b)
  | .loop b => sound_loop (acode_sound hT hm b)
  | .rangeFunc f ps as b => sound_range (acode_sound hT hm as) (acode_sound hT hm b)
  | .exit id => fun top ro hro σ0 w0 ms e σ a w k Q hok hst h hQ => by
    rw [acode] at h
    exact wpIn_exit (hQ (.exit id) _ _ _ _ _ h hst fun _ => rfl)
  | .ret => fun top ro hro σ0 w0 ms e σ a w k Q hok hst h hQ => by
    rw [acode] at h
    exact wpIn_ret (hQ .ret _ _ _ _ _ h hst fun _ => rfl)
  | .scope _ => fun top ro hro σ0 w0 ms e σ a w k Q hok hst h hQ => by
    rw [acode] at h <;> first | exact h.elim | (intros; contradiction)
  | .label _ => fun top ro hro σ0 w0 ms e σ a w k Q hok hst h hQ => by
    rw [acode] at h <;> first | exact h.elim | (intros; contradiction)
  | .goto _ => fun top ro hro σ0 w0 ms e σ a w k Q hok hst h hQ => by
    rw [acode] at h <;> first | exact h.elim | (intros; contradiction)
  | .refuse _ => fun top ro hro σ0 w0 ms e σ a w k Q hok hst h hQ => by
    rw [acode] at h <;> first | exact h.elim | (intros; contradiction)

end
end Go.Eng

/- A function's contract over the view, out of the walk of its body. Conditions: the table of types is the program's; the regions that draw their order pass the check. -/
namespace Go.Eng
open Go

theorem Weak.refl (σ : Heap) : Weak σ σ := fun _ o h => ⟨o, h, fun _ h => h⟩
theorem Weak.trans {a b c : Heap} (h : Weak a b) (h' : Weak b c) : Weak a c := fun r o ho => by
  obtain ⟨o1, h1, h2⟩ := h' r o ho
  obtain ⟨o0, h3, h4⟩ := h r o1 h1
  exact ⟨o0, h3, fun c hc => h2 c (h4 c hc)⟩

/-- The values of a function's results. -/
def ares (T : TT) (e : Env) (σ : Heap) : List ResultVar → Option (List Value)
  | [] => some []
  | .tmp t :: l => match e.get t with
    | some v => match ares T e σ l with
      | some vs => some (v :: vs)
      | none => none
    | none => none
  | .cell a t :: l => match T t, e.get a with
    | some i, some (.pointer p) => match σ.ldT i p with
      | some v => match ares T e σ l with
        | some vs => bif nonOther i.k then some (v :: vs) else none
        | none => none
      | none => none
    | _, _ => none

def packed : List Value → Value
  | [v] => v
  | vs => .tuple vs.toArray

def env0 : Nat → List Value → Env
  | _, [] => []
  | i, v :: vs => (i, v) :: env0 (i + 1) vs

section
variable {P : Program} {T : TT}

theorem run_asAddr {p : Option Addr} {a : Addr} (h : p = some a) {w : World} : (asAddr (.pointer p)).run P w = .ok a w := by subst h; rfl

theorem ldT_some {σ : Heap} {i : TI} {p : Option Addr} {v : Value} (h : σ.ldT i p = some v) : ∃ a, p = some a := by
  cases p with
  | none => simp [Heap.ldT] at h
  | some a => exact ⟨a, rfl⟩

theorem ares_sound (hT : TTok P T) {n : Nat} {e : Env} {a : Act} {σ : Heap} {w : World} (he : EnvRel n e a) (hw : Rel σ w) {g : ResultVar → Sem Value} (hg1 : ∀ t, g (.tmp t) = pure (a.tmps.getD t undef))
    (hg2 : ∀ ad t, g (.cell ad t) = (do loadVar t (← asAddr (a.tmps.getD ad undef)))) : ∀ {l : List ResultVar} {vs : List Value}, ares T e σ l = some vs → Sem.run P (l.mapM g) w = .ok vs w
  | [], vs, h => by
    simp only [ares, Option.some.injEq] at h
    subst h
    rfl
  | .tmp t :: l, vs, h => by
    unfold ares at h
    split at h
    · rename_i v hv
      split at h
      · rename_i us hu
        simp only [Option.some.injEq] at h
        subst h
        have := ares_sound hT he hw hg1 hg2 hu
        obtain ⟨_, h2⟩ := he.get _ _ hv
        simp only [List.mapM_cons, Sem.run_bind, Sem.run_pure, Result.andThen_ok, this, hg1, h2]
      · cases h
    · cases h
  | .cell ad t :: l, vs, h => by
    unfold ares at h
    split at h
    · rename_i i p hi hp
      split at h
      · rename_i v hv
        split at h
        · rename_i us hu
          cases hno : nonOther i.k with
          | false => rw [hno, cond_false] at h; cases h
          | true =>
            rw [hno, cond_true] at h
            simp only [Option.some.injEq] at h
            subst h
            have ih := ares_sound hT he hw hg1 hg2 hu
            obtain ⟨_, h2⟩ := he.get _ _ hp
            obtain ⟨adr, rfl⟩ := ldT_some hv
            have h3 := hw.ldT (hT _ _ hi) hno hv
            have h4 : (loadVar t adr).run P w = .ok v w := by
              simpa only [Instr.loadAt, Instr.sureAddr, Sem.run_bind, Sem.run_pure, Result.andThen_ok] using h3
            have h5 : (asAddr (.pointer (some adr))).run P w = .ok adr w := rfl
            simp only [List.mapM_cons, Sem.run_bind, Sem.run_pure, Result.andThen_ok, hg2, h2, h5, h4, ih]
        · cases h
      · cases h
    · cases h

theorem run_results (hT : TTok P T) {n : Nat} {e : Env} {a : Act} {σ : Heap} {w : World} (he : EnvRel n e a) (hw : Rel σ w) {fn : Func} {vs : List Value} (h : ares T e σ fn.results.toList = some vs) :
    (results fn a.tmps).run P w = .ok (packed vs) w := by
  unfold results
  rw [Array.mapM_eq_mapM_toList]
  have := ares_sound (P := P) hT he hw (g := fun
    | .tmp t => pure (a.tmps.getD t undef)
    | .cell ad t => do loadVar t (← asAddr (a.tmps.getD ad undef))) (fun _ => rfl) (fun _ _ => rfl) h
  simp only [Sem.run_bind, Sem.run_map]
  refine (congrArg (fun r => (Result.andThen r _).andThen _) this).trans ?_
  simp only [Result.andThen_ok, Sem.run_pure]
  congr 1
  unfold packed
  cases vs with
  | nil => rfl
  | cons v vs => cases vs with
    | nil => rfl
    | cons u us => simp

/-- What a function's body asks, begun on the arguments. -/
def afn (P : Program) (T : TT) (n : Nat) (pl : Plan) (rs : List ResultVar) (c : Code) (args : List Value) (σ : Heap) (R : Value → Heap → Prop) : Prop :=
  acode P T n pl true c (env0 0 args) σ fun x e' σ' => match x with
    | .exit _ => False
    | _ => ∃ vs σ'', ares T e' σ' rs = some vs ∧ Weak σ' σ'' ∧ R (packed vs) σ''

theorem env0_get : ∀ (vs : List Value) (i t : Nat), (env0 i vs).get t = if i ≤ t then vs[t - i]? else none
  | [], i, t => by simp [env0, Env.get]
  | v :: vs, i, t => by
    have ih := env0_get vs (i + 1) t
    unfold env0 Env.get
    by_cases h : i = t
    · subst h; simp
    · have hb : Nat.beq i t = false := by
        cases hh : Nat.beq i t with
        | false => rfl
        | true => exact absurd (Nat.eq_of_beq_eq_true hh) h
      rw [hb, cond_false, ih]
      by_cases hle : i ≤ t
      · have h1 : i + 1 ≤ t := by omega
        have h2 : t - i = (t - (i + 1)) + 1 := by omega
        rw [if_pos h1, if_pos hle, h2, List.getElem?_cons_succ]
      · rw [if_neg (by omega), if_neg hle]

theorem env0_rel {n : Nat} {args : List Value} (h : args.length ≤ n) (ds : List Deferred) : EnvRel n (env0 0 args) { tmps := args.toArray ++ Array.replicate (n - args.toArray.size) undef, defers := ds } := by
  refine ⟨by simp; omega, fun t v ht => ?_⟩
  rw [env0_get] at ht
  simp only [Nat.zero_le, if_true, Nat.sub_zero] at ht
  have hlt : t < args.length := (List.getElem?_eq_some_iff.1 ht).1
  refine ⟨by omega, ?_⟩
  simp only [Array.getD_eq_getD_getElem?]
  rw [Array.getElem?_append_left (by simpa using hlt)]
  simp [ht]

theorem run_take {w : World} {r : Nat} (h : w.heap[r]? = some (.deferred (some []))) : (Instr.takeDeferred r).run P w = .ok [] { w with heap := w.heap.setIfInBounds r (.deferred none) } := by
  simp only [Instr.takeDeferred, Sem.run_bind, run_getObj' h rfl, Result.andThen_ok, run_setObj' h rfl, Sem.run_pure]

/-- The marks are taken; the results come out. -/
theorem leaves {fn : Func} {tmps : Array Value} {σ0 : Heap} {w0 : World} {R : Value → Heap → Prop} {v : Value} : ∀ {ms : List Nat} {σ : Heap} {w : World}, ms.Nodup → Inv σ0 w0 ms σ w →
    (∀ w', Rel σ w' → (results fn tmps).run P w' = .ok v w') → R v σ → LeavesInM (FW none) 0 P fn tmps (Post σ0 w0 R) (ms.map markOf) .returning w
  | [], σ, w, _, hI, hr, hR => by
    unfold LeavesInM LeavesIn
    exact ⟨v, hr w hI.rel, v, σ, rfl, hI, hR⟩
  | r :: ms, σ, w, hnd, hI, hr, hR => by
    unfold LeavesInM
    obtain ⟨h0, h1, h2⟩ := hI.marks r (List.mem_cons_self ..)
    refine ⟨by simp, .inl ⟨r, _, rfl, run_take h2, ?_⟩⟩
    have hnd' := List.nodup_cons.1 hnd
    refine leaves hnd'.2 ?_ hr hR
    have hlt := lt_of_block h2
    refine ⟨fun x o ho => ?_, by simpa using hI.size, fun x hx hx0 => ?_, hI.os, hI.tape, hI.output, fun x hx => ?_, fun x cs t n hx hx0 => ?_⟩
    · obtain ⟨c, hc, hf⟩ := hI.rel x o ho
      have hne : r ≠ x := fun e => by subst e; rw [h1] at ho; cases ho
      exact ⟨c, by simp only; rw [Array.getElem?_setIfInBounds_ne hne]; exact hc, hf⟩
    · obtain ⟨h3, h4⟩ := hI.old x hx hx0
      have hne : r ≠ x := by omega
      exact ⟨h3, by simp only; rw [Array.getElem?_setIfInBounds_ne hne]; exact h4⟩
    · obtain ⟨h3, h4, h5⟩ := hI.marks x (List.mem_cons_of_mem _ hx)
      have hne : r ≠ x := fun e => hnd'.1 (e ▸ hx)
      exact ⟨h3, h4, by simp only; rw [Array.getElem?_setIfInBounds_ne hne]; exact h5⟩
    · obtain ⟨h3, h4⟩ := hI.ro x cs t n hx hx0
      have hne : r ≠ x := by omega
      exact ⟨by simp only; rw [Array.getElem?_setIfInBounds_ne hne]; exact h3, h4⟩

theorem leaves_post {fn : Func} {tmps : Array Value} {σ0 : Heap} {w0 : World} {R R' : Value → Heap → Prop} (hi : ∀ v σ w, Inv σ0 w0 [] σ w → R v σ → Post σ0 w0 R' (.returned v) w) : ∀ {ms : List Nat} {w : World},
    LeavesInM (FW none) 0 P fn tmps (Post σ0 w0 R) (ms.map markOf) .returning w → LeavesInM (FW none) 0 P fn tmps (Post σ0 w0 R') (ms.map markOf) .returning w
  | [], w, h => by
    unfold LeavesInM LeavesIn at h ⊢
    obtain ⟨v, h1, v', σ, he, hI, hR⟩ := h
    cases he
    exact ⟨v, h1, hi _ _ _ hI hR⟩
  | r :: ms, w, h => by
    unfold LeavesInM at h ⊢
    obtain ⟨h0, h⟩ := h
    refine ⟨h0, ?_⟩
    rcases h with ⟨r', w', h1, h2, h3⟩ | ⟨_, fv, cap, f, args, h1, _⟩
    · exact .inl ⟨r', w', h1, h2, leaves_post hi h3⟩
    · cases h1

theorem leaves_weak (hT : TTok P T) {n : Nat} {fn : Func} {σ0 : Heap} {w0 : World} {R : Value → Heap → Prop} {ms : List Nat} {e : Env} {σ σ' : Heap} {a : Act} {w : World} (hst : St n σ0 w0 ms e σ a w) {vs : List Value}
    (hv : ares T e σ fn.results.toList = some vs) (hwk : Weak σ σ') (hR : R (packed vs) σ') : LeavesInM (FW none) 0 P fn a.tmps (Post σ0 w0 R) (ms.map markOf) .returning w :=
  leaves (R := fun v σ1 => ∃ σ', Weak σ1 σ' ∧ R v σ') hst.nodup hst.inv (fun _ hw' => run_results hT hst.env hw' hv) ⟨σ', hwk, hR⟩ |> leaves_post fun v _ _ hI ⟨σ2, hw2, h2⟩ => ⟨v, σ2, rfl, hI.weak hw2, h2⟩

/-- **A function's contract out of its body.** -/
theorem ACalls_of (hT : TTok P T) (hm : P.follows .mixedOrders = true) {f : FuncId} {fn : Func} {c : Code} {n : Nat} {rs : List ResultVar} (hf : P.funcs[f]? = some fn) (hb : fn.body = some c) (hn : fn.ntmps = n) (hrs : fn.results.toList = rs)
    (hg : (fn.name == "runtime.NumGoroutine") = false) (pl : Plan) (hok : codeOK n pl c = true) {args : List Value} (ha : args.length ≤ n) {σ : Heap} {R : Value → Heap → Prop} (h : afn P T n pl rs c args σ R) :
    ACalls P f args σ R := by
  refine ⟨⟨fn, hf, by rw [hb]; rfl, hg⟩, fun w hw => callsIn_of_wp_marks hf hb trivial ?_⟩
  rw [hn]
  subst hrs
  refine acode_sound hT hm c true none (fun _ => rfl) (σ0 := σ) (w0 := w) (ms := []) hok ⟨env0_rel ha [], Inv.refl hw, rfl, List.nodup_nil⟩ h fun x e' σ' a' w' ms' hk hst _ => ?_
  cases x with
  | exit id => exact hk.elim
  | normal =>
    obtain ⟨vs, σ'', hv, hwk, hR⟩ := hk
    simp only [Ex.out, bodyPostM]
    rw [hst.defers]
    exact leaves_weak hT hst hv hwk hR
  | ret =>
    obtain ⟨vs, σ'', hv, hwk, hR⟩ := hk
    simp only [Ex.out, bodyPostM]
    rw [hst.defers]
    exact leaves_weak hT hst hv hwk hR

end
end Go.Eng

/- The walk, step by step: configurations, and the rules by which one is brought to the next. Conditions: none. -/
namespace Go.Eng
open Go

/-- What is left to do behind the piece at hand. -/
inductive Fr where
  | seq (b : Code)
  | blk (id : Nat)

/-- The piece at hand. -/
inductive Cf where
  | code (c : Code)
  | ops (ops : Array Oper) (l : List Oper)
  | lin (ops : Array Oper) (l : List (Nat × List Nat))
  | ex (x : Ex)

section
variable (P : Program) (T : TT) (n : Nat) (pl : Plan) (top : Bool)

def kont : List Fr → (Ex → Env → Heap → Prop) → Ex → Env → Heap → Prop
  | [], k => k
  | .seq b :: st, k => exN (fun e σ => acode P T n pl top b e σ (kont st k)) (kont st k)
  | .blk id :: st, k => exB id (kont st k .normal) (kont st k)

def den : Cf → List Fr → Env → Heap → (Ex → Env → Heap → Prop) → Prop
  | .code c, st, e, σ, k => acode P T n pl top c e σ (kont P T n pl top st k)
  | .ops ops l, st, e, σ, k => aops P T n ops l e σ (kont P T n pl top st k .normal)
  | .lin ops l, st, e, σ, k => alin P T n ops l e σ (kont P T n pl top st k .normal)
  | .ex x, st, e, σ, k => kont P T n pl top st k x e σ
end

/-- The result of a run of silent steps. -/
inductive Res where
  | mk (cf : Cf) (st : List Fr) (e : Env)
  | none

def pureOp : Op → Bool
  | .load .. | .store .. | .alloc .. | .box .. | .buildSlice .. | .makeSlice .. | .makeMap .. | .mapUpdate .. | .range .. | .next .. | .entry .. | .call .. => false
  | _ => true

/-- What an operation that touches no memory comes to. -/
def pure1 (T : TT) (e : Env) (o : Op) : Option (List Prop × Value) :=
  match o with
  | .call c => match c.callee, e.evals c.args.toList with
    | .builtin .append, _ => none
    | .builtin .clear, _ => none
    | .builtin .delete, _ => none
    | .builtin b, some args => abuiltin T b c.argTypes.toList args
    | _, _ => none
  | op => bif pureOp op then apv T e op else none

theorem pure1_step {P : Program} {T : TT} {e : Env} {o : Oper} {ps : List Prop} {v : Value} (h : pure1 T e o.op = some (ps, v)) {σ : Heap} {k : Value → Heap → Prop} (hk : conj ps (k v σ)) : astep P T e o σ k := by
  unfold pure1 at h
  split at h
  · rename_i c ho
    unfold astep
    rw [ho]
    dsimp only
    split at h
    · cases h
    · cases h
    · cases h
    · rename_i b args hb1 hb2 hb3 hc ha
      rw [hc, ha]
      have h1 : b ≠ .append := fun h => hb1 h
      have h2 : b ≠ .clear := fun h => hb2 h
      have h3 : b ≠ .delete := fun h => hb3 h
      cases b <;> first | exact absurd rfl h1 | exact absurd rfl h2 | exact absurd rfl h3 | (simp only [h]; exact hk)
    · cases h
  · rename_i hnc
    cases hp : pureOp o.op with
    | false => rw [hp, cond_false] at h; cases h
    | true =>
      rw [hp, cond_true] at h
      unfold astep
      cases ho : o.op <;> rw [ho] at h hp <;> first | (simp only [pureOp] at hp; cases hp; done) | exact absurd ho (hnc _) | (simp only [h]; exact hk)

theorem den_code {P : Program} {T : TT} {n : Nat} {pl : Plan} {top : Bool} {c : Code} {st : List Fr} {e : Env} {σ : Heap} {k : Ex → Env → Heap → Prop} :
    den P T n pl top (.code c) st e σ k = acode P T n pl top c e σ (kont P T n pl top st k) := rfl

/-- The operation at hand, what it keeps, and what comes behind it. -/
def cur : Cf → Option (Array Oper × Oper × List Nat × Cf)
  | .ops ops (o :: l) => some (ops, o, [], .ops ops l)
  | .lin ops ((i, pend) :: l) => match nth ops.toList i with
    | some o => some (ops, o, pend, .lin ops l)
    | none => none
  | _ => none

section
variable {P : Program} {T : TT} {n : Nat} {pl : Plan} {top : Bool} {cf cf' : Cf} {st : List Fr} {e : Env} {σ : Heap} {k : Ex → Env → Heap → Prop} {ops : Array Oper} {o : Oper} {pend : List Nat}

theorem cur_den (h : cur cf = some (ops, o, pend, cf')) (hd : agop P T n ops o e σ fun e' σ' => conj (keeps T ops.toList e' σ' pend) (den P T n pl top cf' st e' σ' k)) : den P T n pl top cf st e σ k := by
  unfold cur at h
  split at h
  · simp only [Option.some.injEq, Prod.mk.injEq] at h
    obtain ⟨rfl, rfl, rfl, rfl⟩ := h
    exact hd
  · split at h
    · rename_i i pd l o' ho
      simp only [Option.some.injEq, Prod.mk.injEq] at h
      obtain ⟨rfl, rfl, rfl, rfl⟩ := h
      show alin P T n _ _ e σ (kont P T n pl top st k .normal)
      unfold alin
      rw [ho]
      exact hd
    · cases h
  · cases h

/-- The environment with the value in its slot. -/
def psh (d : Option Tmp) (v : Value) (e : Env) : Env :=
  match d with
  | some d => (d, v) :: e
  | none => e

def okD (n : Nat) : Option Tmp → Bool
  | some d => Nat.blt d n
  | none => true

theorem put_psh {d : Option Tmp} (h : okD n d = true) {v : Value} {k : Env → Prop} : put n e d v k ↔ k (psh d v e) := by
  unfold put psh
  cases d with
  | none => exact Iff.rfl
  | some d =>
    simp only [okD] at h
    simp only [h, cond_true]
    exact Iff.rfl

/-- Behind the operation. -/
abbrev aft (P : Program) (T : TT) (n : Nat) (pl : Plan) (top : Bool) (ops : Array Oper) (d : Option Tmp) (pend : List Nat) (cf' : Cf) (st : List Fr) (e : Env) (k : Ex → Env → Heap → Prop) (v : Value) (σ' : Heap) : Prop :=
  conj (keeps T ops.toList (psh d v e) σ' pend) (den P T n pl top cf' st (psh d v e) σ' k)

theorem go_op {dd : Option Tmp} (h : cur cf = some (ops, o, pend, cf')) (hg : o.guard = none) (hdd : o.dst = dd) (hd : okD n dd = true) (hs : astep P T e o σ (aft P T n pl top ops dd pend cf' st e k)) : den P T n pl top cf st e σ k := by
  subst hdd
  refine cur_den h ?_
  unfold agop
  rw [hg]
  simp only [put_psh hd]
  exact hs

/-- The truth in the slot that a guard names. -/
def gslot (ops : Array Oper) (j : Nat) (e : Env) : Option (Nat × Value) :=
  match nth ops.toList j with
  | some oj => match oj.dst with
    | some d => match e.get d with
      | some v => some (d, v)
      | none => none
    | none => none
  | none => none

theorem gslot_some {j d : Nat} {v : Value} (h : gslot ops j e = some (d, v)) : ∃ oj, ops[j]? = some oj ∧ oj.dst = some d ∧ e.get d = some v := by
  unfold gslot at h
  split at h
  · rename_i oj ho
    rw [nth_eq, Array.getElem?_toList] at ho
    split at h
    · rename_i d' hd
      split at h
      · rename_i v' hv
        simp only [Option.some.injEq, Prod.mk.injEq] at h
        obtain ⟨rfl, rfl⟩ := h
        exact ⟨oj, ho, hd, hv⟩
      · cases h
    · cases h
  · cases h

theorem go_guard {dd : Option Tmp} {j d : Nat} {want b : Bool} (h : cur cf = some (ops, o, pend, cf')) (hg : o.guard = some (j, want)) (hs : gslot ops j e = some (d, .bool b)) (hdd : o.dst = dd) (hd : okD n dd = true)
    (h1 : b = want → astep P T ((d, .bool want) :: e) o σ (aft P T n pl top ops dd pend cf' st ((d, .bool want) :: e) k))
    (h2 : b = !want → aft P T n pl top ops dd pend cf' st ((d, .bool (!want)) :: e) k undef σ) : den P T n pl top cf st e σ k := by
  subst hdd
  refine cur_den h ?_
  obtain ⟨oj, ho, hdj, hv⟩ := gslot_some hs
  unfold agop
  rw [hg]
  simp only [ho, hdj, hv, put_psh hd]
  cases want with
  | true =>
    simp only [cond_true]
    exact ⟨h1, h2⟩
  | false =>
    simp only [cond_false]
    exact ⟨h2, h1⟩

/-- The guard's slot holds no truth: passed over. -/
def notBool : Value → Bool
  | .bool _ => false
  | _ => true

theorem go_pass {dd : Option Tmp} {j d : Nat} {want : Bool} {v : Value} (h : cur cf = some (ops, o, pend, cf')) (hg : o.guard = some (j, want)) (hs : gslot ops j e = some (d, v)) (hv' : notBool v = true) (hdd : o.dst = dd) (hd : okD n dd = true)
    (h2 : aft P T n pl top ops dd pend cf' st e k undef σ) : den P T n pl top cf st e σ k := by
  subst hdd
  refine cur_den h ?_
  obtain ⟨oj, ho, hdj, hv⟩ := gslot_some hs
  unfold agop
  rw [hg]
  simp only [ho, hdj, hv]
  cases v <;> first | (simp only [notBool] at hv'; cases hv'; done) | (simp only [put_psh hd]; exact h2)

theorem go_cond {c : Operand} {a b : Code} {t : Bool} (hc : e.eval c = some (.bool t)) (h1 : t = true → den P T n pl top (.code a) st e σ k) (h2 : t = false → den P T n pl top (.code b) st e σ k) :
    den P T n pl top (.code (.cond c a b)) st e σ k := by
  rw [den_code, acode, hc]
  refine .inl ⟨fun ht => ?_, fun ht => ?_⟩
  · have := h1 ht
    rw [den_code] at this
    have e1 : exN (kont P T n pl top st k .normal) (kont P T n pl top st k) = kont P T n pl top st k := by
      funext x e' σ'
      cases x <;> rfl
    rw [e1]
    exact this
  · have := h2 ht
    rw [den_code] at this
    have e1 : exN (kont P T n pl top st k .normal) (kont P T n pl top st k) = kont P T n pl top st k := by
      funext x e' σ'
      cases x <;> rfl
    rw [e1]
    exact this

theorem go_cond_cut {c : Operand} {a b : Code} {t : Bool} (hc : e.eval c = some (.bool t)) (fx : Env) (ks : List (Nat × S1)) (J : S1.Ts (shs ks) → Heap → Prop)
    (h1 : t = true → den P T n pl top (.code a) [] e σ (exN (arrive fx ks J) (kont P T n pl top st k))) (h2 : t = false → den P T n pl top (.code b) [] e σ (exN (arrive fx ks J) (kont P T n pl top st k)))
    (h3 : ∀ s σ', J s σ' → den P T n pl top (.ex .normal) st (Env.news ks (S1.encs (shs ks) s) fx) σ' k) :
    den P T n pl top (.code (.cond c a b)) st e σ k := by
  rw [den_code, acode, hc]
  exact .inr ⟨fx, ks, J, ⟨h1, h2⟩, h3⟩

theorem go_block_cut {id : Nat} {b : Code} (fx : Env) (ks : List (Nat × S1)) (J : S1.Ts (shs ks) → Heap → Prop)
    (h1 : den P T n pl top (.code b) [] e σ (exB id (arrive fx ks J) (kont P T n pl top st k)))
    (h3 : ∀ s σ', J s σ' → den P T n pl top (.ex .normal) st (Env.news ks (S1.encs (shs ks) s) fx) σ' k) :
    den P T n pl top (.code (.block id b)) st e σ k := by
  rw [den_code, acode]
  exact .inr ⟨fx, ks, J, h1, h3⟩

theorem go_region_cut {id : Nat} {draw : Bool} (fx : Env) (ks : List (Nat × S1)) (J : S1.Ts (shs ks) → Heap → Prop) {c1 : Cf}
    (hc : (bif draw then (match pl.get id with | some l => some (Cf.lin ops l) | none => none) else some (Cf.ops ops ops.toList)) = some c1)
    (h1 : den P T n pl top c1 [] e σ (exN (arrive fx ks J) k))
    (h3 : ∀ s σ', J s σ' → den P T n pl top (.ex .normal) st (Env.news ks (S1.encs (shs ks) s) fx) σ' k) :
    den P T n pl top (.code (.region id ops draw)) st e σ k := by
  rw [den_code, acode]
  cases draw with
  | true =>
    rw [cond_true] at hc ⊢
    cases hl : pl.get id with
    | none => rw [hl] at hc; cases hc
    | some l =>
      rw [hl] at hc
      cases hc
      exact .inr ⟨fx, ks, J, h1, h3⟩
  | false =>
    rw [cond_false] at hc ⊢
    cases hc
    exact .inr ⟨fx, ks, J, h1, h3⟩

theorem go_block {id : Nat} {b : Code} (h : den P T n pl top (.code b) (.blk id :: st) e σ k) : den P T n pl top (.code (.block id b)) st e σ k := by
  rw [den_code, acode]
  exact .inl h

/-- A loop, by an invariant and a measure. -/
theorem go_loop {b : Code} (fx : Env) (ks : List (Nat × S1)) (I : S1.Ts (shs ks) → Heap → Prop) (μ : S1.Ts (shs ks) → Heap → Nat) (s0 : S1.Ts (shs ks)) (hf : e.has fx) (hg : e.gets ks = some (S1.encs (shs ks) s0)) (hI : I s0 σ)
    (hs : ∀ s σ, I s σ → den P T n pl top (.code b) [] (Env.news ks (S1.encs (shs ks) s) fx) σ (exN (arrive fx ks fun s' σ' => I s' σ' ∧ μ s' σ' < μ s σ) (kont P T n pl top st k))) :
    den P T n pl top (.code (.loop b)) st e σ k := by
  rw [den_code, acode]
  refine ⟨fx, ks, s0, hf, hg, fun X hX => ?_⟩
  have key : ∀ m s σ, μ s σ = m → I s σ → X s σ := by
    intro m
    induction m using Nat.strongRecOn with
    | _ m ih =>
      intro s σ hm hi
      refine hX s σ (fun s' σ' => I s' σ' ∧ μ s' σ' < μ s σ) (fun s' σ' h' => ih _ (hm ▸ h'.2) s' σ' rfl h'.1) (hs s σ hi)
  exact key _ s0 σ rfl hI

/-! ### Silent steps -/
def adv1 (T : TT) (n : Nat) (pl : Plan) : Cf → List Fr → Env → Res
  | .code .skip, st, e => .mk (.ex .normal) st e
  | .code (.region id ops draw), st, e => match draw with
    | true => match pl.get id with
      | some l => .mk (.lin ops l) st e
      | none => .none
    | false => .mk (.ops ops ops.toList) st e
  | .code (.seq a b), st, e => .mk (.code a) (.seq b :: st) e
  | .code (.exit id), st, e => .mk (.ex (.exit id)) st e
  | .code .ret, st, e => .mk (.ex .ret) st e
  | .ops _ [], st, e => .mk (.ex .normal) st e
  | .lin _ [], st, e => .mk (.ex .normal) st e
  | .ex .normal, .seq b :: st, e => .mk (.code b) st e
  | .ex .normal, .blk _ :: st, e => .mk (.ex .normal) st e
  | .ex (.exit i), .seq _ :: st, e => .mk (.ex (.exit i)) st e
  | .ex (.exit i), .blk id :: st, e => match Nat.beq i id with
    | true => .mk (.ex .normal) st e
    | false => .mk (.ex (.exit i)) st e
  | .ex .ret, _ :: st, e => .mk (.ex .ret) st e
  | cf, st, e => match cur cf with
    | some (_, o, [], cf') => match o.guard with
      | none => match o.dst with
        | some d => match Nat.blt d n with
          | true => match pure1 T e o.op with
            | some ([], v) => .mk cf' st ((d, v) :: e)
            | _ => .none
          | false => .none
        | none => .none
      | some _ => .none
    | _ => .none

theorem exN_self (K : Ex → Env → Heap → Prop) : exN (K .normal) K = K := by
  funext x e' σ'
  cases x <;> rfl

theorem adv1_den {st' : List Fr} {e' : Env} (h : adv1 T n pl cf st e = .mk cf' st' e') (hd : den P T n pl top cf' st' e' σ k) : den P T n pl top cf st e σ k := by
  unfold adv1 at h
  split at h
  · cases h; rw [den_code, acode]; exact hd
  · split at h
    · split at h
      · rename_i hl
        cases h; rw [den_code, acode, cond_true, hl]; exact .inl hd
      · cases h
    · cases h; rw [den_code, acode, cond_false]; exact .inl hd
  · cases h; rw [den_code, acode]; exact hd
  · cases h; rw [den_code, acode]; exact hd
  · cases h; rw [den_code, acode]; exact hd
  · cases h; exact hd
  · cases h; exact hd
  · cases h; exact hd
  · cases h; exact hd
  · cases h; exact hd
  · split at h
    · rename_i hb
      cases h
      show bif Nat.beq _ _ then _ else _
      rw [hb]
      exact hd
    · rename_i hb
      cases h
      show bif Nat.beq _ _ then _ else _
      rw [hb]
      exact hd
  · cases h
    rename_i fr
    cases fr <;> exact hd
  · split at h
    · rename_i hc
      split at h
      · rename_i hg
        split at h
        · rename_i hdst
          split at h
          · rename_i hok
            split at h
            · rename_i hp
              cases h
              exact go_op hc hg hdst hok (pure1_step hp hd)
            · cases h
          · cases h
        · cases h
      · cases h
    · cases h

/-- As many silent steps as there are, at most so many. -/
def adv (T : TT) (n : Nat) (pl : Plan) : Nat → Cf → List Fr → Env → Res
  | 0, cf, st, e => .mk cf st e
  | f + 1, cf, st, e => match adv1 T n pl cf st e with
    | .mk cf' st' e' => adv T n pl f cf' st' e'
    | .none => .mk cf st e

theorem adv_den {st' : List Fr} {e' : Env} : ∀ {f : Nat} {cf : Cf} {st : List Fr} {e : Env}, adv T n pl f cf st e = .mk cf' st' e' → den P T n pl top cf' st' e' σ k → den P T n pl top cf st e σ k
  | 0, cf, st, e, h, hd => by cases h; exact hd
  | f + 1, cf, st, e, h, hd => by
    unfold adv at h
    split at h
    · rename_i hm
      exact adv1_den hm (adv_den h hd)
    · cases h; exact hd

/-- The same, at least one. -/
def advp (T : TT) (n : Nat) (pl : Plan) (f : Nat) (cf : Cf) (st : List Fr) (e : Env) : Res :=
  match adv1 T n pl cf st e with
  | .mk cf' st' e' => adv T n pl f cf' st' e'
  | .none => .none

theorem go {st' : List Fr} {e' : Env} (h : advp T n pl 1000 cf st e = .mk cf' st' e') (hd : den P T n pl top cf' st' e' σ k) : den P T n pl top cf st e σ k := by
  unfold advp at h
  split at h
  · rename_i hm
    exact adv1_den hm (adv_den h hd)
  · cases h

/-! ### One operation -/
/-- An operation with a slot of its own. -/
theorem op {d : Nat} (h : cur cf = some (ops, o, [], cf')) (hg : o.guard = none) (hdd : o.dst = some d) (hd : Nat.blt d n = true) (hs : astep P T e o σ fun v σ' => den P T n pl top cf' st ((d, v) :: e) σ' k) : den P T n pl top cf st e σ k :=
  go_op h hg hdd hd hs

/-- One without. -/
theorem opn (h : cur cf = some (ops, o, [], cf')) (hg : o.guard = none) (hdd : o.dst = none) (hs : astep P T e o σ fun _ σ' => den P T n pl top cf' st e σ' k) : den P T n pl top cf st e σ k :=
  go_op h hg hdd rfl hs

/-- One behind which earlier loads must still read what they read. -/
theorem opk {d : Nat} (h : cur cf = some (ops, o, pend, cf')) (hg : o.guard = none) (hdd : o.dst = some d) (hd : Nat.blt d n = true)
    (hs : astep P T e o σ fun v σ' => conj (keeps T ops.toList ((d, v) :: e) σ' pend) (den P T n pl top cf' st ((d, v) :: e) σ' k)) : den P T n pl top cf st e σ k :=
  go_op h hg hdd hd hs

theorem opkn (h : cur cf = some (ops, o, pend, cf')) (hg : o.guard = none) (hdd : o.dst = none)
    (hs : astep P T e o σ fun _ σ' => conj (keeps T ops.toList e σ' pend) (den P T n pl top cf' st e σ' k)) : den P T n pl top cf st e σ k :=
  go_op h hg hdd rfl hs

/-- One under a guard: both ways. -/
theorem opT {j d d' : Nat} {b : Bool} (h : cur cf = some (ops, o, [], cf')) (hg : o.guard = some (j, true)) (hs : gslot ops j e = some (d', .bool b)) (hdd : o.dst = some d) (hd : Nat.blt d n = true)
    (h1 : b = true → astep P T ((d', .bool true) :: e) o σ fun v σ' => den P T n pl top cf' st ((d, v) :: (d', .bool true) :: e) σ' k)
    (h2 : b = false → den P T n pl top cf' st ((d, undef) :: (d', .bool false) :: e) σ k) : den P T n pl top cf st e σ k :=
  go_guard h hg hs hdd hd h1 h2

theorem opF {j d d' : Nat} {b : Bool} (h : cur cf = some (ops, o, [], cf')) (hg : o.guard = some (j, false)) (hs : gslot ops j e = some (d', .bool b)) (hdd : o.dst = some d) (hd : Nat.blt d n = true)
    (h1 : b = false → astep P T ((d', .bool false) :: e) o σ fun v σ' => den P T n pl top cf' st ((d, v) :: (d', .bool false) :: e) σ' k)
    (h2 : b = true → den P T n pl top cf' st ((d, undef) :: (d', .bool true) :: e) σ k) : den P T n pl top cf st e σ k :=
  go_guard h hg hs hdd hd h1 h2

/-- One under a guard that is known. -/
theorem doT {j d d' : Nat} (h : cur cf = some (ops, o, [], cf')) (hg : o.guard = some (j, true)) (hs : gslot ops j e = some (d', .bool true)) (hdd : o.dst = some d) (hd : Nat.blt d n = true)
    (h1 : astep P T ((d', .bool true) :: e) o σ fun v σ' => den P T n pl top cf' st ((d, v) :: (d', .bool true) :: e) σ' k) : den P T n pl top cf st e σ k :=
  go_guard h hg hs hdd hd (fun _ => h1) (fun h => by cases h)

theorem doF {j d d' : Nat} (h : cur cf = some (ops, o, [], cf')) (hg : o.guard = some (j, false)) (hs : gslot ops j e = some (d', .bool false)) (hdd : o.dst = some d) (hd : Nat.blt d n = true)
    (h1 : astep P T ((d', .bool false) :: e) o σ fun v σ' => den P T n pl top cf' st ((d, v) :: (d', .bool false) :: e) σ' k) : den P T n pl top cf st e σ k :=
  go_guard h hg hs hdd hd (fun _ => h1) (fun h => by cases h)

theorem noT {j d d' : Nat} (h : cur cf = some (ops, o, [], cf')) (hg : o.guard = some (j, true)) (hs : gslot ops j e = some (d', .bool false)) (hdd : o.dst = some d) (hd : Nat.blt d n = true)
    (h2 : den P T n pl top cf' st ((d, undef) :: (d', .bool false) :: e) σ k) : den P T n pl top cf st e σ k :=
  go_guard h hg hs hdd hd (fun h => by cases h) (fun _ => h2)

theorem noF {j d d' : Nat} (h : cur cf = some (ops, o, [], cf')) (hg : o.guard = some (j, false)) (hs : gslot ops j e = some (d', .bool true)) (hdd : o.dst = some d) (hd : Nat.blt d n = true)
    (h2 : den P T n pl top cf' st ((d, undef) :: (d', .bool true) :: e) σ k) : den P T n pl top cf st e σ k :=
  go_guard h hg hs hdd hd (fun h => by cases h) (fun _ => h2)

/-- One passed over, the slot that its guard names holding nothing. -/
theorem noU {j d d' : Nat} {want : Bool} {v : Value} (h : cur cf = some (ops, o, [], cf')) (hg : o.guard = some (j, want)) (hs : gslot ops j e = some (d', v)) (hv : notBool v = true) (hdd : o.dst = some d) (hd : Nat.blt d n = true)
    (h2 : den P T n pl top cf' st ((d, undef) :: e) σ k) : den P T n pl top cf st e σ k :=
  go_pass h hg hs hv hdd hd h2

/-- A condition that is known. -/
theorem ifT {c : Operand} {a b : Code} (hc : e.eval c = some (.bool true)) (h1 : den P T n pl top (.code a) st e σ k) : den P T n pl top (.code (.cond c a b)) st e σ k :=
  go_cond hc (fun _ => h1) (fun h => by cases h)

theorem ifF {c : Operand} {a b : Code} (hc : e.eval c = some (.bool false)) (h1 : den P T n pl top (.code b) st e σ k) : den P T n pl top (.code (.cond c a b)) st e σ k :=
  go_cond hc (fun h => by cases h) (fun _ => h1)

/-- What is left at a function's end. -/
def fin (T : TT) (rs : List ResultVar) (R : Value → Heap → Prop) (x : Ex) (e' : Env) (σ' : Heap) : Prop :=
  match x with
  | .exit _ => False
  | _ => ∃ vs σ'', ares T e' σ' rs = some vs ∧ Weak σ' σ'' ∧ R (packed vs) σ''

/-- The first step behind a function's entry. -/
theorem go_fn {rs : List ResultVar} {c : Code} {args : List Value} {R : Value → Heap → Prop} (h : den P T n pl true (.code c) [] (env0 0 args) σ (fin T rs R)) : afn P T n pl rs c args σ R := h

theorem go_ret {rs : List ResultVar} {R : Value → Heap → Prop} {vs : List Value} (h : ares T e σ rs = some vs) (hR : R (packed vs) σ) : den P T n pl top (.ex .ret) [] e σ (fin T rs R) := ⟨vs, σ, h, Weak.refl _, hR⟩

theorem go_ret' {rs : List ResultVar} {R : Value → Heap → Prop} {vs : List Value} {σ' : Heap} (h : ares T e σ rs = some vs) (hw : Weak σ σ') (hR : R (packed vs) σ') : den P T n pl top (.ex .ret) [] e σ (fin T rs R) := ⟨vs, σ', h, hw, hR⟩

theorem go_end {rs : List ResultVar} {R : Value → Heap → Prop} {vs : List Value} (h : ares T e σ rs = some vs) (hR : R (packed vs) σ) : den P T n pl top (.ex .normal) [] e σ (fin T rs R) := ⟨vs, σ, h, Weak.refl _, hR⟩

theorem go_end' {rs : List ResultVar} {R : Value → Heap → Prop} {vs : List Value} {σ' : Heap} (h : ares T e σ rs = some vs) (hw : Weak σ σ') (hR : R (packed vs) σ') : den P T n pl top (.ex .normal) [] e σ (fin T rs R) := ⟨vs, σ', h, hw, hR⟩

/-- A way that comes to a meeting. -/
theorem go_meet {fx : Env} {ks : List (Nat × S1)} {J : S1.Ts (shs ks) → Heap → Prop} {K : Ex → Env → Heap → Prop} (s : S1.Ts (shs ks)) (hf : e.has fx) (hg : e.gets ks = some (S1.encs (shs ks) s)) (hJ : J s σ) :
    den P T n pl top (.ex .normal) [] e σ (exN (arrive fx ks J) K) := ⟨hf, s, σ, hg, Weak.refl _, hJ⟩

/-- A way that leaves past a meeting. -/
theorem go_by_ret {j : Env → Heap → Prop} (h : den P T n pl top (.ex .ret) st e σ k) : den P T n pl top (.ex .ret) [] e σ (exN j (kont P T n pl top st k)) := h
theorem go_by_exit {j : Env → Heap → Prop} {id : Nat} (h : den P T n pl top (.ex (.exit id)) st e σ k) : den P T n pl top (.ex (.exit id)) [] e σ (exN j (kont P T n pl top st k)) := h

end

/-! ### The operations -/
section
variable {P : Program} {T : TT} {e : Env} {o : Oper} {σ : Heap} {k : Value → Heap → Prop}

/-- One that touches no memory. -/
theorem as0 {v : Value} (h : pure1 T e o.op = some ([], v)) (hk : k v σ) : astep P T e o σ k := pure1_step h hk

/-- Under conditions. -/
theorem as1 {p : Prop} {v : Value} (h : pure1 T e o.op = some ([p], v)) (hp : p) (hk : k v σ) : astep P T e o σ k := pure1_step h ⟨hp, hk⟩
theorem as2 {p q : Prop} {v : Value} (h : pure1 T e o.op = some ([p, q], v)) (hp : p) (hq : q) (hk : k v σ) : astep P T e o σ k := pure1_step h ⟨hp, hq, hk⟩
theorem as3 {p q r : Prop} {v : Value} (h : pure1 T e o.op = some ([p, q, r], v)) (hp : p) (hq : q) (hr : r) (hk : k v σ) : astep P T e o σ k := pure1_step h ⟨hp, hq, hr, hk⟩
theorem as4 {p q r s : Prop} {v : Value} (h : pure1 T e o.op = some ([p, q, r, s], v)) (hp : p) (hq : q) (hr : r) (hs : s) (hk : k v σ) : astep P T e o σ k := pure1_step h ⟨hp, hq, hr, hs, hk⟩

theorem as_load {t : TypeId} {x : Operand} {i : TI} {p : Option Addr} {v : Value} (ho : o.op = .load t x) (hi : T t = some i) (hx : e.eval x = some (.pointer p)) (hno : nonOther i.k = true)
    (hl : σ.ldT i p = some v) (hs : ∃ s, v = i.sh.enc s) (hk : k v σ) : astep P T e o σ k := by
  obtain ⟨s, rfl⟩ := hs
  unfold astep
  rw [ho]
  simp only [hi, hx, hno, cond_true]
  exact ⟨s, hl, hk⟩

theorem as_store {t : TypeId} {x y : Operand} {i : TI} {p : Option Addr} {v : Value} (ho : o.op = .store t x y) (hi : T t = some i) (hx : e.eval x = some (.pointer p)) (hy : e.eval y = some v) (hs : Nat.beq (vcells v).length i.size = true)
    (hk : astore p (vcells v) σ (k undef)) : astep P T e o σ k := by
  unfold astep
  rw [ho]
  have : ((vcells v).length == i.size) = true := by
    have := Nat.eq_of_beq_eq_true hs
    simpa using this
  simp only [hi, hx, hy, this, cond_true]
  exact hk

theorem as_alloc {t : TypeId} {i : TI} (ho : o.op = .alloc t) (hi : T t = some i) (hk : ∀ r, σ r = none → k (.pointer (some ⟨r, 0, none⟩)) (σ.ins r (.cells 1 i.zero t i.zero.length))) : astep P T e o σ k := by
  unfold astep
  rw [ho]
  simp only [hi]
  exact hk

theorem as_box {t : TypeId} {x : Operand} {v : Value} (ho : o.op = .box t x) (hx : e.eval x = some v) (hk : ∀ r, σ r = none → k (.pointer (some ⟨r, 0, none⟩)) (σ.ins r (.cells 1 (vcells v) t (vcells v).length))) : astep P T e o σ k := by
  unfold astep
  rw [ho]
  simp only [hx]
  exact hk

theorem as_call {c : Call} {f : Operand} {g : FuncId} {first cap : Array Value} {args as : List Value} {i : TI} (ho : o.op = .call c) (hc : c.callee = .value f) (hf : e.eval f = some (.func (.func g) first cap))
    (ha : e.evals c.args.toList = some args) (hi : T o.type = some i) (has : first.toList ++ args ++ cap.toList = as) (hk : ACalls P g as σ (shK i.sh k)) : astep P T e o σ k := by
  unfold astep
  rw [ho]
  simp only [hc, ha, calleeV, hf, hi]
  subst has
  exact hk

end
end Go.Eng
