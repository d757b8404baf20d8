/- Regions over names, and what earlier loads must still read. Conditions: what is said of the calls. -/
import Derived.Test.YtihpnhkhgobblaaGreatDoorVb
namespace Go.Eng
open Go

mutual
theorem VR.fn_eq {ρ : Ren} : ∀ {u a b : Value}, VR ρ u a → VR ρ u b → a = b
  | _, _, _, .int _ _, h => by cases h; rfl
  | _, _, _, .bool _, h => by cases h; rfl
  | _, _, _, .str _, h => by cases h; rfl
  | _, _, _, .nilf, h => by cases h; rfl
  | _, _, _, .ptr0, h => by cases h; rfl
  | _, _, _, .ptr b o x hx, h => by
    cases h with
    | ptr _ _ y hy => rw [hx] at hy; cases hy; rfl
  | _, _, _, .sl0 n c c' hc, h => by
    cases h with
    | sl0 _ _ c2 hc2 => have : c' = c2 := by omega
                        rw [this]
  | _, _, _, .sl b o n c c' x hx hc, h => by
    cases h with
    | sl _ _ _ _ c2 y hy hc2 => rw [hx] at hy; cases hy; rw [hc, hc2]
  | _, _, _, .fn f a c a' c' h1 h2, h => by
    cases h with
    | fn _ _ _ a2 c2 h3 h4 => rw [VRs.fn_eq h1 h3, VRs.fn_eq h2 h4]
  | _, _, _, .yl b x hx, h => by
    cases h with
    | yl _ y hy => rw [hx] at hy; cases hy; rfl
  | _, _, _, .agg a a' h1, h => by
    cases h with
    | agg _ a2 h2 => rw [VRs.fn_eq h1 h2]
  | _, _, _, .tup a a' h1, h => by
    cases h with
    | tup _ a2 h2 => rw [VRs.fn_eq h1 h2]
theorem VRs.fn_eq {ρ : Ren} : ∀ {u a b : List Value}, VRs ρ u a → VRs ρ u b → a = b
  | _, _, _, .nil, h => by cases h; rfl
  | _, _, _, .cons h1 h2, h => by
    cases h with
    | cons h3 h4 => rw [VR.fn_eq h1 h3, VRs.fn_eq h2 h4]
end

/-! ### Equality, where it is seen at once -/
def addrB : Addr → Addr → Bool
  | ⟨b, o, none⟩, ⟨b', o', none⟩ => Nat.beq b b' && Nat.beq o o'
  | _, _ => false

def oaddrB : Option Addr → Option Addr → Bool
  | none, none => true
  | some a, some b => addrB a b
  | _, _ => false

def veq1 : Value → Value → Bool
  | .int k n, .int k' n' => kindN k == kindN k' && decide (n = n')
  | .bool a, .bool b => a == b
  | .pointer p, .pointer q => oaddrB p q
  | .slice p n c, .slice q n' c' => oaddrB p q && (Nat.beq n n' && Nat.beq c c')
  | .nilFunc, .nilFunc => true
  | _, _ => false

def veqL : List Value → List Value → Bool
  | [], [] => true
  | a :: l, b :: m => veq1 a b && veqL l m
  | _, _ => false

def veq : Value → Value → Bool
  | .agg a, .agg b => veqL a.toList b.toList
  | .func (.func f) a c, .func (.func g) a' c' => Nat.beq f g && (veqL a.toList a'.toList && veqL c.toList c'.toList)
  | a, b => veq1 a b

theorem addrB_eq {a b : Addr} (h : addrB a b = true) : a = b := by
  unfold addrB at h
  split at h
  · rw [Bool.and_eq_true] at h
    rw [Nat.eq_of_beq_eq_true h.1, Nat.eq_of_beq_eq_true h.2]
  · cases h

theorem oaddrB_eq {a b : Option Addr} (h : oaddrB a b = true) : a = b := by
  unfold oaddrB at h
  split at h
  · rfl
  · rw [addrB_eq h]
  · cases h

theorem veq1_eq {a b : Value} (h : veq1 a b = true) : a = b := by
  unfold veq1 at h
  split at h
  · rw [Bool.and_eq_true, decide_eq_true_eq] at h
    rw [kindN_inj h.1, h.2]
  · rw [beq_iff_eq] at h; rw [h]
  · rw [oaddrB_eq h]
  · rw [Bool.and_eq_true, Bool.and_eq_true] at h
    rw [oaddrB_eq h.1, Nat.eq_of_beq_eq_true h.2.1, Nat.eq_of_beq_eq_true h.2.2]
  · rfl
  · cases h

theorem veqL_eq : ∀ {a b : List Value}, veqL a b = true → a = b
  | [], [], _ => rfl
  | [], _ :: _, h => by cases h
  | _ :: _, [], h => by cases h
  | a :: l, b :: m, h => by
    unfold veqL at h
    rw [Bool.and_eq_true] at h
    rw [veq1_eq h.1, veqL_eq h.2]

theorem veq_eq {a b : Value} (h : veq a b = true) : a = b := by
  unfold veq at h
  split at h
  · rw [Array.toList_inj.1 (veqL_eq h)]
  · rw [Bool.and_eq_true, Bool.and_eq_true] at h
    rw [Nat.eq_of_beq_eq_true h.1, Array.toList_inj.1 (veqL_eq h.2.1), Array.toList_inj.1 (veqL_eq h.2.2)]
  · exact veq1_eq h

/-! ### What earlier loads read -/
def vgv (ops : List Oper) (ve : VEnv) (o : Oper) : Option Bool :=
  match o.guard with
  | none => some true
  | some (j, want) => match nth ops j with
    | some oj => match oj.dst with
      | some d => match ve.get d with
        | some (.bool b) => some (b == want)
        | some (.tuple _) => some false
        | _ => none
      | none => none
    | none => none

def vkeepOf (T : TT) (ops : List Oper) (ve : VEnv) (h : Tr VO) (j : Nat) : Bool :=
  match nth ops j with
  | some o => match o.op with
    | .load t x => match vgv ops ve o with
      | some false => true
      | some true => match o.dst with
        | some d => match T t, veval ve x, ve.get d with
          | some i, some (.pointer p), some v => match vld h i p with
            | some u => veq u v
            | none => false
          | _, _, _ => false
        | none => false
      | none => false
    | _ => true
  | none => false

def vkeeps (T : TT) (ops : List Oper) (ve : VEnv) (h : Tr VO) : List Nat → Bool
  | [] => true
  | j :: l => vkeepOf T ops ve h j && vkeeps T ops ve h l

section
variable {X : Type} {W : XOps X} {F : Heap} {ρ : Ren} {s : VS X} {σ : Heap} {P : Program} {T : TT} {ve : VEnv} {e : Env}

theorem vgv_ok (he : EnvR ρ ve e) {ops : List Oper} {o : Oper} {b : Bool} (h : vgv ops ve o = some b) : gv ops e o = some b := by
  unfold vgv at h
  unfold gv
  split at h
  · rename_i hg
    rw [hg]
    exact h
  · rename_i j want hg
    rw [hg]
    dsimp only
    split at h
    · rename_i oj hoj
      rw [hoj]
      dsimp only
      split at h
      · rename_i d hd
        rw [hd]
        dsimp only
        split at h
        · rename_i b hb
          obtain ⟨b', b1, b2⟩ := he d _ hb
          cases b2
          rw [b1]
          exact h
        · rename_i vs hb
          obtain ⟨b', b1, b2⟩ := he d _ hb
          obtain ⟨a', rfl, _⟩ := b2.arr_tup
          rw [b1]
          exact h
        · cases h
      · cases h
    · cases h

theorem vkeepOf_ok (he : EnvR ρ ve e) (hs : SR W F ρ s σ) {ops : List Oper} {j : Nat} (h : vkeepOf T ops ve s.h j = true) : ∀ p ∈ keepOf T ops e σ j, p := by
  unfold vkeepOf at h
  unfold keepOf
  split at h
  · rename_i o ho
    rw [ho]
    dsimp only
    split at h
    · rename_i t x hop
      rw [hop]
      dsimp only
      split at h
      · rename_i hg
        rw [vgv_ok he hg]
        exact no_ps
      · rename_i hg
        rw [vgv_ok he hg]
        dsimp only
        split at h
        · rename_i d hd
          rw [hd]
          dsimp only
          split at h
          · rename_i i p v hi hx hv
            split at h
            · rename_i u hu
              obtain ⟨x', x1, x2⟩ := veval_ok he hx
              obtain ⟨v', v1, v2⟩ := he d _ hv
              obtain ⟨q, u', rfl, h2, h3⟩ := hs.ld x2 hu
              rw [veq_eq h] at h3
              rw [h3.fn_eq v2] at h2
              rw [hi, x1, v1]
              exact one_ps h2
            · cases h
          · cases h
        · cases h
      · cases h
    · rename_i hne
      split
      · rename_i t x hop
        exact absurd hop (hne _ _)
      · exact no_ps
  · cases h

theorem vkeeps_ok (he : EnvR ρ ve e) (hs : SR W F ρ s σ) {ops : List Oper} : ∀ {l : List Nat}, vkeeps T ops ve s.h l = true → ∀ p ∈ keeps T ops e σ l, p
  | [], _ => no_ps
  | j :: l, h => by
    unfold vkeeps at h
    rw [Bool.and_eq_true] at h
    intro p hp
    unfold keeps at hp
    rcases List.mem_append.1 hp with hp | hp
    · exact vkeepOf_ok he hs h.1 p hp
    · exact vkeeps_ok he hs h.2 p hp

/-! ### Regions -/
def vops (T : TT) (call : VCall X) (n : Nat) (ops : List Oper) : List Oper → VEnv → VS X → Option (VEnv × VS X)
  | [], ve, s => some (ve, s)
  | o :: l, ve, s => match vgop T call n ops o ve s with
    | some (ve', s') => vops T call n ops l ve' s'
    | none => none

def vlin (T : TT) (call : VCall X) (n : Nat) (ops : List Oper) : List (Nat × List Nat) → VEnv → VS X → Option (VEnv × VS X)
  | [], ve, s => some (ve, s)
  | (i, pend) :: l, ve, s => match nth ops i with
    | some o => match vgop T call n ops o ve s with
      | some (ve', s') => bif vkeeps T ops ve' s'.h pend then vlin T call n ops l ve' s' else none
      | none => none
    | none => none

theorem vops_ok {Y : Ren → Prop} (hYm : ∀ ρ ρ', Ren.le ρ ρ' → Y ρ → Y ρ') {call : VCall X} (hcall : VCallOK P W F Y call) {n : Nat} {ops : Array Oper} : ∀ {l : List Oper} {ρ : Ren} {ve : VEnv} {e : Env} {s : VS X} {σ : Heap} {ve' : VEnv} {s' : VS X},
    Y ρ → EnvR ρ ve e → SR W F ρ s σ → vops T call n ops.toList l ve s = some (ve', s') → ∀ {k : Env → Heap → Prop}, (∀ ρ' e' σ', ρ.le ρ' → EnvR ρ' ve' e' → SR W F ρ' s' σ' → k e' σ') → aops P T n ops l e σ k
  | [], ρ, ve, e, s, σ, ve', s', _, he, hs, h, k, hk => by
    cases h
    exact hk ρ e σ (Ren.le_refl _) he hs
  | o :: l, ρ, ve, e, s, σ, ve', s', hY, he, hs, h, k, hk => by
    unfold vops at h
    split at h
    · rename_i ve1 s1 h1
      unfold aops
      exact vgop_ok hcall hY he hs h1 fun ρ1 e1 σ1 a1 a2 a3 => vops_ok hYm hcall (hYm _ _ a1 hY) a2 a3 h fun ρ' e' σ' b1 b2 b3 => hk ρ' e' σ' (a1.trans b1) b2 b3
    · cases h

theorem vlin_ok {Y : Ren → Prop} (hYm : ∀ ρ ρ', Ren.le ρ ρ' → Y ρ → Y ρ') {call : VCall X} (hcall : VCallOK P W F Y call) {n : Nat} {ops : Array Oper} : ∀ {l : List (Nat × List Nat)} {ρ : Ren} {ve : VEnv} {e : Env} {s : VS X} {σ : Heap} {ve' : VEnv} {s' : VS X},
    Y ρ → EnvR ρ ve e → SR W F ρ s σ → vlin T call n ops.toList l ve s = some (ve', s') → ∀ {k : Env → Heap → Prop}, (∀ ρ' e' σ', ρ.le ρ' → EnvR ρ' ve' e' → SR W F ρ' s' σ' → k e' σ') → alin P T n ops l e σ k
  | [], ρ, ve, e, s, σ, ve', s', _, he, hs, h, k, hk => by
    cases h
    exact hk ρ e σ (Ren.le_refl _) he hs
  | (i, pend) :: l, ρ, ve, e, s, σ, ve', s', hY, he, hs, h, k, hk => by
    unfold vlin at h
    split at h
    · rename_i o ho
      split at h
      · rename_i ve1 s1 h1
        cases hkp : vkeeps T ops.toList ve1 s1.h pend with
        | false => rw [hkp] at h; cases h
        | true =>
          rw [hkp, cond_true] at h
          unfold alin
          rw [ho]
          exact vgop_ok hcall hY he hs h1 fun ρ1 e1 σ1 a1 a2 a3 => conj_iff.2 ⟨vkeeps_ok a2 a3 hkp, vlin_ok hYm hcall (hYm _ _ a1 hY) a2 a3 h fun ρ' e' σ' b1 b2 b3 => hk ρ' e' σ' (a1.trans b1) b2 b3⟩
      · cases h
    · cases h

end
end Go.Eng

/- The evaluator: code and calls over names, and that they stand for those of the model. Conditions: what is said of the functions that are not walked. -/
namespace Go.Eng
open Go

/-- A round of a range over a function: the environment where the range began, and the round's code. -/
structure YC where
  ve : VEnv
  n : Nat
  pl : Plan
  params : List Nat
  as : Code
  b : Code

abbrev YS := List (Nat × YC)

def YS.get : YS → Nat → Option YC
  | [], _ => none
  | (k, y) :: l, t => bif Nat.beq k t then some y else YS.get l t

/-- What is known of a function. -/
structure FE where
  n : Nat
  pl : Plan
  rs : List ResultVar
  c : Code

structure Ev (X : Type) where
  code : (top : Bool) → (n : Nat) → Plan → YS → Code → VEnv → VS X → Option (Ex × VEnv × VS X)
  call : YS → Value → List Value → VS X → Option (Value × VS X)

section
variable {X : Type} (T : TT) (fns : FuncId → Option FE) (hk : FuncId → Option (List Value → VS X → Option (Value × VS X)))

def vares (ve : VEnv) (h : Tr VO) : List ResultVar → Option (List Value)
  | [] => some []
  | .tmp t :: l => match ve.get t with
    | some v => match vares ve h l with
      | some vs => some (v :: vs)
      | none => none
    | none => none
  | .cell a t :: l => match T t, ve.get a with
    | some i, some (.pointer p) => match vld h i p with
      | some v => match vares ve h l with
        | some vs => bif nonOther i.k then some (v :: vs) else none
        | none => none
      | none => none
    | _, _ => none

def venv0 : Nat → List Value → VEnv
  | _, [] => .nil
  | i, v :: vs => (venv0 (i + 1) vs).set i v

def vpsets (e : VEnv) : List Nat → List Value → VEnv
  | t :: ts, v :: vs => vpsets (e.set t v) ts vs
  | _, _ => e

def stepCode (ih : Ev X) (top : Bool) (n : Nat) (pl : Plan) (ys : YS) (c : Code) (ve : VEnv) (s : VS X) : Option (Ex × VEnv × VS X) :=
  match c with
  | .skip => some (.normal, ve, s)
  | .region id ops draw => bif draw then match pl.get id with
      | some l => match vlin T (ih.call ys) n ops.toList l ve s with
        | some (ve', s') => some (.normal, ve', s')
        | none => none
      | none => none
    else match vops T (ih.call ys) n ops.toList ops.toList ve s with
      | some (ve', s') => some (.normal, ve', s')
      | none => none
  | .seq a b => match ih.code top n pl ys a ve s with
    | some (.normal, ve', s') => ih.code top n pl ys b ve' s'
    | r => r
  | .cond c a b => match veval ve c with
    | some (.bool t) => bif t then ih.code top n pl ys a ve s else ih.code top n pl ys b ve s
    | _ => none
  | .block id b => match ih.code top n pl ys b ve s with
    | some (.exit i, ve', s') => bif Nat.beq i id then some (.normal, ve', s') else some (.exit i, ve', s')
    | r => r
  | .loop b => match ih.code top n pl ys b ve s with
    | some (.normal, ve', s') => match Tr.inter ve' ve with
      | some ve2 => ih.code top n pl ys (.loop b) ve2 s'
      | none => none
    | r => r
  | .rangeFunc f params as b => bif top then match veval ve f with
      | some (.func (.func g) fa fc) => bif allBlt n params.toList then
          match ih.call ((s.nx, ⟨ve, n, pl, params.toList, as, b⟩) :: ys) (.func (.func g) fa fc) [.func (.yield s.nx) #[] #[]] (vnew s (.loop .ready)) with
          | some (_, s') => match s'.h.get s.nx with
            | some (.loop .ready) => some (.normal, ve, { s' with h := s'.h.del s.nx })
            | some (.loop (.exit id)) => some (.exit id, ve, { s' with h := s'.h.del s.nx })
            | some (.loop .ret) => some (.ret, ve, { s' with h := s'.h.del s.nx })
            | _ => none
          | none => none
        else none
      | _ => none
    else none
  | .exit id => some (.exit id, ve, s)
  | .ret => some (.ret, ve, s)
  | _ => none

def stepYield (ih : Ev X) (ys : YS) (l : Nat) (args : List Value) (s : VS X) : Option (Value × VS X) :=
  match ys.get l with
  | some yc => bif Nat.beq args.length yc.params.length then match s.h.get l with
      | some (.loop .ready) => match ih.code false yc.n yc.pl ys yc.as (vpsets yc.ve yc.params args) s with
        | some (.normal, ve1, s1) => match s1.h.get l with
          | some (.loop .ready) => match ih.code false yc.n yc.pl ys yc.b ve1 { s1 with h := s1.h.set l (.loop .busy) } with
            | some (x, _, s2) => match s2.h.get l with
              | some (.loop .busy) => match x with
                | .normal => some (.bool true, { s2 with h := s2.h.set l (.loop .ready) })
                | .exit id => some (.bool false, { s2 with h := s2.h.set l (.loop (.exit id)) })
                | .ret => some (.bool false, { s2 with h := s2.h.set l (.loop .ret) })
              | _ => none
            | none => none
          | _ => none
        | _ => none
      | _ => none
    else none
  | none => none

def stepCall (ih : Ev X) (ys : YS) (fv : Value) (args : List Value) (s : VS X) : Option (Value × VS X) :=
  match fv with
  | .func (.func f) first cap =>
    match hk f with
    | some g => g (first.toList ++ args ++ cap.toList) s
    | none => match fns f with
      | some fe => bif Nat.ble (first.toList ++ args ++ cap.toList).length fe.n then match ih.code true fe.n fe.pl ys fe.c (venv0 0 (first.toList ++ args ++ cap.toList)) s with
          | some (.exit _, _, _) => none
          | some (_, ve', s') => match vares T ve' s'.h fe.rs with
            | some vs => some (packed vs, s')
            | none => none
          | none => none
        else none
      | none => none
  | .func (.yield l) _ _ => stepYield ih ys l args s
  | _ => none

def run : Nat → Ev X
  | 0 => ⟨fun _ _ _ _ _ _ _ => none, fun _ _ _ _ => none⟩
  | f + 1 => ⟨stepCode T (run f), stepCall T fns hk (run f)⟩
end

/-! ### Soundness -/
section
variable {X : Type} {W : XOps X} {F : Heap} {P : Program} {T : TT}

/-- What the yields in scope stand for. -/
def YR (P : Program) (T : TT) (ys : YS) (ρ : Ren) : Prop :=
  ∀ l yc, ys.get l = some yc → ∃ x e, ρ l = some x ∧ EnvR ρ yc.ve e ∧ YieldOK P x.r x.L fun args σ1 R => args.length = yc.params.length ∧
    acode P T yc.n yc.pl false yc.as (psets e yc.params args) σ1 fun x' e1 σ2 => match x' with
      | .normal => σ2 x.r = some (.other 1 (x.L .ready none)) ∧
        acode P T yc.n yc.pl false yc.b e1 (σ2.ins x.r (.other 1 (x.L .busy none))) fun x'' _ σ3 => σ3 x.r = some (.other 1 (x.L .busy none)) ∧ R x'' σ3
      | _ => False

theorem YR.mono {ys : YS} (ρ ρ' : Ren) (h : ρ.le ρ') (hy : YR P T ys ρ) : YR P T ys ρ' := fun l yc hl => by
  obtain ⟨x, e, h1, h2, h3⟩ := hy l yc hl
  exact ⟨x, e, h _ _ h1, h2.mono h, h3⟩

def CodeOK (P : Program) (T : TT) (W : XOps X) (F : Heap) (E : Ev X) : Prop :=
  ∀ top n pl ys c ve s x ve' s', E.code top n pl ys c ve s = some (x, ve', s') → ∀ ρ e σ, EnvR ρ ve e → SR W F ρ s σ → YR P T ys ρ →
    ∀ k : Ex → Env → Heap → Prop, (∀ ρ' e' σ', ρ.le ρ' → EnvR ρ' ve' e' → SR W F ρ' s' σ' → k x e' σ') → acode P T n pl top c e σ k

/-- The rounds of a loop: whatever the rounds carry back. -/
def LoopOK (P : Program) (T : TT) (W : XOps X) (F : Heap) (E : Ev X) : Prop :=
  ∀ top n pl ys b ve s x ve' s', E.code top n pl ys (.loop b) ve s = some (x, ve', s') → ∀ ks : List (Nat × S1), (∀ t v, ve.get t = some v → (t, S1.sc .any) ∈ ks) → (∀ p ∈ ks, p.2 = S1.sc .any ∧ ∃ v, ve.get p.1 = some v) →
    ∀ k : Ex → Env → Heap → Prop, ∀ ρ0 : Ren, YR P T ys ρ0 → (∀ ρ' e' σ', ρ0.le ρ' → EnvR ρ' ve' e' → SR W F ρ' s' σ' → k x e' σ') →
    ∀ Z : S1.Ts (shs ks) → Heap → Prop, (∀ st σ (Y : S1.Ts (shs ks) → Heap → Prop), (∀ st σ, Y st σ → Z st σ) → acode P T n pl top b (Env.news ks (S1.encs (shs ks) st) []) σ (exN (arrive [] ks Y) k) → Z st σ) →
    ∀ ρ st σ, ρ0.le ρ → EnvR ρ ve (Env.news ks (S1.encs (shs ks) st) []) → SR W F ρ s σ → Z st σ

def CallsOK (P : Program) (T : TT) (W : XOps X) (F : Heap) (E : Ev X) : Prop := ∀ ys, VCallOK P W F (YR P T ys) (E.call ys)

/-- The slots of a list, all of any shape. -/
theorem gets_any {e : Env} : ∀ {ks : List (Nat × S1)}, (∀ p ∈ ks, p.2 = S1.sc .any ∧ ∃ v, e.get p.1 = some v) → ∃ st : S1.Ts (shs ks), e.gets ks = some (S1.encs (shs ks) st) ∧ ∀ p ∈ ks, (Env.news ks (S1.encs (shs ks) st) []).get p.1 = e.get p.1
  | [], _ => ⟨(), rfl, fun p hp => by cases hp⟩
  | [(t, s)], h => by
    obtain ⟨h1, v, hv⟩ := h _ (List.mem_cons_self ..)
    dsimp only at h1 hv
    subst h1
    refine ⟨v, by simp [Env.gets, hv, shs, S1.encs, S1.enc, Sc.enc], fun p hp => ?_⟩
    obtain rfl := List.mem_singleton.1 hp
    show (bif Nat.beq t t then some v else _) = _
    rw [Nat.beq_refl, cond_true, hv]
  | (t, s) :: (t2, s2) :: l, h => by
    obtain ⟨h1, v, hv⟩ := h _ (List.mem_cons_self ..)
    dsimp only at h1 hv
    subst h1
    obtain ⟨st, h2, h3⟩ := gets_any (ks := (t2, s2) :: l) fun p hp => h p (List.mem_cons_of_mem _ hp)
    refine ⟨((v, st) : Value × S1.Ts (shs ((t2, s2) :: l))), ?_, fun p hp => ?_⟩
    · unfold Env.gets
      simp only [hv, h2]
      rfl
    · show (bif Nat.beq t p.1 then some v else (Env.news ((t2, s2) :: l) (S1.encs (shs ((t2, s2) :: l)) st) []).get p.1) = _
      cases hb : Nat.beq t p.1 with
      | true =>
        rw [cond_true, ← Nat.eq_of_beq_eq_true hb, hv]
      | false =>
        rw [cond_false]
        rcases List.mem_cons.1 hp with rfl | hp
        · rw [Nat.beq_refl] at hb; cases hb
        · exact h3 p hp

theorem keysOf (ve : VEnv) : ∃ ks : List (Nat × S1), (∀ t v, ve.get t = some v → (t, S1.sc .any) ∈ ks) ∧ ∀ p ∈ ks, p.2 = S1.sc .any ∧ ∃ v, ve.get p.1 = some v := by
  obtain ⟨l, hl⟩ := Tr.keys ve
  refine ⟨l.map fun t => (t, S1.sc .any), fun t v hv => List.mem_map.2 ⟨t, (hl t).2 ⟨v, hv⟩, rfl⟩, fun p hp => ?_⟩
  obtain ⟨t, ht, rfl⟩ := List.mem_map.1 hp
  exact ⟨rfl, (hl t).1 ht⟩

theorem vares_ok {ρ : Ren} {ve : VEnv} {e : Env} {s : VS X} {σ : Heap} (he : EnvR ρ ve e) (hs : SR W F ρ s σ) : ∀ {l : List ResultVar} {vs : List Value}, vares T ve s.h l = some vs → ∃ vs', ares T e σ l = some vs' ∧ VRs ρ vs vs'
  | [], _, h => by cases h; exact ⟨[], rfl, .nil⟩
  | .tmp t :: l, _, h => by
    unfold vares at h
    split at h
    · rename_i v hv
      split at h
      · rename_i vs hvs
        cases h
        obtain ⟨v', h1, h2⟩ := he t v hv
        obtain ⟨vs', h3, h4⟩ := vares_ok he hs hvs
        exact ⟨v' :: vs', by unfold ares; rw [h1, h3], .cons h2 h4⟩
      · cases h
    · cases h
  | .cell a t :: l, _, h => by
    unfold vares at h
    split at h
    · rename_i i p hi hp
      split at h
      · rename_i v hv
        split at h
        · rename_i vs hvs
          cases hn : nonOther i.k with
          | false => rw [hn] at h; cases h
          | true =>
            rw [hn, cond_true] at h
            cases h
            obtain ⟨p', p1, p2⟩ := he _ _ hp
            obtain ⟨q, v', rfl, h1, h2⟩ := hs.ld p2 hv
            obtain ⟨vs', h3, h4⟩ := vares_ok he hs hvs
            exact ⟨v' :: vs', by unfold ares; simp only [hi, p1, h1, h3, hn, cond_true], .cons h2 h4⟩
        · cases h
      · cases h
    · cases h

theorem venv0_ok {ρ : Ren} : ∀ {args args' : List Value} {i : Nat}, VRs ρ args args' → EnvR ρ (venv0 i args) (env0 i args')
  | [], _, i, h => by cases h; intro t v hv; cases hv
  | v :: l, _, i, h => by
    cases h with
    | cons h1 h2 => exact (venv0_ok h2).set i h1

theorem vpsets_ok {ρ : Ren} : ∀ {ps : List Nat} {args args' : List Value} {ve : VEnv} {e : Env}, EnvR ρ ve e → VRs ρ args args' → EnvR ρ (vpsets ve ps args) (psets e ps args')
  | [], [], _, _, _, he, h => by cases h; exact he
  | [], _ :: _, _, _, _, he, h => by cases h; exact he
  | _ :: _, [], _, _, _, he, h => by cases h; exact he
  | p :: ps, v :: vs, _, ve, e, he, h => by
    cases h with
    | cons h1 h2 =>
      show EnvR ρ (vpsets (Tr.set ve p v) ps vs) (psets (e.set p _) ps _)
      exact vpsets_ok (he.set p h1) h2

theorem packed_ok {ρ : Ren} {vs vs' : List Value} (h : VRs ρ vs vs') : VR ρ (packed vs) (packed vs') := by
  unfold packed
  cases h with
  | nil => exact VR.mk_tup .nil
  | cons h1 h2 => cases h2 with
    | nil => exact h1
    | cons h2 h3 => exact VR.mk_tup (.cons h1 (.cons h2 h3))

theorem SR.loopAt {ρ : Ren} {s : VS X} {σ : Heap} (h : SR W F ρ s σ) {l : Nat} {st : LSt} (hl : s.h.get l = some (.loop st)) {x : RB} (hx : ρ l = some x) : σ x.r = some (.other 1 (x.L st.st st.j)) := by
  obtain ⟨x', a, h1, h2, h3⟩ := h.blk _ _ hl
  rw [hx] at h1
  cases h1
  have : a = .other 1 (x.L st.st st.j) := h3
  rw [h2, this]

theorem loop_step {E : Ev X} (hc : CodeOK P T W F E) (hl : LoopOK P T W F E) {fns : FuncId → Option FE} {hk : FuncId → Option (List Value → VS X → Option (Value × VS X))} :
    LoopOK P T W F ⟨stepCode T E, stepCall T fns hk E⟩ := by
  intro top n pl ys b ve s x ve' s' h ks k1 k2 k ρ0 hY hk Z hZ ρ st σ hle he hs
  refine hZ st σ Z (fun _ _ h => h) ?_
  have h' : (match E.code top n pl ys b ve s with
    | some (.normal, ve', s') => match Tr.inter ve' ve with
      | some ve2 => E.code top n pl ys (.loop b) ve2 s'
      | none => none
    | r => r) = some (x, ve', s') := h
  split at h'
  · rename_i ve1 s1 h1
    split at h'
    · rename_i ve2 h2
      refine hc _ _ _ _ _ _ _ _ _ _ h1 ρ _ σ he hs (hY.mono _ _ hle) _ fun ρ1 e1 σ1 a1 a2 a3 => ?_
      show arrive [] ks Z e1 σ1
      have hin := Tr.inter_get h2
      have dom : ∀ p ∈ ks, p.2 = S1.sc .any ∧ ∃ v, e1.get p.1 = some v := fun p hp => by
        obtain ⟨b1, v, b2⟩ := k2 p hp
        obtain ⟨y, b3, b4⟩ := (hin p.1).2 v b2
        obtain ⟨v', b5, _⟩ := a2 _ _ b3
        exact ⟨b1, v', b5⟩
      obtain ⟨st1, g1, g2⟩ := gets_any dom
      refine ⟨True.intro, st1, σ1, g1, Weak.refl _, ?_⟩
      refine hl top n pl ys b ve2 s1 x ve' s' h' ks ?_ ?_ k ρ0 hY hk Z hZ ρ1 st1 σ1 (hle.trans a1) ?_ a3
      · intro t v hv
        cases hb : ve.get t with
        | none => rw [(hin t).1 hb] at hv; cases hv
        | some w => exact k1 t w hb
      · intro p hp
        obtain ⟨b1, v, b2⟩ := k2 p hp
        obtain ⟨y, b3, b4⟩ := (hin p.1).2 v b2
        exact ⟨b1, y, b4⟩
      · intro t v hv
        cases hb : ve.get t with
        | none => rw [(hin t).1 hb] at hv; cases hv
        | some w =>
          obtain ⟨y, b3, b4⟩ := (hin t).2 w hb
          rw [b4] at hv
          cases hv
          rw [g2 _ (k1 t w hb)]
          exact a2 t _ b3
    · cases h'
  · rename_i r hne
    refine hc _ _ _ _ _ _ _ _ _ _ h' ρ _ σ he hs (hY.mono _ _ hle) _ fun ρ1 e1 σ1 a1 a2 a3 => ?_
    have hk' := hk ρ1 e1 σ1 (hle.trans a1) a2 a3
    cases x with
    | normal => exact absurd h' (hne _ _)
    | exit id => exact hk'
    | ret => exact hk'

end
end Go.Eng

/- The evaluator stands for the model. Conditions: what is said of the functions that are not walked. -/
namespace Go.Eng
open Go

section
variable {X : Type} {W : XOps X} {F : Heap} {P : Program} {T : TT} {fns : FuncId → Option FE} {hk : FuncId → Option (List Value → VS X → Option (Value × VS X))}

/-- What is said of the functions that are not walked. -/
def HookOK (P : Program) (W : XOps X) (F : Heap) (hk : FuncId → Option (List Value → VS X → Option (Value × VS X))) : Prop :=
  ∀ f g, hk f = some g → ∀ args s v s', g args s = some (v, s') → ∀ ρ args' σ, VRs ρ args args' → SR W F ρ s σ →
    ∀ R : Value → Heap → Prop, (∀ ρ' v' σ', ρ.le ρ' → VR ρ' v v' → SR W F ρ' s' σ' → R v' σ') → ACalls P f args' σ R

def FnsOK (P : Program) (T : TT) (fns : FuncId → Option FE) : Prop :=
  ∀ f fe, fns f = some fe → ∀ args σ (R : Value → Heap → Prop), args.length ≤ fe.n → afn P T fe.n fe.pl fe.rs fe.c args σ R → ACalls P f args σ R

theorem YS.get_cons {l : Nat} {y : YC} {ys : YS} {t : Nat} {yc : YC} (h : YS.get ((l, y) :: ys) t = some yc) : (l = t ∧ y = yc) ∨ ys.get t = some yc := by
  unfold YS.get at h
  cases hb : Nat.beq l t with
  | true => rw [hb, cond_true] at h; cases h; exact .inl ⟨Nat.eq_of_beq_eq_true hb, rfl⟩
  | false => rw [hb, cond_false] at h; exact .inr h

theorem range_step {E : Ev X} (hcl : CallsOK P T W F E) {n : Nat} {pl : Plan} {ys : YS} {f : Operand} {params : Array Tmp} {as b : Code} {ve : VEnv} {s : VS X} {x : Ex} {ve' : VEnv} {s' : VS X}
    (h : stepCode T E true n pl ys (.rangeFunc f params as b) ve s = some (x, ve', s')) {ρ : Ren} {e : Env} {σ : Heap} (he : EnvR ρ ve e) (hs : SR W F ρ s σ) (hY : YR P T ys ρ)
    {k : Ex → Env → Heap → Prop} (hk : ∀ ρ' e' σ', ρ.le ρ' → EnvR ρ' ve' e' → SR W F ρ' s' σ' → k x e' σ') : acode P T n pl true (.rangeFunc f params as b) e σ k := by
  unfold stepCode at h
  dsimp only [cond_true] at h
  split at h
  · rename_i g fa fc hfv
    cases hbp : allBlt n params.toList with
    | false => rw [hbp] at h; cases h
    | true =>
      rw [hbp, cond_true] at h
      split at h
      · rename_i v1 s1 hcall
        obtain ⟨fv', f1, f2⟩ := veval_ok he hfv
        obtain ⟨fa', fc', rfl, _, _⟩ := f2.arr_fn
        rw [acode]
        simp only [f1, hbp, cond_true]
        intro l L hl hYO
        have hle : ρ.le (ρ.add s.nx ⟨l, 0, L⟩) := Ren.le_add _ (hs.nx _ (Nat.le_refl _))
        obtain ⟨_, hs1⟩ := hs.alloc (d := 0) (L := L) hl (o := .loop .ready) (a := .other 1 (L .ready none)) rfl
        have hY1 : YR P T ((s.nx, ⟨ve, n, pl, params.toList, as, b⟩) :: ys) (ρ.add s.nx ⟨l, 0, L⟩) := fun l' yc hg => by
          rcases YS.get_cons hg with ⟨rfl, rfl⟩ | hg
          · exact ⟨⟨l, 0, L⟩, e, Ren.add_same .., he.mono hle, hYO⟩
          · obtain ⟨x, e', h1, h2, h3⟩ := hY _ _ hg
            exact ⟨x, e', hle _ _ h1, h2.mono hle, h3⟩
        have key := hcl _ _ _ _ _ _ hcall (ρ.add s.nx ⟨l, 0, L⟩) _ [.func (.yield l) #[] #[]] _ (f2.mono hle) (.cons (.yl _ _ (Ren.add_same ..)) .nil) hs1 hY1
        have fin : ∀ (st : LSt) (x' : Ex), s1.h.get s.nx = some (.loop st) → (x', ve, { s1 with h := s1.h.del s.nx }) = (x, ve', s') → ∀ ρ2 σ2, Ren.le (ρ.add s.nx ⟨l, 0, L⟩) ρ2 → SR W F ρ2 s1 σ2 → σ2 l = some (.other 1 (L st.st st.j)) ∧ k x' e (σ2.del l) := fun st x' hst heq ρ2 σ2 h1 h2 => by
          cases heq
          have hx := h1 _ _ (Ren.add_same ρ s.nx ⟨l, 0, L⟩)
          exact ⟨h2.loopAt hst hx, hk ρ2 e _ (hle.trans h1) (he.mono (hle.trans h1)) (h2.del hst hx)⟩
        have goal : acallAny P (.func (.func g) fa' fc') [.func (.yield l) #[] #[]] (σ.ins l (.other 1 (L .ready none))) fun _ σ' =>
            (σ' l = some (.other 1 (L .ready none)) ∧ k .normal e (σ'.del l)) ∨ (∃ id, σ' l = some (.other 1 (L .done (some (.exit id)))) ∧ k (.exit id) e (σ'.del l)) ∨ (σ' l = some (.other 1 (L .done (some .ret))) ∧ k .ret e (σ'.del l)) := by
          refine key _ fun ρ2 v2 σ2 h1 h2 h3 => ?_
          split at h
          · rename_i hst
            exact .inl (fin .ready .normal hst (Option.some.inj h) ρ2 σ2 h1 h3)
          · rename_i id hst
            exact .inr (.inl ⟨id, fin (.exit id) (.exit id) hst (Option.some.inj h) ρ2 σ2 h1 h3⟩)
          · rename_i hst
            exact .inr (.inr (fin .ret .ret hst (Option.some.inj h) ρ2 σ2 h1 h3))
          · cases h
        exact goal
      · cases h
  · cases h

theorem code_step {E : Ev X} (hc : CodeOK P T W F E) (hcl : CallsOK P T W F E) (hl : LoopOK P T W F ⟨stepCode T E, stepCall T fns hk E⟩) : CodeOK P T W F ⟨stepCode T E, stepCall T fns hk E⟩ := by
  intro top n pl ys c ve s x ve' s' h ρ e σ he hs hY k hk
  have h0 : stepCode T E top n pl ys c ve s = some (x, ve', s') := h
  cases c with
  | skip =>
    cases h0
    rw [acode]
    exact hk ρ e σ (Ren.le_refl _) he hs
  | region id ops draw =>
    unfold stepCode at h0
    rw [acode]
    cases draw with
    | true =>
      dsimp only [cond_true] at h0
      rw [cond_true]
      split at h0
      · rename_i l hpl
        rw [hpl]
        split at h0
        · rename_i ve1 s1 h1
          cases h0
          exact .inl (vlin_ok YR.mono (hcl ys) hY he hs h1 hk)
        · cases h0
      · cases h0
    | false =>
      dsimp only [cond_false] at h0
      rw [cond_false]
      split at h0
      · rename_i ve1 s1 h1
        cases h0
        exact .inl (vops_ok YR.mono (hcl ys) hY he hs h1 hk)
      · cases h0
  | seq a b =>
    unfold stepCode at h0
    dsimp only at h0
    rw [acode]
    split at h0
    · rename_i ve1 s1 h1
      exact hc _ _ _ _ _ _ _ _ _ _ h1 ρ e σ he hs hY _ fun ρ1 e1 σ1 a1 a2 a3 =>
        hc _ _ _ _ _ _ _ _ _ _ h0 ρ1 e1 σ1 a2 a3 (hY.mono _ _ a1) _ fun ρ2 e2 σ2 b1 b2 b3 => hk ρ2 e2 σ2 (a1.trans b1) b2 b3
    · rename_i r hne
      refine hc _ _ _ _ _ _ _ _ _ _ h0 ρ e σ he hs hY _ fun ρ1 e1 σ1 a1 a2 a3 => ?_
      have := hk ρ1 e1 σ1 a1 a2 a3
      cases x with
      | normal => exact absurd h0 (hne _ _)
      | exit id => exact this
      | ret => exact this
  | cond c a b =>
    unfold stepCode at h0
    dsimp only at h0
    rw [acode]
    split at h0
    · rename_i t ht
      obtain ⟨t', t1, t2⟩ := veval_ok he ht
      cases t2
      rw [t1]
      dsimp only
      refine .inl ⟨fun hb => ?_, fun hb => ?_⟩
      · subst hb
        rw [cond_true] at h0
        rw [exN_self]
        exact hc _ _ _ _ _ _ _ _ _ _ h0 ρ e σ he hs hY _ hk
      · subst hb
        rw [cond_false] at h0
        rw [exN_self]
        exact hc _ _ _ _ _ _ _ _ _ _ h0 ρ e σ he hs hY _ hk
    · cases h0
  | block id b =>
    unfold stepCode at h0
    dsimp only at h0
    rw [acode]
    refine .inl ?_
    split at h0
    · rename_i i ve1 s1 h1
      refine hc _ _ _ _ _ _ _ _ _ _ h1 ρ e σ he hs hY _ fun ρ1 e1 σ1 a1 a2 a3 => ?_
      show (bif Nat.beq i id then k .normal e1 σ1 else k (.exit i) e1 σ1)
      cases hb : Nat.beq i id with
      | true =>
        rw [hb, cond_true] at h0
        cases h0
        exact hk ρ1 e1 σ1 a1 a2 a3
      | false =>
        rw [hb, cond_false] at h0
        cases h0
        exact hk ρ1 e1 σ1 a1 a2 a3
    · rename_i r hne
      refine hc _ _ _ _ _ _ _ _ _ _ h0 ρ e σ he hs hY _ fun ρ1 e1 σ1 a1 a2 a3 => ?_
      have := hk ρ1 e1 σ1 a1 a2 a3
      cases x with
      | normal => exact this
      | exit i => exact absurd h0 (hne _ _ _)
      | ret => exact this
  | loop b =>
    obtain ⟨ks, k1, k2⟩ := keysOf ve
    have dom : ∀ p ∈ ks, p.2 = S1.sc .any ∧ ∃ v, e.get p.1 = some v := fun p hp => by
      obtain ⟨b1, v, b2⟩ := k2 p hp
      obtain ⟨v', b3, _⟩ := he _ _ b2
      exact ⟨b1, v', b3⟩
    obtain ⟨st, g1, g2⟩ := gets_any dom
    rw [acode]
    refine ⟨[], ks, st, True.intro, g1, fun Z hZ => ?_⟩
    refine hl top n pl ys b ve s x ve' s' h ks k1 k2 k ρ hY hk Z (fun st σ Y h1 h2 => hZ st σ Y h1 h2) ρ st σ (Ren.le_refl _) (fun t v hv => ?_) hs
    rw [g2 _ (k1 t v hv)]
    exact he t v hv
  | rangeFunc f params as b =>
    cases top with
    | true => exact range_step hcl h0 he hs hY hk
    | false => unfold stepCode at h0; cases h0
  | exit id =>
    cases h0
    rw [acode]
    exact hk ρ e σ (Ren.le_refl _) he hs
  | ret =>
    cases h0
    rw [acode]
    exact hk ρ e σ (Ren.le_refl _) he hs
  | scope b => cases h0
  | label l => cases h0
  | goto l => cases h0
  | refuse w => cases h0

theorem yield_step {E : Ev X} (hc : CodeOK P T W F E) {ys : YS} {l : Nat} {args : List Value} {s : VS X} {v : Value} {s' : VS X} (h : stepYield E ys l args s = some (v, s')) {ρ : Ren} {args' : List Value} {σ : Heap} {x : RB} (hx : ρ l = some x)
    (ha : VRs ρ args args') (hs : SR W F ρ s σ) (hY : YR P T ys ρ) {R : Value → Heap → Prop} (hR : ∀ ρ' v' σ', ρ.le ρ' → VR ρ' v v' → SR W F ρ' s' σ' → R v' σ') : ACallV P (.func (.yield x.r) #[] #[]) args' σ R := by
  unfold stepYield at h
  split at h
  · rename_i yc hyc
    cases hlen : Nat.beq args.length yc.params.length with
    | false => rw [hlen] at h; cases h
    | true =>
      rw [hlen, cond_true] at h
      split at h
      · rename_i hrd
        split at h
        · rename_i ve1 s1 h1
          split at h
          · rename_i hrd1
            split at h
            · rename_i x2 ve2 s2 h2
              split at h
              · rename_i hbz
                obtain ⟨x0, e, y1, y2, y3⟩ := hY l yc hyc
                rw [hx] at y1
                cases y1
                refine y3 args' σ R (hs.loopAt hrd hx) ⟨by rw [← ha.length]; exact Nat.eq_of_beq_eq_true hlen, ?_⟩
                refine hc _ _ _ _ _ _ _ _ _ _ h1 ρ _ σ (vpsets_ok y2 ha) hs hY _ fun ρ1 e1 σ1 a1 a2 a3 => ?_
                have hx1 := a1 _ _ hx
                refine ⟨a3.loopAt hrd1 hx1, ?_⟩
                have hs2 : SR W F ρ1 { s1 with h := s1.h.set l (.loop .busy) } (σ1.ins x.r (.other 1 (x.L .busy none))) := a3.store hrd1 hx1 (o' := .loop .busy) rfl
                refine hc _ _ _ _ _ _ _ _ _ _ h2 ρ1 e1 _ a2 hs2 (hY.mono _ _ a1) _ fun ρ2 e2 σ2 b1 b2 b3 => ?_
                have hx2 := b1 _ _ hx1
                refine ⟨b3.loopAt hbz hx2, ?_⟩
                cases x2 with
                | normal =>
                  cases h
                  exact hR ρ2 _ _ (a1.trans b1) (.bool _) (b3.store hbz hx2 (o' := .loop .ready) rfl)
                | exit id =>
                  cases h
                  exact hR ρ2 _ _ (a1.trans b1) (.bool _) (b3.store hbz hx2 (o' := .loop (.exit id)) rfl)
                | ret =>
                  cases h
                  exact hR ρ2 _ _ (a1.trans b1) (.bool _) (b3.store hbz hx2 (o' := .loop .ret) rfl)
              · cases h
            · cases h
          · cases h
        · cases h
      · cases h
  · cases h

theorem call_step {E : Ev X} (hf : FnsOK P T fns) (hh : HookOK P W F hk) (hc : CodeOK P T W F E) : CallsOK P T W F ⟨stepCode T E, stepCall T fns hk E⟩ := by
  intro ys fv args s v s' h ρ fv' args' σ hfv ha hs hY R hR
  have h0 : stepCall T fns hk E ys fv args s = some (v, s') := h
  unfold stepCall at h0
  split at h0
  · rename_i f first cap
    obtain ⟨first', cap', rfl, f1, f2⟩ := hfv.arr_fn
    have hargs : VRs ρ (first.toList ++ args ++ cap.toList) (first'.toList ++ args' ++ cap'.toList) := (f1.append ha).append f2
    unfold acallAny
    dsimp only
    split at h0
    · rename_i g hg
      exact hh f g hg _ _ _ _ h0 ρ _ σ hargs hs R hR
    · split at h0
      · rename_i fe hfe
        cases hlen : Nat.ble (first.toList ++ args ++ cap.toList).length fe.n with
        | false => rw [hlen] at h0; cases h0
        | true =>
          rw [hlen, cond_true] at h0
          refine hf f fe hfe _ σ R (by rw [← hargs.length]; exact Nat.le_of_ble_eq_true hlen) ?_
          unfold afn
          split at h0
          · cases h0
          · rename_i x ve1 s1 hne h1
            split at h0
            · rename_i vs hvs
              cases h0
              refine hc _ _ _ _ _ _ _ _ _ _ h1 ρ _ σ (venv0_ok hargs) hs hY _ fun ρ1 e1 σ1 a1 a2 a3 => ?_
              obtain ⟨vs', v1, v2⟩ := vares_ok a2 a3 hvs
              cases x with
              | exit id => exact (hne id rfl).elim
              | normal => exact ⟨vs', σ1, v1, Weak.refl _, hR ρ1 _ _ a1 (packed_ok v2) a3⟩
              | ret => exact ⟨vs', σ1, v1, Weak.refl _, hR ρ1 _ _ a1 (packed_ok v2) a3⟩
            · cases h0
          · cases h0
      · cases h0
  · rename_i l a c
    cases hfv with
    | yl _ x hx =>
      unfold acallAny
      exact yield_step hc h0 hx ha hs hY hR
  · cases h0

theorem run_ok (hf : FnsOK P T fns) (hh : HookOK P W F hk) : ∀ n : Nat, CodeOK P T W F (run T fns hk n) ∧ LoopOK P T W F (run T fns hk n) ∧ CallsOK P T W F (run T fns hk n)
  | 0 => by
    refine ⟨?_, ?_, ?_⟩
    · intro _ _ _ _ _ _ _ _ _ _ h
      cases h
    · intro _ _ _ _ _ _ _ _ _ _ h
      cases h
    · intro _ _ _ _ _ _ h
      cases h
  | n + 1 => by
    obtain ⟨h1, h2, h3⟩ := run_ok hf hh n
    have h4 : LoopOK P T W F (run T fns hk (n + 1)) := loop_step h1 h2
    exact ⟨code_step h1 h3 h4, h4, call_step hf hh h1⟩

end
end Go.Eng

/- The evaluator once more, its functions cut small, so that the kernel runs it with less room; it is the same. Conditions: none. -/
namespace Go.Eng
open Go

def sameK (k k' : IntKind) : Bool := Nat.beq (kindN k) (kindN k')

theorem sameK_eq (k k' : IntKind) : sameK k k' = (kindN k == kindN k') := by
  cases k <;> cases k' <;> rfl

def fshl (k : IntKind) (a b : Int) : Option Value := bif decide (0 ≤ b) then some (.int k (shlI k a b)) else none
def fshr (k : IntKind) (a b : Int) : Option Value := bif decide (0 ≤ b) then some (.int k (shrI k a b)) else none
def fquo (k : IntKind) (a b : Int) : Option Value := bif decide (b = 0) then none else some (.int k (quoI k a b))
def frem (k : IntKind) (a b : Int) : Option Value := bif decide (b = 0) then none else some (.int k (a.tmod b))

def fint2 (op : BinOp) (k : IntKind) (a b : Int) : Option Value :=
  match op with
  | .quo => fquo k a b
  | .rem => frem k a b
  | .and => some (.int k (andI k a b))
  | .or => some (.int k (orI k a b))
  | .xor => some (.int k (xorI k a b))
  | .andNot => some (.int k (andNotI k a b))
  | _ => none

def fint1 (op : BinOp) (k : IntKind) (a b : Int) : Option Value :=
  match op with
  | .add => some (.int k (k.wrap (a + b)))
  | .sub => some (.int k (k.wrap (a - b)))
  | .mul => some (.int k (k.wrap (a * b)))
  | .eql => some (.bool (decide (a = b)))
  | .neq => some (.bool (!decide (a = b)))
  | .lss => some (.bool (decide (a < b)))
  | .leq => some (.bool (decide (a ≤ b)))
  | .gtr => some (.bool (decide (b < a)))
  | .geq => some (.bool (decide (b ≤ a)))
  | op => fint2 op k a b

def fint (op : BinOp) (k k' : IntKind) (a b : Int) : Option Value :=
  match op with
  | .shl => fshl k a b
  | .shr => fshr k a b
  | op => bif sameK k k' then fint1 op k a b else none

def fbinI (i : TI) (op : BinOp) (k : IntKind) (a : Int) (y : Value) : Option Value :=
  match y with
  | .int k' b => fint op k k' a b
  | y => vbin i op (.int k a) y

def fbin (i : TI) (op : BinOp) (x y : Value) : Option Value :=
  match x with
  | .int k a => fbinI i op k a y
  | x => vbin i op x y

theorem fint_eq (i : TI) (op : BinOp) (k k' : IntKind) (a b : Int) : fint op k k' a b = vbin i op (.int k a) (.int k' b) := by
  unfold vbin
  dsimp only
  unfold abin
  dsimp only
  rw [← sameK_eq]
  cases op <;> simp only [fint, fint1, fint2, fshl, fshr, fquo, frem, okB, intBin] <;>
    (try cases sameK k k') <;> (try rfl) <;>
    (try (cases decide (b = 0) <;> rfl)) <;> (try (cases decide (0 ≤ b) <;> rfl))

theorem fbin_eq (i : TI) (op : BinOp) (x y : Value) : fbin i op x y = vbin i op x y := by
  unfold fbin
  split
  · unfold fbinI
    split
    · exact fint_eq ..
    · rfl
  · rfl

section
variable (T : TT) (e : VEnv)

def qPick (c a b : Operand) : Option Value := match veval e c, veval e a, veval e b with
  | some (.bool t), some x, some y => some (pickV t x y)
  | _, _, _ => none
def qNil (x : Operand) : Option Value := match veval e x with
  | some (.pointer (some a)) => some (.pointer (some a))
  | some (.func (.func f) a c) => some (.func (.func f) a c)
  | some (.func (.yield l) a c) => some (.func (.yield l) a c)
  | _ => none
def qBin (op : BinOp) (t : TypeId) (x y : Operand) : Option Value := match T t, veval e x, veval e y with
  | some i, some a, some b => fbin i op a b
  | _, _, _ => none
def qUn (op : UnOp) (x : Operand) : Option Value := match op, veval e x with
  | .not, some (.bool b) => some (.bool (!b))
  | .neg, some (.int k n) => some (.int k (k.wrap (0 - n)))
  | .xor, some (.int k n) => some (.int k (xorI k (if k.signed then -1 else k.max) n))
  | _, _ => none
def qConv (s d : TypeId) (x : Operand) : Option Value := match T s, T d, veval e x with
  | some is, some id, some (.int _ n) => match id.k with
    | .int k => bif nonOther is.k then some (.int k (k.wrap n)) else none
    | _ => none
  | _, _, _ => none
def qFn (fn : Fn) (first cap : Array Operand) : Option Value := match fn with
  | .func fn => match vevals e first.toList, vevals e cap.toList with
    | some a, some b => some (.func (.func fn) a.toArray b.toArray)
    | _, _ => none
  | _ => none
def qSlice (t : TypeId) (x : Operand) (lo hi mx : Option Operand) : Option Value := match T t, veval e x, vevalo e lo, vevalo e hi, vevalo e mx with
  | some i, some (.slice p len cap), some l, some h, some m => match i.k with
    | .slice el => match T el with
      | some ie => vslice ie.size p len cap l h m
      | none => none
    | _ => none
  | _, _, _, _, _ => none
def qFA2 (i : TI) (b o f : Nat) : Option Value := match i.k with
  | .struct fs => match fs[f]? with
    | some (off, ft) => match T ft with
      | some j => bif j.size == 0 then none else some (.pointer (some ⟨b, o + off, none⟩))
      | none => none
    | none => none
  | _ => none
def qFA (s : TypeId) (x : Operand) (f : Nat) : Option Value := match T s, veval e x with
  | some i, some (.pointer (some ⟨b, o, none⟩)) => qFA2 T i b o f
  | _, _ => none
def qF2 (i : TI) (cs : Array Value) (f : Nat) : Option Value := match i.k with
  | .struct fs => match fs[f]? with
    | some (off, ft) => match T ft with
      | some j => bif nonOther j.k then aggPart cs.toList off j.size j.isAgg else none
      | none => none
    | none => none
  | _ => none
def qF (s : TypeId) (x : Operand) (f : Nat) : Option Value := match T s, veval e x with
  | some i, some (.agg cs) => qF2 T i cs f
  | _, _ => none
def qIA1 (i : TI) (b o len : Nat) (n : Int) : Option Value := match i.k with
  | .slice el => match T el with
    | some ie => bif decide (0 ≤ n) && decide (n < len) then some (.pointer (some ⟨b, o + n.toNat * ie.size, none⟩)) else none
    | none => none
  | _ => none
def qIA2 (i : TI) (b o : Nat) (n : Int) : Option Value := match i.k with
  | .arr len el => match T el with
    | some ie => bif decide (0 ≤ n) && decide (n < len) then some (.pointer (some ⟨b, o + n.toNat * ie.size, none⟩)) else none
    | none => none
  | _ => none
def qIA (t : TypeId) (x ix : Operand) : Option Value := match T t, veval e x, veval e ix with
  | some i, some (.slice (some ⟨b, o, none⟩) len _), some (.int _ n) => qIA1 T i b o len n
  | some i, some (.pointer (some ⟨b, o, none⟩)), some (.int _ n) => qIA2 T i b o n
  | _, _, _ => none
def qI2 (i : TI) (cs : Array Value) (n : Int) : Option Value := match i.k with
  | .arr len el => match T el, aints cs.toList with
    | some ie, some (k, l) => match ie.k with
      | .int _ => bif (ie.size == 1 && Nat.ble len l.length) && (decide (0 ≤ n) && decide (n < len)) then some (.int k (l.getD n.toNat 0)) else none
      | _ => none
    | _, _ => none
  | _ => none
def qI (t : TypeId) (x ix : Operand) : Option Value := match T t, veval e x, veval e ix with
  | some i, some (.string s), some (.int _ n) => match i.k with
    | .str => bif decide (0 ≤ n) && decide (n < s.size) then some (.int .u8 ((s.data.toList.getD n.toNat 0).toNat : Int)) else none
    | _ => none
  | some i, some (.agg cs), some (.int _ n) => qI2 T i cs n
  | _, _, _ => none
def qEx (x : Operand) (j : Nat) : Option Value := match veval e x with
  | some (.tuple vs) => vs.toList[j]?
  | _ => none
def qBuild (t : TypeId) (parts : Array (Nat × Operand)) : Option Value := match T t, vevalp e parts.toList with
  | some i, some l => bif vconstL i.zero then abuild T i l else none
  | _, _ => none
def qCall (c : Call) : Option Value := match c.callee, vevals e c.args.toList with
  | .builtin b, some args => vbuiltin T b c.argTypes.toList args
  | _, _ => none

def fpv (op : Op) : Option Value :=
  match op with
  | .move x => veval e x
  | .assign x => veval e x
  | .pick c a b => qPick e c a b
  | .nilCheck x => qNil e x
  | .binOp op t x y _ => qBin T e op t x y
  | .unOp op _ x => qUn e op x
  | .convert s d x => qConv T e s d x
  | .makeFunc fn first cap => qFn e fn first cap
  | .slice t x lo hi mx => qSlice T e t x lo hi mx
  | .fieldAddr s x f => qFA T e s x f
  | .field s x f => qF T e s x f
  | .indexAddr t x ix => qIA T e t x ix
  | .index t x ix => qI T e t x ix
  | .extract x j => qEx e x j
  | .build t parts => qBuild T e t parts
  | .call c => qCall T e c
  | _ => none

theorem fpv_eq (op : Op) : fpv T e op = vpv T e op := by
  cases op with
  | makeFunc fn first cap => cases fn <;> rfl
  | binOp op t x y ty =>
    simp only [fpv, vpv, qBin, fbin_eq]
    rfl
  | _ => rfl
end

section
variable {X : Type} (T : TT) (call : VCall X) (ve : VEnv) (s : VS X)

def mk1 (v : Option Value) : Option (Value × VS X) := match v with
  | some v => some (v, s)
  | none => none

def sLoad2 (i : TI) (p : Option Addr) : Option (Value × VS X) := bif nonOther i.k then match vld s.h i p with
    | some v => bif hasSh i.sh v then some (v, s) else none
    | none => none
  else none
def sLoad (t : TypeId) (x : Operand) : Option (Value × VS X) := match T t, veval ve x with
  | some i, some (.pointer p) => sLoad2 s i p
  | _, _ => none
def sStore (t : TypeId) (x y : Operand) : Option (Value × VS X) := match T t, veval ve x, veval ve y with
  | some i, some (.pointer p), some v => bif ((vcells v).length == i.size) then match vstore s p (vcells v) with
      | some s' => some (undef, s')
      | none => none
    else none
  | _, _, _ => none
def sAlloc (t : TypeId) : Option (Value × VS X) := match T t with
  | some i => bif vconstL i.zero then some (.pointer (some ⟨s.nx, 0, none⟩), vnew s (.row i.zero t i.zero.length)) else none
  | none => none
def sBox (t : TypeId) (x : Operand) : Option (Value × VS X) := match veval ve x with
  | some v => some (.pointer (some ⟨s.nx, 0, none⟩), vnew s (.row (vcells v) t (vcells v).length))
  | none => none
def sBuild (t : TypeId) (len : Nat) (parts : Array (Nat × Operand)) : Option (Value × VS X) := match T t, vevalp ve parts.toList with
  | some i, some l => match i.k with
    | .slice el => match T el with
      | some ie => bif (Nat.ble (len * ie.size) 16777216 && ie.zero.length == ie.size) && vconstL ie.zero then match bfill (fun j => some (j * ie.size, ie.size)) (zrep ie.zero len) l with
          | some cs => some (.slice (some ⟨s.nx, 0, none⟩) len (2 * len), vnew s (.row cs el cs.length))
          | none => none
        else none
      | none => none
    | _ => none
  | _, _ => none
def sMake (t : TypeId) (l c : Operand) : Option (Value × VS X) := match T t, veval ve l, veval ve c with
  | some i, some (.int _ l), some (.int _ c) => match i.k with
    | .slice el => match T el with
      | some ie => vmake el ie l c s
      | none => none
    | _ => none
  | _, _, _ => none

def cValue (o : Oper) (f : Operand) (args : List Operand) : Option (Value × VS X) := match vevals ve args with
  | some args => match veval ve f, T o.type with
    | some fv, some i => match call fv args s with
      | some (v, s') => bif hasSh i.sh v then some (v, s') else none
      | none => none
    | _, _ => none
  | none => none

def fcallOp (o : Oper) (c : Call) : Option (Value × VS X) := match c.callee with
  | .value f => cValue T call ve s o f c.args.toList
  | .builtin .len => mk1 s (match vevals ve c.args.toList with
    | some args => vbuiltin T .len c.argTypes.toList args
    | none => none)
  | _ => vcallOp T call ve o c s

def fstep (o : Oper) : Option (Value × VS X) :=
  match o.op with
  | .load t x => sLoad T ve s t x
  | .store t x y => sStore T ve s t x y
  | .alloc t => sAlloc T s t
  | .box t x => sBox ve s t x
  | .buildSlice t len parts => sBuild T ve s t len parts
  | .makeSlice t l c => sMake T ve s t l c
  | .call c => fcallOp T call ve s o c
  | op => mk1 s (fpv T ve op)

theorem fcallOp_eq (o : Oper) (c : Call) : fcallOp T call ve s o c = vcallOp T call ve o c s := by
  unfold fcallOp
  split
  · rename_i f hc
    unfold cValue vcallOp
    rw [hc]
    cases vevals ve c.args.toList <;> rfl
  · rename_i hc
    unfold vcallOp mk1
    rw [hc]
    cases vevals ve c.args.toList <;> rfl
  · rfl

theorem fstep_eq (o : Oper) : fstep T call ve s o = vstep T call ve o s := by
  unfold fstep vstep
  cases o.op with
  | call c => exact fcallOp_eq ..
  | load t x => rfl
  | store t x y => rfl
  | alloc t => rfl
  | box t x => rfl
  | buildSlice t len parts => rfl
  | makeSlice t l c => rfl
  | makeMap t r => rfl
  | mapUpdate t m k v => rfl
  | range t x => rfl
  | next x b => rfl
  | entry x => rfl
  | _ =>
    dsimp only
    rw [fpv_eq]
    rfl

def gPut (n : Nat) (dst : Option Tmp) (x : Option (Value × VS X)) : Option (VEnv × VS X) := match x with
  | some (v, s') => match vput n ve dst v with
    | some ve' => some (ve', s')
    | none => none
  | none => none
def gSkip (n : Nat) (dst : Option Tmp) : Option (VEnv × VS X) := match vput n ve dst undef with
  | some ve' => some (ve', s)
  | none => none
def gGuard (n : Nat) (ops : List Oper) (o : Oper) (j : Nat) (want : Bool) : Option (VEnv × VS X) := match nth ops j with
  | some oj => match oj.dst with
    | some d => match ve.get d with
      | some (.bool b) => bif (b == want) then gPut ve n o.dst (fstep T call ve s o) else gSkip ve s n o.dst
      | some (.tuple _) => gSkip ve s n o.dst
      | _ => none
    | none => none
  | none => none
def fgop (n : Nat) (ops : List Oper) (o : Oper) : Option (VEnv × VS X) := match o.guard with
  | none => gPut ve n o.dst (fstep T call ve s o)
  | some (j, want) => gGuard T call ve s n ops o j want

theorem fgop_eq (n : Nat) (ops : List Oper) (o : Oper) : fgop T call ve s n ops o = vgop T call n ops o ve s := by
  unfold fgop vgop gGuard
  rw [fstep_eq]
  cases o.guard <;> rfl
end

section
variable {X : Type} (T : TT)

def fops (call : VCall X) (n : Nat) (ops : List Oper) : List Oper → VEnv → VS X → Option (VEnv × VS X)
  | [], ve, s => some (ve, s)
  | o :: l, ve, s => match fgop T call ve s n ops o with
    | some (ve', s') => fops call n ops l ve' s'
    | none => none

theorem fops_eq (call : VCall X) (n : Nat) (ops : List Oper) : ∀ (l : List Oper) (ve : VEnv) (s : VS X), fops T call n ops l ve s = vops T call n ops l ve s
  | [], _, _ => rfl
  | o :: l, ve, s => by
    unfold fops vops
    rw [fgop_eq]
    cases vgop T call n ops o ve s with
    | none => rfl
    | some x => exact fops_eq ..

def flin (call : VCall X) (n : Nat) (ops : List Oper) : List (Nat × List Nat) → VEnv → VS X → Option (VEnv × VS X)
  | [], ve, s => some (ve, s)
  | (i, pend) :: l, ve, s => match nth ops i with
    | some o => match fgop T call ve s n ops o with
      | some (ve', s') => bif vkeeps T ops ve' s'.h pend then flin call n ops l ve' s' else none
      | none => none
    | none => none

theorem flin_eq (call : VCall X) (n : Nat) (ops : List Oper) : ∀ (l : List (Nat × List Nat)) (ve : VEnv) (s : VS X), flin T call n ops l ve s = vlin T call n ops l ve s
  | [], _, _ => rfl
  | (i, pend) :: l, ve, s => by
    unfold flin vlin
    cases nth ops i with
    | none => rfl
    | some o =>
      dsimp only
      rw [fgop_eq]
      cases vgop T call n ops o ve s with
      | none => rfl
      | some x =>
        dsimp only
        cases vkeeps T ops x.1 x.2.h pend
        · rfl
        · exact flin_eq ..

def kEnd (x : Option (VEnv × VS X)) : Option (Ex × VEnv × VS X) := match x with
  | some (ve', s') => some (.normal, ve', s')
  | none => none

def kRegion (ih : Ev X) (n : Nat) (pl : Plan) (ys : YS) (id : Nat) (ops : Array Oper) (draw : Bool) (ve : VEnv) (s : VS X) : Option (Ex × VEnv × VS X) :=
  bif draw then match pl.get id with
    | some l => kEnd (flin T (ih.call ys) n ops.toList l ve s)
    | none => none
  else kEnd (fops T (ih.call ys) n ops.toList ops.toList ve s)

def kSeq (ih : Ev X) (top : Bool) (n : Nat) (pl : Plan) (ys : YS) (b : Code) (x : Option (Ex × VEnv × VS X)) : Option (Ex × VEnv × VS X) := match x with
  | some (.normal, ve', s') => ih.code top n pl ys b ve' s'
  | r => r

def kCond (ih : Ev X) (top : Bool) (n : Nat) (pl : Plan) (ys : YS) (c : Operand) (a b : Code) (ve : VEnv) (s : VS X) : Option (Ex × VEnv × VS X) := match veval ve c with
  | some (.bool t) => bif t then ih.code top n pl ys a ve s else ih.code top n pl ys b ve s
  | _ => none

def kBlock (id : Nat) (x : Option (Ex × VEnv × VS X)) : Option (Ex × VEnv × VS X) := match x with
  | some (.exit i, ve', s') => bif Nat.beq i id then some (.normal, ve', s') else some (.exit i, ve', s')
  | r => r

def kLoop (ih : Ev X) (top : Bool) (n : Nat) (pl : Plan) (ys : YS) (b : Code) (ve : VEnv) (x : Option (Ex × VEnv × VS X)) : Option (Ex × VEnv × VS X) := match x with
  | some (.normal, ve', s') => match Tr.inter ve' ve with
    | some ve2 => ih.code top n pl ys (.loop b) ve2 s'
    | none => none
  | r => r

def fcode (ih : Ev X) (top : Bool) (n : Nat) (pl : Plan) (ys : YS) (c : Code) (ve : VEnv) (s : VS X) : Option (Ex × VEnv × VS X) :=
  match c with
  | .skip => some (.normal, ve, s)
  | .region id ops draw => kRegion T ih n pl ys id ops draw ve s
  | .seq a b => kSeq ih top n pl ys b (ih.code top n pl ys a ve s)
  | .cond c a b => kCond ih top n pl ys c a b ve s
  | .block id b => kBlock id (ih.code top n pl ys b ve s)
  | .loop b => kLoop ih top n pl ys b ve (ih.code top n pl ys b ve s)
  | .exit id => some (.exit id, ve, s)
  | .ret => some (.ret, ve, s)
  | .rangeFunc f ps as b => stepCode T ih top n pl ys (.rangeFunc f ps as b) ve s
  | _ => none

theorem fcode_eq (ih : Ev X) (top : Bool) (n : Nat) (pl : Plan) (ys : YS) (c : Code) (ve : VEnv) (s : VS X) : fcode T ih top n pl ys c ve s = stepCode T ih top n pl ys c ve s := by
  cases c with
  | region id ops draw =>
    unfold fcode stepCode kRegion
    cases draw
    · dsimp only [cond_false]
      rw [fops_eq]; rfl
    · dsimp only [cond_true]
      cases pl.get id with
      | none => rfl
      | some l =>
        dsimp only
        rw [flin_eq]; rfl
  | _ => rfl

variable (fns : FuncId → Option FE) (hk : FuncId → Option (List Value → VS X → Option (Value × VS X)))

def frun : Nat → Ev X
  | 0 => ⟨fun _ _ _ _ _ _ _ => none, fun _ _ _ _ => none⟩
  | f + 1 => ⟨fcode T (frun f), stepCall T fns hk (frun f)⟩

theorem frun_eq : ∀ f : Nat, frun T fns hk f = run T fns hk f
  | 0 => rfl
  | f + 1 => by
    unfold frun run
    rw [frun_eq f]
    congr 1
    funext top n pl ys c ve s
    exact fcode_eq ..
end
end Go.Eng
