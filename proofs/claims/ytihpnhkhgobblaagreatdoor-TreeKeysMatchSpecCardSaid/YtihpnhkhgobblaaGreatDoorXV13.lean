/- A run cut in pieces: a piece of code ends where the next begins, in a state that is written down (no more of it than is needed). Conditions: what is said of the functions that are not walked. -/
import Derived.Test.YtihpnhkhgobblaaGreatDoorXV12
namespace Go.Eng
open Go

def cutSeq : Nat → Code → Code
  | 0, _ => .skip
  | m + 1, c => match c with
    | .seq a b => .seq a (cutSeq m b)
    | _ => .refuse ""

def restSeq : Nat → Code → Code
  | 0, c => c
  | m + 1, c => match c with
    | .seq _ b => restSeq m b
    | c => c

section
variable {X : Type} {W : XOps X} {F : Heap} {P : Program} {T : TT} {fns : FuncId → Option FE} {hk : FuncId → Option (List Value → VS X → Option (Value × VS X))}

theorem runcut_ok (hf : FnsOK P T fns) (hh : HookOK P W F hk) {top : Bool} {n : Nat} {pl : Plan} {ys : YS} : ∀ (m f : Nat) (c : Code) (ve : VEnv) (s : VS X) (ve1 : VEnv) (s1 : VS X),
    (run T fns hk f).code top n pl ys (cutSeq m c) ve s = some (.normal, ve1, s1) → ∀ ρ e σ, EnvR ρ ve e → SR W F ρ s σ → YR P T ys ρ →
    ∀ k : Ex → Env → Heap → Prop, (∀ ρ' e' σ', ρ.le ρ' → EnvR ρ' ve1 e' → SR W F ρ' s1 σ' → acode P T n pl top (restSeq m c) e' σ' k) → acode P T n pl top c e σ k
  | 0, f, c, ve, s, ve1, s1, h, ρ, e, σ, he, hs, hY, k, hk' => by
    cases f with
    | zero => cases h
    | succ f =>
      cases h
      exact hk' ρ e σ (Ren.le_refl _) he hs
  | m + 1, f, c, ve, s, ve1, s1, h, ρ, e, σ, he, hs, hY, k, hk' => by
    cases f with
    | zero => cases h
    | succ f =>
      cases c with
      | seq a b =>
        have h' : (match (run T fns hk f).code top n pl ys a ve s with
          | some (.normal, ve', s') => (run T fns hk f).code top n pl ys (cutSeq m b) ve' s'
          | r => r) = some (.normal, ve1, s1) := h
        rw [acode]
        split at h'
        · rename_i ve2 s2 h2
          exact (run_ok hf hh f).1 _ _ _ _ _ _ _ _ _ _ h2 ρ e σ he hs hY _ fun ρ1 e1 σ1 a1 a2 a3 =>
            runcut_ok hf hh m f b ve2 s2 ve1 s1 h' ρ1 e1 σ1 a2 a3 (hY.mono _ _ a1) k fun ρ2 e2 σ2 b1 b2 b3 => hk' ρ2 e2 σ2 (a1.trans b1) b2 b3
        · rename_i r hne
          exact absurd h' (hne _ _)
      | _ => cases h

theorem SR.sub {ρ : Ren} {s : VS X} {σ : Heap} (h : SR W F ρ s σ) {h' : Tr VO} {nx : Nat} (hs : ∀ b o, h'.get b = some o → s.h.get b = some o) (hn : s.nx ≤ nx) : SR W F ρ ⟨h', nx, s.x⟩ σ :=
  ⟨fun b o hb => h.blk b o (hs b o hb), fun b b' o o' x x' h1 h2 => h.inj b b' o o' x x' (hs _ _ h1) (hs _ _ h2), fun b hb => h.nx b (Nat.le_trans hn hb), h.fr, fun b o x h1 => h.ap b o x (hs _ _ h1), h.xr⟩
end

/-! ### What is written down is there -/
def veqs : List Value → List Value → Bool
  | [], [] => true
  | a :: l, b :: m => veq a b && veqs l m
  | _, _ => false

theorem veqs_eq : ∀ {a b : List Value}, veqs a b = true → a = b
  | [], [], _ => rfl
  | [], _ :: _, h => by cases h
  | _ :: _, [], h => by cases h
  | a :: l, b :: m, h => by
    unfold veqs at h
    rw [Bool.and_eq_true] at h
    rw [veq_eq h.1, veqs_eq h.2]

def veqT : Value → Value → Bool
  | .tuple a, .tuple b => veqs a.toList b.toList
  | a, b => veq a b

theorem veqT_eq {a b : Value} (h : veqT a b = true) : a = b := by
  unfold veqT at h
  split at h
  · rw [Array.toList_inj.1 (veqs_eq h)]
  · exact veq_eq h

def voEqB : VO → VO → Bool
  | .row cs t n, .row cs' t' n' => veqs cs cs' && (Nat.beq t t' && Nat.beq n n')
  | .own cs t k z, .own cs' t' k' z' => veqs cs cs' && (Nat.beq t t' && (Nat.beq k k' && Nat.beq z z'))
  | _, _ => false

theorem voEqB_eq {a b : VO} (h : voEqB a b = true) : a = b := by
  unfold voEqB at h
  split at h
  · rw [Bool.and_eq_true, Bool.and_eq_true] at h
    rw [veqs_eq h.1, Nat.eq_of_beq_eq_true h.2.1, Nat.eq_of_beq_eq_true h.2.2]
  · rw [Bool.and_eq_true, Bool.and_eq_true, Bool.and_eq_true] at h
    rw [veqs_eq h.1, Nat.eq_of_beq_eq_true h.2.1, Nat.eq_of_beq_eq_true h.2.2.1, Nat.eq_of_beq_eq_true h.2.2.2]
  · cases h

def leEnvB : List (Nat × Value) → VEnv → Bool
  | [], _ => true
  | (t, v) :: l, ve => (match ve.get t with
    | some u => veqT v u
    | none => false) && leEnvB l ve

theorem leEnvB_ok {ve : VEnv} : ∀ {l : List (Nat × Value)}, leEnvB l ve = true → ∀ p ∈ l, ve.get p.1 = some p.2
  | [], _, p, hp => by cases hp
  | (t, v) :: l, h, p, hp => by
    unfold leEnvB at h
    rw [Bool.and_eq_true] at h
    rcases List.mem_cons.1 hp with rfl | hp
    · have h1 := h.1
      split at h1
      · rename_i u hu
        rw [hu, veqT_eq h1]
      · cases h1
    · exact leEnvB_ok h.2 p hp

def leHB : List (Nat × VO) → Tr VO → Bool
  | [], _ => true
  | (t, v) :: l, ve => (match ve.get t with
    | some u => voEqB v u
    | none => false) && leHB l ve

theorem leHB_ok {ve : Tr VO} : ∀ {l : List (Nat × VO)}, leHB l ve = true → ∀ p ∈ l, ve.get p.1 = some p.2
  | [], _, p, hp => by cases hp
  | (t, v) :: l, h, p, hp => by
    unfold leHB at h
    rw [Bool.and_eq_true] at h
    rcases List.mem_cons.1 hp with rfl | hp
    · have h1 := h.1
      split at h1
      · rename_i u hu
        rw [hu, voEqB_eq h1]
      · cases h1
    · exact leHB_ok h.2 p hp

def intsB : List Int → List Int → Bool
  | [], [] => true
  | a :: l, b :: m => decide (a = b) && intsB l m
  | _, _ => false

theorem intsB_eq : ∀ {a b : List Int}, intsB a b = true → a = b
  | [], [], _ => rfl
  | [], _ :: _, h => by cases h
  | _ :: _, [], h => by cases h
  | a :: l, b :: m, h => by
    unfold intsB at h
    rw [Bool.and_eq_true, decide_eq_true_eq] at h
    rw [h.1, intsB_eq h.2]

def prsB : List (Int × Int) → List (Int × Int) → Bool
  | [], [] => true
  | a :: l, b :: m => (decide (a.1 = b.1) && decide (a.2 = b.2)) && prsB l m
  | _, _ => false

theorem prsB_eq : ∀ {a b : List (Int × Int)}, prsB a b = true → a = b
  | [], [], _ => rfl
  | [], _ :: _, h => by cases h
  | _ :: _, [], h => by cases h
  | (a, a') :: l, (b, b') :: m, h => by
    unfold prsB at h
    rw [Bool.and_eq_true, Bool.and_eq_true, decide_eq_true_eq, decide_eq_true_eq] at h
    obtain ⟨⟨h1, h2⟩, h3⟩ := h
    dsimp only at h1 h2
    rw [h1, h2, prsB_eq h3]

def slNil (s : Sl) : Bool := s.p.isNone && (Nat.beq s.len 0 && Nat.beq s.cap 0)

theorem slNil_eq {s : Sl} (h : slNil s = true) : s = ⟨none, 0, 0⟩ := by
  obtain ⟨p, l, c⟩ := s
  unfold slNil at h
  rw [Bool.and_eq_true, Bool.and_eq_true] at h
  obtain ⟨h1, h2, h3⟩ := h
  dsimp only at h1 h2 h3
  rw [Nat.eq_of_beq_eq_true h2, Nat.eq_of_beq_eq_true h3, Option.isNone_iff_eq_none.1 h1]

def lineB (a b : MLine) : Bool := intsB a.w b.w && (prsB a.p b.p && ((slNil a.s && slNil b.s) && Nat.beq a.mark b.mark))

theorem lineB_eq {a b : MLine} (h : lineB a b = true) : a = b := by
  unfold lineB at h
  simp only [Bool.and_eq_true] at h
  obtain ⟨h1, h2, ⟨h3, h4⟩, h5⟩ := h
  obtain ⟨w, p, s, m⟩ := a
  obtain ⟨w', p', s', m'⟩ := b
  dsimp only at h1 h2 h3 h4 h5
  rw [intsB_eq h1, prsB_eq h2, slNil_eq h3, slNil_eq h4, Nat.eq_of_beq_eq_true h5]

def linesB : List MLine → List MLine → Bool
  | [], [] => true
  | a :: l, b :: m => lineB a b && linesB l m
  | _, _ => false

theorem linesB_eq : ∀ {a b : List MLine}, linesB a b = true → a = b
  | [], [], _ => rfl
  | [], _ :: _, h => by cases h
  | _ :: _, [], h => by cases h
  | a :: l, b :: m, h => by
    unfold linesB at h
    rw [Bool.and_eq_true] at h
    rw [lineB_eq h.1, linesB_eq h.2]

def mxB : MX → MX → Bool
  | ⟨none⟩, ⟨none⟩ => true
  | ⟨some (b, ls, ev)⟩, ⟨some (b', ls', ev')⟩ => Nat.beq b b' && (linesB ls ls' && Nat.beq ev ev')
  | _, _ => false

theorem mxB_eq {a b : MX} (h : mxB a b = true) : a = b := by
  unfold mxB at h
  split at h
  · rfl
  · rw [Bool.and_eq_true, Bool.and_eq_true] at h
    rw [Nat.eq_of_beq_eq_true h.1, linesB_eq h.2.1, Nat.eq_of_beq_eq_true h.2.2]
  · cases h

/-- A state written down. -/
structure Lit where
  env : List (Nat × Value)
  h : List (Nat × VO)
  nx : Nat
  x : MX

def Lit.ve (l : Lit) : VEnv := Tr.ofL l.env
def Lit.vs (l : Lit) : VSM := ⟨Tr.ofL l.h, l.nx, l.x⟩

def litB (l : Lit) (r : Option (Ex × VEnv × VSM)) : Bool :=
  match r with
  | some (.normal, ve, s) => leEnvB l.env ve && (leHB l.h s.h && (Nat.beq s.nx l.nx && mxB s.x l.x))
  | _ => false

theorem litB_ok {l : Lit} {r : Option (Ex × VEnv × VSM)} (h : litB l r = true) : ∃ ve s, r = some (.normal, ve, s) ∧ (∀ t v, l.ve.get t = some v → ve.get t = some v) ∧ (∀ b o, l.vs.h.get b = some o → s.h.get b = some o) ∧ s.nx = l.nx ∧ s.x = l.x := by
  unfold litB at h
  split at h
  · rename_i ve s
    simp only [Bool.and_eq_true] at h
    obtain ⟨h1, h2, h3, h4⟩ := h
    exact ⟨ve, s, rfl, fun t v hv => leEnvB_ok h1 _ (Tr.ofL_mem hv), fun b o hb => leHB_ok h2 _ (Tr.ofL_mem hb), Nat.eq_of_beq_eq_true h3, mxB_eq h4⟩
  · cases h

/-- A piece of a run up to a state that is written down. -/
theorem lit_ok {W : XOps MX} {F : Heap} {P : Program} {T : TT} {fns : FuncId → Option FE} {hk : FuncId → Option Hook} (hf : FnsOK P T fns) (hh : HookOK P W F hk) {top : Bool} {n : Nat} {pl : Plan} {m f : Nat} {c : Code} {ve : VEnv} {s : VSM} {l : Lit}
    (h : litB l ((frun T fns hk f).code top n pl [] (cutSeq m c) ve s) = true) {ρ : Ren} {e : Env} {σ : Heap} (he : EnvR ρ ve e) (hs : SR W F ρ s σ) {k : Ex → Env → Heap → Prop}
    (hk' : ∀ ρ' e' σ', ρ.le ρ' → EnvR ρ' l.ve e' → SR W F ρ' l.vs σ' → acode P T n pl top (restSeq m c) e' σ' k) : acode P T n pl top c e σ k := by
  rw [frun_eq] at h
  obtain ⟨ve1, s1, h1, h2, h3, h4, h5⟩ := litB_ok h
  refine runcut_ok hf hh m f c ve s ve1 s1 h1 ρ e σ he hs (fun l yc hl => by cases hl) k fun ρ' e' σ' a1 a2 a3 => hk' ρ' e' σ' a1 (fun t v hv => a2 t v (h2 t v hv)) ?_
  have := a3.sub h3 (Nat.le_of_eq h4)
  rw [h5] at this
  exact this

end Go.Eng
