/- Two operations whose order is open may be exchanged. Conditions: none. -/
import Derived.Test.YtihpnhkhgobblaaGreatDoorEb
namespace Go.Eng
open Go

abbrev Mf := Heap → (Value → Heap → Prop) → Prop

def IsPure (M : Mf) : Prop := ∃ (p : Prop) (u : Value), ∀ σ κ, M σ κ ↔ p ∧ κ u σ
def IsLoad (M : Mf) (f : Heap → Value → Prop) : Prop := (∀ σ κ, M σ κ ↔ ∃ v, f σ v ∧ κ v σ) ∧ ∀ σ v r o, f σ v → σ r = none → f (σ.ins r o) v
def IsAlloc (M : Mf) : Prop := ∃ (p : Prop) (val : Nat → Value) (ob : AObj), (∃ c, ob.fits c) ∧ ∀ σ κ, M σ κ ↔ p ∧ ∀ r, σ r = none → κ (val r) (σ.ins r ob)
def Mono (M : Mf) : Prop := ∀ σ κ κ', Real σ → Imp κ κ' → M σ κ → M σ κ'
def Inh (M : Mf) : Prop := ∀ σ κ, Real σ → M σ κ → ∃ v σ', Real σ' ∧ κ v σ'
def Framed (M : Mf) : Prop := ∀ σ κ r o, σ r = none → M σ κ → M (σ.ins r o) fun v τ => ∃ σ', τ = σ'.ins r o ∧ σ' r = none ∧ κ v σ'

section swaps
variable {Mx My : Mf} {σ : Heap} {K : Value → Value → Heap → Prop}

theorem swap_pure_any (hx : IsPure Mx) (hy : Mono My) (hr : Real σ) (h : Mx σ fun v σ1 => My σ1 fun u σ2 => K v u σ2) : My σ fun u σ1 => Mx σ1 fun v σ2 => K v u σ2 := by
  obtain ⟨p, v0, hx⟩ := hx
  obtain ⟨hp, h⟩ := (hx _ _).1 h
  exact hy _ _ _ hr (fun u σ1 _ hk => (hx _ _).2 ⟨hp, hk⟩) h

theorem swap_any_pure (hx : Mono Mx) (hi : Inh Mx) (hy : IsPure My) (hr : Real σ) (h : Mx σ fun v σ1 => My σ1 fun u σ2 => K v u σ2) : My σ fun u σ1 => Mx σ1 fun v σ2 => K v u σ2 := by
  obtain ⟨p, u0, hy⟩ := hy
  obtain ⟨v, σ', _, h'⟩ := hi _ _ hr h
  exact (hy _ _).2 ⟨((hy _ _).1 h').1, hx _ _ _ hr (fun v σ1 _ hk => ((hy _ _).1 hk).2) h⟩

theorem swap_load_load {f g : Heap → Value → Prop} (hx : IsLoad Mx f) (hy : IsLoad My g) (h : Mx σ fun v σ1 => My σ1 fun u σ2 => K v u σ2) : My σ fun u σ1 => Mx σ1 fun v σ2 => K v u σ2 := by
  obtain ⟨v, hv, h⟩ := (hx.1 _ _).1 h
  obtain ⟨u, hu, h⟩ := (hy.1 _ _).1 h
  exact (hy.1 _ _).2 ⟨u, hu, (hx.1 _ _).2 ⟨v, hv, h⟩⟩

theorem swap_load_alloc {f : Heap → Value → Prop} (hx : IsLoad Mx f) (hy : IsAlloc My) (h : Mx σ fun v σ1 => My σ1 fun u σ2 => K v u σ2) : My σ fun u σ1 => Mx σ1 fun v σ2 => K v u σ2 := by
  obtain ⟨p, val, ob, _, hy⟩ := hy
  obtain ⟨v, hv, h⟩ := (hx.1 _ _).1 h
  obtain ⟨hp, h⟩ := (hy _ _).1 h
  exact (hy _ _).2 ⟨hp, fun r hr => (hx.1 _ _).2 ⟨v, hx.2 _ _ _ _ hv hr, h r hr⟩⟩

theorem swap_load_any {f : Heap → Value → Prop} (hx : IsLoad Mx f) (hy : Mono My) (hr : Real σ) (hK : ∀ v u σ2, K v u σ2 → (∃ σ0, f σ0 v) → f σ2 v) (h : Mx σ fun v σ1 => My σ1 fun u σ2 => K v u σ2) :
    My σ fun u σ1 => Mx σ1 fun v σ2 => K v u σ2 := by
  obtain ⟨v, hv, h⟩ := (hx.1 _ _).1 h
  exact hy _ _ _ hr (fun u σ1 _ hk => (hx.1 _ _).2 ⟨v, hK _ _ _ hk ⟨σ, hv⟩, hk⟩) h

theorem swap_call_alloc (hx : Mono Mx) (hi : Inh Mx) (hf : Framed Mx) (hy : IsAlloc My) (hr : Real σ) (h : Mx σ fun v σ1 => My σ1 fun u σ2 => K v u σ2) : My σ fun u σ1 => Mx σ1 fun v σ2 => K v u σ2 := by
  obtain ⟨p, val, ob, hob, hy⟩ := hy
  obtain ⟨v, σ', _, h'⟩ := hi _ _ hr h
  refine (hy _ _).2 ⟨((hy _ _).1 h').1, fun r h0 => ?_⟩
  refine hx _ _ _ (hr.ins r hob) ?_ (hf _ _ r ob h0 h)
  rintro v τ _ ⟨σ', rfl, h1, h2⟩
  exact ((hy _ _).1 h2).2 r h1

theorem swap_alloc_alloc (hx : IsAlloc Mx) (hy : IsAlloc My) (hr : Real σ) (h : Mx σ fun v σ1 => My σ1 fun u σ2 => K v u σ2) : My σ fun u σ1 => Mx σ1 fun v σ2 => K v u σ2 := by
  obtain ⟨p, val, ob, hob, hx⟩ := hx
  obtain ⟨p', val', ob', hob', hy⟩ := hy
  obtain ⟨hp, h⟩ := (hx _ _).1 h
  obtain ⟨r0, hr0⟩ := hr.fresh
  refine (hy _ _).2 ⟨((hy _ _).1 (h r0 hr0)).1, fun r2 h2 => (hx _ _).2 ⟨hp, fun r1 h1 => ?_⟩⟩
  have hne : r1 ≠ r2 := fun e => by rw [e, Heap.ins_same] at h1; cases h1
  rw [Heap.ins_ne _ _ hne] at h1
  have := ((hy _ _).1 (h r1 h1)).2 r2 (by rw [Heap.ins_ne _ _ (Ne.symm hne)]; exact h2)
  have e : (σ.ins r1 ob).ins r2 ob' = (σ.ins r2 ob').ins r1 ob := by
    funext x
    by_cases e1 : x = r1
    · subst e1; simp [Heap.ins, hne]
    · by_cases e2 : x = r2
      · subst e2; simp [Heap.ins, e1]
      · simp [Heap.ins, e1, e2]
  rw [← e]
  exact this

end swaps

/-! ### The forms of the steps -/
inductive Kd where
  | pure | load | alloc | call | app | loud
  deriving DecidableEq

def kd (o : Oper) : Kd :=
  match o.op with
  | .load _ _ => .load
  | .alloc _ | .box _ _ | .buildSlice _ _ _ => .alloc
  | .store _ _ _ => .app
  | .makeSlice _ _ _ | .makeMap _ _ | .mapUpdate _ _ _ _ | .range _ _ | .next _ _ | .entry _ => .loud
  | .call c => match c.callee with
    | .value _ => .call
    | .builtin .append => .app
    | .builtin .clear | .builtin .delete => .loud
    | .builtin _ => .pure
    | _ => .loud
  | _ => .pure

section
variable {P : Program} {T : TT} {ops : List Oper} {e : Env} {o : Oper}

/-- One operation: done, or passed over. -/
def Mo (P : Program) (T : TT) (ops : List Oper) (e : Env) (o : Oper) : Mf := fun σ κ =>
  match gv ops e o with
  | some true => astep P T e o σ κ
  | some false => κ undef σ
  | none => False

theorem Mo_mono : Mono (Mo P T ops e o) := by
  intro σ κ κ' hr hi h
  unfold Mo at h ⊢
  split
  · rename_i hg; rw [hg] at h; exact astep_mono hr hi h
  · rename_i hg; rw [hg] at h; exact hi _ _ hr h
  · rename_i hg; rw [hg] at h; exact h

theorem Mo_skip (hg : gv ops e o ≠ some true) : IsPure (Mo P T ops e o) := by
  unfold Mo
  cases h : gv ops e o with
  | none => exact ⟨False, undef, fun σ κ => by simp⟩
  | some b =>
    cases b with
    | true => exact absurd h hg
    | false => exact ⟨True, undef, fun σ κ => by simp⟩

theorem pure_of_conj {x : Option (List Prop × Value)} : IsPure fun σ κ => match x with | some (ps, v) => conj ps (κ v σ) | none => False := by
  cases x with
  | none => exact ⟨False, undef, fun σ κ => by simp⟩
  | some y =>
    obtain ⟨ps, v⟩ := y
    exact ⟨∀ q ∈ ps, q, v, fun σ κ => conj_iff⟩

theorem IsPure.congr {M M' : Mf} (h : ∀ σ κ, M σ κ ↔ M' σ κ) (hp : IsPure M) : IsPure M' := by
  obtain ⟨p, u, hp⟩ := hp
  exact ⟨p, u, fun σ κ => (h σ κ).symm.trans (hp σ κ)⟩

theorem Mo_done (hg : gv ops e o = some true) (σ : Heap) (κ : Value → Heap → Prop) : Mo P T ops e o σ κ ↔ astep P T e o σ κ := by
  unfold Mo; rw [hg]

theorem Mo_pure (hk : kd o = .pure) : IsPure (Mo P T ops e o) := by
  by_cases hg : gv ops e o = some true
  · refine IsPure.congr (fun σ κ => (Mo_done hg σ κ).symm) ?_
    obtain ⟨dst, op, ty, pos, after, guard⟩ := o
    unfold astep
    cases op with
    | call c =>
      dsimp only
      cases hc : c.callee with
      | value f => simp [kd, hc] at hk
      | invoke r m => simp [kd, hc] at hk
      | builtin b =>
        cases ha : e.evals c.args.toList with
        | none => exact ⟨False, undef, fun σ κ => by cases b <;> simp⟩
        | some args =>
          have h := pure_of_conj (x := abuiltin T b c.argTypes.toList args)
          cases b <;> first
            | (simp [kd, hc] at hk; done)
            | exact h
    | _ => first
      | (simp [kd] at hk; done)
      | (dsimp only; exact pure_of_conj)
      | exact ⟨False, undef, fun σ κ => by simp [apv]⟩
  · exact Mo_skip hg

theorem load_rds {σ : Heap} {r b : Nat} {o : AObj} (hb : σ b = none) : ∀ (n i : Nat) (l : List Value), σ.rds r i n = some l → (σ.ins b o).rds r i n = some l := by
  intro n
  induction n with
  | zero => intro i l h; exact h
  | succ n ih =>
    intro i l h
    simp only [Heap.rds] at h ⊢
    cases hv : σ.rd r i with
    | none => rw [hv] at h; cases h
    | some v =>
      have hrd : (σ.ins b o).rd r i = some v := by
        unfold Heap.rd at hv ⊢
        by_cases e : r = b
        · subst e; rw [hb] at hv; cases hv
        · rw [Heap.ins_ne _ _ e]; exact hv
      rw [hv] at h
      rw [hrd]
      dsimp only at h ⊢
      cases hr : σ.rds r (i + 1) n with
      | none => rw [hr] at h; cases h
      | some l' => rw [hr] at h; rw [ih _ _ hr]; exact h

theorem ldT_ins {σ : Heap} {i : TI} {p : Option Addr} {v : Value} {b : Nat} {o : AObj} (h : σ.ldT i p = some v) (hb : σ b = none) : (σ.ins b o).ldT i p = some v := by
  unfold Heap.ldT at h ⊢
  split
  · rename_i r off
    dsimp only at h
    cases hg : i.isAgg with
    | true =>
      rw [hg, cond_true] at h
      rw [cond_true]
      cases hr : σ.rds r off i.size with
      | none => rw [hr] at h; cases h
      | some l => rw [hr] at h; rw [load_rds hb _ _ _ hr]; exact h
    | false =>
      rw [hg, cond_false] at h
      rw [cond_false]
      unfold Heap.rd at h ⊢
      by_cases e : r = b
      · subst e; rw [hb] at h; cases h
      · rw [Heap.ins_ne _ _ e]; exact h
  · rename_i hne
    split at h
    · exact absurd rfl (hne _ _)
    · exact h

/-- What a load that is done reads. -/
def loadOf (T : TT) (e : Env) (o : Oper) (σ : Heap) (v : Value) : Prop :=
  match o.op with
  | .load t x => match T t, e.eval x with
    | some i, some (.pointer p) => nonOther i.k = true ∧ ∃ s : i.sh.T, σ.ldT i p = some (i.sh.enc s) ∧ v = i.sh.enc s
    | _, _ => False
  | _ => False

theorem Mo_load (hk : kd o = .load) (hg : gv ops e o = some true) : IsLoad (Mo P T ops e o) (loadOf T e o) := by
  obtain ⟨dst, op, ty, pos, after, guard⟩ := o
  cases op with
  | load t x =>
    constructor
    · intro σ κ
      rw [Mo_done hg]
      unfold astep loadOf
      dsimp only
      cases hi : T t with
      | none => simp
      | some i =>
        cases hx : e.eval x with
        | none => simp
        | some xv =>
          cases xv with
          | pointer p =>
            dsimp only
            cases hno : nonOther i.k with
            | false => simp
            | true =>
              rw [cond_true]
              unfold aload
              constructor
              · rintro ⟨s, h1, h2⟩
                exact ⟨_, ⟨rfl, s, h1, rfl⟩, h2⟩
              · rintro ⟨v, ⟨_, s, h1, rfl⟩, h2⟩
                exact ⟨s, h1, h2⟩
          | _ => simp
    · intro σ v r o h h0
      unfold loadOf at h ⊢
      dsimp only at h ⊢
      cases hi : T t with
      | none => rw [hi] at h; exact h
      | some i =>
        cases hx : e.eval x with
        | none => rw [hi, hx] at h; exact h
        | some xv =>
          cases xv with
          | pointer p =>
            rw [hi, hx] at h
            dsimp only at h ⊢
            obtain ⟨h1, s, h2, h3⟩ := h
            exact ⟨h1, s, ldT_ins h2 h0, h3⟩
          | _ => rw [hi, hx] at h; exact h
  | call c =>
    simp only [kd] at hk
    cases hc : c.callee with
    | builtin b => rw [hc] at hk; cases b <;> simp at hk
    | _ => rw [hc] at hk; simp at hk
  | _ => simp [kd] at hk

theorem Mo_alloc (hk : kd o = .alloc) (hg : gv ops e o = some true) : IsPure (Mo P T ops e o) ∨ IsAlloc (Mo P T ops e o) := by
  have hno : ∀ {p : Prop}, (∀ σ κ, astep P T e o σ κ ↔ False) → p ∨ IsAlloc (Mo P T ops e o) := fun h =>
    .inr ⟨False, fun _ => undef, .other 0 (.map #[] 0), fits_other rfl, fun σ κ => by rw [Mo_done hg, h]; simp⟩
  obtain ⟨dst, op, ty, pos, after, guard⟩ := o
  cases op with
  | alloc t =>
    cases hi : T t with
    | none => exact hno fun σ κ => by simp [astep, hi]
    | some i =>
      exact .inr ⟨True, fun r => .pointer (some ⟨r, 0, none⟩), .cells 1 i.zero t i.zero.length, fits_cells (Nat.le_refl _), fun σ κ => by rw [Mo_done hg]; simp [astep, hi, anew]⟩
  | box t x =>
    cases hx : e.eval x with
    | none => exact hno fun σ κ => by simp [astep, hx]
    | some v =>
      exact .inr ⟨True, fun r => .pointer (some ⟨r, 0, none⟩), .cells 1 (vcells v) t (vcells v).length, fits_cells (Nat.le_refl _), fun σ κ => by rw [Mo_done hg]; simp [astep, hx, anew]⟩
  | buildSlice t len parts =>
    cases hi : T t with
    | none => exact hno fun σ κ => by simp [astep, hi]
    | some i =>
      cases hl : e.evalp parts.toList with
      | none => exact hno fun σ κ => by simp [astep, hi, hl]
      | some l =>
        cases hik : i.k with
        | slice el =>
          cases hie : T el with
          | none => exact hno fun σ κ => by simp [astep, hi, hl, hik, hie]
          | some ie =>
            cases hb : (Nat.ble (len * ie.size) 16777216 && ie.zero.length == ie.size) with
            | false => exact hno fun σ κ => by simp [astep, hi, hl, hik, hie, hb]
            | true =>
              cases hf : bfill (fun j => some (j * ie.size, ie.size)) (zrep ie.zero len) l with
              | none => exact hno fun σ κ => by simp [astep, hi, hl, hik, hie, hb, hf]
              | some cs =>
                exact .inr ⟨True, fun r => .slice (some ⟨r, 0, none⟩) len len, .cells 1 cs el cs.length, fits_cells (Nat.le_refl _), fun σ κ => by
                  rw [Mo_done hg]; simp [astep, hi, hl, hik, hie, hb, hf, anew]⟩
        | _ => exact hno fun σ κ => by simp [astep, hi, hl, hik]
  | call c =>
    simp only [kd] at hk
    cases hc : c.callee with
    | builtin b => rw [hc] at hk; cases b <;> simp at hk
    | _ => rw [hc] at hk; simp at hk
  | _ => simp [kd] at hk

theorem Mo_call (hk : kd o = .call) (hg : gv ops e o = some true) : Inh (Mo P T ops e o) ∧ Framed (Mo P T ops e o) := by
  obtain ⟨dst, op, ty, pos, after, guard⟩ := o
  cases op with
  | call c =>
    cases hc : c.callee with
    | value f =>
      have hm : ∀ σ κ, Mo P T ops e ⟨dst, .call c, ty, pos, after, guard⟩ σ κ ↔ (match e.evals c.args.toList, calleeV e c, T ty with
          | some args, some fv, some i => acall P i.sh fv args σ κ
          | _, _, _ => False) := fun σ κ => by
        rw [Mo_done hg]
        unfold astep
        dsimp only
        rw [hc]
        cases e.evals c.args.toList with
        | none => simp
        | some args =>
          dsimp only
          cases calleeV e c with
          | none => simp
          | some fv => cases T ty <;> simp
      constructor
      · intro σ κ hr h
        rw [hm] at h
        split at h
        · exact acall_inh hr h
        · exact h.elim
      · intro σ κ r ob h0 h
        rw [hm] at h ⊢
        split at h
        · exact acall_frame h0 h
        · exact h.elim
    | builtin b => simp only [kd, hc] at hk; cases b <;> simp at hk
    | invoke r m => simp [kd, hc] at hk
  | _ => simp [kd] at hk

theorem Mo_app (hk : kd o = .app) (hg : gv ops e o = some true) : Inh (Mo P T ops e o) := by
  obtain ⟨dst, op, ty, pos, after, guard⟩ := o
  intro σ κ hr h
  rw [Mo_done hg] at h
  cases op with
  | call c =>
    cases hc : c.callee with
    | builtin b =>
      cases b <;> first
        | (simp [kd, hc] at hk; done)
        | skip
      unfold astep at h
      dsimp only at h
      rw [hc] at h
      have main : ∀ {el : TypeId} {ie : TI} {p : Option Addr} {len cap : Nat} {q : Option Addr} {m : Nat}, aappend el ie p len cap q m σ κ → ∃ v σ', Real σ' ∧ κ v σ' := by
        intro el ie p len cap q m h
        have h := aappend_mono hr (k' := fun v σ' => Real σ' ∧ κ v σ') (fun _ _ h1 h2 => ⟨h1, h2⟩) h
        obtain ⟨r, hrn⟩ := hr.fresh
        obtain ⟨news, h1, h2, h3, h4, h5, h6, h⟩ := h
        rcases h with ⟨a1, a2, hk⟩ | ⟨a1, a2, a3, g, hk⟩ | ⟨a1, a2, a3, olds, a4, g, hk⟩ | ⟨a1, r', g, cs, a2, a3, a4, a5, hk⟩ | ⟨a1, a2, r', o, g, cs, n, a3, a4, a5, a6, hk⟩
        · exact ⟨_, _, hk⟩
        · exact ⟨_, _, hk r m hrn (Nat.le_refl _)⟩
        · exact ⟨_, _, hk r _ hrn (Nat.le_refl _)⟩
        · exact ⟨_, _, hk r' _ (.inl rfl) (Nat.le_refl _)⟩
        · exact ⟨_, _, hk⟩
      split at h
      · split at h
        · rename_i t u _
          cases htu : t == u with
          | false => rw [htu] at h; exact h.elim
          | true =>
            rw [htu, cond_true] at h
            split at h
            · split at h
              · split at h
                · exact main h
                · exact h.elim
              · exact h.elim
            · exact h.elim
        · exact h.elim
      · split at h
        · split at h
          · split at h
            · split at h
              · have h := agrow_mono hr (k' := fun v σ' => Real σ' ∧ κ v σ') (fun _ _ h1 h2 => ⟨h1, h2⟩) h
                obtain ⟨r, hrn⟩ := hr.fresh
                obtain ⟨h1, h2, h3, h4, h5, h6, h7, h8, g, hk⟩ := h
                exact ⟨_, _, hk r _ hrn (Nat.le_refl _)⟩
              · exact h.elim
            · exact h.elim
          · exact h.elim
        · exact h.elim
      · rename_i heq _; cases heq
      · rename_i heq _; cases heq
      · split at h
        · exact ⟨_, _, hr, (conj_iff.1 h).2⟩
        · exact h.elim
      · rename_i heq _; cases heq
      · exact h.elim
    | value f => simp [kd, hc] at hk
    | invoke r m => simp [kd, hc] at hk
  | store t x y =>
    unfold astep at h
    dsimp only at h
    split at h
    · rename_i i p v _ _ _
      cases hb : ((vcells v).length == i.size) with
      | false => rw [hb, cond_false] at h; exact h.elim
      | true =>
        rw [hb, cond_true] at h
        obtain ⟨r, o, g, cs, t', n, h1, h2, h3, h4, h5, h6⟩ := astore_mono hr (k' := fun σ' => Real σ' ∧ κ undef σ') (fun _ h1 h2 => ⟨h1, h2⟩) h
        exact ⟨_, _, h6⟩
    · exact h.elim
  | _ => simp [kd] at hk

theorem IsPure.inh {M : Mf} (h : IsPure M) : Inh M := by
  obtain ⟨p, u, h⟩ := h
  exact fun σ κ hr hm => ⟨u, σ, hr, ((h _ _).1 hm).2⟩

theorem IsAlloc.inh {M : Mf} (h : IsAlloc M) : Inh M := by
  obtain ⟨p, val, ob, hob, h⟩ := h
  intro σ κ hr hm
  obtain ⟨r, h0⟩ := hr.fresh
  exact ⟨_, _, hr.ins r hob, ((h _ _).1 hm).2 r h0⟩

theorem IsLoad.inh {M : Mf} {f : Heap → Value → Prop} (h : IsLoad M f) : Inh M := by
  intro σ κ hr hm
  obtain ⟨v, _, h'⟩ := (h.1 _ _).1 hm
  exact ⟨v, σ, hr, h'⟩

/-- All but the loud ones come to something. -/
theorem Mo_inh (hk : kd o ≠ .loud) : Inh (Mo P T ops e o) := by
  by_cases hg : gv ops e o = some true
  · cases h : kd o with
    | pure => exact (Mo_pure h).inh
    | load => exact (Mo_load h hg).inh
    | alloc => rcases Mo_alloc (P := P) (T := T) h hg with hM | hM
               · exact hM.inh
               · exact hM.inh
    | call => exact (Mo_call h hg).1
    | app => exact Mo_app h hg
    | loud => exact absurd h hk
  · exact (Mo_skip hg).inh

end
end Go.Eng

/- A region that draws its order: one order stands for all. Conditions: a check of the region's edges, which is a closed computation. -/
namespace Go.Eng
open Go

/-! ### The check -/

/-- The operations that an operation waits for by its own edges. -/
def directs (o : Oper) : List Nat := (o.after.toList.filter (Region.binds .any)).map (·.on)

def maskOf (ms : List Nat) : List Nat → Nat
  | [] => 0
  | z :: l => (maskOf ms l ||| 2 ^ z) ||| ms.getD z 0

/-- x must be done before y. -/
def rch (ms : List Nat) (x y : Nat) : Bool := (ms.getD y 0).testBit x

theorem testBit_maskOf (ms : List Nat) (x : Nat) : ∀ l : List Nat, (maskOf ms l).testBit x = true ↔ ∃ z ∈ l, x = z ∨ rch ms x z = true
  | [] => by simp [maskOf]
  | z :: l => by
    have ih := testBit_maskOf ms x l
    simp only [maskOf, Nat.testBit_or, Bool.or_eq_true, Nat.testBit_two_pow, ih, decide_eq_true_eq, List.mem_cons]
    constructor
    · rintro ((⟨y, hy, h⟩ | h) | h)
      · exact ⟨y, .inr hy, h⟩
      · exact ⟨z, .inl rfl, .inl h.symm⟩
      · exact ⟨z, .inl rfl, .inr h⟩
    · rintro ⟨y, rfl | hy, h⟩
      · rcases h with rfl | h
        · exact .inl (.inr rfl)
        · exact .inr h
      · exact .inl (.inl ⟨y, hy, h⟩)

def isCallK : Kd → Bool
  | .call | .app => true
  | _ => false

/-- Pairs whose order may be open: the first stands ahead of the second in the plan. -/
def pairOK : Kd → Kd → Bool
  | .pure, _ => true
  | .load, .pure | .alloc, .pure | .call, .pure | .app, .pure => true
  | .load, .load | .load, .alloc | .load, .call | .load, .app | .call, .alloc | .alloc, .alloc => true
  | _, _ => false

def kdAt (ops : List Oper) (i : Nat) : Kd :=
  match nth ops i with
  | some o => kd o
  | none => .loud

/-- What is asked of x ahead of y in the plan. -/
def pairChk (ops : List Oper) (ms : List Nat) (x y : Nat × List Nat) : Bool :=
  !(rch ms y.1 x.1) && (rch ms x.1 y.1 || (pairOK (kdAt ops x.1) (kdAt ops y.1) && (!(isCallK (kdAt ops y.1)) || kdAt ops x.1 != .load || y.2.contains x.1))) && !(x.2.contains y.1) && x.1 != y.1

def pairsB (f : (Nat × List Nat) → (Nat × List Nat) → Bool) : List (Nat × List Nat) → Bool
  | [] => true
  | x :: l => l.all (f x) && pairsB f l

def isLd (o : Oper) : Bool :=
  match o.op with
  | .load _ _ => true
  | _ => false

/-- Slots: in bounds; no two operations write one; who looks at a slot waits for its writer. -/
def slotChk (n : Nat) (ops : Array Oper) (ms : List Nat) (i j : Nat) : Bool :=
  match nth ops.toList i, nth ops.toList j with
  | some a, some b => match a.dst with
    | some d => Nat.blt d n && (bif i == j then !((b.looksAt ops).contains d) else ((b.dst != some d) && (!((b.looksAt ops).contains d) || rch ms i j || (rch ms j i && !isLd b))))
    | none => true
  | _, _ => true

def drawOK (n : Nat) (ops : Array Oper) (pl : List (Nat × List Nat)) (ms : List Nat) : Bool :=
  (pl.length == ops.toList.length) && pl.all (fun x => Nat.blt x.1 ops.toList.length && (isCallK (kdAt ops.toList x.1) || x.2.isEmpty) && !(rch ms x.1 x.1)) && pairsB (pairChk ops.toList ms) pl && ((pl.map (·.1)).length == ops.size) &&
  (List.range ops.toList.length).all (fun y => match nth ops.toList y with
    | some o => ms.getD y 0 == maskOf ms (directs o) && (directs o).all (fun z => Nat.blt z ops.toList.length)
    | none => true) &&
  (List.range ops.toList.length).all (fun i => (List.range ops.toList.length).all fun j => slotChk n ops ms i j) &&
  ops.toList.all (fun o => !(o.op matches .select _ _))

/-! ### The walk in one order -/
def setD (e : Env) (d : Option Tmp) (v : Value) : Env :=
  match d with
  | some d => e.set d v
  | none => e

theorem get_setD (e : Env) (d : Option Tmp) (v : Value) (t : Nat) : (setD e d v).get t = if d = some t then some v else e.get t := by
  cases d with
  | none => simp [setD]
  | some d => simp [setD, Env.get_set]

theorem eval_congr {e e' : Env} (h : ∀ t, e.get t = e'.get t) (x : Operand) : e.eval x = e'.eval x := by
  cases x with
  | tmp t => exact h t
  | _ => rfl

section
variable {P : Program} {T : TT} {n : Nat} {ops : Array Oper} {ms : List Nat}

theorem gv_congr {e e' : Env} {o : Oper} (h : ∀ t ∈ o.looksAt ops, e.get t = e'.get t) : gv ops.toList e o = gv ops.toList e' o := by
  unfold gv
  cases hg : o.guard with
  | none => rfl
  | some x =>
    obtain ⟨j, want⟩ := x
    dsimp only
    rw [nth_eq, Array.getElem?_toList]
    cases hj : ops[j]? with
    | none => rfl
    | some oj =>
      dsimp only
      cases hd : oj.dst with
      | none => rfl
      | some d =>
        dsimp only
        rw [h d (by simp [Oper.looksAt, hg, hj, hd])]

theorem agree_of_looks {e e' : Env} {o : Oper} (h : ∀ t ∈ o.looksAt ops, e.get t = e'.get t) : Agree e e' o.op.operands.toList := by
  intro x hx
  cases x with
  | tmp t => exact h t (List.mem_append_left _ (List.mem_filterMap.2 ⟨.tmp t, hx, rfl⟩))
  | _ => rfl

theorem Mo_congr {e e' : Env} {o : Oper} (h : ∀ t ∈ o.looksAt ops, e.get t = e'.get t) : Mo P T ops.toList e o = Mo P T ops.toList e' o := by
  funext σ κ
  unfold Mo
  rw [gv_congr h, astep_congr (agree_of_looks h)]

/-- What the pending loads that are done read behind a call. -/
def KP (T : TT) (ops : List Oper) (D p : List Nat) (e : Env) (σ : Heap) : Prop := ∀ j ∈ p, j ∈ D → ∀ q ∈ keepOf T ops e σ j, q

theorem keepOf_congr {e e' : Env} {σ : Heap} {j : Nat} {o : Oper} (hj : nth ops.toList j = some o) (h : isLd o = true → ∀ t ∈ o.looksAt ops, e.get t = e'.get t) (hd : ∀ d, o.dst = some d → e.get d = e'.get d) :
    keepOf T ops.toList e σ j = keepOf T ops.toList e' σ j := by
  unfold keepOf
  rw [hj]
  dsimp only
  cases ho : o.op with
  | load t x =>
    have h := h (by unfold isLd; rw [ho])
    dsimp only
    rw [gv_congr h, agree_of_looks h x (by rw [ho]; simp [Op.operands])]
    cases hdd : o.dst with
    | none => rfl
    | some d =>
      dsimp only
      rw [hd d hdd]
  | _ => rfl

def A (P : Program) (T : TT) (ops : List Oper) : List Nat → List (Nat × List Nat) → Env → Heap → (Env → Heap → Prop) → Prop
  | _, [], e, σ, k => k e σ
  | D, (i, p) :: l, e, σ, k => ∃ o, nth ops i = some o ∧ Mo P T ops e o σ fun v σ' => KP T ops D p (setD e o.dst v) σ' ∧ A P T ops (i :: D) l (setD e o.dst v) σ' k

def Resp (k : Env → Heap → Prop) : Prop := ∀ e e' σ, (∀ t, e.get t = e'.get t) → k e σ → k e' σ

theorem KP_congr {e e' : Env} {σ : Heap} {D D' p : List Nat} (hD : ∀ j, j ∈ D' → j ∈ D) (h : ∀ t, e.get t = e'.get t) (hk : KP T ops.toList D p e σ) : KP T ops.toList D' p e' σ := by
  intro j hj hjD q hq
  refine hk j hj (hD j hjD) q ?_
  cases ho : nth ops.toList j with
  | none => unfold keepOf at hq ⊢; rw [ho] at hq ⊢; exact hq
  | some o => rw [keepOf_congr ho (fun _ t _ => h t) (fun d _ => h d)]; exact hq

theorem A_resp {k : Env → Heap → Prop} (hk : Resp k) : ∀ {l : List (Nat × List Nat)} {D D' : List Nat} {e e' : Env} {σ : Heap}, Real σ → (∀ j, j ∈ D' ↔ j ∈ D) → (∀ t, e.get t = e'.get t) →
    A P T ops.toList D l e σ k → A P T ops.toList D' l e' σ k
  | [], D, D', e, e', σ, _, _, he, h => hk _ _ _ he h
  | (i, p) :: l, D, D', e, e', σ, hr, hD, he, h => by
    obtain ⟨o, ho, h⟩ := h
    refine ⟨o, ho, ?_⟩
    rw [← Mo_congr (fun t _ => he t)]
    refine Mo_mono _ _ _ hr (fun v σ' hr' ⟨h1, h2⟩ => ?_) h
    have he' : ∀ t, (setD e o.dst v).get t = (setD e' o.dst v).get t := fun t => by rw [get_setD, get_setD, he t]
    exact ⟨KP_congr (fun j hj => (hD j).1 hj) he' h1, A_resp hk hr' (fun j => by simp [hD j]) he' h2⟩

/-- What the check says, read off. -/
structure Chk (n : Nat) (ops : Array Oper) (ms : List Nat) : Prop where
  mask : ∀ y o, nth ops.toList y = some o → ms.getD y 0 = maskOf ms (directs o)
  dirs : ∀ y o, nth ops.toList y = some o → ∀ z ∈ directs o, z < ops.size
  nosel : ∀ (i : Nat) (o : Oper) cs b, ops[i]? = some o → o.op ≠ .select cs b
  bound : ∀ i o d, nth ops.toList i = some o → o.dst = some d → d < n
  one : ∀ i j a b d, i ≠ j → nth ops.toList i = some a → nth ops.toList j = some b → a.dst = some d → b.dst ≠ some d
  self : ∀ i a d, nth ops.toList i = some a → a.dst = some d → d ∉ a.looksAt ops
  looks : ∀ i j a b d, i ≠ j → nth ops.toList i = some a → nth ops.toList j = some b → a.dst = some d → d ∈ b.looksAt ops → rch ms i j = true ∨ (rch ms j i = true ∧ isLd b = false)

/-- What the check says of x ahead of y. -/
structure Pair (ops : List Oper) (ms : List Nat) (x y : Nat × List Nat) : Prop where
  back : rch ms y.1 x.1 = false
  ok : rch ms x.1 y.1 = false → pairOK (kdAt ops x.1) (kdAt ops y.1) = true
  pend : rch ms x.1 y.1 = false → isCallK (kdAt ops y.1) = true → kdAt ops x.1 = .load → x.1 ∈ y.2
  later : y.1 ∉ x.2
  ne : x.1 ≠ y.1

def Own (ops : List Oper) (x : Nat × List Nat) : Prop := (∃ o, nth ops x.1 = some o) ∧ (isCallK (kdAt ops x.1) = false → x.2 = [])

theorem pure_stable {M : Mf} (h : IsPure M) {σ : Heap} {κ κ' : Value → Heap → Prop} (hi : ∀ u, κ u σ → κ' u σ) (hm : M σ κ) : M σ κ' := by
  obtain ⟨p, u, h⟩ := h
  obtain ⟨h1, h2⟩ := (h _ _).1 hm
  exact (h _ _).2 ⟨h1, hi _ h2⟩

theorem KP_ins {e : Env} {σ : Heap} {D p : List Nat} {r : Nat} {ob : AObj} (h0 : σ r = none) (h : KP T ops.toList D p e σ) : KP T ops.toList D p e (σ.ins r ob) := by
  intro j hj hjD q hq
  have hk := h j hj hjD
  unfold keepOf at hq hk
  split at hq
  · split at hq
    · split at hq
      · exact absurd hq (List.not_mem_nil)
      · split at hq
        · split at hq
          · obtain rfl := List.mem_singleton.1 hq
            exact ldT_ins (hk _ (by simp [*])) h0
          · obtain rfl := List.mem_singleton.1 hq
            exact hk _ (by simp [*])
        · obtain rfl := List.mem_singleton.1 hq
          exact hk _ (by simp [*])
      · obtain rfl := List.mem_singleton.1 hq
        exact hk _ (by simp [*])
    · exact absurd hq (List.not_mem_nil)
  · obtain rfl := List.mem_singleton.1 hq
    exact hk _ (by simp [*])

end
end Go.Eng

/- A region that draws its order: the exchange, and the soundness of the walk in one order. Conditions: the check of E15. -/
namespace Go.Eng
open Go

section
variable {P : Program} {T : TT} {n : Nat} {ops : Array Oper} {ms : List Nat}

theorem kdAt_eq {i : Nat} {o : Oper} (h : nth ops.toList i = some o) : kdAt ops.toList i = kd o := by unfold kdAt; rw [h]

/-- The environment behind one more slot: what a load that is done read is not touched. -/
theorem KP_set {C : Chk n ops ms} {D p : List Nat} {e : Env} {σ : Heap} {i : Nat} {o : Oper} {v : Value} (hi : nth ops.toList i = some o) (hni : ∀ j ∈ p, j ∈ D → j ≠ i ∧ rch ms i j = false) :
    KP T ops.toList D p (setD e o.dst v) σ ↔ KP T ops.toList D p e σ := by
  have key : ∀ j ∈ p, j ∈ D → keepOf T ops.toList (setD e o.dst v) σ j = keepOf T ops.toList e σ j := by
    intro j hj hjD
    obtain ⟨hne, hr⟩ := hni j hj hjD
    cases ho : nth ops.toList j with
    | none => unfold keepOf; rw [ho]
    | some oj =>
      refine keepOf_congr ho (fun hld t ht => ?_) (fun d hd => ?_)
      · rw [get_setD, if_neg]
        intro hd
        rcases C.looks i j o oj t (Ne.symm hne) hi ho hd ht with this | this
        · rw [hr] at this
          cases this
        · rw [hld] at this
          cases this.2
      · rw [get_setD, if_neg]
        intro hd'
        exact C.one i j o oj d (Ne.symm hne) hi ho hd' hd
  constructor
  · intro h j hj hjD q hq
    exact h j hj hjD q (by rw [key j hj hjD]; exact hq)
  · intro h j hj hjD q hq
    rw [key j hj hjD] at hq
    exact h j hj hjD q hq

theorem get_comm {e : Env} {a b : Option Tmp} {v u : Value} (h : ∀ d, a = some d → b ≠ some d) (t : Nat) : (setD (setD e a v) b u).get t = (setD (setD e b u) a v).get t := by
  simp only [get_setD]
  by_cases h1 : b = some t
  · by_cases h2 : a = some t
    · exact absurd h1 (h t h2)
    · simp [h1, h2]
  · simp [h1]

theorem swap_A (C : Chk n ops ms) {k : Env → Heap → Prop} (hk : Resp k) {D : List Nat} {x y : Nat × List Nat} {l : List (Nat × List Nat)} {e : Env} {σ : Heap} (hr : Real σ)
    (hp : Pair ops.toList ms x y) (hox : Own ops.toList x) (hoy : Own ops.toList y) (hfree : rch ms x.1 y.1 = false) (hDx : ∀ j ∈ D, rch ms x.1 j = false ∧ j ≠ x.1) (hDy : ∀ j ∈ D, rch ms y.1 j = false ∧ j ≠ y.1)
    (h : A P T ops.toList D (x :: y :: l) e σ k) : A P T ops.toList D (y :: x :: l) e σ k := by
  obtain ⟨i, p⟩ := x
  obtain ⟨j, q⟩ := y
  obtain ⟨⟨oi, hi⟩, hpe⟩ := hox
  obtain ⟨⟨oj, hj⟩, hqe⟩ := hoy
  dsimp only at *
  have hne : i ≠ j := hp.ne
  have hok := hp.ok hfree
  rw [kdAt_eq hi, kdAt_eq hj] at hok
  rw [kdAt_eq hi] at hpe
  rw [kdAt_eq hj] at hqe
  have hpend := hp.pend hfree
  rw [kdAt_eq hi, kdAt_eq hj] at hpend
  -- neither looks at the other's slot
  have cj : ∀ v, Mo P T ops.toList (setD e oi.dst v) oj = Mo P T ops.toList e oj := fun v => Mo_congr fun t ht => by
    rw [get_setD, if_neg]
    intro hd
    rcases C.looks i j oi oj t hne hi hj hd ht with this | this
    · rw [hfree] at this; cases this
    · rw [hp.back] at this; cases this.1
  have ci : ∀ u, Mo P T ops.toList (setD e oj.dst u) oi = Mo P T ops.toList e oi := fun u => Mo_congr fun t ht => by
    rw [get_setD, if_neg]
    intro hd
    rcases C.looks j i oj oi t (Ne.symm hne) hj hi hd ht with this | this
    · rw [hp.back] at this; cases this
    · rw [hfree] at this; cases this.1
  have hcomm : ∀ (v u : Value) t, (setD (setD e oi.dst v) oj.dst u).get t = (setD (setD e oj.dst u) oi.dst v).get t := fun v u t => get_comm (fun d hd => C.one i j oi oj d hne hi hj hd) t
  obtain ⟨oi', hi', h⟩ := h
  rw [hi] at hi'
  cases hi'
  -- all that is known behind both
  let K : Value → Value → Heap → Prop := fun v u τ => KP T ops.toList D p (setD (setD e oj.dst u) oi.dst v) τ ∧ KP T ops.toList (i :: D) q (setD (setD e oj.dst u) oi.dst v) τ ∧
    A P T ops.toList (i :: j :: D) l (setD (setD e oj.dst u) oi.dst v) τ k
  -- step 1: what the first's loads read is carried behind the second
  have hnj : ∀ j' ∈ p, j' ∈ D → j' ≠ j ∧ rch ms j j' = false := fun j' _ hD => ⟨(hDy j' hD).2, (hDy j' hD).1⟩
  have hni : ∀ j' ∈ q, j' ∈ D → j' ≠ i ∧ rch ms i j' = false := fun j' _ hD => ⟨(hDx j' hD).2, (hDx j' hD).1⟩
  have base : ∀ v u τ, KP T ops.toList (i :: D) q (setD (setD e oi.dst v) oj.dst u) τ → A P T ops.toList (j :: i :: D) l (setD (setD e oi.dst v) oj.dst u) τ k → Real τ →
      KP T ops.toList D p (setD (setD e oi.dst v) oj.dst u) τ → K v u τ := fun v u τ h1 h2 h3 h4 =>
    ⟨KP_congr (fun _ h => h) (hcomm v u) h4, KP_congr (fun _ h => h) (hcomm v u) h1, A_resp hk h3 (fun z => by simp only [List.mem_cons]; constructor <;> (rintro (h | h | h) <;> simp [h])) (hcomm v u) h2⟩
  have s1 : Mo P T ops.toList e oi σ fun v σ1 => Mo P T ops.toList e oj σ1 fun u σ2 => K v u σ2 := by
    refine Mo_mono _ _ _ hr (fun v σ1 hr1 hh => ?_) h
    obtain ⟨h1, oj', hj', h2⟩ := hh
    rw [hj] at hj'
    cases hj'
    rw [cj v] at h2
    cases hc : isCallK (kd oi) with
    | false =>
      have hp0 := hpe hc
      subst hp0
      exact Mo_mono _ _ _ hr1 (fun u σ2 hr2 ⟨h3, h4⟩ => base v u σ2 h3 h4 hr2 fun j' hj' => absurd hj' (List.not_mem_nil)) h2
    | true =>
      -- the second is pure or makes a block
      have hpure : ∀ (hM : IsPure (Mo P T ops.toList e oj)), Mo P T ops.toList e oj σ1 fun u σ2 => K v u σ2 := fun hM => by
        have h2' : Mo P T ops.toList e oj σ1 fun u σ2 => Real σ2 ∧ (KP T ops.toList (i :: D) q (setD (setD e oi.dst v) oj.dst u) σ2 ∧ A P T ops.toList (j :: i :: D) l (setD (setD e oi.dst v) oj.dst u) σ2 k) :=
          Mo_mono _ _ _ hr1 (fun _ _ hr2 hh => ⟨hr2, hh⟩) h2
        exact pure_stable hM (fun u ⟨hr2, h3, h4⟩ => base v u σ1 h3 h4 hr2 ((KP_set (C := C) hj hnj).2 h1)) h2'
      by_cases hg : gv ops.toList e oj = some true
      · cases hkj : kd oj with
        | pure => exact hpure (Mo_pure hkj)
        | alloc =>
          rcases Mo_alloc (P := P) (T := T) hkj hg with hM | ⟨pp, val, ob, hob, hM⟩
          · exact hpure hM
          · obtain ⟨h3, h4⟩ := (hM _ _).1 h2
            refine (hM _ _).2 ⟨h3, fun r h0 => ?_⟩
            obtain ⟨h5, h6⟩ := h4 r h0
            exact base v _ _ h5 h6 (hr1.ins r hob) ((KP_set (C := C) hj hnj).2 (KP_ins h0 h1))
        | _ => rw [hkj] at hok; cases hki : kd oi <;> rw [hki] at hok hc <;> simp [pairOK, isCallK] at hok hc
      · exact hpure (Mo_skip hg)
  -- step 2: the exchange
  have hinh : kd oi ≠ .loud → Inh (Mo P T ops.toList e oi) := Mo_inh
  have s2 : Mo P T ops.toList e oj σ fun u σ1 => Mo P T ops.toList e oi σ1 fun v σ2 => K v u σ2 := by
    by_cases hgi : gv ops.toList e oi = some true
    · by_cases hgj : gv ops.toList e oj = some true
      · cases hki : kd oi with
        | pure => exact swap_pure_any (Mo_pure hki) Mo_mono hr s1
        | load =>
          have hLi := Mo_load (P := P) (T := T) hki hgi
          have hin := hinh (by rw [hki]; simp)
          have anyway : Mono (Mo P T ops.toList e oj) → (isCallK (kd oj) = true) → Mo P T ops.toList e oj σ fun u σ1 => Mo P T ops.toList e oi σ1 fun v σ2 => K v u σ2 := fun hm hcj => by
            refine swap_load_any hLi hm hr (fun v u σ2 hK hex => ?_) s1
            have hiq := hpend hcj hki
            have h3 := hK.2.1 i hiq (List.mem_cons_self ..)
            obtain ⟨σ0, hl⟩ := hex
            have hlook : ∀ t ∈ oi.looksAt ops, (setD (setD e oj.dst u) oi.dst v).get t = e.get t := fun t ht => by
              rw [get_setD, get_setD]
              rw [if_neg (fun hd => C.self i oi t hi hd ht), if_neg (fun hd => by
                rcases C.looks j i oj oi t (Ne.symm hne) hj hi hd ht with this | this
                · rw [hp.back] at this; cases this
                · rw [hfree] at this; cases this.1)]
            have hg' : gv ops.toList (setD (setD e oj.dst u) oi.dst v) oi = some true := by rw [← hgi]; exact gv_congr hlook
            have hag := agree_of_looks hlook
            unfold loadOf at hl ⊢
            unfold keepOf at h3
            rw [hi] at h3
            dsimp only at h3
            cases ho : oi.op with
            | load t x =>
              rw [ho] at h3 hl
              dsimp only at h3 hl ⊢
              rw [hg'] at h3
              dsimp only at h3
              have hx := hag x (by rw [ho]; simp [Op.operands])
              cases hdd : oi.dst with
              | none => rw [hdd] at h3; exact (h3 False (by simp)).elim
              | some d =>
                rw [hdd] at h3
                dsimp only at h3
                have hgd : (setD (setD e oj.dst u) (some d) v).get d = some v := by rw [get_setD]; simp
                rw [hdd] at hx
                rw [hgd, hx] at h3
                cases hti : T t with
                | none => rw [hti] at hl; exact hl
                | some ti =>
                  cases hxe : e.eval x with
                  | none => rw [hti, hxe] at hl; exact hl
                  | some xv =>
                    rw [hti, hxe] at hl h3
                    cases xv with
                    | pointer pp =>
                      dsimp only at hl h3 ⊢
                      obtain ⟨l1, s, l2, rfl⟩ := hl
                      exact ⟨l1, s, h3 _ (List.mem_singleton.2 rfl), rfl⟩
                    | _ => exact hl
            | _ => rw [ho] at hl; exact hl
          cases hkj : kd oj with
          | pure => exact swap_any_pure Mo_mono hin (Mo_pure hkj) hr s1
          | load => exact swap_load_load hLi (Mo_load hkj hgj) s1
          | alloc =>
            rcases Mo_alloc (P := P) (T := T) hkj hgj with hM | hM
            · exact swap_any_pure Mo_mono hin hM hr s1
            · exact swap_load_alloc hLi hM s1
          | call => exact anyway Mo_mono (by rw [hkj]; rfl)
          | app => exact anyway Mo_mono (by rw [hkj]; rfl)
          | loud => rw [hki, hkj] at hok; simp [pairOK] at hok
        | alloc =>
          have hin := hinh (by rw [hki]; simp)
          cases hkj : kd oj with
          | pure => exact swap_any_pure Mo_mono hin (Mo_pure hkj) hr s1
          | alloc =>
            rcases Mo_alloc (P := P) (T := T) hki hgi with hM | hM
            · exact swap_pure_any hM Mo_mono hr s1
            · rcases Mo_alloc (P := P) (T := T) hkj hgj with hN | hN
              · exact swap_any_pure Mo_mono hin hN hr s1
              · exact swap_alloc_alloc hM hN hr s1
          | _ => rw [hki, hkj] at hok; simp [pairOK] at hok
        | call =>
          have hin := hinh (by rw [hki]; simp)
          cases hkj : kd oj with
          | pure => exact swap_any_pure Mo_mono hin (Mo_pure hkj) hr s1
          | alloc =>
            rcases Mo_alloc (P := P) (T := T) hkj hgj with hN | hN
            · exact swap_any_pure Mo_mono hin hN hr s1
            · exact swap_call_alloc Mo_mono hin (Mo_call hki hgi).2 hN hr s1
          | _ => rw [hki, hkj] at hok; simp [pairOK] at hok
        | app =>
          have hin := hinh (by rw [hki]; simp)
          cases hkj : kd oj with
          | pure => exact swap_any_pure Mo_mono hin (Mo_pure hkj) hr s1
          | _ => rw [hki, hkj] at hok; simp [pairOK] at hok
        | loud => rw [hki] at hok; cases hkj : kd oj <;> rw [hkj] at hok <;> simp [pairOK] at hok
      · have hni' : kd oi ≠ .loud := fun hki => by rw [hki] at hok; cases hkj : kd oj <;> rw [hkj] at hok <;> simp [pairOK] at hok
        exact swap_any_pure Mo_mono (hinh hni') (Mo_skip hgj) hr s1
    · exact swap_pure_any (Mo_skip hgi) Mo_mono hr s1
  -- step 3: the pieces in their new places
  refine ⟨oj, hj, Mo_mono _ _ _ hr (fun u σ1 hr1 hh => ?_) s2⟩
  have tail : Mo P T ops.toList e oi σ1 (fun v σ2 => KP T ops.toList (j :: D) p (setD (setD e oj.dst u) oi.dst v) σ2 ∧ A P T ops.toList (i :: j :: D) l (setD (setD e oj.dst u) oi.dst v) σ2 k) :=
    Mo_mono _ _ _ hr1 (fun v σ2 hr2 hK => ⟨fun j' hj' hjD => by
      rcases List.mem_cons.1 hjD with rfl | hjD
      · exact absurd hj' hp.later
      · exact hK.1 j' hj' hjD, hK.2.2⟩) hh
  refine ⟨?_, oi, hi, by rw [ci u]; exact tail⟩
  cases hc : isCallK (kd oj) with
  | false => rw [hqe hc]; exact fun j' hj' => absurd hj' (List.not_mem_nil)
  | true =>
    -- the first is pure or a load: the view behind it is the same
    have out : (∃ v, K v u σ1) → KP T ops.toList D q (setD e oj.dst u) σ1 := fun ⟨v, hK⟩ =>
      (KP_set (C := C) hi hni).1 (KP_congr (D := i :: D) (fun z hz => List.mem_cons_of_mem _ hz) (fun _ => rfl) hK.2.1)
    have hpure : IsPure (Mo P T ops.toList e oi) → KP T ops.toList D q (setD e oj.dst u) σ1 := fun ⟨pp, v, hM⟩ => out ⟨v, ((hM _ _).1 hh).2⟩
    by_cases hg : gv ops.toList e oi = some true
    · cases hki : kd oi with
      | pure => exact hpure (Mo_pure hki)
      | load =>
        obtain ⟨v, _, h'⟩ := ((Mo_load (P := P) (T := T) hki hg).1 _ _).1 hh
        exact out ⟨v, h'⟩
      | _ => rw [hki] at hok; cases hkj : kd oj <;> rw [hkj] at hok hc <;> simp [pairOK, isCallK] at hok hc
    · exact hpure (Mo_skip hg)

/-- What is asked of the operations that are still to be done. -/
structure Rest (ops : Array Oper) (ms : List Nat) (D : List Nat) (l : List (Nat × List Nat)) : Prop where
  own : ∀ x ∈ l, Own ops.toList x
  pairs : l.Pairwise (Pair ops.toList ms)
  done : ∀ x ∈ l, ∀ j ∈ D, rch ms x.1 j = false ∧ j ≠ x.1
  self : ∀ x ∈ l, rch ms x.1 x.1 = false

theorem Rest.tail {D : List Nat} {x : Nat × List Nat} {l : List (Nat × List Nat)} (h : Rest ops ms D (x :: l)) : Rest ops ms (x.1 :: D) l where
  own := fun y hy => h.own y (List.mem_cons_of_mem _ hy)
  pairs := (List.pairwise_cons.1 h.pairs).2
  done := fun y hy j hj => by
    rcases List.mem_cons.1 hj with rfl | hj
    · have := (List.pairwise_cons.1 h.pairs).1 y hy
      exact ⟨this.back, this.ne⟩
    · exact h.done y (List.mem_cons_of_mem _ hy) j hj
  self := fun y hy => h.self y (List.mem_cons_of_mem _ hy)

/-- An operation for which none of those ahead of it has to wait comes to the front. -/
theorem bubble (C : Chk n ops ms) {k : Env → Heap → Prop} (hk : Resp k) {y : Nat × List Nat} {ys : List (Nat × List Nat)} : ∀ {xs : List (Nat × List Nat)} {D : List Nat} {e : Env} {σ : Heap}, Real σ →
    Rest ops ms D (xs ++ y :: ys) → (∀ x ∈ xs, rch ms x.1 y.1 = false) → A P T ops.toList D (xs ++ y :: ys) e σ k → A P T ops.toList D (y :: (xs ++ ys)) e σ k
  | [], _, _, _, _, _, _, h => h
  | x :: xs, D, e, σ, hr, hR, hf, h => by
    have hR' := hR.tail
    have h1 : A P T ops.toList D (x :: y :: (xs ++ ys)) e σ k := by
      obtain ⟨i, p⟩ := x
      obtain ⟨o, ho, h⟩ := h
      exact ⟨o, ho, Mo_mono _ _ _ hr (fun v σ' hr' ⟨h1, h2⟩ => ⟨h1, bubble C hk hr' hR' (fun x hx => hf x (List.mem_cons_of_mem _ hx)) h2⟩) h⟩
    have hy : y ∈ x :: (xs ++ y :: ys) := by simp
    refine swap_A C hk hr ?_ (hR.own x (List.mem_cons_self ..)) (hR.own y hy) (hf x (List.mem_cons_self ..)) (hR.done x (List.mem_cons_self ..)) (hR.done y hy) h1
    exact (List.pairwise_cons.1 hR.pairs).1 y (by simp)

/-- Behind the front: what is left is asked as before. -/
theorem Rest.front {D : List Nat} {y : Nat × List Nat} {xs ys : List (Nat × List Nat)} (h : Rest ops ms D (xs ++ y :: ys)) (hf : ∀ x ∈ xs, rch ms x.1 y.1 = false) : Rest ops ms (y.1 :: D) (xs ++ ys) where
  own := fun x hx => h.own x (by
    rcases List.mem_append.1 hx with hx | hx
    · exact List.mem_append_left _ hx
    · exact List.mem_append_right _ (List.mem_cons_of_mem _ hx))
  pairs := by
    have := h.pairs
    rw [List.pairwise_append] at this ⊢
    obtain ⟨h1, h2, h3⟩ := this
    exact ⟨h1, (List.pairwise_cons.1 h2).2, fun a ha b hb => h3 a ha b (List.mem_cons_of_mem _ hb)⟩
  done := fun x hx j hj => by
    have hp := h.pairs
    rw [List.pairwise_append] at hp
    rcases List.mem_cons.1 hj with rfl | hj
    · rcases List.mem_append.1 hx with hx | hx
      · exact ⟨hf x hx, fun e => (hp.2.2 x hx y (List.mem_cons_self ..)).ne e.symm⟩
      · have := (List.pairwise_cons.1 hp.2.1).1 x hx
        exact ⟨this.back, this.ne⟩
    · refine h.done x ?_ j hj
      rcases List.mem_append.1 hx with hx | hx
      · exact List.mem_append_left _ hx
      · exact List.mem_append_right _ (List.mem_cons_of_mem _ hx)
  self := fun x hx => h.self x (by
    rcases List.mem_append.1 hx with hx | hx
    · exact List.mem_append_left _ hx
    · exact List.mem_append_right _ (List.mem_cons_of_mem _ hx))

end
end Go.Eng

/- A region that draws its order: soundness. Conditions: the check of E15. -/
namespace Go.Eng
open Go

theorem pairsB_iff {f : (Nat × List Nat) → (Nat × List Nat) → Bool} : ∀ {l : List (Nat × List Nat)}, pairsB f l = true → l.Pairwise fun x y => f x y = true
  | [], _ => .nil
  | x :: l, h => by
    simp only [pairsB, Bool.and_eq_true, List.all_eq_true] at h
    exact .cons h.1 (pairsB_iff h.2)

section
variable {P : Program} {T : TT} {n : Nat} {ops : Array Oper} {ms : List Nat}

theorem nth_lt {l : List Oper} {i : Nat} {o : Oper} (h : nth l i = some o) : i < l.length := by
  rw [nth_eq] at h
  exact (List.getElem?_eq_some_iff.1 h).1

theorem drawOK_chk {pl : List (Nat × List Nat)} (h : drawOK n ops pl ms = true) : Chk n ops ms ∧ Rest ops ms [] pl ∧ ∀ i, i < ops.size → i ∈ pl.map (·.1) := by
  unfold drawOK at h
  simp only [Bool.and_eq_true, List.all_eq_true, beq_iff_eq, List.mem_range, Nat.blt_eq, Bool.or_eq_true, Bool.not_eq_true', Array.length_toList] at h
  obtain ⟨⟨⟨⟨⟨⟨h0, h1⟩, h2⟩, h2'⟩, h3⟩, h4⟩, h5⟩ := h
  have hslot : ∀ i j a b d, nth ops.toList i = some a → nth ops.toList j = some b → a.dst = some d →
      d < n ∧ (if i = j then d ∉ b.looksAt ops else (b.dst ≠ some d ∧ ((d ∉ b.looksAt ops ∨ rch ms i j = true) ∨ rch ms j i = true ∧ isLd b = false))) := by
    intro i j a b d hi hj hd
    have hlt := nth_lt hi
    have hlt' := nth_lt hj
    have := h4 i (by simpa using hlt) j (by simpa using hlt')
    unfold slotChk at this
    rw [hi, hj] at this
    dsimp only at this
    rw [hd] at this
    dsimp only at this
    simp only [Bool.and_eq_true, Nat.blt_eq] at this
    refine ⟨this.1, ?_⟩
    by_cases e : i = j
    · have hb : (i == j) = true := by simpa using e
      rw [if_pos e]
      have h' := this.2
      rw [hb, cond_true] at h'
      simpa using h'
    · have hb : (i == j) = false := by simpa using e
      rw [if_neg e]
      have h' := this.2
      rw [hb, cond_false] at h'
      simpa using h'
  refine ⟨⟨fun y o ho => ?_, fun y o ho z hz => ?_, fun i o cs b ho hs => ?_, fun i o d ho hd => (hslot i i o o d ho ho hd).1, fun i j a b d hne hi hj hd => ?_, fun i a d hi hd => ?_, fun i j a b d hne hi hj hd hl => ?_⟩,
    ⟨fun x hx => ?_, ?_, fun _ _ _ h => absurd h (List.not_mem_nil), fun x hx => (h1 x hx).2⟩, ?_⟩
  · have := h3 y (by simpa using nth_lt ho)
    rw [ho] at this
    simp only [Bool.and_eq_true, beq_iff_eq] at this
    exact this.1
  · have := h3 y (by simpa using nth_lt ho)
    rw [ho] at this
    simp only [Bool.and_eq_true, beq_iff_eq, List.all_eq_true, Nat.blt_eq] at this
    simpa using this.2 z hz
  · have hm : o ∈ ops.toList := by
      rw [Array.mem_toList_iff]
      exact Array.mem_of_getElem? ho
    have := h5 o hm
    rw [hs] at this
    simp at this
  · have := (hslot i j a b d hi hj hd).2
    rw [if_neg hne] at this
    exact this.1
  · have := (hslot i i a a d hi hi hd).2
    rw [if_pos rfl] at this
    exact this
  · have := (hslot i j a b d hi hj hd).2
    rw [if_neg hne] at this
    rcases this.2 with (h | h) | h
    · exact absurd hl h
    · exact .inl h
    · exact .inr h
  · obtain ⟨⟨a1, a2⟩, a3⟩ := h1 x hx
    refine ⟨⟨ops[x.1], by rw [nth_eq]; simp [a1]⟩, fun hc => ?_⟩
    rw [hc] at a2
    simpa using a2
  · refine (pairsB_iff h2).imp ?_
    intro x y hxy
    unfold pairChk at hxy
    simp only [Bool.and_eq_true, Bool.not_eq_true', Bool.or_eq_true, bne_iff_ne, ne_eq, List.contains_eq_mem, decide_eq_false_iff_not, decide_eq_true_eq] at hxy
    obtain ⟨⟨⟨b1, b2⟩, b3⟩, b4⟩ := hxy
    refine ⟨b1, fun hf => ?_, fun hf hc hl => ?_, b3, b4⟩
    · rw [hf] at b2
      simp only [Bool.false_eq_true, false_or] at b2
      exact b2.1
    · rw [hf] at b2
      simp only [Bool.false_eq_true, false_or] at b2
      rcases b2.2 with (h | h) | h
      · rw [hc] at h; cases h
      · exact absurd hl h
      · exact h
  · intro i hi
    -- as many different numbers below the bound as there are: all of them
    have hnd : (pl.map (·.1)).Nodup := by
      have := (pairsB_iff h2).imp (S := fun x y => x.1 ≠ y.1) (fun {x y} hxy => by
        unfold pairChk at hxy
        simp only [Bool.and_eq_true, bne_iff_ne] at hxy
        exact hxy.2)
      exact List.pairwise_map.2 this
    have hsub : ∀ x ∈ pl.map (·.1), x < ops.size := by
      intro x hx
      obtain ⟨y, hy, rfl⟩ := List.mem_map.1 hx
      exact (h1 y hy).1.1
    by_cases hin : i ∈ pl.map (·.1)
    · exact hin
    · exfalso
      have hnd' : (i :: pl.map (·.1)).Nodup := List.nodup_cons.2 ⟨hin, hnd⟩
      have hle := List.Nodup.length_le_of_subset hnd' (l₂ := List.range ops.size) (fun x hx => by
        rcases List.mem_cons.1 hx with rfl | hx
        · exact List.mem_range.2 hi
        · exact List.mem_range.2 (hsub x hx))
      simp only [List.length_cons, List.length_range, h2'] at hle
      omega

end
end Go.Eng

/- A region that draws its order: soundness of the walk in the plan's order. Conditions: the check of E15. -/
namespace Go.Eng
open Go

section
variable {P : Program} {T : TT} {n : Nat} {ops : Array Oper} {ms : List Nat}

theorem put_iff {e : Env} {d : Option Tmp} {v : Value} {k : Env → Prop} (h : put n e d v k) : k (setD e d v) := by
  unfold put at h
  cases d with
  | none => exact h
  | some d =>
    dsimp only at h
    cases hb : Nat.blt d n with
    | false => rw [hb] at h; exact h.elim
    | true => rw [hb] at h; exact h

theorem get_same {e : Env} {d : Nat} {v : Value} (h : e.get d = some v) (t : Nat) : (e.set d v).get t = e.get t := by
  rw [Env.get_set]
  by_cases hd : d = t
  · subst hd; simp [h]
  · simp [hd]

theorem setD_congr {e e' : Env} (h : ∀ t, e.get t = e'.get t) (d : Option Tmp) (v : Value) (t : Nat) : (setD e d v).get t = (setD e' d v).get t := by rw [get_setD, get_setD, h t]

theorem agop_Mo {o : Oper} {e e' : Env} {σ : Heap} (hr : Real σ) {κ : Env → Heap → Prop} {K : Value → Heap → Prop} (he : ∀ t, e.get t = e'.get t) (h : agop P T n ops o e σ κ)
    (hK : ∀ e1 v σ', Real σ' → (∀ t, e1.get t = (setD e' o.dst v).get t) → κ e1 σ' → K v σ') : Mo P T ops.toList e' o σ K := by
  have ag : ∀ {e1 : Env}, (∀ t, e1.get t = e'.get t) → Agree e1 e' o.op.operands.toList := fun h1 x _ => eval_congr h1 x
  have done : ∀ {e1 : Env}, (∀ t, e1.get t = e'.get t) → astep P T e1 o σ (fun v σ' => put n e1 o.dst v fun e2 => κ e2 σ') → astep P T e' o σ K := fun h1 hs => by
    rw [astep_congr (ag h1)] at hs
    exact astep_mono hr (fun v σ' hr' hp => hK _ v σ' hr' (setD_congr h1 o.dst v) (put_iff hp)) hs
  have skip : ∀ {e1 : Env}, (∀ t, e1.get t = e'.get t) → put n e1 o.dst undef (fun e2 => κ e2 σ) → K undef σ := fun h1 hs => hK _ _ _ hr (setD_congr h1 o.dst undef) (put_iff hs)
  unfold agop at h
  unfold Mo gv
  cases hg : o.guard with
  | none => rw [hg] at h; exact done he h
  | some x =>
    obtain ⟨j, want⟩ := x
    rw [hg] at h
    dsimp only at h ⊢
    rw [nth_eq, Array.getElem?_toList]
    cases hj : ops[j]? with
    | none => rw [hj] at h; exact h
    | some oj =>
      rw [hj] at h
      dsimp only at h ⊢
      cases hd : oj.dst with
      | none => rw [hd] at h; exact h
      | some d =>
        rw [hd] at h
        dsimp only at h ⊢
        rw [← he d]
        cases hv : e.get d with
        | none => rw [hv] at h; exact h
        | some v =>
          rw [hv] at h
          cases v with
          | bool b =>
            dsimp only at h ⊢
            obtain ⟨ht, hf⟩ := h
            cases b with
            | true =>
              have ht := ht rfl
              have h1 : ∀ t, (e.set d (.bool true)).get t = e'.get t := fun t => (get_same hv t).trans (he t)
              cases want with
              | true => exact done h1 ht
              | false => exact skip h1 ht
            | false =>
              have hf := hf rfl
              have h1 : ∀ t, (e.set d (.bool false)).get t = e'.get t := fun t => (get_same hv t).trans (he t)
              cases want with
              | true => exact skip h1 hf
              | false => exact done h1 hf
          | _ => exact skip he h

/-- k of some environment that holds the same. -/
def clo (k : Env → Heap → Prop) : Env → Heap → Prop := fun e σ => ∃ e0, (∀ t, e0.get t = e.get t) ∧ k e0 σ

theorem clo_resp (k : Env → Heap → Prop) : Resp (clo k) := fun _ _ _ h ⟨e0, h0, hk⟩ => ⟨e0, fun t => (h0 t).trans (h t), hk⟩

theorem keeps_mem {e : Env} {σ : Heap} : ∀ {p : List Nat} {j : Nat}, j ∈ p → ∀ q ∈ keepOf T ops.toList e σ j, q ∈ keeps T ops.toList e σ p
  | i :: p, j, hj, q, hq => by
    simp only [keeps]
    rcases List.mem_cons.1 hj with rfl | hj
    · exact List.mem_append_left _ hq
    · exact List.mem_append_right _ (keeps_mem hj q hq)

theorem alin_A {k : Env → Heap → Prop} : ∀ {l : List (Nat × List Nat)} {D : List Nat} {e e' : Env} {σ : Heap}, Real σ → (∀ t, e.get t = e'.get t) → alin P T n ops l e σ k → A P T ops.toList D l e' σ (clo k)
  | [], _, e, _, _, _, he, h => ⟨e, he, h⟩
  | (i, p) :: l, D, e, e', σ, hr, he, h => by
    simp only [alin] at h
    cases ho : nth ops.toList i with
    | none => rw [ho] at h; exact h.elim
    | some o =>
      rw [ho] at h
      refine ⟨o, ho, agop_Mo hr he h ?_⟩
      intro e1 v σ' hr' h1 hc
      obtain ⟨hq, hl⟩ := conj_iff.1 hc
      refine ⟨KP_congr (D := D) (fun _ h => h) h1 fun j hj _ q hqj => hq q (keeps_mem hj q hqj), alin_A hr' h1 hl⟩

theorem gv_wanted {e : Env} {a : Act} (he : EnvRel n e a) {o : Oper} {b : Bool} (h : gv ops.toList e o = some b) : Region.wanted o (yielded ops a.tmps) = b := by
  unfold gv at h
  unfold Region.wanted
  cases hg : o.guard with
  | none => rw [hg] at h; simpa using h
  | some x =>
    obtain ⟨j, want⟩ := x
    rw [hg] at h
    dsimp only at h ⊢
    rw [nth_eq, Array.getElem?_toList] at h
    cases hj : ops[j]? with
    | none => rw [hj] at h; cases h
    | some oj =>
      rw [hj] at h
      dsimp only at h
      cases hd : oj.dst with
      | none => rw [hd] at h; cases h
      | some d =>
        rw [hd] at h
        dsimp only at h
        cases hv : e.get d with
        | none => rw [hv] at h; cases h
        | some v =>
          rw [hv] at h
          rw [he.yielded hj hd hv]
          cases v with
          | bool b' => simp only [Option.some.injEq] at h; subst h; simp [boolOf]
          | _ => simp only [Option.some.injEq] at h; subst h; simp [boolOf]

theorem opDsts_mem {d : Nat} {o : Oper} (hd : o.dst = some d) : ∀ {l : List Oper}, o ∈ l → d ∈ opDsts l
  | x :: l, h => by
    unfold opDsts
    rcases List.mem_cons.1 h with rfl | h
    · rw [hd]; exact List.mem_cons_self ..
    · cases x.dst with
      | none => exact opDsts_mem hd h
      | some _ => exact List.mem_cons_of_mem _ (opDsts_mem hd h)

theorem A_sound (hT : TTok P T) (C : Chk n ops ms) {σ0 : Heap} {w0 : World} {ro : Option Nat} {Q : Exit → Act → World → Prop} {ws : List Nat} {a0 : Act} (hws : ∀ t, t ∈ opDsts ops.toList → t ∈ ws) {k : Env → Heap → Prop}
    {mk : List Nat} (hQ : ∀ e' σ' a' w', k e' σ' → St n σ0 w0 mk e' σ' a' w' → Same ws a0 a' → Q .normal a' w') :
    ∀ (fuel : Nat) {l : List (Nat × List Nat)} {D : List Nat} {listed : Array Bool} {e : Env} {σ : Heap} {a : Act} {w : World}, l.length = fuel → Rest ops ms D l → listed.size = ops.size →
      (∀ j, j < ops.size → (listed.getD j false = true ↔ j ∈ D)) → (∀ j, j < ops.size → j ∈ D ∨ j ∈ l.map (·.1)) → St n σ0 w0 mk e σ a w → Same ws a0 a → A P T ops.toList D l e σ (clo k) →
      wpAnyIn (FW ro) 0 P .any ops Q fuel listed a w := by
  intro fuel
  induction fuel with
  | zero =>
    intro l D listed e σ a w hl hR hsz hlist hall hst hs h
    obtain rfl : l = [] := List.eq_nil_of_length_eq_zero hl
    obtain ⟨e0, h0, hk⟩ := h
    refine ⟨?_, hQ e0 σ a w hk ⟨⟨hst.env.size, fun t v hv => hst.env.get t v (by rw [← h0 t]; exact hv)⟩, hst.inv, hst.defers, hst.nodup⟩ hs⟩
    unfold Region.ready
    rw [List.filter_eq_nil_iff]
    intro j hj
    have hj' := List.mem_range.1 hj
    have hD : j ∈ D := (hall j hj').resolve_right (by simp)
    have := (hlist j hj').2 hD
    have h2 : listed.getD j true = true := by
      have hjs : j < listed.size := by omega
      simpa [Array.getD, hjs] using this
    simp [h2]
  | succ fuel ih =>
    intro l D listed e σ a w hl hR hsz hlist hall hst hs h
    -- who is ready
    have hready : ∀ i, i ∈ Region.ready .any ops listed ↔ (i < ops.size ∧ i ∉ D ∧ ∃ o, ops[i]? = some o ∧ ∀ z ∈ directs o, z ∈ D) := by
      intro i
      unfold Region.ready
      rw [List.mem_filter, List.mem_range]
      constructor
      · rintro ⟨h1, h2⟩
        simp only [Bool.and_eq_true, Bool.not_eq_true'] at h2
        obtain ⟨h2, h3⟩ := h2
        have hjs : i < listed.size := by omega
        have hnD : i ∉ D := fun hD => by
          have := (hlist i h1).2 hD
          have h2' : listed.getD i true = true := by simpa [Array.getD, hjs] using this
          rw [h2'] at h2; cases h2
        have hoi : ops[i]? = some ops[i] := by simp [h1]
        refine ⟨h1, hnD, ops[i], hoi, fun z hz => ?_⟩
        rw [hoi] at h3
        simp only [Option.map_some, Option.getD_some, Array.all_eq_true_iff_forall_mem] at h3
        unfold directs at hz
        obtain ⟨ed, hed, rfl⟩ := List.mem_map.1 hz
        obtain ⟨hed1, hed2⟩ := List.mem_filter.1 hed
        have := h3 ed (by simpa using hed1)
        rw [hed2] at this
        simp only [Bool.not_true, Bool.false_or] at this
        have hlt : ed.on < ops.size := C.dirs i ops[i] (by rw [nth_eq, Array.getElem?_toList]; exact hoi) ed.on hz
        exact (hlist _ hlt).1 this
      · rintro ⟨h1, h2, o, ho, h3⟩
        refine ⟨h1, ?_⟩
        have hjs : i < listed.size := by omega
        have hf : listed.getD i true = false := by
          have : ¬ (listed.getD i false = true) := fun hh => h2 ((hlist i h1).1 hh)
          simpa [Array.getD, hjs] using this
        rw [hf, ho]
        simp only [Bool.not_false, Option.map_some, Option.getD_some, Bool.true_and, Array.all_eq_true_iff_forall_mem]
        intro ed hed
        cases hb : Region.binds .any ed with
        | false => simp
        | true =>
          have hz : ed.on ∈ directs o := List.mem_map.2 ⟨ed, List.mem_filter.2 ⟨by simpa using hed, hb⟩, rfl⟩
          have hlt : ed.on < ops.size := C.dirs i o (by rw [nth_eq, Array.getElem?_toList]; exact ho) _ hz
          have := (hlist _ hlt).2 (h3 _ hz)
          rw [this]; simp
    constructor
    · intro hnil
      exfalso
      -- the first of the plan is ready
      cases l with
      | nil => simp at hl
      | cons x l =>
        obtain ⟨⟨o, ho⟩, _⟩ := hR.own x (List.mem_cons_self ..)
        have ho' : ops[x.1]? = some o := by rw [nth_eq, Array.getElem?_toList] at ho; exact ho
        have hx : x.1 ∈ Region.ready .any ops listed := by
          rw [hready]
          refine ⟨(Array.getElem?_eq_some_iff.1 ho').1, fun hD => (hR.done x (List.mem_cons_self ..) _ hD).2 rfl, o, ho', fun z hz => ?_⟩
          have hrz : rch ms z x.1 = true := by
            unfold rch
            rw [C.mask _ _ ho]
            exact (testBit_maskOf ms z _).2 ⟨z, hz, .inl rfl⟩
          rcases hall z (C.dirs _ _ ho z hz) with hD | hm
          · exact hD
          · exfalso
            obtain ⟨y, hy, hyz⟩ := List.mem_map.1 hm
            rcases List.mem_cons.1 hy with rfl | hy
            · have := hR.self y (List.mem_cons_self ..)
              rw [hyz] at this
              rw [← hyz, hyz] at hrz
              rw [hrz] at this; cases this
            · have := ((List.pairwise_cons.1 hR.pairs).1 y hy).back
              rw [hyz] at this
              rw [hrz] at this; cases this
        rw [hnil] at hx
        exact absurd hx (List.not_mem_nil)
    · intro i hi
      obtain ⟨hlt, hnD, o, ho, hdir⟩ := (hready i).1 hi
      have hm : i ∈ l.map (·.1) := (hall i hlt).resolve_left hnD
      obtain ⟨y, hy, rfl⟩ := List.mem_map.1 hm
      obtain ⟨xs, ys, rfl⟩ := List.append_of_mem hy
      have hon : nth ops.toList y.1 = some o := by rw [nth_eq, Array.getElem?_toList]; exact ho
      have hfree : ∀ x ∈ xs, rch ms x.1 y.1 = false := by
        intro x hx
        cases hrc : rch ms x.1 y.1 with
        | false => rfl
        | true =>
          exfalso
          unfold rch at hrc
          rw [C.mask _ _ hon] at hrc
          obtain ⟨z, hz, hxz⟩ := (testBit_maskOf ms x.1 _).1 hrc
          have := hR.done x (List.mem_append_left _ hx) z (hdir z hz)
          rcases hxz with hxz | hxz
          · exact this.2 hxz.symm
          · rw [this.1] at hxz; cases hxz
      have hb := bubble C (clo_resp k) hst.inv.rel.real hR hfree h
      obtain ⟨p1, p2⟩ := y
      obtain ⟨o', ho', hM⟩ := hb
      rw [hon] at ho'
      cases ho'
      have hF := hR.front hfree
      have next : ∀ (v : Value) (σ' : Heap) (w' : World), A P T ops.toList (p1 :: D) (xs ++ ys) (setD e o.dst v) σ' (clo k) → Inv σ0 w0 mk σ' w' →
          wpAnyIn (FW ro) 0 P .any ops Q fuel (listed.setIfInBounds p1 true) (a.put o.dst v) w' := fun v σ' w' hA hI' => by
        refine ih (by simp at hl ⊢; omega) hF (by simpa using hsz) (fun j hj => ?_) (fun j hj => ?_) ⟨?_, hI', ?_, hst.nodup⟩ (hs.trans (.put (fun t ht => hws t (opDsts_mem ht ?_)) v)) hA
        · have hjs : j < listed.size := by omega
          by_cases hji : j = p1
          · subst hji
            simp [hjs]
          · have := hlist j hj
            simp only [List.mem_cons, hji, false_or]
            rw [← this]
            have hne : p1 ≠ j := Ne.symm hji
            simp [Array.getElem?_setIfInBounds_ne hne]
        · rcases hall j hj with h1 | h1
          · exact .inl (List.mem_cons_of_mem _ h1)
          · obtain ⟨z, hz, rfl⟩ := List.mem_map.1 h1
            rcases List.mem_append.1 hz with hz | hz
            · exact .inr (List.mem_map.2 ⟨z, List.mem_append_left _ hz, rfl⟩)
            · rcases List.mem_cons.1 hz with rfl | hz
              · exact .inl (List.mem_cons_self ..)
              · exact .inr (List.mem_map.2 ⟨z, List.mem_append_right _ hz, rfl⟩)
        · cases hd : o.dst with
          | none => exact hst.env
          | some d => exact hst.env.put (C.bound _ _ d hon hd) v
        · rw [put_defers']; exact hst.defers
        · rw [Array.mem_toList_iff]
          exact Array.mem_of_getElem? ho
      unfold wpOpIn
      rw [ho]
      dsimp only
      unfold Mo at hM
      cases hg : gv ops.toList e o with
      | none => rw [hg] at hM; exact hM.elim
      | some b =>
        rw [hg] at hM
        rw [gv_wanted hst.env hg]
        cases b with
        | true =>
          rw [if_pos rfl]
          exact astep_sound hT hst.env hst.inv hM fun v σ' w' ⟨_, hA⟩ hI' => next v σ' w' hA hI'
        | false =>
          rw [if_neg (by simp)]
          exact ⟨fun _ _ => trivial, next _ _ _ hM.2 hst.inv⟩

/-- **A region that draws its order, walked in the order of the plan.** -/
theorem adraw_sound (hT : TTok P T) (hm : P.follows .mixedOrders = true) {pl : List (Nat × List Nat)} (hok : drawOK n ops pl ms = true) {σ0 : Heap} {w0 : World} {ro : Option Nat} {Q : Exit → Act → World → Prop}
    {ws : List Nat} {a0 : Act} (hws : ∀ t, t ∈ opDsts ops.toList → t ∈ ws) {k : Env → Heap → Prop} {mk : List Nat} {e : Env} {σ : Heap} {a : Act} {w : World} {id : Nat} (hst : St n σ0 w0 mk e σ a w) (hs : Same ws a0 a)
    (h : alin P T n ops pl e σ k) (hQ : ∀ e' σ' a' w', k e' σ' → St n σ0 w0 mk e' σ' a' w' → Same ws a0 a' → Q .normal a' w') : (Code.region id ops true).wpIn (FW ro) 0 P Q a w := by
  obtain ⟨C, hR, hall⟩ := drawOK_chk hok
  refine wpIn_region_any hm ?_
  have hlen : pl.length = ops.size := by
    unfold drawOK at hok
    simp only [Bool.and_eq_true, beq_iff_eq, Array.length_toList] at hok
    exact hok.1.1.1.1.1.1
  refine A_sound hT C hws hQ ops.size (l := pl) (D := []) (e := e) (σ := σ) hlen hR (by simp) (fun j hj => ?_) (fun j hj => .inr (hall j hj)) ⟨hst.env, hst.inv.drew, hst.defers, hst.nodup⟩ hs
    (alin_A hst.inv.rel.real (fun _ => rfl) h)
  simp [hj]

end
end Go.Eng
