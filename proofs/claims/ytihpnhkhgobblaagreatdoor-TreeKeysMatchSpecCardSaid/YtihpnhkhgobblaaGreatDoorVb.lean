/- Memory over names: its blocks, and what it stands for. Conditions: none. -/
import Derived.Test.YtihpnhkhgobblaaGreatDoorVa
namespace Go.Eng
open Go

/-- The state of the record of a range over a function. -/
inductive LSt where
  | ready | busy | exit (id : Nat) | ret

def LSt.st : LSt → LoopState
  | .ready => .ready
  | .busy => .busy
  | _ => .done

def LSt.j : LSt → Option Code
  | .exit id => some (.exit id)
  | .ret => some .ret
  | _ => none

/-- A block over names: a row; a row that grew, of which only a part of its room is known (k elements of sz cells); the record of a range over a function. -/
inductive VO where
  | row (cs : List Value) (t : TypeId) (n : Nat)
  | own (cs : List Value) (t : TypeId) (k sz : Nat)
  | loop (s : LSt)

def low (t : Nat) : Prop := 0 < t ∧ t < 8192

def VO.rel (ρ : Ren) (x : RB) : VO → AObj → Prop
  | .row cs t n, a => ∃ g cs', a = .cells g cs' t n ∧ VRs ρ cs cs' ∧ low g
  | .own cs t k sz, a => ∃ g cs', a = .cells g cs' t ((k + x.d) * sz) ∧ VRs ρ cs cs' ∧ low g
  | .loop s, a => a = .other 1 (x.L s.st s.j)

theorem VO.rel.mono {ρ ρ' : Ren} (h : ρ.le ρ') {x : RB} {o : VO} {a : AObj} (hr : o.rel ρ x a) : o.rel ρ' x a := by
  cases o with
  | row cs t n => obtain ⟨g, cs', h1, h2, h3⟩ := hr; exact ⟨g, cs', h1, h2.mono h, h3⟩
  | own cs t k sz => obtain ⟨g, cs', h1, h2, h3⟩ := hr; exact ⟨g, cs', h1, h2.mono h, h3⟩
  | loop s => exact hr

theorem VO.rel.tagLow {ρ : Ren} {x : RB} {o : VO} {a : AObj} (hr : o.rel ρ x a) : low a.tag := by
  cases o with
  | row cs t n => obtain ⟨g, cs', rfl, h2, h3⟩ := hr; exact h3
  | own cs t k sz => obtain ⟨g, cs', rfl, h2, h3⟩ := hr; exact h3
  | loop s => obtain rfl := hr; exact ⟨Nat.one_pos, by show 1 < 8192; decide⟩

structure VS (X : Type) where
  h : Tr VO
  nx : Nat
  x : X

/-- What a state says beyond its blocks. -/
structure XOps (X : Type) where
  rel : Ren → X → Heap → Prop
  mono : ∀ {ρ ρ' x σ}, ρ.le ρ' → rel ρ x σ → rel ρ' x σ
  ins : ∀ {ρ x σ r a}, rel ρ x σ → (∀ a', σ r = some a' → low a'.tag) → low a.tag → rel ρ x (σ.ins r a)
  del : ∀ {ρ x σ r}, rel ρ x σ → (∀ a', σ r = some a' → low a'.tag) → rel ρ x (σ.del r)

structure SR {X : Type} (W : XOps X) (F : Heap) (ρ : Ren) (s : VS X) (σ : Heap) : Prop where
  blk : ∀ b o, s.h.get b = some o → ∃ x a, ρ b = some x ∧ σ x.r = some a ∧ o.rel ρ x a
  inj : ∀ b b' o o' x x', s.h.get b = some o → s.h.get b' = some o' → ρ b = some x → ρ b' = some x' → x.r = x'.r → b = b'
  nx : ∀ b, s.nx ≤ b → ρ b = none
  fr : ∀ r a, F r = some a → σ r = some a
  ap : ∀ b o x, s.h.get b = some o → ρ b = some x → F x.r = none
  xr : W.rel ρ s.x σ

section
variable {X : Type} {W : XOps X} {F : Heap} {ρ : Ren} {s : VS X} {σ : Heap}

theorem SR.tagLow (h : SR W F ρ s σ) {b : Nat} {o : VO} {x : RB} (hb : s.h.get b = some o) (hx : ρ b = some x) : ∀ a', σ x.r = some a' → low a'.tag := fun a' ha => by
  obtain ⟨x', a, h1, h2, h3⟩ := h.blk b o hb
  rw [hx] at h1
  cases h1
  rw [ha] at h2
  cases h2
  exact h3.tagLow

/-- A new block. -/
theorem SR.alloc (h : SR W F ρ s σ) {r d : Nat} {L : LoopState → Option Code → Obj} (hr : σ r = none) {o : VO} {a : AObj} (ho : o.rel (ρ.add s.nx ⟨r, d, L⟩) ⟨r, d, L⟩ a) :
    ρ.le (ρ.add s.nx ⟨r, d, L⟩) ∧ SR W F (ρ.add s.nx ⟨r, d, L⟩) { s with h := s.h.set s.nx o, nx := s.nx + 1 } (σ.ins r a) := by
  have hle : ρ.le (ρ.add s.nx ⟨r, d, L⟩) := Ren.le_add _ (h.nx _ (Nat.le_refl _))
  have none_of : ∀ {b o x}, s.h.get b = some o → ρ b = some x → b ≠ s.nx ∧ x.r ≠ r := fun {b o x} hb hx => by
    refine ⟨?_, ?_⟩
    · rintro rfl
      rw [h.nx _ (Nat.le_refl _)] at hx
      cases hx
    · rintro rfl
      obtain ⟨x', a', h1, h2, _⟩ := h.blk b o hb
      rw [hx] at h1
      cases h1
      rw [hr] at h2
      cases h2
  have old : ∀ {b o}, s.h.get b = some o → ∃ x, ρ b = some x := fun {b o} hb => by
    obtain ⟨x, _, h1, _⟩ := h.blk b o hb
    exact ⟨x, h1⟩
  have cs : ∀ {b o' x}, (s.h.set s.nx o).get b = some o' → ρ.add s.nx ⟨r, d, L⟩ b = some x → (b = s.nx ∧ x = ⟨r, d, L⟩ ∧ o' = o) ∨ (s.h.get b = some o' ∧ ρ b = some x ∧ x.r ≠ r ∧ b ≠ s.nx) := fun {b o' x} hb hx => by
    rw [Tr.get_set] at hb
    by_cases e : b = s.nx
    · rw [if_pos e] at hb
      subst e
      rw [Ren.add_same] at hx
      cases hb
      cases hx
      exact .inl ⟨rfl, rfl, rfl⟩
    · rw [if_neg e] at hb
      rw [Ren.add_ne _ _ e] at hx
      exact .inr ⟨hb, hx, (none_of hb hx).2, e⟩
  refine ⟨hle, ?_, ?_, ?_, ?_, ?_, ?_⟩
  · intro b o' hb
    by_cases e : b = s.nx
    · subst e
      refine ⟨_, a, Ren.add_same .., Heap.ins_same .., ?_⟩
      have hb' : (s.h.set s.nx o).get s.nx = some o' := hb
      rw [Tr.get_set, if_pos rfl] at hb'
      cases hb'
      exact ho
    · have hb' : (s.h.set s.nx o).get b = some o' := hb
      rw [Tr.get_set, if_neg e] at hb'
      obtain ⟨x, a', h1, h2, h3⟩ := h.blk b o' hb'
      refine ⟨x, a', hle _ _ h1, ?_, h3.mono hle⟩
      rw [Heap.ins_ne _ _ (none_of hb' h1).2]
      exact h2
  · intro b b' o1 o2 x x' hb hb' hx hx' e
    rcases cs hb hx with ⟨rfl, rfl, rfl⟩ | ⟨h1, h2, h3, h4⟩
    · rcases cs hb' hx' with ⟨rfl, rfl, rfl⟩ | ⟨h5, h6, h7, h8⟩
      · rfl
      · exact absurd e.symm h7
    · rcases cs hb' hx' with ⟨rfl, rfl, rfl⟩ | ⟨h5, h6, h7, h8⟩
      · exact absurd e h3
      · exact h.inj _ _ _ _ _ _ h1 h5 h2 h6 e
  · intro b hb
    have hb' : s.nx + 1 ≤ b := hb
    rw [Ren.add_ne _ _ (by omega)]
    exact h.nx b (by omega)
  · intro r' a' hF
    rw [Heap.ins_ne]
    · exact h.fr _ _ hF
    · rintro rfl
      have := h.fr _ _ hF
      rw [hr] at this
      cases this
  · intro b o' x hb hx
    rcases cs hb hx with ⟨rfl, rfl, rfl⟩ | ⟨h1, h2, h3, h4⟩
    · cases hF : F r with
      | none => rfl
      | some a' =>
        have := h.fr _ _ hF
        rw [hr] at this
        cases this
    · exact h.ap _ _ _ h1 h2
  · exact W.ins (W.mono hle h.xr) (fun a' ha => by rw [hr] at ha; cases ha) ho.tagLow

/-- A block is overwritten. -/
theorem SR.store (h : SR W F ρ s σ) {b : Nat} {o o' : VO} {x : RB} (hb : s.h.get b = some o) (hx : ρ b = some x) {a : AObj} (ho : o'.rel ρ x a) :
    SR W F ρ { s with h := s.h.set b o' } (σ.ins x.r a) := by
  have cs : ∀ {b1 o1}, (s.h.set b o').get b1 = some o1 → ∃ o2, s.h.get b1 = some o2 := fun {b1 o1} h1 => by
    rw [Tr.get_set] at h1
    by_cases e : b1 = b
    · subst e; exact ⟨_, hb⟩
    · rw [if_neg e] at h1; exact ⟨_, h1⟩
  refine ⟨?_, ?_, h.nx, ?_, ?_, ?_⟩
  · intro b1 o1 h1
    have h1' : (s.h.set b o').get b1 = some o1 := h1
    rw [Tr.get_set] at h1'
    by_cases e : b1 = b
    · subst e
      rw [if_pos rfl] at h1'
      cases h1'
      exact ⟨x, a, hx, Heap.ins_same .., ho⟩
    · rw [if_neg e] at h1'
      obtain ⟨x1, a1, h2, h3, h4⟩ := h.blk _ _ h1'
      refine ⟨x1, a1, h2, ?_, h4⟩
      rw [Heap.ins_ne]
      · exact h3
      · intro e2
        exact e (h.inj _ _ _ _ _ _ h1' hb h2 hx e2)
  · intro b1 b2 o1 o2 x1 x2 h1 h2 h3 h4 e
    obtain ⟨o3, h5⟩ := cs h1
    obtain ⟨o4, h6⟩ := cs h2
    exact h.inj _ _ _ _ _ _ h5 h6 h3 h4 e
  · intro r' a' hF
    rw [Heap.ins_ne]
    · exact h.fr _ _ hF
    · rintro rfl
      rw [h.ap _ _ _ hb hx] at hF
      cases hF
  · intro b1 o1 x1 h1 h2
    obtain ⟨o3, h5⟩ := cs h1
    exact h.ap _ _ _ h5 h2
  · exact W.ins h.xr (h.tagLow hb hx) ho.tagLow

/-- A block is forgotten. -/
theorem SR.del (h : SR W F ρ s σ) {b : Nat} {o : VO} {x : RB} (hb : s.h.get b = some o) (hx : ρ b = some x) :
    SR W F ρ { s with h := s.h.del b } (σ.del x.r) := by
  have cs : ∀ {b1 o1}, (s.h.del b).get b1 = some o1 → s.h.get b1 = some o1 ∧ b1 ≠ b := fun {b1 o1} h1 => by
    rw [Tr.get_del] at h1
    by_cases e : b1 = b
    · rw [if_pos e] at h1; cases h1
    · rw [if_neg e] at h1; exact ⟨h1, e⟩
  refine ⟨?_, ?_, h.nx, ?_, ?_, ?_⟩
  · intro b1 o1 h1
    obtain ⟨h1', e⟩ := cs h1
    obtain ⟨x1, a1, h2, h3, h4⟩ := h.blk _ _ h1'
    refine ⟨x1, a1, h2, ?_, h4⟩
    rw [Heap.del_ne]
    · exact h3
    · intro e2
      exact e (h.inj _ _ _ _ _ _ h1' hb h2 hx e2)
  · intro b1 b2 o1 o2 x1 x2 h1 h2 h3 h4 e
    exact h.inj _ _ _ _ _ _ (cs h1).1 (cs h2).1 h3 h4 e
  · intro r' a' hF
    rw [Heap.del_ne]
    · exact h.fr _ _ hF
    · rintro rfl
      rw [h.ap _ _ _ hb hx] at hF
      cases hF
  · intro b1 o1 x1 h1 h2
    exact h.ap _ _ _ (cs h1).1 h2
  · exact W.del h.xr (h.tagLow hb hx)

/-! ### Reading -/
theorem rds_block {r : Nat} {g : Nat} {cs : List Value} {t : TypeId} {n : Nat} (hr : σ r = some (.cells g cs t n)) : ∀ {m o : Nat}, o + m ≤ cs.length → σ.rds r o m = some ((cs.drop o).take m)
  | 0, o, _ => by simp [Heap.rds]
  | m + 1, o, h => by
    have h1 : σ.rd r o = some cs[o] := by
      unfold Heap.rd
      rw [hr]
      exact List.getElem?_eq_getElem (by omega)
    simp only [Heap.rds, h1, rds_block hr (m := m) (o := o + 1) (by omega)]
    rw [List.drop_eq_getElem_cons (show o < cs.length by omega), List.take_succ_cons]

def VO.cells : VO → Option (List Value)
  | .row cs _ _ => some cs
  | .own cs _ _ _ => some cs
  | .loop _ => none

def vrds (h : Tr VO) (b o n : Nat) : Option (List Value) :=
  match h.get b with
  | some a => match a.cells with
    | some cs => bif Nat.ble (o + n) cs.length then some ((cs.drop o).take n) else none
    | none => none
  | none => none

def vld (h : Tr VO) (i : TI) : Option Addr → Option Value
  | some ⟨b, o, none⟩ => bif i.isAgg then match vrds h b o i.size with
      | some l => some (.agg l.toArray)
      | none => none
    else match h.get b with
      | some a => match a.cells with
        | some cs => cs[o]?
        | none => none
      | none => none
  | _ => none

theorem VO.rel.cells {x : RB} {o : VO} {a : AObj} (h : o.rel ρ x a) {cs : List Value} (hc : o.cells = some cs) : ∃ g cs' t n, a = .cells g cs' t n ∧ VRs ρ cs cs' ∧ low g := by
  cases o with
  | row cs t n => cases hc; obtain ⟨g, cs', h1, h2, h3⟩ := h; exact ⟨g, cs', _, _, h1, h2, h3⟩
  | own cs t k sz => cases hc; obtain ⟨g, cs', h1, h2, h3⟩ := h; exact ⟨g, cs', _, _, h1, h2, h3⟩
  | loop s => cases hc

theorem SR.rds (h : SR W F ρ s σ) {b o n : Nat} {l : List Value} (hl : vrds s.h b o n = some l) : ∃ x l', ρ b = some x ∧ σ.rds x.r o n = some l' ∧ VRs ρ l l' := by
  unfold vrds at hl
  split at hl
  · rename_i a ha
    split at hl
    · rename_i cs hcs
      cases hb : Nat.ble (o + n) cs.length with
      | false => rw [hb] at hl; cases hl
      | true =>
        rw [hb, cond_true] at hl
        cases hl
        obtain ⟨x, a', h1, h2, h3⟩ := h.blk _ _ ha
        obtain ⟨g, cs', t, m, rfl, h4, h5⟩ := h3.cells hcs
        refine ⟨x, _, h1, rds_block h2 (by rw [← h4.length]; exact Nat.le_of_ble_eq_true hb), (h4.drop o).take n⟩
    · cases hl
  · cases hl

theorem SR.rd (h : SR W F ρ s σ) {b o : Nat} {a : VO} {cs : List Value} {v : Value} (ha : s.h.get b = some a) (hc : a.cells = some cs) (hv : cs[o]? = some v) : ∃ x v', ρ b = some x ∧ σ.rd x.r o = some v' ∧ VR ρ v v' := by
  obtain ⟨x, a', h1, h2, h3⟩ := h.blk _ _ ha
  obtain ⟨g, cs', t, m, rfl, h4, h5⟩ := h3.cells hc
  obtain ⟨v', h6, h7⟩ := h4.get hv
  exact ⟨x, v', h1, by unfold Heap.rd; rw [h2]; exact h6, h7⟩

theorem SR.ld (h : SR W F ρ s σ) {i : TI} {p : Option Addr} {p' : Value} (hp : VR ρ (.pointer p) p') {v : Value} (hv : vld s.h i p = some v) : ∃ q v', p' = .pointer q ∧ σ.ldT i q = some v' ∧ VR ρ v v' := by
  unfold vld at hv
  split at hv
  · rename_i b o
    cases hp with
    | ptr b o x hx =>
      cases hg : i.isAgg with
      | true =>
        rw [hg, cond_true] at hv
        split at hv
        · rename_i l hl
          cases hv
          obtain ⟨x', l', h1, h2, h3⟩ := h.rds hl
          rw [hx] at h1
          cases h1
          exact ⟨_, .agg l'.toArray, rfl, by simp only [Heap.ldT, hg, cond_true, h2], VR.mk_agg (by simpa using h3)⟩
        · cases hv
      | false =>
        rw [hg, cond_false] at hv
        split at hv
        · rename_i a ha
          split at hv
          · rename_i cs hcs
            obtain ⟨x', v', h1, h2, h3⟩ := h.rd ha hcs hv
            rw [hx] at h1
            cases h1
            exact ⟨_, _, rfl, by simp only [Heap.ldT, hg, cond_false, h2], h3⟩
          · cases hv
        · cases hv
  · cases hv

/-! ### Writing -/
def vstore (s : VS X) (p : Option Addr) (vs : List Value) : Option (VS X) :=
  match p with
  | some ⟨b, o, none⟩ => match s.h.get b with
    | some (.row cs t n) => bif Nat.ble (o + vs.length) cs.length && oneB vs then some { s with h := s.h.set b (.row (lset cs o vs) t n) } else none
    | some (.own cs t k sz) => bif Nat.ble (o + vs.length) cs.length && oneB vs then some { s with h := s.h.set b (.own (lset cs o vs) t k sz) } else none
    | _ => none
  | _ => none

theorem SR.vstore (h : SR W F ρ s σ) {p : Option Addr} {p' : Value} (hp : VR ρ (.pointer p) p') {vs vs' : List Value} (hvs : VRs ρ vs vs') {s' : VS X} (hv : vstore s p vs = some s') :
    ∃ q, p' = .pointer q ∧ ∀ k : Heap → Prop, (∀ σ', SR W F ρ s' σ' → k σ') → astore q vs' σ k := by
  unfold Eng.vstore at hv
  split at hv
  · rename_i b o
    cases hp with
    | ptr b o x hx =>
      refine ⟨_, rfl, fun k hk => ?_⟩
      split at hv
      · rename_i cs t n hb
        cases hc : Nat.ble (o + vs.length) cs.length && oneB vs with
        | false => rw [hc] at hv; cases hv
        | true =>
          rw [hc, cond_true] at hv
          cases hv
          rw [Bool.and_eq_true] at hc
          obtain ⟨x', a, h1, h2, h3⟩ := h.blk _ _ hb
          rw [hx] at h1
          cases h1
          obtain ⟨g, cs', rfl, h4, h5⟩ := id h3
          refine ⟨x.r, o, g, cs', t, n, rfl, h2, by have := h5.1; omega, ?_, hvs.one hc.2, hk _ (h.store hb hx ⟨g, _, rfl, h4.lset hvs o, h5⟩)⟩
          rw [← hvs.length, ← h4.length]
          exact Nat.le_of_ble_eq_true hc.1
      · rename_i cs t kk sz hb
        cases hc : Nat.ble (o + vs.length) cs.length && oneB vs with
        | false => rw [hc] at hv; cases hv
        | true =>
          rw [hc, cond_true] at hv
          cases hv
          rw [Bool.and_eq_true] at hc
          obtain ⟨x', a, h1, h2, h3⟩ := h.blk _ _ hb
          rw [hx] at h1
          cases h1
          obtain ⟨g, cs', rfl, h4, h5⟩ := id h3
          refine ⟨x.r, o, g, cs', t, _, rfl, h2, by have := h5.1; omega, ?_, hvs.one hc.2, hk _ (h.store hb hx ⟨g, _, rfl, h4.lset hvs o, h5⟩)⟩
          rw [← hvs.length, ← h4.length]
          exact Nat.le_of_ble_eq_true hc.1
      · cases hv
  · cases hv

/-- A new row. -/
def vnew (s : VS X) (o : VO) : VS X := { s with h := s.h.set s.nx o, nx := s.nx + 1 }

theorem low1 : low 1 := ⟨by decide, by decide⟩

theorem SR.new (h : SR W F ρ s σ) {cs cs' : List Value} (hc : VRs ρ cs cs') {t : TypeId} {n : Nat} {k : Nat → Heap → Prop}
    (hk : ∀ r ρ' σ', ρ.le ρ' → ρ' s.nx = some ⟨r, 0, fun _ _ => default⟩ → SR W F ρ' (vnew s (.row cs t n)) σ' → k r σ') : anew cs' t n σ k := fun r hr => by
  have hle : ρ.le (ρ.add s.nx ⟨r, 0, fun _ _ => default⟩) := Ren.le_add _ (h.nx _ (Nat.le_refl _))
  obtain ⟨h1, h2⟩ := h.alloc (d := 0) (L := fun _ _ => default) hr (o := .row cs t n) (a := .cells 1 cs' t n) ⟨1, cs', rfl, hc.mono hle, low1⟩
  exact hk r _ _ h1 (Ren.add_same ..) h2

end
end Go.Eng

/- One operation over names stands for that of the model. Conditions: what is said of the calls. -/
namespace Go.Eng
open Go

abbrev VCall (X : Type) := Value → List Value → VS X → Option (Value × VS X)

/-- A call, its result of any kind. -/
def acallAny (P : Program) (fv : Value) (args : List Value) (σ : Heap) (R : Value → Heap → Prop) : Prop :=
  match fv with
  | .func (.func f) first cap => ACalls P f (first.toList ++ args ++ cap.toList) σ R
  | fv => ACallV P fv args σ R

theorem acall_any {P : Program} {sh : Sh} {fv : Value} {args : List Value} {σ : Heap} {k : Value → Heap → Prop} (h : acallAny P fv args σ (shK sh k)) : acall P sh fv args σ k := by
  unfold acallAny at h
  unfold acall
  split at h
  · exact h
  · rename_i hne
    split
    · exact absurd rfl (hne _ _ _)
    · exact h

def vrow (h : Tr VO) (q : Option Addr) (n : Nat) : Option (List Value) :=
  match q with
  | some ⟨b, o, none⟩ => vrds h b o n
  | none => bif Nat.beq n 0 then some [] else none
  | _ => none

section
variable {X : Type}

def vinplace (el : TypeId) (ie : TI) (p : Option Addr) (len c m : Nat) (news : List Value) (s : VS X) : Option (Value × VS X) :=
  match p with
  | some ⟨b, o, none⟩ => match s.h.get b with
    | some (.row cs t n) => bif Nat.beq t el && Nat.ble (len + m) (c / 2) && Nat.ble (o + len * ie.size + m * ie.size) cs.length then
        some (.slice p (len + m) c, { s with h := s.h.set b (.row (lset cs (o + len * ie.size) news) t n) }) else none
    | some (.own cs t k sz) => bif Nat.beq t el && Nat.ble (len + m) (c / 2) && Nat.ble (o + len * ie.size + m * ie.size) cs.length then
        some (.slice p (len + m) c, { s with h := s.h.set b (.own (lset cs (o + len * ie.size) news) t k sz) }) else none
    | _ => none
  | _ => none

def vgrow (el : TypeId) (ie : TI) (p : Option Addr) (len c m : Nat) (news : List Value) (s : VS X) : Option (Value × VS X) :=
  match p with
  | some ⟨b, 0, none⟩ => match s.h.get b with
    | some (.own cs t k sz) => bif Nat.beq cs.length (len * ie.size) && Nat.beq t el && Nat.beq sz ie.size && Nat.beq c (2 * k + 1) then
        some (.slice (some ⟨s.nx, 0, none⟩) (len + m) (2 * (len + m) + 1), vnew { s with h := s.h.del b } (.own (cs ++ news) el (len + m) ie.size)) else vinplace el ie p len c m news s
    | _ => vinplace el ie p len c m news s
  | _ => vinplace el ie p len c m news s

def vappend (el : TypeId) (ie : TI) (p : Option Addr) (len c : Nat) (q : Option Addr) (m : Nat) (s : VS X) : Option (Value × VS X) :=
  match vrow s.h q (m * ie.size) with
  | none => none
  | some news =>
    bif oneB news && (Nat.ble ((len + m) * ie.bytes) 140737488355328 && Nat.ble (len + m) 140737488355328) && (Nat.blt 0 ie.size && Nat.beq ie.zero.length ie.size) then
      bif Nat.beq m 0 then bif Nat.ble len (c / 2) then some (.slice p len c, s) else none
      else bif Nat.beq len 0 && Nat.beq c 0 then some (.slice (some ⟨s.nx, 0, none⟩) m (2 * m + 1), vnew s (.own news el m ie.size))
      else bif evenB c && Nat.blt (c / 2) (len + m) && p.isSome then match vrow s.h p (len * ie.size) with
        | some olds => some (.slice (some ⟨s.nx, 0, none⟩) (len + m) (2 * (len + m) + 1), vnew s (.own (olds ++ news) el (len + m) ie.size))
        | none => none
      else vgrow el ie p len c m news s
    else none

def vgrow0 (el : TypeId) (ie : TI) (p : Option Addr) (len c : Nat) (m : Int) (s : VS X) : Option (Value × VS X) :=
  bif (p.isNone && Nat.beq len 0 && Nat.beq c 0) && (decide (0 < m) && Nat.ble (m.toNat * ie.bytes) 140737488355328 && Nat.ble m.toNat 140737488355328) && (Nat.blt 0 ie.size && Nat.beq ie.zero.length ie.size && vconstL ie.zero) then
    some (.slice (some ⟨s.nx, 0, none⟩) m.toNat (2 * m.toNat + 1), vnew s (.own (zrep ie.zero m.toNat) el m.toNat ie.size)) else none

def vclear (ie : TI) (p : Option Addr) (n : Nat) (s : VS X) : Option (VS X) :=
  bif Nat.beq ie.zero.length ie.size && vconstL ie.zero then bif Nat.beq n 0 then some s else vstore s p (zrep ie.zero n) else none

def vmake (el : TypeId) (ie : TI) (l c : Int) (s : VS X) : Option (Value × VS X) :=
  bif (decide (0 ≤ l) && decide (l ≤ c)) && (decide (c ≤ 140737488355328) && decide (c * ie.bytes ≤ 281474976710656)) && (Nat.beq ie.zero.length ie.size && vconstL ie.zero) then
    some (.slice (some ⟨s.nx, 0, none⟩) l.toNat (2 * c.toNat), vnew s (.row (zrep ie.zero c.toNat) el (c.toNat * ie.size))) else none

def vcallOp (T : TT) (call : VCall X) (ve : VEnv) (o : Oper) (c : Call) (s : VS X) : Option (Value × VS X) :=
  match c.callee, vevals ve c.args.toList with
  | .builtin .append, some [.slice p len cap, .slice q m _] => match c.argTypes.toList with
    | [t, u] => bif t == u then match T t with
      | some i => match i.k with
        | .slice el => match T el with
          | some ie => vappend el ie p len cap q m s
          | none => none
        | _ => none
      | none => none
      else none
    | _ => none
  | .builtin .append, some [.slice p len cap, .int _ m] => match c.argTypes.toList with
    | [t, u] => match T t, T u with
      | some i, some iu => match i.k, iu.k with
        | .slice el, .int _ => match T el with
          | some ie => vgrow0 el ie p len cap m s
          | none => none
        | _, _ => none
      | _, _ => none
    | _ => none
  | .builtin .append, _ => none
  | .builtin .clear, some [.slice p n _] => match c.argTypes.toList with
    | [t] => match T t with
      | some i => match i.k with
        | .slice el => match T el with
          | some ie => match vclear ie p n s with
            | some s' => some (.tuple #[], s')
            | none => none
          | none => none
        | _ => none
      | none => none
    | _ => none
  | .builtin .clear, _ => none
  | .builtin .delete, _ => none
  | .builtin b, some args => match vbuiltin T b c.argTypes.toList args with
    | some v => some (v, s)
    | none => none
  | .value f, some args => match veval ve f, T o.type with
    | some fv, some i => match call fv args s with
      | some (v, s') => bif hasSh i.sh v then some (v, s') else none
      | none => none
    | _, _ => none
  | _, _ => none

def vstep (T : TT) (call : VCall X) (ve : VEnv) (o : Oper) (s : VS X) : Option (Value × VS X) :=
  match o.op with
  | .load t x => match T t, veval ve x with
    | some i, some (.pointer p) => bif nonOther i.k then match vld s.h i p with
        | some v => bif hasSh i.sh v then some (v, s) else none
        | none => none
      else none
    | _, _ => none
  | .store t x y => match T t, veval ve x, veval ve y with
    | some i, some (.pointer p), some v => bif ((vcells v).length == i.size) then match vstore s p (vcells v) with
        | some s' => some (undef, s')
        | none => none
      else none
    | _, _, _ => none
  | .alloc t => match T t with
    | some i => bif vconstL i.zero then some (.pointer (some ⟨s.nx, 0, none⟩), vnew s (.row i.zero t i.zero.length)) else none
    | none => none
  | .box t x => match veval ve x with
    | some v => some (.pointer (some ⟨s.nx, 0, none⟩), vnew s (.row (vcells v) t (vcells v).length))
    | none => none
  | .buildSlice t len parts => match T t, vevalp ve parts.toList with
    | some i, some l => match i.k with
      | .slice el => match T el with
        | some ie => bif (Nat.ble (len * ie.size) 16777216 && ie.zero.length == ie.size) && vconstL ie.zero then match bfill (fun j => some (j * ie.size, ie.size)) (zrep ie.zero len) l with
            | some cs => some (.slice (some ⟨s.nx, 0, none⟩) len (2 * len), vnew s (.row cs el cs.length))
            | none => none
          else none
        | none => none
      | _ => none
    | _, _ => none
  | .makeSlice t l c => match T t, veval ve l, veval ve c with
    | some i, some (.int _ l), some (.int _ c) => match i.k with
      | .slice el => match T el with
        | some ie => vmake el ie l c s
        | none => none
      | _ => none
    | _, _, _ => none
  | .call c => vcallOp T call ve o c s
  | op => bif pureOp op then match vpv T ve op with
      | some v => some (v, s)
      | none => none
    else none

/-! ### Proofs -/
variable {W : XOps X} {F : Heap} {ρ : Ren} {s : VS X} {σ : Heap} {P : Program} {T : TT}

/-- What is said of the calls: they stand for those of the model. -/
def VCallOK (P : Program) (W : XOps X) (F : Heap) (Y : Ren → Prop) (call : VCall X) : Prop :=
  ∀ fv args s v s', call fv args s = some (v, s') → ∀ ρ fv' args' σ, VR ρ fv fv' → VRs ρ args args' → SR W F ρ s σ → Y ρ →
    ∀ R : Value → Heap → Prop, (∀ ρ' v' σ', ρ.le ρ' → VR ρ' v v' → SR W F ρ' s' σ' → R v' σ') → acallAny P fv' args' σ R

theorem SR.row (h : SR W F ρ s σ) {q : Option Addr} {n c : Nat} {m : Nat} {w : Value} (hw : VR ρ (.slice q n c) w) {l : List Value} (hl : vrow s.h q m = some l) : ∃ q' c' l', w = .slice q' n c' ∧ σ.row q' m l' ∧ VRs ρ l l' := by
  unfold vrow at hl
  split at hl
  · cases hw with
    | sl b o _ _ c' x hx hc =>
      obtain ⟨x', l', h1, h2, h3⟩ := h.rds hl
      rw [hx] at h1
      cases h1
      exact ⟨_, _, l', rfl, h2, h3⟩
  · cases hw with
    | sl0 _ _ c' hc =>
      cases hm : Nat.beq m 0 with
      | false => rw [hm] at hl; cases hl
      | true =>
        rw [hm, cond_true] at hl
        cases hl
        exact ⟨_, _, [], rfl, ⟨Nat.eq_of_beq_eq_true hm, rfl⟩, .nil⟩
  · cases hl

theorem capOf_odd (x : RB) (k : Nat) : capOf x (2 * k + 1) = k + x.d := by
  unfold capOf
  have h1 : (2 * k + 1) % 2 = 1 := by omega
  have h2 : (2 * k + 1) / 2 = k := by omega
  rw [h1, h2]; rfl

/-- A new row that grew. -/
theorem SR.grown {g : Nat} (hg : low g) (h : SR W F ρ s σ) {cs cs' : List Value} (hc : VRs ρ cs cs') {el : TypeId} {m sz : Nat} {k : Value → Heap → Prop}
    (hk : ∀ ρ' v' σ', ρ.le ρ' → VR ρ' (.slice (some ⟨s.nx, 0, none⟩) m (2 * m + 1)) v' → SR W F ρ' (vnew s (.own cs el m sz)) σ' → k v' σ') {r c : Nat} (hr : σ r = none) (hm : m ≤ c) :
    k (.slice (some ⟨r, 0, none⟩) m c) (σ.ins r (.cells g cs' el (c * sz))) := by
  have hle : ρ.le (ρ.add s.nx ⟨r, c - m, fun _ _ => default⟩) := Ren.le_add _ (h.nx _ (Nat.le_refl _))
  obtain ⟨h1, h2⟩ := h.alloc (d := c - m) (L := fun _ _ => default) hr (o := .own cs el m sz) (a := .cells g cs' el (c * sz)) ⟨g, cs', by show _ = AObj.cells g cs' el ((m + (c - m)) * sz); rw [show m + (c - m) = c by omega], hc.mono hle, hg⟩
  refine hk _ _ _ h1 ?_ h2
  exact .sl _ _ _ _ _ _ (Ren.add_same ..) (by rw [capOf_odd]; show c = m + (c - m); omega)

theorem vinplace_ok (h : SR W F ρ s σ) {el : TypeId} {ie : TI} {p : Option Addr} {len c m : Nat} {news : List Value} {w v : Value} {s' : VS X} (hv : vinplace el ie p len c m news s = some (v, s')) (hw : VR ρ (.slice p len c) w) :
    ∃ p' c', w = .slice p' len c' ∧ ∀ (news' : List Value) (k : Value → Heap → Prop), VRs ρ news news' → (∀ v' σ', VR ρ v v' → SR W F ρ s' σ' → k v' σ') →
      (len + m ≤ c' ∧ ∃ r o g cs n, p' = some ⟨r, o, none⟩ ∧ σ r = some (.cells g cs el n) ∧ g ≠ 0 ∧ o + len * ie.size + m * ie.size ≤ cs.length ∧ k (.slice p' (len + m) c') (σ.ins r (.cells g (lset cs (o + len * ie.size) news') el n))) := by
  unfold vinplace at hv
  split at hv
  · rename_i b o
    cases hw with
    | sl b o _ _ c' x hx hc =>
      refine ⟨_, _, rfl, fun news' k hn hk => ?_⟩
      split at hv
      · rename_i cs t n hb
        cases hcc : Nat.beq t el && Nat.ble (len + m) (c / 2) && Nat.ble (o + len * ie.size + m * ie.size) cs.length with
        | false => rw [hcc] at hv; cases hv
        | true =>
          rw [hcc, cond_true] at hv
          cases hv
          rw [Bool.and_eq_true, Bool.and_eq_true] at hcc
          obtain ⟨⟨c1, c2⟩, c3⟩ := hcc
          obtain rfl := Nat.eq_of_beq_eq_true c1
          obtain ⟨x', a, h1, h2, h3⟩ := h.blk _ _ hb
          rw [hx] at h1
          cases h1
          obtain ⟨g, cs', rfl, h4, h5⟩ := id h3
          have hge := capOf_ge x c
          have hle := Nat.le_of_ble_eq_true c2
          refine ⟨by omega, x.r, o, g, cs', n, rfl, h2, by have := h5.1; omega, by rw [← h4.length]; exact Nat.le_of_ble_eq_true c3, ?_⟩
          exact hk _ _ (.sl _ _ _ _ _ _ hx hc) (h.store hb hx ⟨g, _, rfl, h4.lset hn _, h5⟩)
      · rename_i cs t kk sz hb
        cases hcc : Nat.beq t el && Nat.ble (len + m) (c / 2) && Nat.ble (o + len * ie.size + m * ie.size) cs.length with
        | false => rw [hcc] at hv; cases hv
        | true =>
          rw [hcc, cond_true] at hv
          cases hv
          rw [Bool.and_eq_true, Bool.and_eq_true] at hcc
          obtain ⟨⟨c1, c2⟩, c3⟩ := hcc
          obtain rfl := Nat.eq_of_beq_eq_true c1
          obtain ⟨x', a, h1, h2, h3⟩ := h.blk _ _ hb
          rw [hx] at h1
          cases h1
          obtain ⟨g, cs', rfl, h4, h5⟩ := id h3
          have hge := capOf_ge x c
          have hle := Nat.le_of_ble_eq_true c2
          refine ⟨by omega, x.r, o, g, cs', _, rfl, h2, by have := h5.1; omega, by rw [← h4.length]; exact Nat.le_of_ble_eq_true c3, ?_⟩
          exact hk _ _ (.sl _ _ _ _ _ _ hx hc) (h.store hb hx ⟨g, _, rfl, h4.lset hn _, h5⟩)
      · cases hv
  · cases hv

theorem vappend_ok (h : SR W F ρ s σ) {el : TypeId} {ie : TI} {p q : Option Addr} {len c m c2 : Nat} {w w2 v : Value} {s' : VS X} (hv : vappend el ie p len c q m s = some (v, s')) (hw : VR ρ (.slice p len c) w) (hw2 : VR ρ (.slice q m c2) w2) :
    ∃ p' c' q' c2', w = .slice p' len c' ∧ w2 = .slice q' m c2' ∧ ∀ k : Value → Heap → Prop, (∀ ρ' v' σ', ρ.le ρ' → VR ρ' v v' → SR W F ρ' s' σ' → k v' σ') → aappend el ie p' len c' q' m σ k := by
  unfold vappend at hv
  split at hv
  · cases hv
  · rename_i news hnews
    obtain ⟨q', c2', news', rfl, hq, hn⟩ := h.row hw2 hnews
    cases hb : oneB news && (Nat.ble ((len + m) * ie.bytes) 140737488355328 && Nat.ble (len + m) 140737488355328) && (Nat.blt 0 ie.size && Nat.beq ie.zero.length ie.size) with
    | false => rw [hb] at hv; cases hv
    | true =>
      rw [hb, cond_true] at hv
      rw [Bool.and_eq_true, Bool.and_eq_true, Bool.and_eq_true, Bool.and_eq_true] at hb
      obtain ⟨⟨b1, b2, b3⟩, b4, b5⟩ := hb
      have e1 := hn.one b1
      have e2 := Nat.le_of_ble_eq_true b2
      have e3 := Nat.le_of_ble_eq_true b3
      have e4 : 0 < ie.size := Nat.le_of_ble_eq_true b4
      have e5 := Nat.eq_of_beq_eq_true b5
      obtain ⟨p', c', rfl, hcap⟩ : ∃ p' c', w = .slice p' len c' ∧ c / 2 ≤ c' := by
        cases hw with
        | sl0 _ _ c' hc => exact ⟨_, _, rfl, by omega⟩
        | sl b o _ _ c' x hx hc => exact ⟨_, _, rfl, by rw [hc]; exact capOf_ge ..⟩
      refine ⟨p', c', q', c2', rfl, rfl, fun k hk => ⟨news', hq, e1, e2, e3, e4, e5, ?_⟩⟩
      cases hm : Nat.beq m 0 with
      | true =>
        rw [hm, cond_true] at hv
        have hm0 := Nat.eq_of_beq_eq_true hm
        cases hl : Nat.ble len (c / 2) with
        | false => rw [hl] at hv; cases hv
        | true =>
          rw [hl, cond_true] at hv
          cases hv
          exact .inl ⟨hm0, Nat.le_trans (Nat.le_of_ble_eq_true hl) hcap, hk ρ _ _ (Ren.le_refl _) hw h⟩
      | false =>
        rw [hm, cond_false] at hv
        have hm0 : 0 < m := by
          rcases Nat.eq_zero_or_pos m with h0 | h0
          · subst h0; cases hm
          · exact h0
        cases hz : Nat.beq len 0 && Nat.beq c 0 with
        | true =>
          rw [hz, cond_true] at hv
          cases hv
          rw [Bool.and_eq_true] at hz
          have hl0 := Nat.eq_of_beq_eq_true hz.1
          have hc0 := Nat.eq_of_beq_eq_true hz.2
          subst hc0
          have hc' : c' = 0 := by
            cases hw with
            | sl0 _ _ c' hc => omega
            | sl b o _ _ c' x hx hc => exact hc
          refine .inr (.inl ⟨hm0, hl0, hc', 1, fun r cc hr hcc => ?_⟩)
          exact SR.grown low1 h hn hk hr hcc
        | false =>
          rw [hz, cond_false] at hv
          cases hf : evenB c && Nat.blt (c / 2) (len + m) && p.isSome with
          | true =>
            rw [hf, cond_true] at hv
            rw [Bool.and_eq_true, Bool.and_eq_true] at hf
            obtain ⟨⟨f1, f2⟩, f3⟩ := hf
            split at hv
            · rename_i olds holds
              cases hv
              obtain ⟨p2, c3, olds', hpe, hrow, ho⟩ := h.row hw holds
              cases hpe
              refine .inr (.inr (.inl ⟨hm0, ?_, ?_, olds', hrow, 1, fun r cc hr hcc => ?_⟩))
              · have f2' : c / 2 + 1 ≤ len + m := Nat.le_of_ble_eq_true f2
                cases hw with
                | sl0 _ _ c' hc => omega
                | sl b o _ _ c' x hx hc => rw [hc, capOf_even f1]; omega
              · cases hw with
                | sl0 _ _ c' hc => cases f3
                | sl b o _ _ c' x hx hc => rfl
              · exact SR.grown low1 h (ho.append hn) hk hr hcc
            · cases hv
          | false =>
            rw [hf, cond_false] at hv
            have inpl : vinplace el ie p len c m news s = some (v, s') → (0 < m ∧ len + m ≤ c' ∧ ∃ r o g cs n, p' = some ⟨r, o, none⟩ ∧ σ r = some (.cells g cs el n) ∧ g ≠ 0 ∧ o + len * ie.size + m * ie.size ≤ cs.length ∧
                k (.slice p' (len + m) c') (σ.ins r (.cells g (lset cs (o + len * ie.size) news') el n))) := fun hv => by
              obtain ⟨p2, c3, hpe, h5⟩ := vinplace_ok h hv hw
              cases hpe
              obtain ⟨h6, h7⟩ := h5 news' k hn (fun v' σ' => hk ρ v' σ' (Ren.le_refl _))
              exact ⟨hm0, h6, h7⟩
            unfold vgrow at hv
            split at hv
            · rename_i b
              split at hv
              · rename_i cs t kk sz hbk
                cases hg : Nat.beq cs.length (len * ie.size) && Nat.beq t el && Nat.beq sz ie.size && Nat.beq c (2 * kk + 1) with
                | false =>
                  rw [hg, cond_false] at hv
                  exact .inr (.inr (.inr (.inr (inpl hv))))
                | true =>
                  rw [hg, cond_true] at hv
                  cases hv
                  rw [Bool.and_eq_true, Bool.and_eq_true, Bool.and_eq_true] at hg
                  obtain ⟨⟨⟨g1, g2⟩, g3⟩, g4⟩ := hg
                  have g1 := Nat.eq_of_beq_eq_true g1
                  obtain rfl := Nat.eq_of_beq_eq_true g2
                  obtain rfl := Nat.eq_of_beq_eq_true g3
                  have g4 := Nat.eq_of_beq_eq_true g4
                  cases hw with
                  | sl b o _ _ c' x hx hc =>
                    obtain ⟨x', a, h1, h2, h3⟩ := h.blk _ _ hbk
                    rw [hx] at h1
                    cases h1
                    obtain ⟨g, cs', rfl, h4, h5⟩ := id h3
                    rw [g4, capOf_odd] at hc
                    refine .inr (.inr (.inr (.inl ⟨hm0, x.r, g, cs', rfl, by rw [h2, hc], by have := h5.1; omega, by rw [← h4.length]; exact g1, fun r' cc hr' hcc => ?_⟩)))
                    have hd := h.del hbk hx
                    have hr0 : (σ.del x.r) r' = none := by
                      by_cases e : r' = x.r
                      · subst e; exact Heap.del_same ..
                      · rw [Heap.del_ne _ e]
                        exact hr'.resolve_left e
                    exact SR.grown h5 hd (h4.append hn) (el := t) (m := len + m) (sz := ie.size) (k := k) (fun ρ' v' σ' a1 a2 a3 => hk ρ' v' σ' a1 a2 a3) hr0 hcc
              · exact .inr (.inr (.inr (.inr (inpl hv))))
            · exact .inr (.inr (.inr (.inr (inpl hv))))

end
end Go.Eng

/- One operation over names stands for that of the model: all of them; guards, slots, regions. Conditions: what is said of the calls. -/
namespace Go.Eng
open Go

section
variable {X : Type} {W : XOps X} {F : Heap} {ρ : Ren} {s : VS X} {σ : Heap} {P : Program} {T : TT} {ve : VEnv} {e : Env}

theorem VRs.zrep {z z' : List Value} (h : VRs ρ z z') : ∀ n : Nat, VRs ρ (zrep z n) (zrep z' n)
  | 0 => .nil
  | n + 1 => h.append (VRs.zrep h n)

theorem vclear_ok (h : SR W F ρ s σ) {ie : TI} {p : Option Addr} {n c : Nat} {w : Value} {s' : VS X} (hv : vclear ie p n s = some s') (hw : VR ρ (.slice p n c) w) :
    ∃ p' c', w = .slice p' n c' ∧ ∀ k : Heap → Prop, (∀ σ', SR W F ρ s' σ' → k σ') → aclear ie p' n σ k := by
  unfold vclear at hv
  cases hb : Nat.beq ie.zero.length ie.size && vconstL ie.zero with
  | false => rw [hb] at hv; cases hv
  | true =>
    rw [hb, cond_true] at hv
    rw [Bool.and_eq_true] at hb
    have hz := Nat.eq_of_beq_eq_true hb.1
    obtain ⟨p', c', rfl, hp⟩ : ∃ p' c', w = .slice p' n c' ∧ VR ρ (.pointer p) (.pointer p') := by
      cases hw with
      | sl0 _ _ c' hc => exact ⟨_, _, rfl, .ptr0⟩
      | sl b o _ _ c' x hx hc => exact ⟨_, _, rfl, .ptr _ _ _ hx⟩
    refine ⟨p', c', rfl, fun k hk => ⟨hz, ?_⟩⟩
    cases hn : Nat.beq n 0 with
    | true =>
      rw [hn, cond_true] at hv
      cases hv
      exact .inl ⟨Nat.eq_of_beq_eq_true hn, hk _ h⟩
    | false =>
      rw [hn, cond_false] at hv
      refine .inr ⟨?_, ?_⟩
      · rcases Nat.eq_zero_or_pos n with h0 | h0
        · subst h0; cases hn
        · exact h0
      · obtain ⟨q, hq, h2⟩ := h.vstore hp ((vconstL_ok hb.2).zrep n) hv
        cases hq
        exact h2 k hk

theorem vgrow0_ok (h : SR W F ρ s σ) {el : TypeId} {ie : TI} {p : Option Addr} {len c : Nat} {m : Int} {w v : Value} {s' : VS X} (hv : vgrow0 el ie p len c m s = some (v, s')) (hw : VR ρ (.slice p len c) w) :
    ∃ p' c', w = .slice p' len c' ∧ ∀ k : Value → Heap → Prop, (∀ ρ' v' σ', ρ.le ρ' → VR ρ' v v' → SR W F ρ' s' σ' → k v' σ') → agrow el ie p' len c' m σ k := by
  unfold vgrow0 at hv
  cases hb : (p.isNone && Nat.beq len 0 && Nat.beq c 0) && (decide (0 < m) && Nat.ble (m.toNat * ie.bytes) 140737488355328 && Nat.ble m.toNat 140737488355328) && (Nat.blt 0 ie.size && Nat.beq ie.zero.length ie.size && vconstL ie.zero) with
  | false => rw [hb] at hv; cases hv
  | true =>
    rw [hb, cond_true] at hv
    cases hv
    simp only [Bool.and_eq_true] at hb
    obtain ⟨⟨⟨⟨b1, b2⟩, b3⟩, ⟨b4, b5⟩, b6⟩, ⟨b7, b8⟩, b9⟩ := hb
    cases hw with
    | sl0 _ _ c' hc =>
      have hc0 := Nat.eq_of_beq_eq_true b3
      have hz := Nat.eq_of_beq_eq_true b8
      refine ⟨_, _, rfl, fun k hk => ⟨rfl, Nat.eq_of_beq_eq_true b2, by omega, of_decide_eq_true b4, Nat.le_of_ble_eq_true b5, Nat.le_of_ble_eq_true b6, Nat.le_of_ble_eq_true b7, hz, 1, fun r cc hr hcc => ?_⟩⟩
      exact SR.grown low1 h ((vconstL_ok b9).zrep _) hk hr hcc
    | sl b o _ _ c' x hx hc => cases b1

theorem vmake_ok (h : SR W F ρ s σ) {el : TypeId} {ie : TI} {l c : Int} {v : Value} {s' : VS X} (hv : vmake el ie l c s = some (v, s')) {k : Value → Heap → Prop} (hk : ∀ ρ' v' σ', ρ.le ρ' → VR ρ' v v' → SR W F ρ' s' σ' → k v' σ') : amake el ie l c σ k := by
  unfold vmake at hv
  cases hb : (decide (0 ≤ l) && decide (l ≤ c)) && (decide (c ≤ 140737488355328) && decide (c * ie.bytes ≤ 281474976710656)) && (Nat.beq ie.zero.length ie.size && vconstL ie.zero) with
  | false => rw [hb] at hv; cases hv
  | true =>
    rw [hb, cond_true] at hv
    cases hv
    rw [Bool.and_eq_true, Bool.and_eq_true, Bool.and_eq_true, Bool.and_eq_true, Bool.and_eq_true, decide_eq_true_eq, decide_eq_true_eq, decide_eq_true_eq, decide_eq_true_eq] at hb
    obtain ⟨⟨⟨b1, b2⟩, b3, b4⟩, b5, b6⟩ := hb
    refine ⟨b1, b2, b3, b4, Nat.eq_of_beq_eq_true b5, 1, ?_⟩
    exact h.new ((vconstL_ok b6).zrep _) (k := fun r σ' => k (.slice (some ⟨r, 0, none⟩) l.toNat c.toNat) σ') fun r ρ' σ' h1 h2 h3 => hk ρ' _ σ' h1 (.sl _ _ _ _ _ _ h2 (capOf_two _ _)) h3

theorem VRs.two {a b : Value} {l : List Value} (h : VRs ρ [a, b] l) : ∃ a' b', l = [a', b'] ∧ VR ρ a a' ∧ VR ρ b b' := by
  cases h with
  | cons h1 h2 => cases h2 with
    | cons h2 h3 => cases h3; exact ⟨_, _, rfl, h1, h2⟩

theorem vcallOp_ok {Y : Ren → Prop} {call : VCall X} (hcall : VCallOK P W F Y call) (hY : Y ρ) (he : EnvR ρ ve e) (h : SR W F ρ s σ) {o : Oper} {c : Call} (ho : o.op = .call c) {v : Value} {s' : VS X} (hv : vcallOp T call ve o c s = some (v, s'))
    {k : Value → Heap → Prop} (hk : ∀ ρ' v' σ', ρ.le ρ' → VR ρ' v v' → SR W F ρ' s' σ' → k v' σ') : astep P T e o σ k := by
  unfold astep
  rw [ho]
  dsimp only
  unfold vcallOp at hv
  split at hv
  · rename_i p len cap q m c2 hc ha
    obtain ⟨args', a1, a2⟩ := vevals_ok he ha
    obtain ⟨w, w2, rfl, hw, hw2⟩ := a2.two
    split at hv
    · rename_i t u hts
      cases htu : (t == u) with
      | false => rw [htu] at hv; cases hv
      | true =>
        rw [htu, cond_true] at hv
        split at hv
        · rename_i i hi
          split at hv
          · rename_i el hk2
            split at hv
            · rename_i ie hie
              obtain ⟨p', c', q', c2', rfl, rfl, h3⟩ := vappend_ok h hv hw hw2
              simp only [hc, a1, hts, htu, cond_true, hi, hk2, hie]
              exact h3 k hk
            · cases hv
          · cases hv
        · cases hv
    · cases hv
  · rename_i p len cap kv m hc ha
    obtain ⟨args', a1, a2⟩ := vevals_ok he ha
    obtain ⟨w, w2, rfl, hw, hw2⟩ := a2.two
    cases hw2
    split at hv
    · rename_i t u hts
      split at hv
      · rename_i i iu hi hiu
        split at hv
        · rename_i el kn hk2 hk3
          split at hv
          · rename_i ie hie
            obtain ⟨p', c', rfl, h3⟩ := vgrow0_ok h hv hw
            simp only [hc, a1, hts, hi, hiu, hk2, hk3, hie]
            exact h3 k hk
          · cases hv
        · cases hv
      · cases hv
    · cases hv
  · cases hv
  · rename_i p n c2 hc ha
    obtain ⟨args', a1, a2⟩ := vevals_ok he ha
    cases a2 with
    | cons hw a3 =>
      cases a3
      split at hv
      · rename_i t hts
        split at hv
        · rename_i i hi
          split at hv
          · rename_i el hk2
            split at hv
            · rename_i ie hie
              split at hv
              · rename_i s2 hs2
                cases hv
                obtain ⟨p', c', rfl, h3⟩ := vclear_ok h hs2 hw
                simp only [hc, a1, hts, hi, hk2, hie]
                exact h3 _ fun σ' hσ => hk ρ _ σ' (Ren.le_refl _) (VR.mk_tup .nil) hσ
              · cases hv
            · cases hv
          · cases hv
        · cases hv
      · cases hv
  · cases hv
  · cases hv
  · rename_i b args _ _ n1 _ n2 n3 hc ha
    split at hv
    · rename_i v2 hv2
      cases hv
      obtain ⟨args', a1, a2⟩ := vevals_ok he ha
      obtain ⟨ps, v', h1, h2, h3⟩ := vbuiltin_ok hv2 a2
      have hp : pure1 T e o.op = some (ps, v') := by
        unfold pure1
        rw [ho]
        dsimp only
        rw [hc, a1]
        have h4 : b ≠ .append := fun h => n1 h
        have h5 : b ≠ .clear := fun h => n2 h
        have h6 : b ≠ .delete := fun h => n3 h
        cases b <;> first | exact absurd rfl h4 | exact absurd rfl h5 | exact absurd rfl h6 | exact h1
      have := pure1_step (P := P) hp (σ := σ) (k := k) (conj_iff.2 ⟨h2, hk ρ _ _ (Ren.le_refl _) h3 h⟩)
      unfold astep at this
      rw [ho] at this
      exact this
    · cases hv
  · rename_i f args hc ha
    split at hv
    · rename_i fv i hf hi
      split at hv
      · rename_i v2 s2 hcl
        cases hsh : hasSh i.sh v2 with
        | false => rw [hsh] at hv; cases hv
        | true =>
          rw [hsh, cond_true] at hv
          cases hv
          obtain ⟨args', a1, a2⟩ := vevals_ok he ha
          obtain ⟨fv', f1, f2⟩ := veval_ok he hf
          have hcv : calleeV e c = some fv' := by unfold calleeV; rw [hc]; exact f1
          simp only [hc, a1, hcv, hi]
          refine acall_any (hcall _ _ _ _ _ hcl ρ fv' args' σ f2 a2 h hY _ fun ρ' v' σ' h1 h2 h3 => ?_)
          obtain ⟨x, rfl⟩ := hasSh_ok hsh h2
          exact ⟨x, rfl, hk ρ' _ σ' h1 h2 h3⟩
      · cases hv
    · cases hv
  · cases hv

theorem vstep_ok {Y : Ren → Prop} {call : VCall X} (hcall : VCallOK P W F Y call) (hY : Y ρ) (he : EnvR ρ ve e) (h : SR W F ρ s σ) {o : Oper} {v : Value} {s' : VS X} (hv : vstep T call ve o s = some (v, s'))
    {k : Value → Heap → Prop} (hk : ∀ ρ' v' σ', ρ.le ρ' → VR ρ' v v' → SR W F ρ' s' σ' → k v' σ') : astep P T e o σ k := by
  unfold vstep at hv
  split at hv
  · rename_i t x ho
    split at hv
    · rename_i i p hi hx
      cases hn : nonOther i.k with
      | false => rw [hn] at hv; cases hv
      | true =>
        rw [hn, cond_true] at hv
        split at hv
        · rename_i v2 hld
          cases hsh : hasSh i.sh v2 with
          | false => rw [hsh] at hv; cases hv
          | true =>
            rw [hsh, cond_true] at hv
            cases hv
            obtain ⟨x', x1, x2⟩ := veval_ok he hx
            obtain ⟨q, v', rfl, h2, h3⟩ := h.ld x2 hld
            obtain ⟨y, rfl⟩ := hasSh_ok hsh h3
            unfold astep
            rw [ho]
            simp only [hi, x1, hn, cond_true]
            exact ⟨y, h2, hk ρ _ _ (Ren.le_refl _) h3 h⟩
        · cases hv
    · cases hv
  · rename_i t x y ho
    split at hv
    · rename_i i p v2 hi hx hy
      cases hn : ((vcells v2).length == i.size) with
      | false => rw [hn] at hv; cases hv
      | true =>
        rw [hn, cond_true] at hv
        split at hv
        · rename_i s2 hst
          cases hv
          obtain ⟨x', x1, x2⟩ := veval_ok he hx
          obtain ⟨y', y1, y2⟩ := veval_ok he hy
          have hl := y2.vcells
          obtain ⟨q, rfl, h2⟩ := h.vstore x2 hl hst
          unfold astep
          rw [ho]
          rw [hl.length] at hn
          simp only [hi, x1, y1, hn, cond_true]
          exact h2 _ fun σ' hσ => hk ρ _ σ' (Ren.le_refl _) (VR.mk_tup .nil) hσ
        · cases hv
    · cases hv
  · rename_i t ho
    split at hv
    · rename_i i hi
      cases hz : vconstL i.zero with
      | false => rw [hz] at hv; cases hv
      | true =>
        rw [hz, cond_true] at hv
        cases hv
        unfold astep
        rw [ho]
        simp only [hi]
        exact h.new (vconstL_ok hz) (k := fun r σ' => k (.pointer (some ⟨r, 0, none⟩)) σ') fun r ρ' σ' h1 h2 h3 => hk ρ' _ σ' h1 (.ptr _ _ _ h2) h3
    · cases hv
  · rename_i t x ho
    split at hv
    · rename_i v2 hx
      cases hv
      obtain ⟨x', x1, x2⟩ := veval_ok he hx
      have hl := x2.vcells
      unfold astep
      rw [ho]
      simp only [x1]
      rw [← hl.length]
      exact h.new hl (k := fun r σ' => k (.pointer (some ⟨r, 0, none⟩)) σ') fun r ρ' σ' h1 h2 h3 => hk ρ' _ σ' h1 (.ptr _ _ _ h2) h3
    · cases hv
  · rename_i t len parts ho
    split at hv
    · rename_i i l hi hl
      split at hv
      · rename_i el hk2
        split at hv
        · rename_i ie hie
          cases hb : (Nat.ble (len * ie.size) 16777216 && ie.zero.length == ie.size) && vconstL ie.zero with
          | false => rw [hb] at hv; cases hv
          | true =>
            rw [hb, cond_true] at hv
            rw [Bool.and_eq_true] at hb
            split at hv
            · rename_i cs hcs
              cases hv
              obtain ⟨l', l1, l2⟩ := vevalp_ok he hl
              obtain ⟨cs', b1, b2⟩ := bfill_ok l2 ((vconstL_ok hb.2).zrep len) hcs
              unfold astep
              rw [ho]
              simp only [hi, l1, hk2, hie, hb.1, cond_true, b1]
              rw [← b2.length]
              exact h.new b2 (k := fun r σ' => k (.slice (some ⟨r, 0, none⟩) len len) σ') fun r ρ' σ' h1 h2 h3 => hk ρ' _ σ' h1 (.sl _ _ _ _ _ _ h2 (capOf_two _ _)) h3
            · cases hv
        · cases hv
      · cases hv
    · cases hv
  · rename_i t l c ho
    split at hv
    · rename_i i k1 l' k2 c' hi hl hc
      split at hv
      · rename_i el hk2
        split at hv
        · rename_i ie hie
          obtain ⟨l2, l3, l4⟩ := veval_ok he hl
          obtain ⟨c2, c3, c4⟩ := veval_ok he hc
          cases l4
          cases c4
          unfold astep
          rw [ho]
          simp only [hi, l3, c3, hk2, hie]
          exact vmake_ok h hv hk
        · cases hv
      · cases hv
    · cases hv
  · rename_i c ho
    exact vcallOp_ok hcall hY he h ho hv hk
  · rename_i n1 n2 n3 n4 n5 n6 n7
    cases hp : pureOp o.op with
    | false => rw [hp] at hv; cases hv
    | true =>
      rw [hp, cond_true] at hv
      split at hv
      · rename_i v2 hv2
        cases hv
        obtain ⟨ps, v', h1, h2, h3⟩ := vpv_ok he hv2
        refine pure1_step (ps := ps) (v := v') ?_ (conj_iff.2 ⟨h2, hk ρ _ _ (Ren.le_refl _) h3 h⟩)
        unfold pure1
        split
        · rename_i c hoc
          exact absurd hoc (n7 _)
        · rw [hp]
          exact h1
      · cases hv

/-! ### Slots and guards -/
def vput (n : Nat) (ve : VEnv) (dst : Option Tmp) (v : Value) : Option VEnv :=
  match dst with
  | some d => bif Nat.blt d n then some (ve.set d v) else none
  | none => some ve

theorem vput_ok {n : Nat} {d : Option Tmp} {v v' : Value} {ve' : VEnv} (he : EnvR ρ ve e) (hv : VR ρ v v') (h : vput n ve d v = some ve') {k : Env → Prop} (hk : ∀ e', EnvR ρ ve' e' → k e') : put n e d v' k := by
  unfold vput at h
  unfold put
  split at h
  · rename_i d
    cases hb : Nat.blt d n with
    | false => rw [hb] at h; cases h
    | true =>
      rw [hb, cond_true] at h
      cases h
      dsimp only
      rw [hb, cond_true]
      exact hk _ (he.set d hv)
  · cases h
    exact hk _ he

def vgop (T : TT) (call : VCall X) (n : Nat) (ops : List Oper) (o : Oper) (ve : VEnv) (s : VS X) : Option (VEnv × VS X) :=
  match o.guard with
  | none => match vstep T call ve o s with
    | some (v, s') => match vput n ve o.dst v with
      | some ve' => some (ve', s')
      | none => none
    | none => none
  | some (j, want) => match nth ops j with
    | some oj => match oj.dst with
      | some d => match ve.get d with
        | some (.bool b) => bif (b == want) then match vstep T call ve o s with
            | some (v, s') => match vput n ve o.dst v with
              | some ve' => some (ve', s')
              | none => none
            | none => none
          else match vput n ve o.dst undef with
            | some ve' => some (ve', s)
            | none => none
        | some (.tuple _) => match vput n ve o.dst undef with
          | some ve' => some (ve', s)
          | none => none
        | _ => none
      | none => none
    | none => none

theorem vgop_ok {Y : Ren → Prop} {call : VCall X} (hcall : VCallOK P W F Y call) (hY : Y ρ) (he : EnvR ρ ve e) (h : SR W F ρ s σ) {n : Nat} {ops : Array Oper} {o : Oper} {ve' : VEnv} {s' : VS X} (hv : vgop T call n ops.toList o ve s = some (ve', s'))
    {k : Env → Heap → Prop} (hk : ∀ ρ' e' σ', ρ.le ρ' → EnvR ρ' ve' e' → SR W F ρ' s' σ' → k e' σ') : agop P T n ops o e σ k := by
  have stp : ∀ {e1 : Env}, EnvR ρ ve e1 → (match vstep T call ve o s with
            | some (v, s') => match vput n ve o.dst v with
              | some ve' => some (ve', s')
              | none => none
            | none => none) = some (ve', s') → astep P T e1 o σ fun v σ' => put n e1 o.dst v fun e' => k e' σ' := fun {e1} he1 hv => by
    split at hv
    · rename_i v s2 hst
      split at hv
      · rename_i ve2 hp
        cases hv
        exact vstep_ok hcall hY he1 h hst fun ρ' v' σ' h1 h2 h3 => vput_ok (he1.mono h1) h2 hp fun e' he' => hk ρ' e' σ' h1 he' h3
      · cases hv
    · cases hv
  have skp : ∀ {e1 : Env}, EnvR ρ ve e1 → (match vput n ve o.dst undef with
            | some ve' => some (ve', s)
            | none => none) = some (ve', s') → put n e1 o.dst undef fun e' => k e' σ := fun {e1} he1 hv => by
    split at hv
    · rename_i ve2 hp
      cases hv
      exact vput_ok he1 (VR.mk_tup .nil) hp fun e' he' => hk ρ e' σ (Ren.le_refl _) he' h
    · cases hv
  unfold vgop at hv
  unfold agop
  split at hv
  · rename_i hg
    rw [hg]
    exact stp he hv
  · rename_i j want hg
    split at hv
    · rename_i oj hoj
      rw [nth_eq, Array.getElem?_toList] at hoj
      split at hv
      · rename_i d hd
        rw [hg]
        dsimp only
        rw [hoj]
        dsimp only
        rw [hd]
        dsimp only
        split at hv
        · rename_i b hb
          obtain ⟨b', b1, b2⟩ := he d _ hb
          cases b2
          rw [b1]
          dsimp only
          have he1 := he.same b1
          refine ⟨fun ht => ?_, fun ht => ?_⟩
          · subst ht
            cases want
            · rw [cond_false]
              exact skp he1 hv
            · rw [cond_true]
              exact stp he1 hv
          · subst ht
            cases want
            · rw [cond_false]
              exact stp he1 hv
            · rw [cond_true]
              exact skp he1 hv
        · rename_i vs hb
          obtain ⟨b', b1, b2⟩ := he d _ hb
          obtain ⟨a', rfl, _⟩ := b2.arr_tup
          rw [b1]
          exact skp he hv
        · cases hv
      · cases hv
    · cases hv

end
end Go.Eng
