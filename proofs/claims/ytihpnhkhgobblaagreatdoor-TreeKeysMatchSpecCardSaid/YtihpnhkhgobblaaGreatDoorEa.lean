/- An abstract view of the model's heap, and what the model's memory operations do to it. Conditions: none. -/
import Derived.RangeFuncLeaves
import Derived.OrdersIn
import Derived.Laws.AppendOwn
import Derived.Laws.CopyRow
import Derived.LaidEql
namespace Go.Eng
open Go

/-- An object of the view: a row of cells (a ghost tag; 0: never written; the known cells, a prefix; their type; how many cells there are), or any other object, exact. -/
inductive AObj where
  | cells (tag : Nat) (cs : List Value) (t : TypeId) (n : Nat)
  | other (tag : Nat) (o : Obj)

def AObj.tag : AObj → Nat
  | .cells g _ _ _ => g
  | .other g _ => g

def Obj.isCells : Obj → Bool
  | .cells .. => true
  | _ => false

def AObj.fits : AObj → Obj → Prop
  | .cells g cs t n, o => ∃ c fz, o = .cells c t fz ∧ c.size = n ∧ cs <+: c.toList ∧ (g ≠ 0 → fz = (0, 0))
  | .other _ o, o' => o' = o ∧ Obj.isCells o = false

abbrev Heap := Nat → Option AObj

def Heap.ins (σ : Heap) (r : Nat) (o : AObj) : Heap := fun x => if x = r then some o else σ x
def Heap.del (σ : Heap) (r : Nat) : Heap := fun x => if x = r then none else σ x

theorem Heap.ins_same (σ : Heap) (r : Nat) (o : AObj) : (σ.ins r o) r = some o := by simp [Heap.ins]
theorem Heap.ins_ne (σ : Heap) {r x : Nat} (o : AObj) (h : x ≠ r) : (σ.ins r o) x = σ x := by simp [Heap.ins, h]
theorem Heap.del_ne (σ : Heap) {r x : Nat} (h : x ≠ r) : (σ.del r) x = σ x := by simp [Heap.del, h]
theorem Heap.del_same (σ : Heap) (r : Nat) : (σ.del r) r = none := by simp [Heap.del]

/-- Cell `i` of block `r`. -/
def Heap.rd (σ : Heap) (r i : Nat) : Option Value :=
  match σ r with
  | some (.cells _ cs _ _) => cs[i]?
  | _ => none

/-- The cells `i`, `i + 1`, .. of block `r`. -/
def Heap.rds (σ : Heap) (r : Nat) : (i n : Nat) → Option (List Value)
  | _, 0 => some []
  | i, n + 1 => match σ.rd r i with
    | some v => match σ.rds r (i + 1) n with
      | some l => some (v :: l)
      | none => none
    | none => none

def Rel (σ : Heap) (w : World) : Prop := ∀ r o, σ r = some o → ∃ c, w.heap[r]? = some c ∧ o.fits c

def markOf (r : Nat) : Deferred := { target := .collected r, args := #[] }

/-- What holds all along an activation that began in the world w0 with the view σ0: the view fits; what lay outside the view is as it was; the marks' blocks are as they were laid. -/
structure Inv (σ0 : Heap) (w0 : World) (ms : List Nat) (σ : Heap) (w : World) : Prop where
  rel : Rel σ w
  size : w0.heap.size ≤ w.heap.size
  old : ∀ r, r < w0.heap.size → σ0 r = none → σ r = none ∧ w.heap[r]? = w0.heap[r]?
  os : w.os = w0.os
  tape : w.tape = w0.tape
  output : w.output = w0.output
  marks : ∀ r ∈ ms, w0.heap.size ≤ r ∧ σ r = none ∧ w.heap[r]? = some (.deferred (some []))
  ro : ∀ r cs t n, r < w0.heap.size → σ0 r = some (.cells 0 cs t n) → w.heap[r]? = w0.heap[r]? ∧ ∀ o, σ r = some o → ∃ cs t n, o = .cells 0 cs t n

theorem Inv.refl {σ : Heap} {w : World} (h : Rel σ w) : Inv σ w [] σ w :=
  ⟨h, Nat.le_refl _, fun _ _ h => ⟨h, rfl⟩, rfl, rfl, rfl, fun _ h => (by cases h), fun _ _ _ _ _ h => ⟨rfl, fun o ho => (by rw [h] at ho; cases ho; exact ⟨_, _, _, rfl⟩)⟩⟩

theorem lt_of_block {w : World} {r : Nat} {o : Obj} (h : w.heap[r]? = some o) : r < w.heap.size := (Array.getElem?_eq_some_iff.1 h).1

theorem Rel.lt {σ : Heap} {w : World} (h : Rel σ w) {r : Nat} {o : AObj} (hr : σ r = some o) : r < w.heap.size := by
  obtain ⟨c, hc, _⟩ := h r o hr
  exact lt_of_block hc

theorem Rel.fresh {σ : Heap} {w : World} (h : Rel σ w) : σ w.heap.size = none := by
  cases hs : σ w.heap.size with
  | none => rfl
  | some o => exact absurd (h.lt hs) (Nat.lt_irrefl _)

theorem Inv.trans {σ0 : Heap} {w0 : World} {ms : List Nat} {σ : Heap} {w : World} {σ' : Heap} {w' : World}
    (h : Inv σ0 w0 ms σ w) (h' : Inv σ w [] σ' w') : Inv σ0 w0 ms σ' w' where
  rel := h'.rel
  size := Nat.le_trans h.size h'.size
  old := fun r hr h0 => by
    obtain ⟨h1, h2⟩ := h.old r hr h0
    obtain ⟨h3, h4⟩ := h'.old r (Nat.lt_of_lt_of_le hr h.size) h1
    exact ⟨h3, h4.trans h2⟩
  os := h'.os.trans h.os
  tape := h'.tape.trans h.tape
  output := h'.output.trans h.output
  marks := fun r hr => by
    obtain ⟨h0, h1, h2⟩ := h.marks r hr
    obtain ⟨h3, h4⟩ := h'.old r (lt_of_block h2) h1
    exact ⟨h0, h3, h4.trans h2⟩
  ro := fun r cs t n hr h0 => by
    obtain ⟨h1, h2⟩ := h.ro r cs t n hr h0
    have hr' : r < w.heap.size := Nat.lt_of_lt_of_le hr h.size
    cases hs : σ r with
    | none =>
      obtain ⟨h3, h4⟩ := h'.old r hr' hs
      exact ⟨h4.trans h1, fun o ho => by rw [h3] at ho; cases ho⟩
    | some o =>
      obtain ⟨cs', t', n', rfl⟩ := h2 o hs
      obtain ⟨h3, h4⟩ := h'.ro r cs' t' n' hr' hs
      exact ⟨h3.trans h1, h4⟩

/-- A draw. -/
theorem Inv.drew {σ0 : Heap} {w0 : World} {ms : List Nat} {σ : Heap} {w : World} (h : Inv σ0 w0 ms σ w) : Inv σ0 w0 ms σ w.drew :=
  ⟨h.rel, h.size, h.old, h.os, h.tape, h.output, h.marks, h.ro⟩

theorem heap_push_old {w : World} {o : Obj} {r : Nat} (h : r < w.heap.size) : (w.alloc o).heap[r]? = w.heap[r]? := heap_alloc_old w o r h

/-- A new block that the view takes in. -/
theorem Inv.alloc {σ0 : Heap} {w0 : World} {ms : List Nat} {σ : Heap} {w : World} (h : Inv σ0 w0 ms σ w) {o : Obj} {ao : AObj} (hf : ao.fits o) :
    Inv σ0 w0 ms (σ.ins w.heap.size ao) (w.alloc o) where
  rel := fun r x hx => by
    by_cases e : r = w.heap.size
    · subst e
      rw [Heap.ins_same] at hx
      cases hx
      exact ⟨o, heap_alloc_new w o, hf⟩
    · rw [Heap.ins_ne _ _ e] at hx
      obtain ⟨c, hc, hcf⟩ := h.rel r x hx
      exact ⟨c, by rw [heap_push_old (lt_of_block hc)]; exact hc, hcf⟩
  size := Nat.le_trans h.size (by simp)
  old := fun r hr h0 => by
    obtain ⟨h1, h2⟩ := h.old r hr h0
    have hlt : r < w.heap.size := Nat.lt_of_lt_of_le hr h.size
    exact ⟨by rw [Heap.ins_ne _ _ (by omega)]; exact h1, by rw [heap_push_old hlt]; exact h2⟩
  os := h.os
  tape := h.tape
  output := h.output
  marks := fun r hr => by
    obtain ⟨h0, h1, h2⟩ := h.marks r hr
    have hlt := lt_of_block h2
    exact ⟨h0, by rw [Heap.ins_ne _ _ (by omega)]; exact h1, by rw [heap_push_old hlt]; exact h2⟩
  ro := fun r cs t n hr h0 => by
    obtain ⟨h1, h2⟩ := h.ro r cs t n hr h0
    have hlt : r < w.heap.size := Nat.lt_of_lt_of_le hr h.size
    refine ⟨by rw [heap_push_old hlt]; exact h1, fun o' ho => ?_⟩
    rw [Heap.ins_ne _ _ (by omega)] at ho
    exact h2 o' ho

/-- A new block that the view does not take in. -/
theorem Inv.alloc_hidden {σ0 : Heap} {w0 : World} {ms : List Nat} {σ : Heap} {w : World} (h : Inv σ0 w0 ms σ w) (o : Obj) : Inv σ0 w0 ms σ (w.alloc o) where
  rel := fun r x hx => by
    obtain ⟨c, hc, hcf⟩ := h.rel r x hx
    exact ⟨c, by rw [heap_push_old (lt_of_block hc)]; exact hc, hcf⟩
  size := Nat.le_trans h.size (by simp)
  old := fun r hr h0 => by
    obtain ⟨h1, h2⟩ := h.old r hr h0
    exact ⟨h1, by rw [heap_push_old (Nat.lt_of_lt_of_le hr h.size)]; exact h2⟩
  os := h.os
  tape := h.tape
  output := h.output
  marks := fun r hr => by
    obtain ⟨h0, h1, h2⟩ := h.marks r hr
    exact ⟨h0, h1, by rw [heap_push_old (lt_of_block h2)]; exact h2⟩
  ro := fun r cs t n hr h0 => by
    obtain ⟨h1, h2⟩ := h.ro r cs t n hr h0
    have hlt : r < w.heap.size := Nat.lt_of_lt_of_le hr h.size
    exact ⟨by rw [heap_push_old hlt]; exact h1, h2⟩

/-- A block of the view is replaced by another object. -/
theorem Inv.put {σ0 : Heap} {w0 : World} {ms : List Nat} {σ : Heap} {w : World} (h : Inv σ0 w0 ms σ w) {r : Nat} {ao ao' : AObj} (hr : σ r = some ao) (hnz : ∀ cs t n, ao ≠ .cells 0 cs t n) {o : Obj} (hf : ao'.fits o)
    {w' : World} (hh : w'.heap = w.heap.setIfInBounds r o) (hos : w'.os = w.os) (ht : w'.tape = w.tape) (hout : w'.output = w.output) : Inv σ0 w0 ms (σ.ins r ao') w' where
  rel := fun x y hx => by
    rw [hh]
    by_cases e : x = r
    · subst e
      rw [Heap.ins_same] at hx
      cases hx
      exact ⟨o, by simp [h.rel.lt hr], hf⟩
    · rw [Heap.ins_ne _ _ e] at hx
      obtain ⟨c, hc, hcf⟩ := h.rel x y hx
      exact ⟨c, by rw [Array.getElem?_setIfInBounds_ne (Ne.symm e)]; exact hc, hcf⟩
  size := by rw [hh]; simpa using h.size
  old := fun x hx h0 => by
    obtain ⟨h1, h2⟩ := h.old x hx h0
    have e : x ≠ r := fun e => by rw [e, hr] at h1; cases h1
    exact ⟨by rw [Heap.ins_ne _ _ e]; exact h1, by rw [hh, Array.getElem?_setIfInBounds_ne (Ne.symm e)]; exact h2⟩
  os := hos.trans h.os
  tape := ht.trans h.tape
  output := hout.trans h.output
  marks := fun x hx => by
    obtain ⟨h0, h1, h2⟩ := h.marks x hx
    have e : x ≠ r := fun e => by rw [e, hr] at h1; cases h1
    exact ⟨h0, by rw [Heap.ins_ne _ _ e]; exact h1, by rw [hh, Array.getElem?_setIfInBounds_ne (Ne.symm e)]; exact h2⟩
  ro := fun x cs t n hx h0 => by
    obtain ⟨h1, h2⟩ := h.ro x cs t n hx h0
    have e : x ≠ r := fun e => by
      subst e
      obtain ⟨cs', t', n', he⟩ := h2 _ hr
      exact hnz _ _ _ he
    refine ⟨by rw [hh, Array.getElem?_setIfInBounds_ne (Ne.symm e)]; exact h1, fun o' ho => ?_⟩
    rw [Heap.ins_ne _ _ e] at ho
    exact h2 o' ho

/-- The view may forget a block. -/
theorem Inv.forget {σ0 : Heap} {w0 : World} {ms : List Nat} {σ : Heap} {w : World} (h : Inv σ0 w0 ms σ w) (r : Nat) : Inv σ0 w0 ms (σ.del r) w where
  rel := fun x y hx => by
    by_cases e : x = r
    · subst e; rw [Heap.del_same] at hx; cases hx
    · rw [Heap.del_ne _ e] at hx; exact h.rel x y hx
  size := h.size
  old := fun x hx h0 => by
    obtain ⟨h1, h2⟩ := h.old x hx h0
    refine ⟨?_, h2⟩
    by_cases e : x = r
    · subst e; exact Heap.del_same _ _
    · rw [Heap.del_ne _ e]; exact h1
  os := h.os
  tape := h.tape
  output := h.output
  marks := fun x hx => by
    obtain ⟨h0, h1, h2⟩ := h.marks x hx
    refine ⟨h0, ?_, h2⟩
    by_cases e : x = r
    · subst e; exact Heap.del_same _ _
    · rw [Heap.del_ne _ e]; exact h1
  ro := fun x cs t n hx h0 => by
    obtain ⟨h1, h2⟩ := h.ro x cs t n hx h0
    refine ⟨h1, fun o' ho => ?_⟩
    by_cases e : x = r
    · subst e; rw [Heap.del_same] at ho; cases ho
    · rw [Heap.del_ne _ e] at ho; exact h2 o' ho

/-! ### Reading -/

theorem Rel.cell {σ : Heap} {w : World} (h : Rel σ w) {r i : Nat} {v : Value} (hv : σ.rd r i = some v) : w.cell? ⟨r, i, none⟩ = some v := by
  unfold Heap.rd at hv
  cases ho : σ r with
  | none => simp [ho] at hv
  | some o =>
    cases o with
    | other g o => simp [ho] at hv
    | cells g cs t n =>
      simp only [ho] at hv
      obtain ⟨c, hc, c', fz, rfl, _, hp, _⟩ := h r _ ho
      rw [cell_of_row w r i c' t fz hc]
      obtain ⟨l, hl⟩ := hp
      rw [← Array.getElem?_toList, ← hl]
      rw [List.getElem?_append_left (by
        rcases Nat.lt_or_ge i cs.length with h' | h'
        · exact h'
        · rw [List.getElem?_eq_none h'] at hv; cases hv)]
      exact hv

theorem add_none (r o n : Nat) : (⟨r, o, none⟩ : Addr).add n = ⟨r, o + n, none⟩ := by
  unfold Addr.add; split <;> simp_all

theorem Rel.cells {σ : Heap} {w : World} (h : Rel σ w) {r : Nat} : ∀ {n i : Nat} {l : List Value}, σ.rds r i n = some l →
    l.length = n ∧ ∀ (j : Nat) (v : Value), l[j]? = some v → w.cell? ((⟨r, i, none⟩ : Addr).add j) = some v := by
  intro n
  induction n with
  | zero =>
    intro i l hl
    simp only [Heap.rds] at hl
    cases hl
    exact ⟨rfl, fun j v hv => by simp at hv⟩
  | succ n ih =>
    intro i l hl
    simp only [Heap.rds] at hl
    cases hv : σ.rd r i with
    | none => simp [hv] at hl
    | some v =>
      simp only [hv] at hl
      cases hr : σ.rds r (i + 1) n with
      | none => simp [hr] at hl
      | some l' =>
        simp only [hr] at hl
        cases hl
        obtain ⟨h1, h2⟩ := ih hr
        refine ⟨by simp [h1], fun j u hu => ?_⟩
        cases j with
        | zero =>
          rw [add_none]
          simp at hu
          subst hu
          exact h.cell hv
        | succ j =>
          simp at hu
          have := h2 j u hu
          rw [add_none] at this ⊢
          rw [show i + (j + 1) = i + 1 + j from by omega]
          exact this

/-! ### Writing -/

/-- The list with some elements replaced from a place on. -/
def lset : List Value → Nat → List Value → List Value
  | cs, 0, [] => cs
  | _ :: cs, 0, v :: vs => v :: lset cs 0 vs
  | c :: cs, o + 1, vs => c :: lset cs o vs
  | [], _, _ => []

theorem length_lset : ∀ (cs : List Value) (o : Nat) (vs : List Value), (lset cs o vs).length = cs.length
  | [], 0, [] => rfl
  | [], 0, _ :: _ => rfl
  | [], _ + 1, _ => by simp [lset]
  | _ :: _, 0, [] => rfl
  | _ :: cs, 0, _ :: vs => by simp [lset, length_lset cs 0 vs]
  | _ :: cs, o + 1, vs => by simp [lset, length_lset cs o vs]

theorem lset_eq : ∀ (cs : List Value) (o : Nat) (vs : List Value), o + vs.length ≤ cs.length → lset cs o vs = cs.take o ++ vs ++ cs.drop (o + vs.length)
  | [], 0, [], _ => by simp [lset]
  | [], 0, _ :: _, h => by simp at h
  | [], _ + 1, _, h => by simp at h
  | _ :: _, 0, [], _ => by simp [lset]
  | c :: cs, 0, v :: vs, h => by
    simp only [lset]
    rw [lset_eq cs 0 vs (by simp at h ⊢; omega)]
    simp
  | c :: cs, o + 1, vs, h => by
    simp only [lset]
    rw [lset_eq cs o vs (by simp at h ⊢; omega)]
    simp [Nat.add_right_comm]

theorem setRow_heap_eq (w : World) (g : Nat) (c cs : Array Value) (t : TypeId) (fz : Nat × Nat) (h : w.heap[g]? = some (.cells c t fz)) :
    (w.setRow g cs).heap = w.heap.setIfInBounds g (.cells cs t fz) := by
  apply Array.ext_getElem?
  intro i
  simp only [World.setRow, Array.getElem?_modify, Array.getElem?_setIfInBounds]
  by_cases e : g = i
  · subst e
    rw [if_pos rfl, h]
    simp [lt_of_block h]
  · simp [e]

theorem prefix_splice {cs c : List Value} (h : cs <+: c) (o : Nat) (vs : List Value) (ho : o + vs.length ≤ cs.length) :
    (cs.take o ++ vs ++ cs.drop (o + vs.length)) <+: (c.take o ++ vs ++ c.drop (o + vs.length)) := by
  obtain ⟨l, rfl⟩ := h
  rw [List.take_append_of_le_length (by omega), List.drop_append_of_le_length ho]
  exact ⟨l, by simp⟩

theorem Inv.store {P : Program} {σ0 : Heap} {w0 : World} {ms : List Nat} {σ : Heap} {w : World} (h : Inv σ0 w0 ms σ w) {r o g n : Nat} {cs : List Value} {t : TypeId} {vs : List Value}
    (hr : σ r = some (.cells g cs t n)) (hg : g ≠ 0) (ho : o + vs.length ≤ cs.length) (h1 : ∀ v ∈ vs, v.oneCell' = true) :
    ∃ w', (storeCells ⟨r, o, none⟩ vs).run P w = .ok () w' ∧ Inv σ0 w0 ms (σ.ins r (.cells g (lset cs o vs) t n)) w' := by
  obtain ⟨c, hc, c', fz, rfl, hsz, hp, hfz⟩ := h.rel r _ hr
  obtain rfl := hfz hg
  have hlen : cs.length ≤ c'.size := by simpa using hp.length_le
  have hst := run_storeCells_at (P := P) r o t vs 0 c' w hc (by simp; omega) h1
  simp only [Nat.add_zero] at hst
  refine ⟨_, hst, h.put hr (fun cs t n e => hg (AObj.cells.inj e).1) ?_ (setRow_heap_eq w r c' _ t (0, 0) hc) rfl rfl rfl⟩
  refine ⟨_, (0, 0), rfl, ?_, ?_, fun _ => rfl⟩
  · simp; omega
  · rw [lset_eq cs o vs ho]
    simpa using prefix_splice hp o vs ho

end Go.Eng

/- What an operation that touches no memory comes to, as a function on an environment; proved against the model. Conditions: none. -/
namespace Go.Eng
open Go

/-! ### Shapes -/
inductive Sc where
  | int (k : IntKind) | bool | ptr | slice | map | str | any

structure Sl where
  p : Option Addr
  len : Nat
  cap : Nat

def Sl.v (s : Sl) : Value := .slice s.p s.len s.cap

def Sc.T : Sc → Type
  | .int _ => Int | .bool => Bool | .ptr => Option Addr | .slice => Sl | .map => Option Nat | .str => ByteArray | .any => Value

def Sc.enc : (s : Sc) → s.T → Value
  | .int k, (n : Int) => .int k n
  | .bool, (b : Bool) => .bool b
  | .ptr, (p : Option Addr) => .pointer p
  | .slice, (s : Sl) => .slice s.p s.len s.cap
  | .map, (r : Option Nat) => .map r
  | .str, (s : ByteArray) => .string s
  | .any, (v : Value) => v

def Sc.Ts : List Sc → Type
  | [] => Unit
  | [s] => s.T
  | s :: t :: l => s.T × Sc.Ts (t :: l)

def Sc.encs : (l : List Sc) → Sc.Ts l → List Value
  | [], _ => []
  | [s], x => [s.enc x]
  | s :: t :: l, x => s.enc x.1 :: Sc.encs (t :: l) x.2

inductive S1 where
  | sc (s : Sc)
  | agg (l : List Sc)

def S1.T : S1 → Type
  | .sc s => s.T
  | .agg l => Sc.Ts l

def S1.enc : (s : S1) → s.T → Value
  | .sc s, x => s.enc x
  | .agg l, x => .agg (Sc.encs l x).toArray

def S1.Ts : List S1 → Type
  | [] => Unit
  | [s] => s.T
  | s :: t :: l => s.T × S1.Ts (t :: l)

def S1.encs : (l : List S1) → S1.Ts l → List Value
  | [], _ => []
  | [s], x => [s.enc x]
  | s :: t :: l, x => s.enc x.1 :: S1.encs (t :: l) x.2

inductive Sh where
  | one (s : S1)
  | tup (l : List S1)

def Sh.T : Sh → Type
  | .one s => s.T
  | .tup l => S1.Ts l

def Sh.enc : (s : Sh) → s.T → Value
  | .one s, x => s.enc x
  | .tup l, x => .tuple (S1.encs l x).toArray

/-! ### The table of types -/
inductive TK where
  | int (k : IntKind) | bool | str | ptr (e : TypeId) | slice (e : TypeId) | arr (n : Nat) (e : TypeId) | struct (fs : List (Nat × TypeId)) | map (k e : TypeId) | func | other

structure TI where
  k : TK
  size : Nat
  bytes : Nat
  zero : List Value
  sh : Sh

abbrev TT := TypeId → Option TI

def TI.isAgg (i : TI) : Bool :=
  match i.k with
  | .struct _ | .arr _ _ => true
  | _ => false

def TK.ok (d : Option TypeDesc) : TK → Prop
  | .int k => d = some (.int k)
  | .bool => d = some .bool
  | .str => d = some .string
  | .ptr e => d = some (.pointer e)
  | .slice e => d = some (.slice e)
  | .arr n e => d = some (.array n e)
  | .struct fs => ∃ F : Array Field, d = some (.struct F) ∧ F.toList.map (fun f => (f.offset, f.type)) = fs
  | .map k e => d = some (.map k e)
  | .func => ∃ a b c, d = some (.func a b c)
  | .other => True

structure TI.ok (P : Program) (t : TypeId) (i : TI) : Prop where
  k : i.k.ok (P.underlying t)
  info : ∃ inf z, P.info? t = some inf ∧ inf.size = i.size ∧ inf.bytes = i.bytes ∧ inf.zero = some z ∧ z.cells.toList = i.zero

def TTok (P : Program) (T : TT) : Prop := ∀ t i, T t = some i → i.ok P t

section
variable {P : Program} {t : TypeId} {i : TI}
theorem TI.ok.sizeOf (h : i.ok P t) (w : World) : (sizeOf t).run P w = .ok i.size w := by
  obtain ⟨inf, z, h1, h2, _⟩ := h.info
  simp [Go.sizeOf, typeInfo, h1, h2]
theorem TI.ok.typeInfo (h : i.ok P t) : ∃ inf z, P.info? t = some inf ∧ inf.size = i.size ∧ inf.bytes = i.bytes ∧ inf.zero = some z ∧ z.cells.toList = i.zero := h.info
theorem TI.ok.isAggr (h : i.ok P t) (hk : i.k ≠ TK.other) (w : World) : (Go.isAgg t).run P w = .ok i.isAgg w := by
  have hk' := h.k
  unfold TI.isAgg
  cases e : i.k with
  | other => exact absurd e hk
  | struct fs =>
    rw [e] at hk'
    obtain ⟨F, hF, _⟩ := hk'
    simp [Go.isAgg, run_underlying hF]
  | func =>
    rw [e] at hk'
    obtain ⟨a, b, c, hF⟩ := hk'
    simp [Go.isAgg, run_underlying hF]
  | _ =>
    rw [e] at hk'
    simp only [TK.ok] at hk'
    simp [Go.isAgg, run_underlying hk']
end

/-! ### The environment -/
abbrev Env := List (Nat × Value)

def Env.get : Env → Nat → Option Value
  | [], _ => none
  | (k, v) :: r, t => bif Nat.beq k t then some v else Env.get r t

def Env.set (e : Env) (t : Nat) (v : Value) : Env := (t, v) :: e

theorem Env.get_set (e : Env) (t : Nat) (v : Value) (s : Nat) : (e.set t v).get s = if t = s then some v else e.get s := by
  by_cases h : t = s
  · subst h; simp [Env.set, Env.get, Nat.beq_refl]
  · have hb : Nat.beq t s = false := by
      cases hh : Nat.beq t s with
      | false => rfl
      | true => exact absurd (Nat.eq_of_beq_eq_true hh) h
    simp [Env.set, Env.get, h, hb]

def Env.eval (e : Env) : Operand → Option Value
  | .tmp t => e.get t
  | .const v => some v
  | .global g => some (.pointer (some ⟨g, 0, none⟩))
  | .func f => some (.func (.func f) #[] #[])

def Env.evals (e : Env) : List Operand → Option (List Value)
  | [] => some []
  | x :: l => match e.eval x with
    | some v => match e.evals l with
      | some vs => some (v :: vs)
      | none => none
    | none => none

def Env.evalo (e : Env) : Option Operand → Option (Option Value)
  | none => some none
  | some x => match e.eval x with
    | some v => some (some v)
    | none => none

def Env.evalp (e : Env) : List (Nat × Operand) → Option (List (Nat × Value))
  | [] => some []
  | (j, x) :: l => match e.eval x with
    | some v => match e.evalp l with
      | some vs => some ((j, v) :: vs)
      | none => none
    | none => none

/-- The environment tells of temporaries of an activation with n of them. -/
structure EnvRel (n : Nat) (e : Env) (a : Act) : Prop where
  size : a.tmps.size = n
  get : ∀ t v, e.get t = some v → t < n ∧ a.tmps.getD t undef = v

theorem EnvRel.eval {n : Nat} {e : Env} {a : Act} (h : EnvRel n e a) {x : Operand} {v : Value} (hx : e.eval x = some v) : a.eval x = v := by
  cases x with
  | tmp t => exact (h.get t v hx).2
  | const c => simpa [Env.eval, Act.eval] using hx
  | global g => simpa [Env.eval, Act.eval] using hx
  | func f => simpa [Env.eval, Act.eval] using hx

theorem EnvRel.evals {n : Nat} {e : Env} {a : Act} (h : EnvRel n e a) : ∀ {l : List Operand} {vs : List Value}, e.evals l = some vs → l.map a.eval = vs
  | [], vs, hl => by simpa [Env.evals] using hl
  | x :: l, vs, hl => by
    simp only [Env.evals] at hl
    cases hx : e.eval x with
    | none => simp [hx] at hl
    | some v =>
      simp only [hx] at hl
      cases hr : e.evals l with
      | none => simp [hr] at hl
      | some us =>
        simp only [hr, Option.some.injEq] at hl
        subst hl
        simp [h.eval hx, h.evals hr]

theorem EnvRel.evalo {n : Nat} {e : Env} {a : Act} (h : EnvRel n e a) {x : Option Operand} {v : Option Value} (hx : e.evalo x = some v) : x.map a.eval = v := by
  cases x with
  | none => simpa [Env.evalo] using hx
  | some x =>
    simp only [Env.evalo] at hx
    cases he : e.eval x with
    | none => simp [he] at hx
    | some u => simp only [he, Option.some.injEq] at hx; subst hx; simp [h.eval he]

theorem EnvRel.evalp {n : Nat} {e : Env} {a : Act} (h : EnvRel n e a) : ∀ {l : List (Nat × Operand)} {vs : List (Nat × Value)}, e.evalp l = some vs → (l.map fun (j, x) => (j, a.eval x)) = vs
  | [], vs, hl => by simpa [Env.evalp] using hl
  | (j, x) :: l, vs, hl => by
    simp only [Env.evalp] at hl
    cases hx : e.eval x with
    | none => simp [hx] at hl
    | some v =>
      simp only [hx] at hl
      cases hr : e.evalp l with
      | none => simp [hr] at hl
      | some us =>
        simp only [hr, Option.some.injEq] at hl
        subst hl
        simp [h.eval hx, h.evalp hr]

theorem EnvRel.put {n : Nat} {e : Env} {a : Act} (h : EnvRel n e a) {d : Nat} (hd : d < n) (v : Value) : EnvRel n (e.set d v) (a.put (some d) v) := by
  refine ⟨by simpa [Act.put] using h.size, fun t u ht => ?_⟩
  rw [Env.get_set] at ht
  by_cases e' : d = t
  · subst e'
    simp only [if_true, Option.some.injEq] at ht
    subst ht
    refine ⟨hd, ?_⟩
    have : d < a.tmps.size := by rw [h.size]; exact hd
    simp [Act.put, this]
  · rw [if_neg e'] at ht
    obtain ⟨h1, h2⟩ := h.get t u ht
    refine ⟨h1, ?_⟩
    simpa [Act.put, Array.getElem?_setIfInBounds_ne e'] using h2

/-! ### Operations on values -/
def kindN : IntKind → Nat
  | .i8 => 0 | .i16 => 1 | .i32 => 2 | .i64 => 3 | .u8 => 4 | .u16 => 5 | .u32 => 6 | .u64 => 7

theorem kindN_inj {a b : IntKind} (h : (kindN a == kindN b) = true) : a = b := by
  cases a <;> cases b <;> first | rfl | (simp [kindN] at h)

def andI (k : IntKind) (a b : Int) : Int := k.wrap (BitVec.ofInt k.bits a &&& BitVec.ofInt k.bits b).toNat
def orI (k : IntKind) (a b : Int) : Int := k.wrap (BitVec.ofInt k.bits a ||| BitVec.ofInt k.bits b).toNat
def xorI (k : IntKind) (a b : Int) : Int := k.wrap (BitVec.ofInt k.bits a ^^^ BitVec.ofInt k.bits b).toNat
def andNotI (k : IntKind) (a b : Int) : Int := k.wrap (BitVec.ofInt k.bits a &&& ~~~(BitVec.ofInt k.bits b)).toNat
def shlI (k : IntKind) (a b : Int) : Int := k.wrap (a * 2 ^ (min b.toNat k.bits))
def shrI (k : IntKind) (a b : Int) : Int := a.fdiv (2 ^ (min b.toNat k.bits))
def quoI (k : IntKind) (a b : Int) : Int := k.wrap (a.tdiv b)

def intBin (k : IntKind) (a b : Int) : BinOp → Option (List Prop × Value)
  | .add => some ([], .int k (k.wrap (a + b)))
  | .sub => some ([], .int k (k.wrap (a - b)))
  | .mul => some ([], .int k (k.wrap (a * b)))
  | .quo => some ([b ≠ 0], .int k (quoI k a b))
  | .rem => some ([b ≠ 0], .int k (a.tmod b))
  | .and => some ([], .int k (andI k a b))
  | .or => some ([], .int k (orI k a b))
  | .xor => some ([], .int k (xorI k a b))
  | .andNot => some ([], .int k (andNotI k a b))
  | .eql => some ([], .bool (decide (a = b)))
  | .neq => some ([], .bool (!decide (a = b)))
  | .lss => some ([], .bool (decide (a < b)))
  | .leq => some ([], .bool (decide (a ≤ b)))
  | .gtr => some ([], .bool (decide (b < a)))
  | .geq => some ([], .bool (decide (b ≤ a)))
  | _ => none

def isNilFunc : Value → Bool
  | .nilFunc => true
  | _ => false

def isFunc : Value → Prop
  | .nilFunc | .func _ _ _ => True
  | _ => False

/-- The sides' conditions and the value of a binary operation. -/
def abin (i : TI) (op : BinOp) (x y : Value) : Option (List Prop × Value) :=
  match x, y with
  | .int k a, .int k' b =>
    match op with
    | .shl => some ([0 ≤ b], .int k (shlI k a b))
    | .shr => some ([0 ≤ b], .int k (shrI k a b))
    | op => bif kindN k == kindN k' then intBin k a b op else none
  | .bool a, .bool b =>
    match i.k, op with
    | .bool, .eql => some ([], .bool (a == b))
    | .bool, .neq => some ([], .bool (!(a == b)))
    | _, _ => none
  | .pointer p, .pointer none =>
    match i.k, op with
    | .ptr _, .eql => some ([], .bool p.isNone)
    | .ptr _, .neq => some ([], .bool p.isSome)
    | _, _ => none
  | .slice p _ _, .slice none _ _ =>
    match i.k, op with
    | .slice _, .eql => some ([], .bool p.isNone)
    | .slice _, .neq => some ([], .bool p.isSome)
    | _, _ => none
  | f, .nilFunc =>
    match i.k, op with
    | .func, .eql => some ([isFunc f], .bool (isNilFunc f))
    | .func, .neq => some ([isFunc f], .bool (!isNilFunc f))
    | _, _ => none
  | _, _ => none

theorem nilGuard {op : BinOp} {t : TypeId} {x y : Operand} {a b : Value} {P : Program} {w : World} (ha : ∀ cs, a ≠ .agg cs) (hb : a ≠ .nilIface) :
    (eqGuard op t x y a b).run P w = .ok () w := by
  cases a with
  | nilIface => exact absurd rfl hb
  | agg cs => exact absurd rfl (ha cs)
  | _ => cases op <;> rfl

section
variable {P : Program} {t : TypeId} {w : World}
theorem eqIn_bool (d : Nat) {a b : Bool} (h : P.underlying t = some .bool) : (Op.equalIn (d + 1) t (.bool a) (.bool b)).run P w = .ok (a == b) w := by
  simp [Op.equalIn, run_underlying h]
theorem eqIn_ptr (d : Nat) {e : TypeId} {p : Option Addr} (h : P.underlying t = some (.pointer e)) : (Op.equalIn (d + 1) t (.pointer p) (.pointer none)).run P w = .ok p.isNone w := by
  cases p <;> simp [Op.equalIn, run_underlying h]
theorem eqIn_slice (d : Nat) {e : TypeId} {p : Option Addr} {n c n' c' : Nat} (h : P.underlying t = some (.slice e)) : (Op.equalIn (d + 1) t (.slice p n c) (.slice none n' c')).run P w = .ok p.isNone w := by
  cases p <;> simp [Op.equalIn, run_underlying h]
theorem eqIn_func (d : Nat) {x : Value} {a b : Array TypeId} {c : Bool} (h : P.underlying t = some (.func a b c)) (hx : isFunc x) : (Op.equalIn (d + 1) t x .nilFunc).run P w = .ok (isNilFunc x) w := by
  cases x <;> simp only [isFunc] at hx <;> simp [Op.equalIn, run_underlying h, isNilFunc]
theorem eq_bool {a b : Bool} (h : P.underlying t = some .bool) : (Op.equal t (.bool a) (.bool b)).run P w = .ok (a == b) w := eqIn_bool 9999 h
theorem eq_ptr {e : TypeId} {p : Option Addr} (h : P.underlying t = some (.pointer e)) : (Op.equal t (.pointer p) (.pointer none)).run P w = .ok p.isNone w := eqIn_ptr 9999 h
theorem eq_slice {e : TypeId} {p : Option Addr} {n c n' c' : Nat} (h : P.underlying t = some (.slice e)) : (Op.equal t (.slice p n c) (.slice none n' c')).run P w = .ok p.isNone w := eqIn_slice 9999 h
theorem eq_func {x : Value} {a b : Array TypeId} {c : Bool} (h : P.underlying t = some (.func a b c)) (hx : isFunc x) : (Op.equal t x .nilFunc).run P w = .ok (isNilFunc x) w := eqIn_func 9999 h hx
end

theorem abin_sound {P : Program} {T : TypeId} {i : TI} (hi : i.ok P T) {op : BinOp} {x y : Value} {ps : List Prop} {v : Value} (h : abin i op x y = some (ps, v)) (hp : ∀ p ∈ ps, p)
    (xo yo : Operand) (w : World) : (do eqGuard op T xo yo x y; binOp op T x y : Sem Value).run P w = .ok v w := by
  have hk := hi.k
  unfold abin at h
  split at h
  · rename_i k a k' b
    rw [Sem.run_bind, nilGuard (by simp) (by simp), Result.andThen_ok]
    split at h
    · simp only [Option.some.injEq, Prod.mk.injEq] at h
      obtain ⟨rfl, rfl⟩ := h
      have h0 := hp _ (List.mem_singleton.2 rfl)
      simp [binOp, Op.shift, Int.not_lt.2 h0, shlI]
    · simp only [Option.some.injEq, Prod.mk.injEq] at h
      obtain ⟨rfl, rfl⟩ := h
      have h0 := hp _ (List.mem_singleton.2 rfl)
      simp [binOp, Op.shift, Int.not_lt.2 h0, shrI]
    · rename_i op' hne1 hne2
      cases hkk : kindN k == kindN k' with
      | false => rw [hkk] at h; simp at h
      | true =>
        rw [hkk, cond_true] at h
        obtain rfl := kindN_inj hkk
        cases op <;> simp only [intBin, Option.some.injEq, Prod.mk.injEq, reduceCtorEq] at h <;> try (first | exact absurd rfl hne1 | exact absurd rfl hne2)
        all_goals
          obtain ⟨rfl, rfl⟩ := h
        all_goals first
          | (simp [binOp, Op.intArith]; done)
          | (have h0 := hp _ (List.mem_singleton.2 rfl); simp [binOp, Op.intDiv, h0, quoI]; done)
          | (simp [binOp, Op.intBits, andI, orI, xorI, andNotI]; done)
          | (simp [binOp, Op.intCmp]; first | done | rfl | (rw [Bool.eq_iff_iff]; simp; done))
  · rename_i a b
    rw [Sem.run_bind, nilGuard (by simp) (by simp), Result.andThen_ok]
    split at h
    · rename_i hik
      simp only [Option.some.injEq, Prod.mk.injEq] at h
      obtain ⟨rfl, rfl⟩ := h
      rw [hik] at hk
      simp [binOp, eq_bool hk]
    · rename_i hik
      simp only [Option.some.injEq, Prod.mk.injEq] at h
      obtain ⟨rfl, rfl⟩ := h
      rw [hik] at hk
      simp [binOp, eq_bool hk]
    · cases h
  · rename_i p
    rw [Sem.run_bind, nilGuard (by simp) (by simp), Result.andThen_ok]
    split at h
    · rename_i hik
      simp only [Option.some.injEq, Prod.mk.injEq] at h
      obtain ⟨rfl, rfl⟩ := h
      rw [hik] at hk
      simp [binOp, eq_ptr hk]
    · rename_i hik
      simp only [Option.some.injEq, Prod.mk.injEq] at h
      obtain ⟨rfl, rfl⟩ := h
      rw [hik] at hk
      simp [binOp, eq_ptr hk]
    · cases h
  · rename_i p _ _ _ _
    rw [Sem.run_bind, nilGuard (by simp) (by simp), Result.andThen_ok]
    split at h
    · rename_i hik
      simp only [Option.some.injEq, Prod.mk.injEq] at h
      obtain ⟨rfl, rfl⟩ := h
      rw [hik] at hk
      simp [binOp, eq_slice hk]
    · rename_i hik
      simp only [Option.some.injEq, Prod.mk.injEq] at h
      obtain ⟨rfl, rfl⟩ := h
      rw [hik] at hk
      simp [binOp, eq_slice hk]
    · cases h
  · split at h
    · rename_i hik
      simp only [Option.some.injEq, Prod.mk.injEq] at h
      obtain ⟨rfl, rfl⟩ := h
      rw [hik] at hk
      obtain ⟨fa, fb, fc, hk⟩ := hk
      have h0 := hp _ (List.mem_singleton.2 rfl)
      have hq := eq_func (w := w) hk h0
      clear hp
      cases x <;> simp only [isFunc] at h0
      all_goals
        rw [Sem.run_bind, nilGuard (by simp) (by simp), Result.andThen_ok]
        simp [binOp, hq, isNilFunc]
    · rename_i hik
      simp only [Option.some.injEq, Prod.mk.injEq] at h
      obtain ⟨rfl, rfl⟩ := h
      rw [hik] at hk
      obtain ⟨fa, fb, fc, hk⟩ := hk
      have h0 := hp _ (List.mem_singleton.2 rfl)
      have hq := eq_func (w := w) hk h0
      clear hp
      cases x <;> simp only [isFunc] at h0
      all_goals
        rw [Sem.run_bind, nilGuard (by simp) (by simp), Result.andThen_ok]
        simp [binOp, hq, isNilFunc]
    · cases h
  · cases h

end Go.Eng

/- The operations that touch no memory, one by one: what they come to, proved against the model. Conditions: the table of types is the program's. -/
namespace Go.Eng
open Go

def padd (p : Option Addr) (n : Nat) : Option Addr := p.map (·.add n)

theorem padd_some (r o n : Nat) : padd (some ⟨r, o, none⟩) n = some ⟨r, o + n, none⟩ := by simp [padd, add_none]

def vcells : Value → List Value
  | .agg cs => cs.toList
  | v => [v]

theorem vcells_eq (v : Value) : vcells v = v.cells.toList := by cases v <;> rfl

def pickV (b : Bool) : Value → Value → Value
  | .bool x, .bool y => .bool (bif b then x else y)
  | x, y => bif b then x else y

theorem pickV_eq (b : Bool) (x y : Value) : pickV b x y = if b then x else y := by
  unfold pickV
  split <;> cases b <;> rfl

def callable : Value → Prop
  | .func (.func _) _ _ | .func (.yield _) _ _ => True
  | _ => False

def aggPart (cs : List Value) (off size : Nat) (agg : Bool) : Option Value :=
  bif agg then some (.agg ((cs.drop off).take size).toArray) else cs[off]?

def slp (p : Option Addr) (l m size : Nat) : Option Addr := if m = l then p else padd p (l * size)

/-- A slice expression on a slice. -/
def aslice (size : Nat) (p : Option Addr) (len cap : Nat) : (lo hi mx : Option Value) → Option (List Prop × Value)
  | none, none, none => some ([], .slice p len cap)
  | none, some (.int _ h), none => some ([0 ≤ h, h ≤ cap], .slice p h.toNat cap)
  | some (.int _ l), none, none => some ([0 ≤ l, l ≤ len], .slice (slp p l.toNat cap size) (len - l.toNat) (cap - l.toNat))
  | some (.int _ l), some (.int _ h), none => some ([0 ≤ h, h ≤ cap, 0 ≤ l, l ≤ h], .slice (slp p l.toNat cap size) (h.toNat - l.toNat) (cap - l.toNat))
  | some (.int _ l), some (.int _ h), some (.int _ m) =>
    some ([0 ≤ m, m ≤ cap, 0 ≤ h, h ≤ m, 0 ≤ l, l ≤ h], .slice (slp p l.toNat m.toNat size) (h.toNat - l.toNat) (m.toNat - l.toNat))
  | _, _, _ => none

/-- The cells of an aggregate, some of its parts replaced. -/
def bfill (place : Nat → Option (Nat × Nat)) (cs : List Value) : List (Nat × Value) → Option (List Value)
  | [] => some cs
  | (i, v) :: rest =>
    match place i with
    | none => none
    | some (off, size) =>
      bif ((vcells v).length == size && Nat.ble (off + (vcells v).length) cs.length) then bfill place (lset cs off (vcells v)) rest else none

/-- The places of a struct's fields: offset and size. -/
def fplaces (T : TT) : List (Nat × TypeId) → Option (List (Nat × Nat))
  | [] => some []
  | (o, t) :: l => match T t with
    | some i => match fplaces T l with
      | some r => some ((o, i.size) :: r)
      | none => none
    | none => none

def abuild (T : TT) (i : TI) (parts : List (Nat × Value)) : Option Value :=
  match i.k with
  | .struct fs => match fplaces T fs with
    | some ps => match bfill (fun j => ps[j]?) i.zero parts with
      | some cs => some (.agg cs.toArray)
      | none => none
    | none => none
  | .arr _ e => match T e with
    | some ie => match bfill (fun j => some (j * ie.size, ie.size)) i.zero parts with
      | some cs => some (.agg cs.toArray)
      | none => none
    | none => none
  | _ => none

def aints : List Value → Option (IntKind × List Int)
  | [] => none
  | [.int k n] => some (k, [n])
  | .int k n :: l => match aints l with
    | some (k', r) => bif kindN k == kindN k' then some (k, n :: r) else none
    | none => none
  | _ => none

def nonOther : TK → Bool
  | .other => false
  | _ => true

def aextreme (max : Bool) : List Value → Option Value
  | [.int k x, .int _ y] => some (.int k (bif max then (if x < y then y else x) else (if y < x then y else x)))
  | _ => none

/-- A call of a builtin that touches no memory. -/
def abuiltin (T : TT) (b : Builtin) (ts : List TypeId) (args : List Value) : Option (List Prop × Value) :=
  match b, ts, args with
  | .len, t :: _, x :: _ => match T t with
    | some i => match i.k, x with
      | .slice _, .slice _ n _ => some ([], .int .i64 n)
      | .str, .string s => some ([], .int .i64 s.size)
      | .arr n _, _ => some ([], .int .i64 n)
      | _, _ => none
    | none => none
  | .cap, t :: _, x :: _ => match T t with
    | some i => match i.k, x with
      | .slice _, .slice _ _ n => some ([], .int .i64 n)
      | _, _ => none
    | none => none
  | .max, _, l => match aextreme true l with
    | some v => some ([], v)
    | none => none
  | .min, _, l => match aextreme false l with
    | some v => some ([], v)
    | none => none
  | _, _, _ => none

/-- What an operation that touches no memory comes to: the conditions under which it does not panic, and the value. -/
def apv (T : TT) (e : Env) : Op → Option (List Prop × Value)
  | .move x | .assign x => match e.eval x with
    | some v => some ([], v)
    | none => none
  | .pick c a b => match e.eval c, e.eval a, e.eval b with
    | some (.bool t), some x, some y => some ([], pickV t x y)
    | _, _, _ => none
  | .nilCheck x => match e.eval x with
    | some (.pointer p) => some ([p.isSome = true], .pointer p)
    | some v => some ([callable v], v)
    | none => none
  | .binOp op t x y _ => match T t, e.eval x, e.eval y with
    | some i, some a, some b => abin i op a b
    | _, _, _ => none
  | .unOp op _ x => match op, e.eval x with
    | .not, some (.bool b) => some ([], .bool (!b))
    | .neg, some (.int k n) => some ([], .int k (k.wrap (0 - n)))
    | .xor, some (.int k n) => some ([], .int k (xorI k (if k.signed then -1 else k.max) n))
    | _, _ => none
  | .convert s d x => match T s, T d, e.eval x with
    | some is, some id, some (.int _ n) => match id.k with
      | .int k => bif nonOther is.k then some ([], .int k (k.wrap n)) else none
      | _ => none
    | _, _, _ => none
  | .makeFunc fn first cap => match e.evals first.toList, e.evals cap.toList with
    | some a, some b => some ([], .func fn a.toArray b.toArray)
    | _, _ => none
  | .slice t x lo hi mx => match T t, e.eval x, e.evalo lo, e.evalo hi, e.evalo mx with
    | some i, some (.slice p len cap), some l, some h, some m => match i.k with
      | .slice el => match T el with
        | some ie => aslice ie.size p len cap l h m
        | none => none
      | _ => none
    | _, _, _, _, _ => none
  | .fieldAddr s x f => match T s, e.eval x with
    | some i, some (.pointer p) => match i.k with
      | .struct fs => match fs[f]? with
        | some (off, ft) => match T ft with
          | some j => bif j.size == 0 then none else some ([p.isSome = true], .pointer (padd p off))
          | none => none
        | none => none
      | _ => none
    | _, _ => none
  | .field s x f => match T s, e.eval x with
    | some i, some (.agg cs) => match i.k with
      | .struct fs => match fs[f]? with
        | some (off, ft) => match T ft with
          | some j => bif nonOther j.k then match aggPart cs.toList off j.size j.isAgg with
              | some v => some ([], v)
              | none => none
            else none
          | none => none
        | none => none
      | _ => none
    | _, _ => none
  | .indexAddr t x ix => match T t, e.eval x, e.eval ix with
    | some i, some v, some (.int _ n) => match i.k, v with
      | .slice el, .slice p len _ => match T el with
        | some ie => some ([0 ≤ n, n < len, p.isSome = true], .pointer (padd p (n.toNat * ie.size)))
        | none => none
      | .arr len el, .pointer p => match T el with
        | some ie => some ([0 ≤ n, n < len, p.isSome = true], .pointer (padd p (n.toNat * ie.size)))
        | none => none
      | _, _ => none
    | _, _, _ => none
  | .index t x ix => match T t, e.eval x, e.eval ix with
    | some i, some v, some (.int _ n) => match i.k, v with
      | .str, .string s => some ([0 ≤ n, n < s.size], .int .u8 ((s.data.toList.getD n.toNat 0).toNat : Int))
      | .arr len el, .agg cs => match T el, aints cs.toList with
        | some ie, some (k, l) => match ie.k with
          | .int _ => bif (ie.size == 1 && Nat.ble len l.length) then some ([0 ≤ n, n < len], .int k (l.getD n.toNat 0)) else none
          | _ => none
        | _, _ => none
      | _, _ => none
    | _, _, _ => none
  | .extract x j => match e.eval x with
    | some (.tuple vs) => match vs.toList[j]? with
      | some v => some ([], v)
      | none => none
    | _ => none
  | .build t parts => match T t, e.evalp parts.toList with
    | some i, some l => match abuild T i l with
      | some v => some ([], v)
      | none => none
    | _, _ => none
  | .call c => match c.callee, e.evals c.args.toList with
    | .builtin b, some args => abuiltin T b c.argTypes.toList args
    | _, _ => none
  | _ => none

/-! ### Proofs -/
section
variable {P : Program} {T : TT}

theorem run_sliceBound (x : Int) (k : IntKind) (y : Nat) (code : BoundsCode) (w : World) (h0 : 0 ≤ x) (h1 : x ≤ y) :
    (Instr.sliceBound (.int k x) y code).run P w = .ok x.toNat w := by
  simp [Instr.sliceBound, asIntOf, h0, h1]

theorem padd_zero (p : Option Addr) : padd p 0 = p := by cases p <;> rfl

theorem slp_eq (p : Option Addr) (l m size : Nat) : (if m = l then p else p.map (·.add (l * size))) = slp p l m size := rfl

theorem aslice_sound {t el : TypeId} {ie : TI} (ht : P.underlying t = some (.slice el)) (he : ie.ok P el) {p : Option Addr} {len cap : Nat} {lo hi mx : Option Value}
    {ps : List Prop} {v : Value} (h : aslice ie.size p len cap lo hi mx = some (ps, v)) (hp : ∀ q ∈ ps, q) (w : World) :
    (Instr.slice t (.slice p len cap) lo hi mx).run P w = .ok v w := by
  unfold aslice at h
  split at h
  · obtain ⟨rfl, rfl⟩ := by simpa using h
    simp only [Instr.slice, Sem.run_bind, run_underlying ht, Result.andThen_ok, Instr.sliceBounds, Sem.run_pure, he.sizeOf]
    cases p <;> simp [Addr.add]
  · rename_i k h'
    obtain ⟨rfl, rfl⟩ := by simpa using h
    have a1 := hp _ (List.mem_cons_self ..)
    have a2 := hp (h' ≤ cap) (by simp)
    simp only [Instr.slice, Sem.run_bind, run_underlying ht, Result.andThen_ok, Instr.sliceBounds, Sem.run_pure, he.sizeOf, run_sliceBound h' _ _ _ w a1 a2]
    cases p <;> simp [Addr.add]
  · rename_i k l
    obtain ⟨rfl, rfl⟩ := by simpa using h
    have a1 := hp _ (List.mem_cons_self ..)
    have a2 := hp (l ≤ len) (by simp)
    simp only [Instr.slice, Sem.run_bind, run_underlying ht, Result.andThen_ok, Instr.sliceBounds, Sem.run_pure, he.sizeOf, run_sliceBound l _ _ _ w a1 a2, slp_eq]
  · rename_i k l k' h'
    obtain ⟨rfl, rfl⟩ := by simpa using h
    have a1 := hp (0 ≤ h') (by simp)
    have a2 := hp (h' ≤ cap) (by simp)
    have a3 := hp (0 ≤ l) (by simp)
    have a4 := hp (l ≤ h') (by simp)
    simp only [Instr.slice, Sem.run_bind, run_underlying ht, Result.andThen_ok, Instr.sliceBounds, Sem.run_pure, he.sizeOf, run_sliceBound h' _ _ _ w a1 a2,
      run_sliceBound l _ h'.toNat _ w a3 (by omega), slp_eq]
  · rename_i k l k' h' k'' m
    obtain ⟨rfl, rfl⟩ := by simpa using h
    have a1 := hp (0 ≤ h') (by simp)
    have a2 := hp (h' ≤ m) (by simp)
    have a3 := hp (0 ≤ l) (by simp)
    have a4 := hp (l ≤ h') (by simp)
    have a5 := hp (0 ≤ m) (by simp)
    have a6 := hp (m ≤ cap) (by simp)
    simp only [Instr.slice, Sem.run_bind, run_underlying ht, Result.andThen_ok, Instr.sliceBounds, Sem.run_pure, he.sizeOf, run_sliceBound m _ _ _ w a5 a6,
      run_sliceBound h' _ m.toNat _ w a1 (by omega), run_sliceBound l _ h'.toNat _ w a3 (by omega), slp_eq]
  · cases h

theorem foldl_lset (v : List Value) : ∀ (off j : Nat) (c : Array Value), off + j + v.length ≤ c.size →
    ((v.zipIdx j).foldl (fun cs (x : Value × Nat) => cs.setIfInBounds (off + x.2) x.1) c).toList = lset c.toList (off + j) v := by
  induction v with
  | nil =>
    intro off j c h
    rw [lset_eq _ _ _ (by simpa using h)]
    simp
  | cons x v ih =>
    intro off j c h
    simp only [List.zipIdx_cons, List.foldl_cons]
    rw [ih off (j + 1) _ (by simp at h ⊢; omega)]
    rw [lset_eq _ _ _ (by simp at h ⊢; omega), lset_eq _ _ _ (by simp at h ⊢; omega)]
    have e := list_seg_step c.toList (off + j) x v (by simp at h ⊢; omega)
    simpa [Array.toList_setIfInBounds, Nat.add_assoc] using e

theorem bfill_sound {place place' : Nat → Option (Nat × Nat)} (hpl : ∀ i, place i = place' i) : ∀ {parts : List (Nat × Value)} {c : Array Value} {cs : List Value},
    bfill place c.toList parts = some cs → Instr.fill place' c parts = some cs.toArray := by
  intro parts
  induction parts with
  | nil =>
    intro c cs h
    simp only [bfill, Option.some.injEq] at h
    subst h
    rfl
  | cons x rest ih =>
    obtain ⟨i, v⟩ := x
    intro c cs h
    simp only [bfill] at h
    cases hp : place i with
    | none => simp [hp] at h
    | some y =>
      obtain ⟨off, size⟩ := y
      simp only [hp] at h
      cases hb : ((vcells v).length == size && Nat.ble (off + (vcells v).length) c.toList.length) with
      | false => rw [hb, cond_false] at h; cases h
      | true =>
        rw [hb, cond_true] at h
        simp only [Bool.and_eq_true, beq_iff_eq, Nat.ble_eq, Array.length_toList] at hb
        obtain ⟨h1, h2⟩ := hb
        rw [vcells_eq, Array.length_toList] at h1 h2
        have hf := foldl_lset v.cells.toList off 0 c (by simpa using h2)
        have hz : v.cells.zipIdx.foldl (fun cs (x : Value × Nat) => cs.setIfInBounds (off + x.2) x.1) c = (v.cells.toList.zipIdx 0).foldl (fun cs (x : Value × Nat) => cs.setIfInBounds (off + x.2) x.1) c := by
          rw [← Array.foldl_toList, Array.toList_zipIdx]
        simp only [Instr.fill, ← hpl i, hp]
        rw [if_neg (by simp only [Bool.or_eq_true, decide_eq_true_eq]; omega)]
        refine ih ?_
        rw [vcells_eq] at h
        rw [← h]
        congr 1
        have e : (Array.foldl (fun cs (x : Value × Nat) => match x with | (c, j) => cs.setIfInBounds (off + j) c) c v.cells.zipIdx) =
            v.cells.zipIdx.foldl (fun cs (x : Value × Nat) => cs.setIfInBounds (off + x.2) x.1) c := rfl
        rw [e, hz, hf, Nat.add_zero]

theorem fplaces_sound (hT : TTok P T) (w : World) : ∀ {F : List Field} {ps : List (Nat × Nat)}, fplaces T (F.map fun f => (f.offset, f.type)) = some ps →
    (F.mapM (m := Sem) fun f => do pure (f.offset, ← sizeOf f.type)).run P w = .ok ps w := by
  intro F
  induction F with
  | nil =>
    intro ps h
    simp only [List.map_nil, fplaces, Option.some.injEq] at h
    subst h
    simp
  | cons f F ih =>
    intro ps h
    simp only [List.map_cons, fplaces] at h
    cases hi : T f.type with
    | none => simp [hi] at h
    | some i =>
      simp only [hi] at h
      cases hr : fplaces T (F.map fun f => (f.offset, f.type)) with
      | none => simp [hr] at h
      | some r =>
        simp only [hr, Option.some.injEq] at h
        subst h
        have ih' := ih hr
        simp only [List.mapM_cons, Sem.run_bind, (hT _ _ hi).sizeOf, Result.andThen_ok, Sem.run_pure, ih']

theorem abuild_sound (hT : TTok P T) {t : TypeId} {i : TI} (hi : i.ok P t) {parts : Array (Nat × Value)} {v : Value} (h : abuild T i parts.toList = some v) (w : World) :
    (Instr.build t parts).run P w = .ok v w := by
  obtain ⟨inf, z, h1, h2, h3, h4, h5⟩ := hi.info
  have hz : (zeroValue t).run P w = .ok z w := by simp [zeroValue, typeInfo, h1, h4]
  have hk := hi.k
  unfold abuild at h
  split at h
  · rename_i fs hik
    rw [hik] at hk
    obtain ⟨F, hF, hfs⟩ := hk
    cases hp : fplaces T fs with
    | none => simp [hp] at h
    | some ps =>
      simp only [hp] at h
      cases hb : bfill (fun j => ps[j]?) i.zero parts.toList with
      | none => simp [hb] at h
      | some cs =>
        simp only [hb, Option.some.injEq] at h
        subst h
        rw [← hfs] at hp
        have hm := fplaces_sound (P := P) hT w hp
        have hb' := bfill_sound (place := fun j => ps[j]?) (c := z.cells) (place' := fun j => ps.toArray[j]?) (fun j => by simp) (by rw [h5]; exact hb)
        have hm' : (F.mapM (m := Sem) fun f => do pure (f.offset, ← sizeOf f.type)).run P w = .ok ps.toArray w := by
          rw [Array.mapM_eq_mapM_toList]
          simp only [Sem.run_map, hm, Result.andThen_ok]
        simp only [Instr.build, Sem.run_bind, hz, Result.andThen_ok, run_underlying hF, hm', hb', Sem.run_pure]
  · rename_i n e hik
    rw [hik] at hk
    cases he : T e with
    | none => simp [he] at h
    | some ie =>
      simp only [he] at h
      cases hb : bfill (fun j => some (j * ie.size, ie.size)) i.zero parts.toList with
      | none => simp [hb] at h
      | some cs =>
        simp only [hb, Option.some.injEq] at h
        subst h
        have hb' := bfill_sound (c := z.cells) (place' := fun j => some (j * ie.size, ie.size)) (fun j => rfl) (by rw [h5]; exact hb)
        simp only [TK.ok] at hk
        simp only [Instr.build, Sem.run_bind, hz, Result.andThen_ok, run_underlying hk, (hT _ _ he).sizeOf, hb', Sem.run_pure]
  · cases h

end
end Go.Eng

/- The operations that touch no memory: the one theorem. Conditions: the table of types is the program's. -/
namespace Go.Eng
open Go

section
variable {P : Program} {T : TT}

theorem nonOther_ne {k : TK} (h : nonOther k = true) : k ≠ .other := by cases k <;> simp_all [nonOther]

theorem underlying_some {t : TypeId} {i : TI} (hi : i.ok P t) (h : nonOther i.k = true) : ∃ d, P.underlying t = some d := by
  have hk := hi.k
  cases e : i.k <;> rw [e] at hk h <;> simp only [TK.ok] at hk
  case other => simp [nonOther] at h
  case struct => obtain ⟨F, hF, _⟩ := hk; exact ⟨_, hF⟩
  case func => obtain ⟨_, _, _, hF⟩ := hk; exact ⟨_, hF⟩
  all_goals exact ⟨_, hk⟩

theorem run_part {t : TypeId} {i : TI} (hi : i.ok P t) (h : nonOther i.k = true) {cs : Array Value} {off : Nat} {v : Value} (hv : aggPart cs.toList off i.size i.isAgg = some v) (w : World) :
    (part t cs off).run P w = .ok v w := by
  have ha := hi.isAggr (nonOther_ne h) w
  unfold aggPart at hv
  cases hg : i.isAgg with
  | true =>
    rw [hg, cond_true, Option.some.injEq] at hv
    subst hv
    rw [hg] at ha
    simp only [part, Sem.run_bind, ha, Result.andThen_ok, Sem.run_ite, if_true, hi.sizeOf, Sem.run_pure]
    congr 2
    apply Array.ext'
    simp [List.take_drop]
  | false =>
    rw [hg, cond_false] at hv
    rw [hg] at ha
    have hv' : cs[off]? = some v := by simpa using hv
    simp only [part, Sem.run_bind, ha, Result.andThen_ok, Sem.run_ite, hv', Bool.false_eq_true, if_false, Sem.run_pure]

theorem aints_get : ∀ {l : List Value} {k : IntKind} {r : List Int}, aints l = some (k, r) → l = r.map (Value.int k)
  | [], k, r, h => by simp [aints] at h
  | [.int k' n], k, r, h => by
    simp only [aints, Option.some.injEq, Prod.mk.injEq] at h
    obtain ⟨rfl, rfl⟩ := h
    rfl
  | .int k' n :: y :: l, k, r, h => by
    simp only [aints] at h
    cases hr : aints (y :: l) with
    | none => simp [hr] at h
    | some x =>
      obtain ⟨k'', r'⟩ := x
      simp only [hr] at h
      cases hk : kindN k' == kindN k'' with
      | false => rw [hk, cond_false] at h; cases h
      | true =>
        rw [hk, cond_true] at h
        obtain rfl := kindN_inj hk
        simp only [Option.some.injEq, Prod.mk.injEq] at h
        obtain ⟨rfl, rfl⟩ := h
        rw [aints_get hr]
        rfl
  | .bool _ :: _, k, r, h | .float _ _ :: _, k, r, h | .complex _ _ _ :: _, k, r, h | .string _ :: _, k, r, h | .pointer _ :: _, k, r, h | .slice _ _ _ :: _, k, r, h
  | .map _ :: _, k, r, h | .chan _ :: _, k, r, h | .func _ _ _ :: _, k, r, h | .nilFunc :: _, k, r, h | .iface _ _ :: _, k, r, h | .nilIface :: _, k, r, h | .agg _ :: _, k, r, h | .tuple _ :: _, k, r, h => by
    simp [aints] at h

theorem abuiltin_sound (hT : TTok P T) {b : Builtin} {ts : Array TypeId} {args : List Value} {ps : List Prop} {v : Value} (h : abuiltin T b ts.toList args = some (ps, v))
    (ty : TypeId) (cs : Array Bool) (w : World) : (builtin b ts ty cs args.toArray).run P w = .ok (.value v) w := by
  unfold abuiltin at h
  split at h
  · rename_i t ts' x rest hts
    split at h
    · rename_i i hi
      have hk := (hT _ _ hi).k
      have e0 : ts[0]? = some t := by rw [← Array.getElem?_toList, hts]; rfl
      split at h
      · rename_i el p n c hik
        obtain ⟨rfl, rfl⟩ := by simpa only [Option.some.injEq, Prod.mk.injEq] using h
        rw [hik] at hk
        simp [builtin, Builtin.len_, e0, run_underlying hk, goInt]
      · rename_i s hik
        obtain ⟨rfl, rfl⟩ := by simpa only [Option.some.injEq, Prod.mk.injEq] using h
        rw [hik] at hk
        simp [builtin, Builtin.len_, e0, run_underlying hk, goInt]
      · rename_i n el hik
        obtain ⟨rfl, rfl⟩ := by simpa only [Option.some.injEq, Prod.mk.injEq] using h
        rw [hik] at hk
        rename_i xv _
        cases xv <;> simp [builtin, Builtin.len_, e0, run_underlying hk, goInt]
      · cases h
    · cases h
  · rename_i t ts' x rest hts
    split at h
    · rename_i i hi
      have hk := (hT _ _ hi).k
      have e0 : ts[0]? = some t := by rw [← Array.getElem?_toList, hts]; rfl
      split at h
      · rename_i el p n c hik
        obtain ⟨rfl, rfl⟩ := by simpa only [Option.some.injEq, Prod.mk.injEq] using h
        rw [hik] at hk
        simp [builtin, Builtin.cap_, e0, run_underlying hk, goInt]
      · cases h
    · cases h
  · split at h
    · rename_i v' hv
      obtain ⟨rfl, rfl⟩ := by simpa only [Option.some.injEq, Prod.mk.injEq] using h
      unfold aextreme at hv
      split at hv
      · rename_i k x k' y
        obtain rfl := by simpa using hv
        by_cases hxy : x < y <;> simp [builtin, Builtin.max_, Builtin.max2, hxy]
      · cases hv
    · cases h
  · split at h
    · rename_i v' hv
      obtain ⟨rfl, rfl⟩ := by simpa only [Option.some.injEq, Prod.mk.injEq] using h
      unfold aextreme at hv
      split at hv
      · rename_i k x k' y
        obtain rfl := by simpa using hv
        by_cases hxy : y < x <;> simp [builtin, Builtin.min_, Builtin.min2, hxy]
      · cases hv
    · cases h
  · cases h

theorem map_args {n : Nat} {e : Env} {a : Act} (he : EnvRel n e a) {l : Array Operand} {vs : List Value} (h : e.evals l.toList = some vs) : l.map a.eval = vs.toArray := by
  apply Array.ext'
  simpa using he.evals h

theorem run_value {s : Sem Value} {v : Value} {w : World} (h : s.run P w = .ok v w) : ((do pure (Next.value (← s)) : Sem Next)).run P w = .ok (.value v) w := by
  rw [Sem.run_bind, h]; rfl

theorem run_fieldAt (hT : TTok P T) {s : TypeId} {i j : TI} (hi : T s = some i) {fs : List (Nat × TypeId)} (hik : i.k = .struct fs) {f off : Nat} {ft : TypeId} (hf : fs[f]? = some (off, ft))
    (hj : T ft = some j) (hz : j.size ≠ 0) {p : Option Addr} (hp : p.isSome = true) (w : World) : (Instr.fieldAt s (.pointer p) f).run P w = .ok (.pointer (padd p off)) w := by
  have hk := (hT _ _ hi).k
  rw [hik] at hk
  obtain ⟨F, hF, hfs⟩ := hk
  cases p with
  | none => simp at hp
  | some a =>
    have hFf : ∃ fd, F[f]? = some fd ∧ fd.offset = off ∧ fd.type = ft := by
      rw [← hfs] at hf
      simp only [List.getElem?_map, Option.map_eq_some_iff, Prod.mk.injEq, Array.getElem?_toList] at hf
      exact hf
    obtain ⟨fd, h1, rfl, rfl⟩ := hFf
    simp [Instr.fieldAt, run_underlying hF, h1, Instr.sureAddr, fieldPlace, (hT _ _ hj).sizeOf, hz, padd]

theorem run_field (hT : TTok P T) {s : TypeId} {i j : TI} (hi : T s = some i) {fs : List (Nat × TypeId)} (hik : i.k = .struct fs) {f off : Nat} {ft : TypeId} (hf : fs[f]? = some (off, ft))
    (hj : T ft = some j) (hno : nonOther j.k = true) {cs : Array Value} {v : Value} (hv : aggPart cs.toList off j.size j.isAgg = some v) (w : World) : (Instr.field s (.agg cs) f).run P w = .ok v w := by
  have hk := (hT _ _ hi).k
  rw [hik] at hk
  obtain ⟨F, hF, hfs⟩ := hk
  have hFf : ∃ fd, F[f]? = some fd ∧ fd.offset = off ∧ fd.type = ft := by
    rw [← hfs] at hf
    simp only [List.getElem?_map, Option.map_eq_some_iff, Prod.mk.injEq, Array.getElem?_toList] at hf
    exact hf
  obtain ⟨fd, h1, rfl, rfl⟩ := hFf
  simp only [Instr.field, Sem.run_bind, run_underlying hF, Result.andThen_ok, h1, asAgg, Sem.run_pure, run_part (hT _ _ hj) hno hv]

theorem run_indexAt_slice {t el : TypeId} {ie : TI} (ht : P.underlying t = some (.slice el)) (he : ie.ok P el) {p : Option Addr} {len cap : Nat} {k : IntKind} {n : Int} (h0 : 0 ≤ n) (h1 : n < len)
    (hp : p.isSome = true) (w : World) : (Instr.indexAt t (.slice p len cap) (.int k n)).run P w = .ok (.pointer (padd p (n.toNat * ie.size))) w := by
  cases p with
  | none => simp at hp
  | some a => simp [Instr.indexAt, asIntOf, run_underlying ht, h0, h1, he.sizeOf, padd]

theorem run_indexAt_arr {t el : TypeId} {ie : TI} {len : Nat} (ht : P.underlying t = some (.array len el)) (he : ie.ok P el) {p : Option Addr} {k : IntKind} {n : Int} (h0 : 0 ≤ n) (h1 : n < len)
    (hp : p.isSome = true) (w : World) : (Instr.indexAt t (.pointer p) (.int k n)).run P w = .ok (.pointer (padd p (n.toNat * ie.size))) w := by
  cases p with
  | none => simp at hp
  | some a => simp [Instr.indexAt, asIntOf, run_underlying ht, h0, h1, he.sizeOf, padd, Instr.sureAddr]

theorem run_index_str {t : TypeId} (ht : P.underlying t = some .string) {s : ByteArray} {k : IntKind} {n : Int} (h0 : 0 ≤ n) (h1 : n < s.size) (w : World) :
    (Instr.index t (.string s) (.int k n)).run P w = .ok (.int .u8 ((s.data.toList.getD n.toNat 0).toNat : Int)) w := by
  have hlt : n.toNat < s.size := by omega
  have e : s[n.toNat]? = some s[n.toNat] := by simp [hlt]
  have e2 : s.data.toList.getD n.toNat 0 = s[n.toNat] := by
    have hd : n.toNat < s.data.size := hlt
    have e3 : s.data.toList[n.toNat]? = some s[n.toNat] := by
      rw [Array.getElem?_toList, Array.getElem?_eq_getElem hd]
      rfl
    simp only [List.getD, e3, Option.getD_some]
  rw [e2]
  simp [Instr.index, asIntOf, run_underlying ht, h0, e]

theorem run_index_arr {t el : TypeId} {ie : TI} {len : Nat} (ht : P.underlying t = some (.array len el)) (he : ie.ok P el) {ik : IntKind} (hek : ie.k = .int ik) (hsz : ie.size = 1)
    {cs : Array Value} {k : IntKind} {l : List Int} (hl : aints cs.toList = some (k, l)) (hlen : len ≤ l.length) {k' : IntKind} {n : Int} (h0 : 0 ≤ n) (h1 : n < len) (w : World) :
    (Instr.index t (.agg cs) (.int k' n)).run P w = .ok (.int k (l.getD n.toNat 0)) w := by
  have hg := aints_get hl
  have hlt : n.toNat < l.length := by omega
  have e : cs.toList[n.toNat]? = some (.int k (l.getD n.toNat 0)) := by
    rw [hg, List.getElem?_map, List.getElem?_eq_getElem hlt]
    simp [List.getD, hlt]
  have hpart := run_part (P := P) he (by rw [hek]; rfl) (cs := cs) (off := n.toNat * ie.size) (v := .int k (l.getD n.toNat 0)) (by
    unfold aggPart TI.isAgg
    rw [hek, hsz, Nat.mul_one]
    simpa using e) w
  simp only [Instr.index, asIntOf, Sem.run_bind, Sem.run_pure, Result.andThen_ok, run_underlying ht]
  rw [Sem.run_ite, if_pos ⟨h0, h1⟩]
  simp only [Sem.run_bind, he.sizeOf, Result.andThen_ok, hpart]

theorem apv_sound (hT : TTok P T) {n : Nat} {e : Env} {a : Act} (he : EnvRel n e a) {o : Oper} {ps : List Prop} {v : Value} (h : apv T e o.op = some (ps, v)) (hp : ∀ q ∈ ps, q) (w : World) :
    (execOp a.eval o).run P w = .ok (.value v) w := by
  obtain ⟨dst, op, ty, pos, after, guard⟩ := o
  dsimp only at h
  cases op with
  | move x =>
    simp only [apv] at h
    split at h
    · rename_i v' hx
      obtain ⟨rfl, rfl⟩ := by simpa only [Option.some.injEq, Prod.mk.injEq] using h
      simp [execOp, he.eval hx]
    · cases h
  | assign x =>
    simp only [apv] at h
    split at h
    · rename_i v' hx
      obtain ⟨rfl, rfl⟩ := by simpa only [Option.some.injEq, Prod.mk.injEq] using h
      simp [execOp, he.eval hx]
    · cases h
  | pick c x y =>
    simp only [apv] at h
    split at h
    · rename_i t vx vy hc hx hy
      obtain ⟨rfl, rfl⟩ := by simpa only [Option.some.injEq, Prod.mk.injEq] using h
      simp [execOp, he.eval hc, he.eval hx, he.eval hy, asBool, pickV_eq]
    · cases h
  | nilCheck x =>
    simp only [apv] at h
    split at h
    · rename_i p hx
      obtain ⟨rfl, rfl⟩ := by simpa only [Option.some.injEq, Prod.mk.injEq] using h
      have h0 := hp _ (List.mem_singleton.2 rfl)
      cases p with
      | none => simp at h0
      | some ad => simp [execOp, he.eval hx]
    · rename_i v' hne hx
      obtain ⟨rfl, rfl⟩ := by simpa only [Option.some.injEq, Prod.mk.injEq] using h
      have h0 := hp _ (List.mem_singleton.2 rfl)
      cases v' with
      | func fn f c => cases fn <;> simp only [callable] at h0 <;> simp [execOp, he.eval hx]
      | _ => simp only [callable] at h0
    · cases h
  | binOp op t x y ty2 =>
    simp only [apv] at h
    split at h
    · rename_i i va vb hi hx hy
      have := abin_sound (hT _ _ hi) h hp x y w
      refine run_value ?_
      rw [he.eval hx, he.eval hy]
      exact this
    · cases h
  | unOp op t x =>
    simp only [apv] at h
    split at h
    · rename_i b hx
      obtain ⟨rfl, rfl⟩ := by simpa only [Option.some.injEq, Prod.mk.injEq] using h
      exact run_value (by rw [he.eval hx]; rfl)
    · rename_i k m hx
      obtain ⟨rfl, rfl⟩ := by simpa only [Option.some.injEq, Prod.mk.injEq] using h
      exact run_value (by rw [he.eval hx]; rfl)
    · rename_i k m hx
      obtain ⟨rfl, rfl⟩ := by simpa only [Option.some.injEq, Prod.mk.injEq] using h
      exact run_value (by rw [he.eval hx]; rfl)
    · cases h
  | convert s d x =>
    simp only [apv] at h
    split at h
    · rename_i is id kx m his hid hx
      split at h
      · rename_i k hik
        cases hno : nonOther is.k with
        | false => rw [hno, cond_false] at h; cases h
        | true =>
          rw [hno, cond_true] at h
          obtain ⟨rfl, rfl⟩ := by simpa only [Option.some.injEq, Prod.mk.injEq] using h
          obtain ⟨ds, hds⟩ := underlying_some (hT _ _ his) hno
          have hkd := (hT _ _ hid).k
          rw [hik] at hkd
          simp only [TK.ok] at hkd
          refine run_value ?_
          rw [he.eval hx]
          simp [convert, run_underlying hds, run_underlying hkd, Conv.intToInt]
      · cases h
    · cases h
  | makeFunc fn first cap =>
    simp only [apv] at h
    split at h
    · rename_i va vb hx hy
      obtain ⟨rfl, rfl⟩ := by simpa only [Option.some.injEq, Prod.mk.injEq] using h
      refine run_value ?_
      rw [map_args he hx, map_args he hy]
      rfl
    · cases h
  | slice t x lo hi mx =>
    simp only [apv] at h
    split at h
    · rename_i i p len cap l h' m hi' hx hlo hhi hmx
      split at h
      · rename_i el hik
        split at h
        · rename_i ie hie
          have hk := (hT _ _ hi').k
          rw [hik] at hk
          simp only [TK.ok] at hk
          have := aslice_sound (P := P) hk (hT _ _ hie) h hp w
          refine run_value ?_
          rw [he.eval hx, he.evalo hlo, he.evalo hhi, he.evalo hmx]
          simp only [Instr.sliceAt, Sem.run_bind, run_underlying hk, Result.andThen_ok]
          exact this
        · cases h
      · cases h
    · cases h
  | fieldAddr s x f =>
    simp only [apv] at h
    split at h
    · rename_i i p hi hx
      split at h
      · rename_i fs hik
        split at h
        · rename_i off ft hf
          split at h
          · rename_i j hj
            cases hz : j.size == 0 with
            | true => rw [hz, cond_true] at h; cases h
            | false =>
              rw [hz, cond_false] at h
              obtain ⟨rfl, rfl⟩ := by simpa only [Option.some.injEq, Prod.mk.injEq] using h
              have h0 := hp _ (List.mem_singleton.2 rfl)
              refine run_value ?_
              rw [he.eval hx]
              exact run_fieldAt hT hi hik hf hj (by simpa using hz) h0 w
          · cases h
        · cases h
      · cases h
    · cases h
  | field s x f =>
    simp only [apv] at h
    split at h
    · rename_i i cs hi hx
      split at h
      · rename_i fs hik
        split at h
        · rename_i off ft hf
          split at h
          · rename_i j hj
            cases hno : nonOther j.k with
            | false => rw [hno, cond_false] at h; cases h
            | true =>
              rw [hno, cond_true] at h
              split at h
              · rename_i v' hv
                obtain ⟨rfl, rfl⟩ := by simpa only [Option.some.injEq, Prod.mk.injEq] using h
                refine run_value ?_
                rw [he.eval hx]
                exact run_field hT hi hik hf hj hno hv w
              · cases h
          · cases h
        · cases h
      · cases h
    · cases h
  | indexAddr t x ix =>
    simp only [apv] at h
    split at h
    · rename_i i v' k m hi hx hix
      have hk := (hT _ _ hi).k
      split at h
      · rename_i el p len cap hik
        rw [hik] at hk
        split at h
        · rename_i ie hie
          obtain ⟨rfl, rfl⟩ := by simpa only [Option.some.injEq, Prod.mk.injEq] using h
          refine run_value ?_
          rw [he.eval hx, he.eval hix]
          exact run_indexAt_slice hk (hT _ _ hie) (hp _ (by simp)) (hp (m < len) (by simp)) (hp (p.isSome = true) (by simp)) w
        · cases h
      · rename_i len el p hik
        rw [hik] at hk
        split at h
        · rename_i ie hie
          obtain ⟨rfl, rfl⟩ := by simpa only [Option.some.injEq, Prod.mk.injEq] using h
          refine run_value ?_
          rw [he.eval hx, he.eval hix]
          exact run_indexAt_arr hk (hT _ _ hie) (hp _ (by simp)) (hp (m < len) (by simp)) (hp (p.isSome = true) (by simp)) w
        · cases h
      · cases h
    · cases h
  | index t x ix =>
    simp only [apv] at h
    split at h
    · rename_i i v' k m hi hx hix
      have hk := (hT _ _ hi).k
      split at h
      · rename_i s hik
        rw [hik] at hk
        obtain ⟨rfl, rfl⟩ := by simpa only [Option.some.injEq, Prod.mk.injEq] using h
        refine run_value ?_
        rw [he.eval hx, he.eval hix]
        exact run_index_str hk (hp _ (by simp)) (hp (m < s.size) (by simp)) w
      · rename_i len el cs hik
        rw [hik] at hk
        split at h
        · rename_i ie k' l hie hl
          split at h
          · rename_i ik hek
            cases hb : (ie.size == 1 && Nat.ble len l.length) with
            | false => rw [hb, cond_false] at h; cases h
            | true =>
              rw [hb, cond_true] at h
              obtain ⟨rfl, rfl⟩ := by simpa only [Option.some.injEq, Prod.mk.injEq] using h
              simp only [Bool.and_eq_true, beq_iff_eq, Nat.ble_eq] at hb
              refine run_value ?_
              rw [he.eval hx, he.eval hix]
              exact run_index_arr hk (hT _ _ hie) hek hb.1 hl hb.2 (hp _ (by simp)) (hp (m < len) (by simp)) w
          · cases h
        · cases h
      · cases h
    · cases h
  | extract x j =>
    simp only [apv] at h
    split at h
    · rename_i vs hx
      split at h
      · rename_i v' hv
        obtain ⟨rfl, rfl⟩ := by simpa only [Option.some.injEq, Prod.mk.injEq] using h
        refine run_value ?_
        rw [he.eval hx]
        have hv' : vs[j]? = some v' := by simpa using hv
        simp [Instr.extract, hv']
      · cases h
    · cases h
  | build t parts =>
    simp only [apv] at h
    split at h
    · rename_i i l hi hl
      split at h
      · rename_i v' hv
        obtain ⟨rfl, rfl⟩ := by simpa only [Option.some.injEq, Prod.mk.injEq] using h
        refine run_value ?_
        have e1 : (parts.map fun (j, x) => (j, a.eval x)).toList = l := by simpa using he.evalp hl
        exact abuild_sound hT (hT _ _ hi) (by rw [e1]; exact hv) w
      · cases h
    · cases h
  | call c =>
    simp only [apv] at h
    split at h
    · rename_i b args hc hargs
      have := abuiltin_sound (P := P) hT h ty (c.args.map fun | .const _ => true | _ => false) w
      simp only [execOp, resolve, hc, map_args he hargs, Sem.run_bind, Sem.run_pure, Result.andThen_ok, invoke]
      exact this
    · cases h
  | _ => simp only [apv] at h; cases h

end
end Go.Eng

/- Contracts over the view, and what every operation asks and does. Definitions alone. -/
namespace Go.Eng
open Go

/-- The fence that lets everything in; the frames are those of an activation (none) or of a round of a range over a function. -/
def FW (ro : Option Nat) : Fence := { fn := fun _ => True, depth := none, alive := false, round := ro }

def Post (σ : Heap) (w : World) (R : Value → Heap → Prop) (e : Ending) (w' : World) : Prop :=
  ∃ v σ', e = .returned v ∧ Inv σ w [] σ' w' ∧ R v σ'

/-- A contract over the view: from every world that the view fits the call returns, what lies outside the view is as it was, and R holds of the result and the view behind the call. -/
def ACalls (P : Program) (f : FuncId) (args : List Value) (σ : Heap) (R : Value → Heap → Prop) : Prop :=
  (∃ fn, P.funcs[f]? = some fn ∧ fn.body.isNone = false ∧ (fn.name == "runtime.NumGoroutine") = false) ∧
  ∀ w, Rel σ w → CallsIn (FW none) 0 P f args.toArray w (Post σ w R)

/-- The same of a function's value. -/
def ACallV (P : Program) (fv : Value) (args : List Value) (σ : Heap) (R : Value → Heap → Prop) : Prop :=
  ∀ w, Rel σ w → ∃ nx, (do let d ← Deferred.ofValue fv args.toArray; invoke d.target d.args : Sem Next).run P w = .ok nx w ∧
    match nx with
    | .enter f as => CallsIn (FW none) 0 P f as w (Post σ w R)
    | .round l f tmps x y => RoundIn (FW none) 0 P l f tmps x y w (Post σ w R)
    | _ => False

/-- The result has a shape. -/
def shK (sh : Sh) (k : Value → Heap → Prop) (v : Value) (σ : Heap) : Prop := ∃ s : sh.T, v = sh.enc s ∧ k (sh.enc s) σ

def acall (P : Program) (sh : Sh) (fv : Value) (args : List Value) (σ : Heap) (k : Value → Heap → Prop) : Prop :=
  match fv with
  | .func (.func f) first cap => ACalls P f (first.toList ++ args ++ cap.toList) σ (shK sh k)
  | fv => ACallV P fv args σ (shK sh k)

def Heap.ldT (σ : Heap) (i : TI) : Option Addr → Option Value
  | some ⟨r, o, none⟩ => bif i.isAgg then match σ.rds r o i.size with
      | some l => some (.agg l.toArray)
      | none => none
    else σ.rd r o
  | _ => none

def aload (i : TI) (p : Option Addr) (σ : Heap) (k : Value → Heap → Prop) : Prop := ∃ s : i.sh.T, σ.ldT i p = some (i.sh.enc s) ∧ k (i.sh.enc s) σ

def oneCells (vs : List Value) : Prop := ∀ v ∈ vs, v.oneCell' = true

def astore (p : Option Addr) (vs : List Value) (σ : Heap) (k : Heap → Prop) : Prop :=
  ∃ r o g cs t n, p = some ⟨r, o, none⟩ ∧ σ r = some (.cells g cs t n) ∧ g ≠ 0 ∧ o + vs.length ≤ cs.length ∧ oneCells vs ∧ k (σ.ins r (.cells g (lset cs o vs) t n))

def anew (cs : List Value) (t : TypeId) (n : Nat) (σ : Heap) (k : Nat → Heap → Prop) : Prop := ∀ r, σ r = none → k r (σ.ins r (.cells 1 cs t n))

def anewg (cs : List Value) (t : TypeId) (n : Nat) (σ : Heap) (k : Nat → Heap → Prop) : Prop := ∃ g, ∀ r, σ r = none → k r (σ.ins r (.cells g cs t n))

def anewo (o : Obj) (σ : Heap) (k : Nat → Heap → Prop) : Prop := ∃ g, ∀ r, σ r = none → k r (σ.ins r (.other g o))

def zrep (z : List Value) : Nat → List Value
  | 0 => []
  | n + 1 => z ++ zrep z n

/-- The n cells from p on. -/
def Heap.row (σ : Heap) (p : Option Addr) (n : Nat) (l : List Value) : Prop :=
  match p with
  | some ⟨r, o, none⟩ => σ.rds r o n = some l
  | none => n = 0 ∧ l = []
  | _ => False

/-- append: nothing to begin with, a row of one's own, or a row without room. -/
def aappend (el : TypeId) (ie : TI) (p : Option Addr) (len cap : Nat) (q : Option Addr) (m : Nat) (σ : Heap) (k : Value → Heap → Prop) : Prop :=
  ∃ news, σ.row q (m * ie.size) news ∧ oneCells news ∧ (len + m) * ie.bytes ≤ 140737488355328 ∧ len + m ≤ 140737488355328 ∧ 0 < ie.size ∧ ie.zero.length = ie.size ∧
  ((m = 0 ∧ len ≤ cap ∧ k (.slice p len cap) σ) ∨
   (0 < m ∧ len = 0 ∧ cap = 0 ∧ ∃ g, ∀ r c, σ r = none → m ≤ c → k (.slice (some ⟨r, 0, none⟩) m c) (σ.ins r (.cells g news el (c * ie.size)))) ∨
   (0 < m ∧ cap < len + m ∧ p.isSome = true ∧ ∃ olds, σ.row p (len * ie.size) olds ∧ ∃ g, ∀ r c, σ r = none → len + m ≤ c → k (.slice (some ⟨r, 0, none⟩) (len + m) c) (σ.ins r (.cells g (olds ++ news) el (c * ie.size)))) ∨
   (0 < m ∧ ∃ r g cs, p = some ⟨r, 0, none⟩ ∧ σ r = some (.cells g cs el (cap * ie.size)) ∧ g ≠ 0 ∧ cs.length = len * ie.size ∧ 
     ∀ r' c, (r' = r ∨ σ r' = none) → len + m ≤ c → k (.slice (some ⟨r', 0, none⟩) (len + m) c) ((σ.del r).ins r' (.cells g (cs ++ news) el (c * ie.size)))) ∨
   (0 < m ∧ len + m ≤ cap ∧ ∃ r o g cs n, p = some ⟨r, o, none⟩ ∧ σ r = some (.cells g cs el n) ∧ g ≠ 0 ∧ o + len * ie.size + m * ie.size ≤ cs.length ∧
     k (.slice p (len + m) cap) (σ.ins r (.cells g (lset cs (o + len * ie.size) news) el n))))

/-- append of so many zeros to nothing. -/
def agrow (el : TypeId) (ie : TI) (p : Option Addr) (len cap : Nat) (m : Int) (σ : Heap) (k : Value → Heap → Prop) : Prop :=
  p = none ∧ len = 0 ∧ cap = 0 ∧ 0 < m ∧ m.toNat * ie.bytes ≤ 140737488355328 ∧ m.toNat ≤ 140737488355328 ∧ 0 < ie.size ∧ ie.zero.length = ie.size ∧
    ∃ g, ∀ r c, σ r = none → m.toNat ≤ c → k (.slice (some ⟨r, 0, none⟩) m.toNat c) (σ.ins r (.cells g (zrep ie.zero m.toNat) el (c * ie.size)))

/-- make of a slice. -/
def amake (el : TypeId) (ie : TI) (l c : Int) (σ : Heap) (k : Value → Heap → Prop) : Prop :=
  0 ≤ l ∧ l ≤ c ∧ c ≤ 140737488355328 ∧ c * ie.bytes ≤ 281474976710656 ∧ ie.zero.length = ie.size ∧
  anewg (zrep ie.zero c.toNat) el (c.toNat * ie.size) σ fun r σ' => k (.slice (some ⟨r, 0, none⟩) l.toNat c.toNat) σ'

def mapAt (σ : Heap) (m : Option Nat) (k : (r g : Nat) → Array MapEntry → Nat → Prop) : Prop := ∃ r g es clock, m = some r ∧ σ r = some (.other g (.map es clock)) ∧ g ≠ 0 ∧ k r g es clock

def aupdate (kk : IntKind) (m : Option Nat) (key val : Value) (σ : Heap) (k : Heap → Prop) : Prop :=
  mapAt σ m fun r g es clock =>
    (∃ i v, Instr.findNow (.int kk) key es.toList 0 = some (some (i, v)) ∧ Instr.sameBits 10000 (((es[i]?).map (·.key)).getD key) key = true ∧ k (σ.ins r (.other g (.map (es.modify i fun e => { e with key, val }) clock)))) ∨
    (Instr.findNow (.int kk) key es.toList 0 = some none ∧ k (σ.ins r (.other g (.map (es.push { key, val, born := clock }) (clock + 1)))))

def adelete (kk : IntKind) (m : Option Nat) (key : Value) (σ : Heap) (k : Heap → Prop) : Prop :=
  mapAt σ m fun r g es clock =>
    (∃ i v, Instr.findNow (.int kk) key es.toList 0 = some (some (i, v)) ∧ k (σ.ins r (.other g (.map (es.eraseIdxIfInBounds i) clock)))) ∨
    (Instr.findNow (.int kk) key es.toList 0 = some none ∧ k σ)

/-- The entries that a step of a range over a map may come to. -/
def mapLeft (es : Array MapEntry) (since : Nat) (seen : Array Nat) : Array (Option MapEntry) :=
  let left := es.filter fun e => !seen.contains e.born
  let old := left.filter (·.born < since)
  let new := left.filter (·.born ≥ since)
  (if old.isEmpty then #[none] else #[]) ++ (old ++ new).map some

def anext (it : Option Addr) (σ : Heap) (k : Value → Heap → Prop) : Prop :=
  ∃ r g m gm since seen last es clock, it = some ⟨r, 0, none⟩ ∧ σ r = some (.other g (.mapIter (some m) since seen last)) ∧ g ≠ 0 ∧ σ m = some (.other gm (.map es clock)) ∧
    (!seen.isEmpty && !es.isEmpty && es.all (·.born ≥ last)) = false ∧
    ∀ c ∈ mapLeft es since seen, match c with
      | some e => k (.tuple #[.bool true, e.key, e.val]) (σ.ins r (.other g (.mapIter (some m) since (seen.push e.born) clock)))
      | none => k (.tuple #[.bool false]) σ

def aentry (ks es' : Sc) (it : Option Addr) (σ : Heap) (k : Value → Heap → Prop) : Prop :=
  ∃ r g m gm since seen es clock stamp e, it = some ⟨r, 0, none⟩ ∧ σ r = some (.other g (.mapIter (some m) since seen clock)) ∧ σ m = some (.other gm (.map es clock)) ∧
    seen.back? = some stamp ∧ es.find? (·.born == stamp) = some e ∧ ∃ (x : ks.T) (y : es'.T), e.key = ks.enc x ∧ e.val = es'.enc y ∧ k (.tuple #[ks.enc x, es'.enc y]) σ

def aclear (ie : TI) (p : Option Addr) (n : Nat) (σ : Heap) (k : Heap → Prop) : Prop :=
  ie.zero.length = ie.size ∧ ((n = 0 ∧ k σ) ∨ (0 < n ∧ astore p (zrep ie.zero n) σ k))

def conj : List Prop → Prop → Prop
  | [], X => X
  | p :: ps, X => p ∧ conj ps X

theorem conj_iff {ps : List Prop} {X : Prop} : conj ps X ↔ (∀ p ∈ ps, p) ∧ X := by
  induction ps with
  | nil => exact ⟨fun h => ⟨fun _ hp => (List.not_mem_nil hp).elim, h⟩, fun h => h.2⟩
  | cons p ps ih =>
    constructor
    · rintro ⟨hp, h⟩
      obtain ⟨h1, h2⟩ := ih.1 h
      refine ⟨fun q hq => ?_, h2⟩
      cases hq with
      | head => exact hp
      | tail _ hq => exact h1 q hq
    · rintro ⟨h1, h2⟩
      exact ⟨h1 p (List.mem_cons_self ..), ih.2 ⟨fun q hq => h1 q (List.mem_cons_of_mem _ hq), h2⟩⟩

/-- The element's shapes of a map's type. -/
def scOf : Sh → Sc
  | .one (.sc s) => s
  | _ => .any

/-- The function's value that a call names. -/
def calleeV (e : Env) (c : Call) : Option Value :=
  match c.callee with
  | .value f => e.eval f
  | _ => none

/-- What an operation asks of the view, and what it hands on. -/
def astep (P : Program) (T : TT) (e : Env) (o : Oper) (σ : Heap) (k : Value → Heap → Prop) : Prop :=
  match o.op with
  | .load t x => match T t, e.eval x with
    | some i, some (.pointer p) => bif nonOther i.k then aload i p σ k else False
    | _, _ => False
  | .store t x y => match T t, e.eval x, e.eval y with
    | some i, some (.pointer p), some v => bif ((vcells v).length == i.size) then astore p (vcells v) σ (k undef) else False
    | _, _, _ => False
  | .alloc t => match T t with
    | some i => anew i.zero t i.zero.length σ fun r σ' => k (.pointer (some ⟨r, 0, none⟩)) σ'
    | none => False
  | .box t x => match e.eval x with
    | some v => anew (vcells v) t (vcells v).length σ fun r σ' => k (.pointer (some ⟨r, 0, none⟩)) σ'
    | none => False
  | .buildSlice t len parts => match T t, e.evalp parts.toList with
    | some i, some l => match i.k with
      | .slice el => match T el with
        | some ie => bif (Nat.ble (len * ie.size) 16777216 && ie.zero.length == ie.size) then match bfill (fun j => some (j * ie.size, ie.size)) (zrep ie.zero len) l with
            | some cs => anew cs el cs.length σ fun r σ' => k (.slice (some ⟨r, 0, none⟩) len len) σ'
            | none => False
          else False
        | none => False
      | _ => False
    | _, _ => False
  | .makeSlice t l c => match T t, e.eval l, e.eval c with
    | some i, some (.int _ l), some (.int _ c) => match i.k with
      | .slice el => match T el with
        | some ie => amake el ie l c σ k
        | none => False
      | _ => False
    | _, _, _ => False
  | .makeMap _ none => anewo (.map #[] 0) σ fun r σ' => k (.map (some r)) σ'
  | .mapUpdate t m x y => match T t, e.eval m, e.eval x, e.eval y with
    | some i, some (.map r), some key, some val => match i.k with
      | .map kt _ => match T kt with
        | some ik => match ik.k with
          | .int kk => aupdate kk r key val σ (k undef)
          | _ => False
        | none => False
      | _ => False
    | _, _, _, _ => False
  | .range t x => match T t, e.eval x with
    | some i, some (.map m) => match i.k with
      | .map _ _ => mapAt σ m fun r _ _ clock => anewo (.mapIter (some r) clock #[] clock) σ fun r' σ' => k (.pointer (some ⟨r', 0, none⟩)) σ'
      | _ => False
    | _, _ => False
  | .next x false => match e.eval x with
    | some (.pointer p) => anext p σ k
    | _ => False
  | .entry x => match e.eval x with
    | some (.pointer p) => aentry .any .any p σ k
    | _ => False
  | .call c => match c.callee, e.evals c.args.toList with
    | .builtin .append, some [.slice p len cap, .slice q m _] => match c.argTypes.toList with
      | [t, u] => bif t == u then match T t with
        | some i => match i.k with
          | .slice el => match T el with
            | some ie => aappend el ie p len cap q m σ k
            | none => False
          | _ => False
        | none => False
        else False
      | _ => False
    | .builtin .append, some [.slice p len cap, .int _ m] => match c.argTypes.toList with
      | [t, u] => match T t, T u with
        | some i, some iu => match i.k, iu.k with
          | .slice el, .int _ => match T el with
            | some ie => agrow el ie p len cap m σ k
            | none => False
          | _, _ => False
        | _, _ => False
      | _ => False
    | .builtin .clear, some [.slice p n _] => match c.argTypes.toList with
      | [t] => match T t with
        | some i => match i.k with
          | .slice el => match T el with
            | some ie => aclear ie p n σ (k (.tuple #[]))
            | none => False
          | _ => False
        | none => False
      | _ => False
    | .builtin .delete, some [.map r, key] => match c.argTypes.toList with
      | t :: _ => match T t with
        | some i => match i.k with
          | .map kt _ => match T kt with
            | some ik => match ik.k with
              | .int kk => adelete kk r key σ (k (.tuple #[]))
              | _ => False
            | none => False
          | _ => False
        | none => False
      | _ => False
    | .builtin b, some args => match abuiltin T b c.argTypes.toList args with
      | some (ps, v) => conj ps (k v σ)
      | none => False
    | .value _, some args => match calleeV e c, T o.type with
      | some fv, some i => acall P i.sh fv args σ k
      | _, _ => False
    | _, _ => False
  | op => match apv T e op with
    | some (ps, v) => conj ps (k v σ)
    | none => False

/-- A truth that may be known: both ways. -/
def bcond (b : Bool) (x y : Prop) : Prop := (b = true → x) ∧ (b = false → y)

theorem bcond_true (x y : Prop) : bcond true x y ↔ x := by simp [bcond]
theorem bcond_false (x y : Prop) : bcond false x y ↔ y := by simp [bcond]

/-- The value of an operation goes into its slot. -/
def put (n : Nat) (e : Env) (dst : Option Tmp) (v : Value) (k : Env → Prop) : Prop :=
  match dst with
  | some d => bif Nat.blt d n then k (e.set d v) else False
  | none => k e

/-- One operation of a region, its guard asked. -/
def agop (P : Program) (T : TT) (n : Nat) (ops : Array Oper) (o : Oper) (e : Env) (σ : Heap) (k : Env → Heap → Prop) : Prop :=
  match o.guard with
  | none => astep P T e o σ fun v σ' => put n e o.dst v fun e' => k e' σ'
  | some (j, want) => match ops[j]? with
    | some oj => match oj.dst with
      | some d => match e.get d with
        | some (.bool b) => bcond b
            (let e1 := e.set d (.bool true)
             bif want then astep P T e1 o σ fun v σ' => put n e1 o.dst v fun e' => k e' σ' else put n e1 o.dst undef fun e' => k e' σ)
            (let e0 := e.set d (.bool false)
             bif want then put n e0 o.dst undef fun e' => k e' σ else astep P T e0 o σ fun v σ' => put n e0 o.dst v fun e' => k e' σ')
        | some _ => put n e o.dst undef fun e' => k e' σ
        | none => False
      | none => False
    | none => False

/-- The operations of a region that does not draw, in the order of the text. -/
def aops (P : Program) (T : TT) (n : Nat) (ops : Array Oper) : List Oper → Env → Heap → (Env → Heap → Prop) → Prop
  | [], e, σ, k => k e σ
  | o :: l, e, σ, k => agop P T n ops o e σ fun e' σ' => aops P T n ops l e' σ' k

end Go.Eng

/- Every operation does what the view says: the soundness of one step. Conditions: the table of types is the program's. -/
namespace Go.Eng
open Go

section
variable {P : Program} {T : TT} {n : Nat} {e : Env} {a : Act} {σ0 : Heap} {w0 : World} {ms : List Nat} {σ : Heap} {w : World} {o : Oper} {ro : Option Nat}
  {next : Act → World → Prop} {Q : Exit → Act → World → Prop}

theorem wp_value (hd : ∀ c, o.op ≠ .defer c) {v : Value} {w' : World} (hr : (execOp a.eval o).run P w = .ok (.value v) w') (hn : next (a.put o.dst v) w') : o.wpIn (FW ro) 0 P a w next Q :=
  ⟨fun _ _ => trivial, by rw [Oper.semAt_eq _ _ _ hd, hr]; exact hn⟩

theorem wp_skipped (hd : ∀ c, o.op ≠ .defer c) {w' : World} (hr : (execOp a.eval o).run P w = .ok .skip w') (hn : next (a.put o.dst undef) w') : o.wpIn (FW ro) 0 P a w next Q :=
  ⟨fun _ _ => trivial, by rw [Oper.semAt_eq _ _ _ hd, hr]; exact hn⟩

theorem post_inv {k : Value → Heap → Prop} {sh : Sh} (hI : Inv σ0 w0 ms σ w) {e' : Ending} {w' : World} (h : Post σ w (shK sh k) e' w') :
    ∃ v σ', e' = .returned v ∧ Inv σ0 w0 ms σ' w' ∧ k v σ' := by
  obtain ⟨v, σ', rfl, hI', s, rfl, hks⟩ := h
  exact ⟨_, _, rfl, hI.trans hI', hks⟩

theorem run_ofValue (g : FuncId) (first cap args : Array Value) {fn : Func} (hf : P.funcs[g]? = some fn) (hb : fn.body.isNone = false) (hn : (fn.name == "runtime.NumGoroutine") = false) :
    (do let d ← Deferred.ofValue (.func (.func g) first cap) args; invoke d.target d.args : Sem Next).run P w = .ok (.enter g (first ++ args ++ cap)) w := by
  simp only [Deferred.ofValue, invoke, callFunc, Sem.run_bind, Sem.run_pure, Result.andThen_ok, run_program, hf, hn, hb, Bool.false_eq_true, if_false]

theorem wp_call {c : Call} (ho : o.op = .call c) {f : Operand} (hc : c.callee = .value f) (hI : Inv σ0 w0 ms σ w) {fv : Value} (hf : a.eval f = fv) {args : List Value} (ha : c.args.map a.eval = args.toArray)
    {sh : Sh} {k : Value → Heap → Prop} (h : acall P sh fv args σ k) (hk : ∀ v σ' w', k v σ' → Inv σ0 w0 ms σ' w' → next (a.put o.dst v) w') : o.wpIn (FW ro) 0 P a w next Q := by
  refine ⟨fun _ _ => trivial, ?_⟩
  rw [Oper.semAt_eq _ _ _ (by rw [ho]; intro c' hc'; cases hc')]
  have hx : execOp a.eval o = (do let d ← Deferred.ofValue fv args.toArray; invoke d.target d.args : Sem Next) := by
    simp only [execOp, ho, resolve, hc, hf, ha]
  rw [hx]
  unfold acall at h
  split at h
  · rename_i g first cap
    obtain ⟨⟨fn, h1, h2, h3⟩, h4⟩ := h
    rw [run_ofValue g first cap args.toArray h1 h2 h3]
    have e1 : first ++ args.toArray ++ cap = (first.toList ++ args ++ cap.toList).toArray := by
      apply Array.ext'
      simp
    rw [e1]
    exact ⟨fun h => (by cases h), (h4 w hI.rel).mono fun e' w' hp => by obtain ⟨v, σ', rfl, hI', hv⟩ := post_inv hI hp; exact hk _ _ _ hv hI'⟩
  · obtain ⟨nx, h1, h2⟩ := h w hI.rel
    rw [h1]
    cases nx with
    | enter g as => exact ⟨fun h => (by cases h), CallsIn.mono h2 fun e' w' hp => by obtain ⟨v, σ', rfl, hI', hv⟩ := post_inv hI hp; exact hk _ _ _ hv hI'⟩
    | round l g tmps x y => exact ⟨fun h => (by cases h), RoundIn.mono h2 fun e' w' hp => by obtain ⟨v, σ', rfl, hI', hv⟩ := post_inv hI hp; exact hk _ _ _ hv hI'⟩
    | _ => exact h2.elim

theorem Rel.ldT {i : TI} {t : TypeId} (hi : i.ok P t) (hno : nonOther i.k = true) (h : Rel σ w) {p : Option Addr} {v : Value} (hv : σ.ldT i p = some v) :
    (Instr.loadAt t (.pointer p)).run P w = .ok v w := by
  unfold Heap.ldT at hv
  split at hv
  · rename_i r off
    have ha := hi.isAggr (nonOther_ne hno) w
    cases hg : i.isAgg with
    | true =>
      rw [hg, cond_true] at hv
      rw [hg] at ha
      split at hv
      · rename_i l hl
        obtain rfl := by simpa only [Option.some.injEq] using hv
        obtain ⟨h1, h2⟩ := h.cells hl
        have hr := run_loadCells_list (P := P) w ⟨r, off, none⟩ l h2
        rw [h1] at hr
        simp only [Instr.loadAt, Instr.sureAddr, Sem.run_bind, Sem.run_pure, Result.andThen_ok, loadVar, ha, Sem.run_ite, if_true, hi.sizeOf, hr]
      · cases hv
    | false =>
      rw [hg, cond_false] at hv
      rw [hg] at ha
      have hc := h.cell hv
      simp only [Instr.loadAt, Instr.sureAddr, Sem.run_bind, Sem.run_pure, Result.andThen_ok, loadVar, ha, Sem.run_ite, Bool.false_eq_true, if_false, run_load, hc]
  · cases hv

theorem Inv.astore {p : Option Addr} {vs : List Value} {k : Heap → Prop} (hI : Inv σ0 w0 ms σ w) (h : astore p vs σ k) :
    ∃ ad w' σ', p = some ad ∧ (storeCells ad vs).run P w = .ok () w' ∧ Inv σ0 w0 ms σ' w' ∧ k σ' := by
  obtain ⟨r, off, g, cs, t, m, rfl, hr, hg, hlen, h1, hk⟩ := h
  obtain ⟨w', hw, hI'⟩ := hI.store (P := P) hr hg hlen h1
  exact ⟨_, w', _, rfl, hw, hI', hk⟩

theorem run_storeAt {t : TypeId} {i : TI} (hi : i.ok P t) {ad : Addr} {v : Value} (hs : (vcells v).length = i.size) {w' : World} (h : (storeCells ad (vcells v)).run P w = .ok () w') :
    (Instr.storeAt t (.pointer (some ad)) v).run P w = .ok () w' := by
  rw [vcells_eq] at hs h
  have hs' : v.cells.size = i.size := by simpa using hs
  simp only [Instr.storeAt, Instr.sureAddr, Sem.run_bind, Sem.run_pure, Result.andThen_ok, storeVar, hi.sizeOf, Sem.run_ite]
  simp [hs', h]

theorem prefix_self (l : List Value) : l <+: l := List.prefix_refl l

theorem Inv.anew (hI : Inv σ0 w0 ms σ w) {cs : List Value} {t : TypeId} {c : Array Value} (hc : cs <+: c.toList) {k : Nat → Heap → Prop} (h : anew cs t c.size σ k) :
    ∃ σ', Inv σ0 w0 ms σ' (w.alloc (.cells c t)) ∧ k w.heap.size σ' := by
  have hk := h w.heap.size hI.rel.fresh
  exact ⟨_, hI.alloc (ao := .cells 1 cs t c.size) ⟨c, (0, 0), rfl, rfl, hc, fun _ => rfl⟩, hk⟩

theorem Inv.anewg (hI : Inv σ0 w0 ms σ w) {cs : List Value} {t : TypeId} {c : Array Value} (hc : cs <+: c.toList) {k : Nat → Heap → Prop} (h : anewg cs t c.size σ k) :
    ∃ σ', Inv σ0 w0 ms σ' (w.alloc (.cells c t)) ∧ k w.heap.size σ' := by
  obtain ⟨g, hk⟩ := h
  exact ⟨_, hI.alloc (ao := .cells g cs t c.size) ⟨c, (0, 0), rfl, rfl, hc, fun _ => rfl⟩, hk _ hI.rel.fresh⟩

theorem Inv.anewo (hI : Inv σ0 w0 ms σ w) {ob : Obj} (hc : Obj.isCells ob = false) {k : Nat → Heap → Prop} (h : anewo ob σ k) :
    ∃ σ', Inv σ0 w0 ms σ' (w.alloc ob) ∧ k w.heap.size σ' := by
  obtain ⟨g, hk⟩ := h
  exact ⟨_, hI.alloc (ao := .other g ob) ⟨rfl, hc⟩, hk _ hI.rel.fresh⟩

theorem zrep_eq (z : Array Value) : ∀ m : Nat, ((Array.range (m * z.size)).map (z[· % z.size]!)).toList = zrep z.toList m := by
  intro m
  induction m with
  | zero => simp [zrep]
  | succ m ih =>
    rcases Nat.eq_zero_or_pos z.size with h0 | hp
    · have hz : z = #[] := Array.size_eq_zero_iff.1 h0
      subst hz
      have hh : ∀ j, zrep ([] : List Value) j = [] := fun j => by induction j with
        | zero => rfl
        | succ j ihj => simpa [zrep] using ihj
      simp [hh]
    · simp only [zrep]
      apply List.ext_getElem?
      intro j
      rw [Array.getElem?_toList, Array.getElem?_map]
      have ih' : ∀ j : Nat, ((Array.range (m * z.size)).map (z[· % z.size]!))[j]? = (zrep z.toList m)[j]? := fun j => by rw [← ih, Array.getElem?_toList]
      rcases Nat.lt_or_ge j z.size with hlt | hge
      · rw [List.getElem?_append_left (by simpa using hlt)]
        have hj : j < (m + 1) * z.size := by rw [Nat.add_mul]; omega
        rw [Array.getElem?_eq_getElem (by simpa using hj)]
        simp [Nat.mod_eq_of_lt hlt, hlt]
      · rw [List.getElem?_append_right (by simpa using hge), ← ih', Array.getElem?_map]
        simp only [Array.length_toList]
        rcases Nat.lt_or_ge j ((m + 1) * z.size) with hj | hj
        · have hj' : j - z.size < m * z.size := by rw [Nat.add_mul] at hj; omega
          rw [Array.getElem?_eq_getElem (by simpa using hj), Array.getElem?_eq_getElem (by simpa using hj')]
          simp only [Array.getElem_range, Option.map_some]
          have hm : j % z.size = (j - z.size) % z.size := by rw [Nat.mod_eq_sub_mod hge]
          rw [hm]
        · have hj' : m * z.size ≤ j - z.size := by rw [Nat.add_mul] at hj; omega
          rw [Array.getElem?_eq_none (by simpa using hj), Array.getElem?_eq_none (by simpa using hj')]

theorem zero_info {t : TypeId} {i : TI} (hi : i.ok P t) : ∃ z, (∀ w, (zeroValue t).run P w = .ok z w) ∧ z.cells.toList = i.zero := by
  obtain ⟨inf, z, h1, h2, h3, h4, h5⟩ := hi.info
  exact ⟨z, fun w => by simp [zeroValue, typeInfo, h1, h4], h5⟩

theorem zrep_zero (z : List Value) : zrep z 0 = [] := rfl

theorem zrep_nil (m : Nat) : zrep [] m = [] := by induction m with
  | zero => rfl
  | succ m ih => simpa [zrep] using ih

theorem length_zrep (z : List Value) (m : Nat) : (zrep z m).length = m * z.length := by
  induction m with
  | zero => simp [zrep]
  | succ m ih => simp [zrep, ih, Nat.add_mul, Nat.add_comm]

end
end Go.Eng
