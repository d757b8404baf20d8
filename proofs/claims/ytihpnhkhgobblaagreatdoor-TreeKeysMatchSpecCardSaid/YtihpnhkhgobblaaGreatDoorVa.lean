/- Tries: partial maps from numbers that the kernel computes with. Conditions: none. -/
import Derived.Test.YtihpnhkhgobblaaGreatDoorEd
namespace Go.Eng

inductive Tr (α : Type) where
  | nil
  | node (v : Option α) (l r : Tr α)

namespace Tr
variable {α : Type}

def get : Tr α → Nat → Option α
  | .nil, _ => none
  | .node v l r, k => bif Nat.beq k 0 then v else bif Nat.beq (k % 2) 1 then l.get (k / 2) else r.get (k / 2 - 1)

def put1 (o : Option α) (v : Option α) (l r : Tr α) (rec : Tr α → Nat → Tr α) (k : Nat) : Tr α :=
  bif Nat.beq k 0 then .node o l r else bif Nat.beq (k % 2) 1 then .node v (rec l (k / 2)) r else .node v l (rec r (k / 2 - 1))

def putF (o : Option α) : Nat → Tr α → Nat → Tr α
  | 0, t, _ => t
  | f + 1, .nil, k => put1 o none .nil .nil (putF o f) k
  | f + 1, .node v l r, k => put1 o v l r (putF o f) k

def set (t : Tr α) (k : Nat) (v : α) : Tr α := putF (some v) (k + 1) t k
def del (t : Tr α) (k : Nat) : Tr α := putF none (k + 1) t k

theorem beq_true {a b : Nat} : Nat.beq a b = true ↔ a = b := by simp
theorem beq_false {a b : Nat} : Nat.beq a b = false ↔ a ≠ b := by
  constructor
  · intro h e; rw [beq_true.2 e] at h; cases h
  · intro h
    cases hh : Nat.beq a b with
    | false => rfl
    | true => exact absurd (beq_true.1 hh) h

theorem get_put1 {o v : Option α} {l r : Tr α} {rec : Tr α → Nat → Tr α} {k j : Nat}
    (h' : ∀ t i j', i < k → (rec t i).get j' = if j' = i then o else t.get j') :
    (put1 o v l r rec k).get j = if j = k then o else (Tr.node v l r).get j := by
  unfold put1
  by_cases hk : k = 0
  · subst hk
    simp only [Nat.beq_refl, cond_true, get]
    by_cases hj : j = 0
    · subst hj; simp
    · rw [beq_false.2 hj]; simp [hj]
  · rw [beq_false.2 hk, cond_false]
    by_cases hp : k % 2 = 1
    · rw [beq_true.2 hp, cond_true]
      simp only [get]
      by_cases hj : j = 0
      · subst hj; simp [Ne.symm hk]
      · rw [beq_false.2 hj, cond_false, cond_false]
        by_cases hq : j % 2 = 1
        · rw [beq_true.2 hq, cond_true, cond_true, h' _ _ _ (by omega)]
          by_cases e : j = k
          · subst e; simp
          · rw [if_neg e, if_neg (by omega)]
        · rw [beq_false.2 hq, cond_false, cond_false, if_neg (by rintro rfl; exact hq hp)]
    · rw [beq_false.2 hp, cond_false]
      simp only [get]
      by_cases hj : j = 0
      · subst hj; simp [Ne.symm hk]
      · rw [beq_false.2 hj, cond_false, cond_false]
        by_cases hq : j % 2 = 1
        · rw [beq_true.2 hq, cond_true, cond_true, if_neg (by rintro rfl; exact hp hq)]
        · rw [beq_false.2 hq, cond_false, cond_false, h' _ _ _ (by omega)]
          by_cases e : j = k
          · subst e; simp
          · rw [if_neg e, if_neg (by omega)]

theorem get_putF (o : Option α) : ∀ (f : Nat) (t : Tr α) (k j : Nat), k < f → (putF o f t k).get j = if j = k then o else t.get j
  | 0, _, _, _, h => absurd h (Nat.not_lt_zero _)
  | f + 1, .nil, k, j, h => by
    unfold putF
    rw [get_put1 (fun t i j' hi => get_putF o f t i j' (by omega))]
    by_cases e : j = k
    · rw [if_pos e, if_pos e]
    · rw [if_neg e, if_neg e]
      simp [get]
  | f + 1, .node v l r, k, j, h => by
    unfold putF
    rw [get_put1 (fun t i j' hi => get_putF o f t i j' (by omega))]

theorem get_set (t : Tr α) (k : Nat) (v : α) (j : Nat) : (t.set k v).get j = if j = k then some v else t.get j := get_putF _ _ _ _ _ (Nat.lt_succ_self k)
theorem get_del (t : Tr α) (k : Nat) (j : Nat) : (t.del k).get j = if j = k then none else t.get j := get_putF _ _ _ _ _ (Nat.lt_succ_self k)

def val : Tr α → Option α
  | .nil => none
  | .node v _ _ => v
def lft : Tr α → Tr α
  | .nil => .nil
  | .node _ l _ => l
def rgt : Tr α → Tr α
  | .nil => .nil
  | .node _ _ r => r

theorem get_split (t : Tr α) (k : Nat) : t.get k = bif Nat.beq k 0 then t.val else bif Nat.beq (k % 2) 1 then t.lft.get (k / 2) else t.rgt.get (k / 2 - 1) := by
  cases t with
  | node => rfl
  | nil => cases Nat.beq k 0 <;> cases Nat.beq (k % 2) 1 <;> rfl

/-- The values of the first at the keys of the second; none if one is missing. -/
def inter : Tr α → Tr α → Option (Tr α)
  | _, .nil => some .nil
  | t, .node v' l' r' => match inter t.lft l', inter t.rgt r' with
    | some a, some b => match v' with
      | none => some (.node none a b)
      | some _ => match t.val with
        | some x => some (.node (some x) a b)
        | none => none
    | _, _ => none

theorem inter_get : ∀ {b a c : Tr α}, inter a b = some c → ∀ k, (b.get k = none → c.get k = none) ∧ (∀ x, b.get k = some x → ∃ y, a.get k = some y ∧ c.get k = some y)
  | .nil, a, c, h, k => by
    unfold inter at h
    cases h
    exact ⟨fun _ => rfl, fun x hx => by cases hx⟩
  | .node v' l' r', t, c, h, k => by
    unfold inter at h
    split at h
    · rename_i a b ha hb
      have h1 := inter_get ha
      have h2 := inter_get hb
      have key : ∀ o, (o = none → v' = none ∨ False) → (∀ x, o = some x → t.val = some x ∧ v'.isSome = true) → ((Tr.node v' l' r').get k = none → (Tr.node o a b).get k = none) ∧ (∀ x, (Tr.node v' l' r').get k = some x → ∃ y, t.get k = some y ∧ (Tr.node o a b).get k = some y) := by
        intro o ho1 ho2
        rw [get_split t]
        simp only [get]
        cases h0 : Nat.beq k 0
        · simp only [cond_false]
          cases hp : Nat.beq (k % 2) 1
          · exact h2 _
          · exact h1 _
        · simp only [cond_true]
          cases o with
          | none =>
            rcases ho1 rfl with h | h
            · exact ⟨fun _ => rfl, fun x hx => by rw [h] at hx; cases hx⟩
            · exact h.elim
          | some x =>
            obtain ⟨h3, h4⟩ := ho2 x rfl
            exact ⟨fun h => by (rw [h] at h4; cases h4), fun _ _ => ⟨x, h3, rfl⟩⟩
      split at h
      · cases h
        exact key none (fun _ => .inl rfl) (fun x hx => by cases hx)
      · split at h
        · rename_i hx
          cases h
          exact key (some _) (fun h => by cases h) (fun y hy => by cases hy; exact ⟨hx, rfl⟩)
        · cases h
    · cases h

/-- The keys. -/
theorem keys : ∀ (t : Tr α), ∃ ks : List Nat, ∀ k, k ∈ ks ↔ ∃ x, t.get k = some x
  | .nil => ⟨[], fun k => by simp [get]⟩
  | .node v l r => by
    obtain ⟨k1, h1⟩ := keys l
    obtain ⟨k2, h2⟩ := keys r
    refine ⟨(if v.isSome then [0] else []) ++ k1.map (fun j => 2 * j + 1) ++ k2.map (fun j => 2 * j + 2), fun k => ?_⟩
    simp only [List.mem_append, List.mem_map, get]
    by_cases hk : k = 0
    · subst hk
      simp only [Nat.beq_refl, cond_true]
      cases v <;> simp
    · rw [beq_false.2 hk, cond_false]
      have h0 : ¬ k ∈ (if v.isSome = true then [0] else []) := by split <;> simp [hk]
      by_cases hp : k % 2 = 1
      · rw [beq_true.2 hp, cond_true, ← h1]
        constructor
        · rintro ((h | ⟨j, hj, rfl⟩) | ⟨j, hj, rfl⟩)
          · exact absurd h h0
          · rw [show (2 * j + 1) / 2 = j by omega]; exact hj
          · omega
        · intro h
          exact .inl (.inr ⟨_, h, by omega⟩)
      · rw [beq_false.2 hp, cond_false, ← h2]
        constructor
        · rintro ((h | ⟨j, hj, rfl⟩) | ⟨j, hj, rfl⟩)
          · exact absurd h h0
          · omega
          · rw [show (2 * j + 2) / 2 - 1 = j by omega]; exact hj
        · intro h
          exact .inr ⟨_, h, by omega⟩

end Tr
end Go.Eng

/- Values whose block numbers are names: how a value over names stands for one of the model. Conditions: none. -/
namespace Go.Eng
open Go

/-- What a name stands for: a block; how much more room a row that grew has than is known; the record of a range over a function. -/
structure RB where
  r : Nat
  d : Nat
  L : LoopState → Option Code → Obj

abbrev Ren := Nat → Option RB

def Ren.le (ρ ρ' : Ren) : Prop := ∀ b x, ρ b = some x → ρ' b = some x

theorem Ren.le_refl (ρ : Ren) : ρ.le ρ := fun _ _ h => h
theorem Ren.le.trans {a b c : Ren} (h : Ren.le a b) (h' : Ren.le b c) : Ren.le a c := fun _ _ hx => h' _ _ (h _ _ hx)

def Ren.add (ρ : Ren) (b : Nat) (x : RB) : Ren := fun y => if y = b then some x else ρ y
theorem Ren.add_same (ρ : Ren) (b : Nat) (x : RB) : ρ.add b x b = some x := by simp [Ren.add]
theorem Ren.add_ne (ρ : Ren) {b y : Nat} (x : RB) (h : y ≠ b) : ρ.add b x y = ρ y := by simp [Ren.add, h]
theorem Ren.le_add {ρ : Ren} {b : Nat} (x : RB) (h : ρ b = none) : ρ.le (ρ.add b x) := fun y z hy => by
  rw [Ren.add_ne]
  · exact hy
  · rintro rfl; rw [h] at hy; cases hy

/-- How much room a slice has: an even number is twice it; an odd number is twice what is known of it, and one. -/
def capOf (x : RB) (c : Nat) : Nat := bif Nat.beq (c % 2) 0 then c / 2 else c / 2 + x.d

theorem capOf_ge (x : RB) (c : Nat) : c / 2 ≤ capOf x c := by
  unfold capOf
  cases Nat.beq (c % 2) 0 <;> simp

mutual
inductive VR (ρ : Ren) : Value → Value → Prop
  | int (k : IntKind) (n : Int) : VR ρ (.int k n) (.int k n)
  | bool (b : Bool) : VR ρ (.bool b) (.bool b)
  | str (s : ByteArray) : VR ρ (.string s) (.string s)
  | nilf : VR ρ .nilFunc .nilFunc
  | ptr0 : VR ρ (.pointer none) (.pointer none)
  | ptr (b o : Nat) (x : RB) : ρ b = some x → VR ρ (.pointer (some ⟨b, o, none⟩)) (.pointer (some ⟨x.r, o, none⟩))
  | sl0 (n c c' : Nat) : c = 2 * c' → VR ρ (.slice none n c) (.slice none n c')
  | sl (b o n c c' : Nat) (x : RB) : ρ b = some x → c' = capOf x c → VR ρ (.slice (some ⟨b, o, none⟩) n c) (.slice (some ⟨x.r, o, none⟩) n c')
  | fn (f : FuncId) (a c a' c' : List Value) : VRs ρ a a' → VRs ρ c c' → VR ρ (.func (.func f) ⟨a⟩ ⟨c⟩) (.func (.func f) ⟨a'⟩ ⟨c'⟩)
  | yl (b : Nat) (x : RB) : ρ b = some x → VR ρ (.func (.yield b) #[] #[]) (.func (.yield x.r) #[] #[])
  | agg (a a' : List Value) : VRs ρ a a' → VR ρ (.agg ⟨a⟩) (.agg ⟨a'⟩)
  | tup (a a' : List Value) : VRs ρ a a' → VR ρ (.tuple ⟨a⟩) (.tuple ⟨a'⟩)
inductive VRs (ρ : Ren) : List Value → List Value → Prop
  | nil : VRs ρ [] []
  | cons {v v' : Value} {l l' : List Value} : VR ρ v v' → VRs ρ l l' → VRs ρ (v :: l) (v' :: l')
end

mutual
theorem VR.mono {ρ ρ' : Ren} (h : ρ.le ρ') : ∀ {v v' : Value}, VR ρ v v' → VR ρ' v v'
  | _, _, .int k n => .int k n
  | _, _, .bool b => .bool b
  | _, _, .str s => .str s
  | _, _, .nilf => .nilf
  | _, _, .ptr0 => .ptr0
  | _, _, .ptr b o x hx => .ptr b o x (h _ _ hx)
  | _, _, .sl0 n c c' hc => .sl0 n c c' hc
  | _, _, .sl b o n c c' x hx hc => .sl b o n c c' x (h _ _ hx) hc
  | _, _, .fn f a c a' c' h1 h2 => .fn f a c a' c' (VRs.mono h h1) (VRs.mono h h2)
  | _, _, .yl b x hx => .yl b x (h _ _ hx)
  | _, _, .agg a a' h1 => .agg a a' (VRs.mono h h1)
  | _, _, .tup a a' h1 => .tup a a' (VRs.mono h h1)
theorem VRs.mono {ρ ρ' : Ren} (h : ρ.le ρ') : ∀ {l l' : List Value}, VRs ρ l l' → VRs ρ' l l'
  | _, _, .nil => .nil
  | _, _, .cons h1 h2 => .cons (VR.mono h h1) (VRs.mono h h2)
end

section
variable {ρ : Ren}

theorem VRs.length {l l' : List Value} (h : VRs ρ l l') : l.length = l'.length := by
  induction l generalizing l' with
  | nil => cases h; rfl
  | cons v l ih => cases h with
    | cons h1 h2 => simp [ih h2]

theorem VRs.get {l l' : List Value} (h : VRs ρ l l') {i : Nat} {v : Value} (hv : l[i]? = some v) : ∃ v', l'[i]? = some v' ∧ VR ρ v v' := by
  induction l generalizing l' i with
  | nil => simp at hv
  | cons u l ih => cases h with
    | cons h1 h2 => cases i with
      | zero => simp at hv; subst hv; exact ⟨_, rfl, h1⟩
      | succ i => simpa using ih h2 (by simpa using hv)

theorem VRs.append {a a' b b' : List Value} (h : VRs ρ a a') (h2 : VRs ρ b b') : VRs ρ (a ++ b) (a' ++ b') := by
  induction a generalizing a' with
  | nil => cases h; exact h2
  | cons v l ih => cases h with
    | cons h1 h3 => exact .cons h1 (ih h3)

theorem VRs.take {a a' : List Value} (h : VRs ρ a a') (n : Nat) : VRs ρ (a.take n) (a'.take n) := by
  induction a generalizing a' n with
  | nil => cases h; simpa using VRs.nil
  | cons v l ih => cases h with
    | cons h1 h3 => cases n with
      | zero => exact .nil
      | succ n => exact .cons h1 (ih h3 n)

theorem VRs.drop {a a' : List Value} (h : VRs ρ a a') (n : Nat) : VRs ρ (a.drop n) (a'.drop n) := by
  induction a generalizing a' n with
  | nil => cases h; simpa using VRs.nil
  | cons v l ih => cases h with
    | cons h1 h3 => cases n with
      | zero => exact .cons h1 h3
      | succ n => exact ih h3 n

theorem VRs.lset {a a' b b' : List Value} (h : VRs ρ a a') (h2 : VRs ρ b b') (o : Nat) : VRs ρ (lset a o b) (lset a' o b') := by
  induction a generalizing a' b b' o with
  | nil => cases h; cases o <;> cases h2 <;> exact .nil
  | cons v l ih => cases h with
    | cons h1 h3 => cases o with
      | zero => cases h2 with
        | nil => exact .cons h1 h3
        | cons h4 h5 => exact .cons h4 (ih h3 h5 0)
      | succ n => exact .cons h1 (ih h3 h2 n)

theorem VR.arr_fn {f : FuncId} {a c : Array Value} {v' : Value} (h : VR ρ (.func (.func f) a c) v') : ∃ a' c', v' = .func (.func f) a' c' ∧ VRs ρ a.toList a'.toList ∧ VRs ρ c.toList c'.toList := by
  cases h with
  | fn f a c a' c' h1 h2 => exact ⟨_, _, rfl, h1, h2⟩

theorem VR.arr_agg {a : Array Value} {v' : Value} (h : VR ρ (.agg a) v') : ∃ a', v' = .agg a' ∧ VRs ρ a.toList a'.toList := by
  cases h with
  | agg a a' h1 => exact ⟨_, rfl, h1⟩

theorem VR.arr_tup {a : Array Value} {v' : Value} (h : VR ρ (.tuple a) v') : ∃ a', v' = .tuple a' ∧ VRs ρ a.toList a'.toList := by
  cases h with
  | tup a a' h1 => exact ⟨_, rfl, h1⟩

theorem VR.mk_fn {f : FuncId} {a c a' c' : Array Value} (h1 : VRs ρ a.toList a'.toList) (h2 : VRs ρ c.toList c'.toList) : VR ρ (.func (.func f) a c) (.func (.func f) a' c') := .fn f _ _ _ _ h1 h2
theorem VR.mk_agg {a a' : Array Value} (h1 : VRs ρ a.toList a'.toList) : VR ρ (.agg a) (.agg a') := .agg _ _ h1
theorem VR.mk_tup {a a' : Array Value} (h1 : VRs ρ a.toList a'.toList) : VR ρ (.tuple a) (.tuple a') := .tup _ _ h1

theorem VR.vcells {v v' : Value} (h : VR ρ v v') : VRs ρ (vcells v) (vcells v') := by
  cases h with
  | agg a a' h1 => exact h1
  | _ => exact .cons (by constructor <;> assumption) .nil

theorem VR.one {v v' : Value} (h : VR ρ v v') (h1 : v.oneCell' = true) : v'.oneCell' = true := by
  cases h <;> first | rfl | exact h1 | (simp [Value.oneCell'] at h1)

def oneB : List Value → Bool
  | [] => true
  | v :: l => v.oneCell' && oneB l

theorem VRs.one {l l' : List Value} (h : VRs ρ l l') (h1 : oneB l = true) : oneCells l' := by
  induction l generalizing l' with
  | nil => cases h; intro v hv; cases hv
  | cons v l ih => cases h with
    | cons h2 h3 =>
      simp only [oneB, Bool.and_eq_true] at h1
      intro u hu
      cases hu with
      | head => exact h2.one h1.1
      | tail _ hu => exact ih h3 h1.2 u hu
end

/-! ### Values without blocks -/
def vconst1 : Value → Bool
  | .int .. | .bool _ | .string _ | .nilFunc | .pointer none | .slice none _ 0 => true
  | _ => false

def vconstL : List Value → Bool
  | [] => true
  | v :: l => vconst1 v && vconstL l

def vconst : Value → Bool
  | .agg cs => vconstL cs.toList
  | .tuple cs => vconstL cs.toList
  | v => vconst1 v

theorem vconst1_ok {ρ : Ren} {v : Value} (h : vconst1 v = true) : VR ρ v v := by
  unfold vconst1 at h
  split at h
  · exact .int ..
  · exact .bool ..
  · exact .str ..
  · exact .nilf
  · exact .ptr0
  · exact .sl0 _ _ _ rfl
  · cases h

theorem vconstL_ok {ρ : Ren} : ∀ {l : List Value}, vconstL l = true → VRs ρ l l
  | [], _ => .nil
  | v :: l, h => by
    simp only [vconstL, Bool.and_eq_true] at h
    exact .cons (vconst1_ok h.1) (vconstL_ok h.2)

theorem vconst_ok {ρ : Ren} {v : Value} (h : vconst v = true) : VR ρ v v := by
  unfold vconst at h
  split at h
  · exact VR.mk_agg (vconstL_ok h)
  · exact VR.mk_tup (vconstL_ok h)
  · exact vconst1_ok h

/-! ### Shapes -/
def hasSc : Sc → Value → Bool
  | .int k, .int k' _ => kindN k == kindN k'
  | .bool, .bool _ => true
  | .ptr, .pointer _ => true
  | .slice, .slice .. => true
  | .str, .string _ => true
  | .any, _ => true
  | _, _ => false

def hasScs : List Sc → List Value → Bool
  | [], [] => true
  | s :: l, v :: vs => hasSc s v && hasScs l vs
  | _, _ => false

def hasS1 : S1 → Value → Bool
  | .sc s, v => hasSc s v
  | .agg l, .agg cs => hasScs l cs.toList
  | _, _ => false

def hasS1s : List S1 → List Value → Bool
  | [], [] => true
  | s :: l, v :: vs => hasS1 s v && hasS1s l vs
  | _, _ => false

def hasSh : Sh → Value → Bool
  | .one s, v => hasS1 s v
  | .tup l, .tuple vs => hasS1s l vs.toList
  | _, _ => false

theorem hasSc_ok {ρ : Ren} {s : Sc} {v v' : Value} (h : hasSc s v = true) (hv : VR ρ v v') : ∃ x : s.T, v' = s.enc x := by
  unfold hasSc at h
  split at h
  · obtain rfl := kindN_inj h
    cases hv
    exact ⟨(_ : Int), rfl⟩
  · cases hv
    exact ⟨(_ : Bool), rfl⟩
  · cases hv with
    | ptr0 => exact ⟨(none : Option Addr), rfl⟩
    | ptr b o x hx => exact ⟨(some ⟨x.r, o, none⟩ : Option Addr), rfl⟩
  · cases hv with
    | sl0 _ _ c' hc => exact ⟨(⟨none, _, c'⟩ : Sl), rfl⟩
    | sl b o _ _ c' x hx hc => exact ⟨(⟨some ⟨x.r, o, none⟩, _, c'⟩ : Sl), rfl⟩
  · cases hv
    exact ⟨(_ : ByteArray), rfl⟩
  · exact ⟨v', rfl⟩
  · cases h

theorem hasScs_ok {ρ : Ren} : ∀ {l : List Sc} {vs vs' : List Value}, hasScs l vs = true → VRs ρ vs vs' → ∃ x : Sc.Ts l, vs' = Sc.encs l x
  | [], [], _, _, hv => by cases hv; exact ⟨(), rfl⟩
  | [], _ :: _, _, h, _ => by simp [hasScs] at h
  | _ :: _, [], _, h, _ => by simp [hasScs] at h
  | [s], [v], _, h, hv => by
    cases hv with
    | cons h1 h2 =>
      cases h2
      simp only [hasScs, Bool.and_true] at h
      obtain ⟨x, rfl⟩ := hasSc_ok h h1
      exact ⟨x, rfl⟩
  | [s], _ :: _ :: _, _, h, _ => by simp [hasScs] at h
  | s :: t :: l, v :: vs, _, h, hv => by
    cases hv with
    | cons h1 h2 =>
      unfold hasScs at h
      rw [Bool.and_eq_true] at h
      obtain ⟨x, rfl⟩ := hasSc_ok h.1 h1
      obtain ⟨y, rfl⟩ := hasScs_ok h.2 h2
      exact ⟨(x, y), rfl⟩

theorem hasS1_ok {ρ : Ren} {s : S1} {v v' : Value} (h : hasS1 s v = true) (hv : VR ρ v v') : ∃ x : s.T, v' = s.enc x := by
  unfold hasS1 at h
  split at h
  · exact hasSc_ok h hv
  · obtain ⟨a', rfl, ha⟩ := hv.arr_agg
    obtain ⟨x, hx⟩ := hasScs_ok h ha
    exact ⟨x, by simp only [S1.enc]; rw [← hx]⟩
  · cases h

theorem hasS1s_ok {ρ : Ren} : ∀ {l : List S1} {vs vs' : List Value}, hasS1s l vs = true → VRs ρ vs vs' → ∃ x : S1.Ts l, vs' = S1.encs l x
  | [], [], _, _, hv => by cases hv; exact ⟨(), rfl⟩
  | [], _ :: _, _, h, _ => by simp [hasS1s] at h
  | _ :: _, [], _, h, _ => by simp [hasS1s] at h
  | [s], [v], _, h, hv => by
    cases hv with
    | cons h1 h2 =>
      cases h2
      simp only [hasS1s, Bool.and_true] at h
      obtain ⟨x, rfl⟩ := hasS1_ok h h1
      exact ⟨x, rfl⟩
  | [s], _ :: _ :: _, _, h, _ => by simp [hasS1s] at h
  | s :: t :: l, v :: vs, _, h, hv => by
    cases hv with
    | cons h1 h2 =>
      unfold hasS1s at h
      rw [Bool.and_eq_true] at h
      obtain ⟨x, rfl⟩ := hasS1_ok h.1 h1
      obtain ⟨y, rfl⟩ := hasS1s_ok h.2 h2
      exact ⟨(x, y), rfl⟩

theorem hasSh_ok {ρ : Ren} {s : Sh} {v v' : Value} (h : hasSh s v = true) (hv : VR ρ v v') : ∃ x : s.T, v' = s.enc x := by
  unfold hasSh at h
  split at h
  · exact hasS1_ok h hv
  · obtain ⟨a', rfl, ha⟩ := hv.arr_tup
    obtain ⟨x, hx⟩ := hasS1s_ok h ha
    exact ⟨x, by simp only [Sh.enc]; rw [← hx]⟩
  · cases h

end Go.Eng

/- The operations that touch no memory, on values over names. Conditions: none. -/
namespace Go.Eng
open Go

abbrev VEnv := Tr Value

def EnvR (ρ : Ren) (ve : VEnv) (e : Env) : Prop := ∀ t v, ve.get t = some v → ∃ v', e.get t = some v' ∧ VR ρ v v'

theorem EnvR.mono {ρ ρ' : Ren} (h : ρ.le ρ') {ve : VEnv} {e : Env} (he : EnvR ρ ve e) : EnvR ρ' ve e := fun t v hv => by
  obtain ⟨v', h1, h2⟩ := he t v hv
  exact ⟨v', h1, h2.mono h⟩

theorem EnvR.set {ρ : Ren} {ve : VEnv} {e : Env} (he : EnvR ρ ve e) (d : Nat) {v v' : Value} (hv : VR ρ v v') : EnvR ρ (ve.set d v) (e.set d v') := fun t u hu => by
  rw [Tr.get_set] at hu
  rw [Env.get_set]
  by_cases h : t = d
  · subst h
    rw [if_pos rfl] at hu ⊢
    cases hu
    exact ⟨v', rfl, hv⟩
  · rw [if_neg h] at hu
    rw [if_neg (Ne.symm h)]
    exact he t u hu

/-- The same slot written once more with what it holds. -/
theorem EnvR.same {ρ : Ren} {ve : VEnv} {e : Env} (he : EnvR ρ ve e) {d : Nat} {v : Value} (hv : e.get d = some v) : EnvR ρ ve (e.set d v) := fun t u hu => by
  rw [Env.get_set]
  by_cases h : d = t
  · subst h
    rw [if_pos rfl]
    obtain ⟨v', h1, h2⟩ := he _ u hu
    rw [hv] at h1
    cases h1
    exact ⟨_, rfl, h2⟩
  · rw [if_neg h]
    exact he t u hu

def veval (ve : VEnv) : Operand → Option Value
  | .tmp t => ve.get t
  | .const v => bif vconst v then some v else none
  | .global _ => none
  | .func f => some (.func (.func f) #[] #[])

def vevals (ve : VEnv) : List Operand → Option (List Value)
  | [] => some []
  | x :: l => match veval ve x with
    | some v => match vevals ve l with
      | some vs => some (v :: vs)
      | none => none
    | none => none

def vevalo (ve : VEnv) : Option Operand → Option (Option Value)
  | none => some none
  | some x => match veval ve x with
    | some v => some (some v)
    | none => none

def vevalp (ve : VEnv) : List (Nat × Operand) → Option (List (Nat × Value))
  | [] => some []
  | (j, x) :: l => match veval ve x with
    | some v => match vevalp ve l with
      | some vs => some ((j, v) :: vs)
      | none => none
    | none => none

inductive PR (ρ : Ren) : List (Nat × Value) → List (Nat × Value) → Prop
  | nil : PR ρ [] []
  | cons (j : Nat) {v v' : Value} {l l' : List (Nat × Value)} : VR ρ v v' → PR ρ l l' → PR ρ ((j, v) :: l) ((j, v') :: l')

inductive OVR (ρ : Ren) : Option Value → Option Value → Prop
  | none : OVR ρ none none
  | some {v v' : Value} : VR ρ v v' → OVR ρ (some v) (some v')

section
variable {ρ : Ren} {ve : VEnv} {e : Env}

theorem veval_ok (he : EnvR ρ ve e) {x : Operand} {v : Value} (h : veval ve x = some v) : ∃ v', e.eval x = some v' ∧ VR ρ v v' := by
  cases x with
  | tmp t => exact he t v h
  | const c =>
    simp only [veval] at h
    cases hc : vconst c with
    | false => rw [hc] at h; cases h
    | true => rw [hc] at h; cases h; exact ⟨_, rfl, vconst_ok hc⟩
  | global g => cases h
  | func f => cases h; exact ⟨_, rfl, VR.mk_fn .nil .nil⟩

theorem vevals_ok (he : EnvR ρ ve e) : ∀ {l : List Operand} {vs : List Value}, vevals ve l = some vs → ∃ vs', e.evals l = some vs' ∧ VRs ρ vs vs'
  | [], _, h => by cases h; exact ⟨[], rfl, .nil⟩
  | x :: l, _, h => by
    simp only [vevals] at h
    split at h
    · rename_i v hv
      split at h
      · rename_i vs hvs
        cases h
        obtain ⟨v', h1, h2⟩ := veval_ok he hv
        obtain ⟨vs', h3, h4⟩ := vevals_ok he hvs
        exact ⟨v' :: vs', by simp [Env.evals, h1, h3], .cons h2 h4⟩
      · cases h
    · cases h

theorem vevalo_ok (he : EnvR ρ ve e) {x : Option Operand} {v : Option Value} (h : vevalo ve x = some v) : ∃ v', e.evalo x = some v' ∧ OVR ρ v v' := by
  cases x with
  | none => cases h; exact ⟨none, rfl, .none⟩
  | some x =>
    simp only [vevalo] at h
    split at h
    · rename_i v hv
      cases h
      obtain ⟨v', h1, h2⟩ := veval_ok he hv
      exact ⟨some v', by simp [Env.evalo, h1], .some h2⟩
    · cases h

theorem vevalp_ok (he : EnvR ρ ve e) : ∀ {l : List (Nat × Operand)} {vs : List (Nat × Value)}, vevalp ve l = some vs → ∃ vs', e.evalp l = some vs' ∧ PR ρ vs vs'
  | [], _, h => by cases h; exact ⟨[], rfl, .nil⟩
  | (j, x) :: l, _, h => by
    simp only [vevalp] at h
    split at h
    · rename_i v hv
      split at h
      · rename_i vs hvs
        cases h
        obtain ⟨v', h1, h2⟩ := veval_ok he hv
        obtain ⟨vs', h3, h4⟩ := vevalp_ok he hvs
        exact ⟨(j, v') :: vs', by simp [Env.evalp, h1, h3], .cons j h2 h4⟩
      · cases h
    · cases h

end

/-! ### The operations -/
def okB (op : BinOp) (b : Int) : Bool :=
  match op with
  | .shl | .shr => decide (0 ≤ b)
  | .quo | .rem => !decide (b = 0)
  | _ => true

def snd? (x : Option (List Prop × Value)) : Option Value :=
  match x with
  | some (_, v) => some v
  | none => none

def vbin (i : TI) (op : BinOp) (x y : Value) : Option Value :=
  match x, y with
  | .int k a, .int k' b => bif okB op b then snd? (abin i op (.int k a) (.int k' b)) else none
  | .bool a, .bool b => snd? (abin i op (.bool a) (.bool b))
  | .pointer p, .pointer none => snd? (abin i op (.pointer p) (.pointer none))
  | .slice p n c, .slice none _ _ => snd? (abin i op (.slice p n c) (.slice none 0 0))
  | .nilFunc, .nilFunc => snd? (abin i op .nilFunc .nilFunc)
  | .func f a c, .nilFunc => snd? (abin i op (.func f a c) .nilFunc)
  | _, _ => none

section
variable {ρ : Ren}

theorem no_ps : ∀ p ∈ ([] : List Prop), p := fun p hp => by cases hp

theorem snd?_some {x : Option (List Prop × Value)} {v : Value} (h : snd? x = some v) : ∃ ps, x = some (ps, v) := by
  unfold snd? at h
  split at h
  · cases h; exact ⟨_, rfl⟩
  · cases h

theorem abin_scalar {i : TI} {op : BinOp} {x y v : Value} {ps : List Prop} (hx : x = .nilFunc ∨ (∃ a, x = .bool a) ∨ (∃ k n, x = .int k n)) (h : abin i op x y = some (ps, v)) : (∃ b, v = .bool b) ∨ ∃ k n, v = .int k n := by
  unfold abin at h
  split at h
  · split at h
    · cases h; exact .inr ⟨_, _, rfl⟩
    · cases h; exact .inr ⟨_, _, rfl⟩
    · rename_i k a k' b op' _ _
      cases hk : kindN k == kindN k' with
      | false => rw [hk] at h; cases h
      | true =>
        rw [hk, cond_true] at h
        cases op <;> simp only [intBin, Option.some.injEq, Prod.mk.injEq, reduceCtorEq] at h <;> (obtain ⟨rfl, rfl⟩ := h; first | exact .inl ⟨_, rfl⟩ | exact .inr ⟨_, _, rfl⟩)
  · split at h <;> first | (cases h; exact .inl ⟨_, rfl⟩) | cases h
  · split at h <;> first | (cases h; exact .inl ⟨_, rfl⟩) | cases h
  · split at h <;> first | (cases h; exact .inl ⟨_, rfl⟩) | cases h
  · split at h <;> first | (cases h; exact .inl ⟨_, rfl⟩) | cases h
  · cases h

theorem scalar_VR {v : Value} (h : (∃ b, v = .bool b) ∨ ∃ k n, v = .int k n) : VR ρ v v := by
  rcases h with ⟨b, rfl⟩ | ⟨k, n, rfl⟩
  · exact .bool b
  · exact .int k n

theorem vbin_ok {i : TI} {op : BinOp} {x y x' y' v : Value} (h : vbin i op x y = some v) (hx : VR ρ x x') (hy : VR ρ y y') : ∃ ps v', abin i op x' y' = some (ps, v') ∧ (∀ p ∈ ps, p) ∧ VR ρ v v' := by
  unfold vbin at h
  split at h
  · rename_i k a k' b
    cases hx
    cases hy
    cases hb : okB op b with
    | false => rw [hb] at h; cases h
    | true =>
      rw [hb, cond_true] at h
      obtain ⟨ps, hps⟩ := snd?_some h
      refine ⟨ps, v, hps, ?_, scalar_VR (abin_scalar (.inr (.inr ⟨_, _, rfl⟩)) hps)⟩
      unfold abin at hps
      dsimp only at hps
      split at hps
      · cases hps
        intro p hp
        obtain rfl := List.mem_singleton.1 hp
        simpa [okB] using hb
      · cases hps
        intro p hp
        obtain rfl := List.mem_singleton.1 hp
        simpa [okB] using hb
      · cases hk : kindN k == kindN k' with
        | false => rw [hk] at hps; cases hps
        | true =>
          rw [hk, cond_true] at hps
          cases op <;> simp only [intBin, Option.some.injEq, Prod.mk.injEq, reduceCtorEq] at hps <;> obtain ⟨rfl, rfl⟩ := hps <;> intro p hp <;>
            first | (cases hp; done) | (obtain rfl := List.mem_singleton.1 hp; simpa [okB] using hb)
  · cases hx
    cases hy
    obtain ⟨ps, hps⟩ := snd?_some h
    refine ⟨ps, v, hps, ?_, scalar_VR (abin_scalar (.inr (.inl ⟨_, rfl⟩)) hps)⟩
    unfold abin at hps
    dsimp only at hps
    split at hps <;> first | (cases hps; intro p hp; cases hp; done) | cases hps
  · rename_i p
    have hy' : y' = .pointer none := by cases hy; rfl
    subst hy'
    obtain ⟨ps, hps⟩ := snd?_some h
    unfold abin at hps
    cases hx with
    | ptr0 =>
      dsimp only at hps
      unfold abin
      split at hps
      · cases hps
        dsimp only
        exact ⟨[], _, rfl, no_ps, .bool _⟩
      · cases hps
        dsimp only
        exact ⟨[], _, rfl, no_ps, .bool _⟩
      · cases hps
    | ptr b o x hx =>
      dsimp only at hps
      unfold abin
      split at hps
      · cases hps
        dsimp only
        exact ⟨[], _, rfl, no_ps, .bool _⟩
      · cases hps
        dsimp only
        exact ⟨[], _, rfl, no_ps, .bool _⟩
      · cases hps
  · rename_i p n c n2 c2
    obtain ⟨n3, c3, hy'⟩ : ∃ n3 c3, y' = .slice none n3 c3 := by cases hy; exact ⟨_, _, rfl⟩
    subst hy'
    obtain ⟨ps, hps⟩ := snd?_some h
    unfold abin at hps
    cases hx with
    | sl0 _ _ c' hc =>
      dsimp only at hps
      unfold abin
      split at hps
      · cases hps
        dsimp only
        exact ⟨[], _, rfl, no_ps, .bool _⟩
      · cases hps
        dsimp only
        exact ⟨[], _, rfl, no_ps, .bool _⟩
      · cases hps
    | sl b o _ _ c' x hx hc =>
      dsimp only at hps
      unfold abin
      split at hps
      · cases hps
        dsimp only
        exact ⟨[], _, rfl, no_ps, .bool _⟩
      · cases hps
        dsimp only
        exact ⟨[], _, rfl, no_ps, .bool _⟩
      · cases hps
  · cases hx
    cases hy
    obtain ⟨ps, hps⟩ := snd?_some h
    refine ⟨ps, v, hps, ?_, scalar_VR (abin_scalar (.inl rfl) hps)⟩
    unfold abin at hps
    dsimp only at hps
    split at hps
    · cases hps; intro p hp; obtain rfl := List.mem_singleton.1 hp; exact True.intro
    · cases hps; intro p hp; obtain rfl := List.mem_singleton.1 hp; exact True.intro
    · cases hps
  · rename_i f a c
    cases hy
    obtain ⟨ps, hps⟩ := snd?_some h
    have hx' : ∃ f' a' c', x' = .func f' a' c' := by cases hx <;> exact ⟨_, _, _, rfl⟩
    obtain ⟨f', a', c', rfl⟩ := hx'
    unfold abin at hps ⊢
    dsimp only at hps ⊢
    split at hps
    · cases hps
      exact ⟨_, _, rfl, fun p hp => by (obtain rfl := List.mem_singleton.1 hp; exact True.intro), .bool _⟩
    · cases hps
      exact ⟨_, _, rfl, fun p hp => by (obtain rfl := List.mem_singleton.1 hp; exact True.intro), .bool _⟩
    · cases hps
  · cases h

end

end Go.Eng

/- The operations that touch no memory, on values over names, all of them. Conditions: none. -/
namespace Go.Eng
open Go

def inB (x : Int) (n : Nat) : Bool := decide (0 ≤ x) && Nat.ble x.toNat n

theorem inB_ok {x : Int} {n m : Nat} (h : inB x n = true) (hm : n ≤ m) : 0 ≤ x ∧ x ≤ (m : Int) := by
  simp only [inB, Bool.and_eq_true, decide_eq_true_eq] at h
  have := Nat.le_of_ble_eq_true h.2
  omega

def evenB (c : Nat) : Bool := Nat.beq (c % 2) 0

def vslice (size : Nat) (p : Option Addr) (len c : Nat) : (lo hi mx : Option Value) → Option Value
  | none, none, none => some (.slice p len c)
  | none, some (.int _ h), none => bif inB h (c / 2) then some (.slice p h.toNat c) else none
  | some (.int _ l), none, none => bif inB l len && Nat.ble l.toNat (c / 2) && (evenB c || Nat.beq l.toNat 0 || Nat.blt l.toNat (c / 2)) then some (.slice (slp p l.toNat (c / 2) size) (len - l.toNat) (c - 2 * l.toNat)) else none
  | some (.int _ l), some (.int _ h), none =>
    bif inB h (c / 2) && (decide (0 ≤ l) && decide (l ≤ h)) && (evenB c || Nat.beq l.toNat 0 || Nat.blt l.toNat (c / 2)) then some (.slice (slp p l.toNat (c / 2) size) (h.toNat - l.toNat) (c - 2 * l.toNat)) else none
  | some (.int _ l), some (.int _ h), some (.int _ m) =>
    bif inB m (c / 2) && (decide (0 ≤ h) && decide (h ≤ m)) && (decide (0 ≤ l) && decide (l ≤ h)) then some (.slice (slp p l.toNat m.toNat size) (h.toNat - l.toNat) (2 * (m.toNat - l.toNat))) else none
  | _, _, _ => none

def vbuiltin (T : TT) (b : Builtin) (ts : List TypeId) (args : List Value) : Option Value :=
  match b, ts, args with
  | .len, t :: _, [.slice _ n _] => match T t with
    | some i => match i.k with
      | .slice _ => some (.int .i64 n)
      | _ => none
    | none => none
  | .len, t :: _, [.string s] => match T t with
    | some i => match i.k with
      | .str => some (.int .i64 s.size)
      | _ => none
    | none => none
  | .len, t :: _, [_] => match T t with
    | some i => match i.k with
      | .arr n _ => some (.int .i64 n)
      | _ => none
    | none => none
  | .cap, t :: _, [.slice _ _ c] => bif evenB c then match T t with
    | some i => match i.k with
      | .slice _ => some (.int .i64 (c / 2 : Nat))
      | _ => none
    | none => none
    else none
  | .max, _, [.int k x, .int k' y] => aextreme true [.int k x, .int k' y]
  | .min, _, [.int k x, .int k' y] => aextreme false [.int k x, .int k' y]
  | _, _, _ => none

def vpv (T : TT) (e : VEnv) : Op → Option Value
  | .move x => veval e x
  | .assign x => veval e x
  | .pick c a b => match veval e c, veval e a, veval e b with
    | some (.bool t), some x, some y => some (pickV t x y)
    | _, _, _ => none
  | .nilCheck x => match veval e x with
    | some (.pointer (some a)) => some (.pointer (some a))
    | some (.func (.func f) a c) => some (.func (.func f) a c)
    | some (.func (.yield l) a c) => some (.func (.yield l) a c)
    | _ => none
  | .binOp op t x y _ => match T t, veval e x, veval e y with
    | some i, some a, some b => vbin i op a b
    | _, _, _ => none
  | .unOp op _ x => match op, veval e x with
    | .not, some (.bool b) => some (.bool (!b))
    | .neg, some (.int k n) => some (.int k (k.wrap (0 - n)))
    | .xor, some (.int k n) => some (.int k (xorI k (if k.signed then -1 else k.max) n))
    | _, _ => none
  | .convert s d x => match T s, T d, veval e x with
    | some is, some id, some (.int _ n) => match id.k with
      | .int k => bif nonOther is.k then some (.int k (k.wrap n)) else none
      | _ => none
    | _, _, _ => none
  | .makeFunc (.func fn) first cap => match vevals e first.toList, vevals e cap.toList with
    | some a, some b => some (.func (.func fn) a.toArray b.toArray)
    | _, _ => none
  | .slice t x lo hi mx => match T t, veval e x, vevalo e lo, vevalo e hi, vevalo e mx with
    | some i, some (.slice p len cap), some l, some h, some m => match i.k with
      | .slice el => match T el with
        | some ie => vslice ie.size p len cap l h m
        | none => none
      | _ => none
    | _, _, _, _, _ => none
  | .fieldAddr s x f => match T s, veval e x with
    | some i, some (.pointer (some ⟨b, o, none⟩)) => match i.k with
      | .struct fs => match fs[f]? with
        | some (off, ft) => match T ft with
          | some j => bif j.size == 0 then none else some (.pointer (some ⟨b, o + off, none⟩))
          | none => none
        | none => none
      | _ => none
    | _, _ => none
  | .field s x f => match T s, veval e x with
    | some i, some (.agg cs) => match i.k with
      | .struct fs => match fs[f]? with
        | some (off, ft) => match T ft with
          | some j => bif nonOther j.k then aggPart cs.toList off j.size j.isAgg else none
          | none => none
        | none => none
      | _ => none
    | _, _ => none
  | .indexAddr t x ix => match T t, veval e x, veval e ix with
    | some i, some (.slice (some ⟨b, o, none⟩) len _), some (.int _ n) => match i.k with
      | .slice el => match T el with
        | some ie => bif decide (0 ≤ n) && decide (n < len) then some (.pointer (some ⟨b, o + n.toNat * ie.size, none⟩)) else none
        | none => none
      | _ => none
    | some i, some (.pointer (some ⟨b, o, none⟩)), some (.int _ n) => match i.k with
      | .arr len el => match T el with
        | some ie => bif decide (0 ≤ n) && decide (n < len) then some (.pointer (some ⟨b, o + n.toNat * ie.size, none⟩)) else none
        | none => none
      | _ => none
    | _, _, _ => none
  | .index t x ix => match T t, veval e x, veval e ix with
    | some i, some (.string s), some (.int _ n) => match i.k with
      | .str => bif decide (0 ≤ n) && decide (n < s.size) then some (.int .u8 ((s.data.toList.getD n.toNat 0).toNat : Int)) else none
      | _ => none
    | some i, some (.agg cs), some (.int _ n) => match i.k with
      | .arr len el => match T el, aints cs.toList with
        | some ie, some (k, l) => match ie.k with
          | .int _ => bif (ie.size == 1 && Nat.ble len l.length) && (decide (0 ≤ n) && decide (n < len)) then some (.int k (l.getD n.toNat 0)) else none
          | _ => none
        | _, _ => none
      | _ => none
    | _, _, _ => none
  | .extract x j => match veval e x with
    | some (.tuple vs) => vs.toList[j]?
    | _ => none
  | .build t parts => match T t, vevalp e parts.toList with
    | some i, some l => bif vconstL i.zero then abuild T i l else none
    | _, _ => none
  | .call c => match c.callee, vevals e c.args.toList with
    | .builtin b, some args => vbuiltin T b c.argTypes.toList args
    | _, _ => none
  | _ => none

/-! ### Proofs -/
section
variable {ρ : Ren}

theorem VR.slp_ptr {b o n c c' : Nat} {x : RB} (hx : ρ b = some x) {l m m' size len : Nat} (h : m = l ∨ m' = l → (m = l ∧ m' = l) ∨ l = 0)
    (hc : c' = capOf x c) : VR ρ (.slice (slp (some ⟨b, o, none⟩) l m size) n c) (.slice (slp (some ⟨x.r, o, none⟩) l m' size) n c') ∧ len = len := by
  refine ⟨?_, rfl⟩
  unfold slp
  by_cases h1 : m = l
  · rcases h (.inl h1) with ⟨_, h2⟩ | h2
    · rw [if_pos h1, if_pos h2]
      exact .sl _ _ _ _ _ _ hx hc
    · subst h2
      rw [if_pos h1, Nat.zero_mul]
      have : padd (some (⟨x.r, o, none⟩ : Addr)) 0 = some ⟨x.r, o, none⟩ := padd_zero _
      rw [this, ite_self]
      exact .sl _ _ _ _ _ _ hx hc
  · by_cases h2 : m' = l
    · rcases h (.inr h2) with ⟨h3, _⟩ | h3
      · exact absurd h3 h1
      · subst h3
        rw [if_pos h2, Nat.zero_mul]
        have : padd (some (⟨b, o, none⟩ : Addr)) 0 = some ⟨b, o, none⟩ := padd_zero _
        rw [this, ite_self]
        exact .sl _ _ _ _ _ _ hx hc
    · rw [if_neg h1, if_neg h2, padd_some, padd_some]
      exact .sl _ _ _ _ _ _ hx hc

theorem slp_none (l m size : Nat) : slp none l m size = none := by
  unfold slp padd
  split <;> rfl

theorem capOf_even {x : RB} {c : Nat} (h : evenB c = true) : capOf x c = c / 2 := by
  unfold capOf
  unfold evenB at h
  rw [h]; rfl

theorem capOf_sub {x : RB} {c l : Nat} (h : l ≤ c / 2) : capOf x c - l = capOf x (c - 2 * l) := by
  unfold capOf
  have : (c - 2 * l) % 2 = c % 2 := by omega
  rw [this]
  cases Nat.beq (c % 2) 0
  · simp only [cond_false]; omega
  · simp only [cond_true]; omega

theorem capOf_two (x : RB) (n : Nat) : n = capOf x (2 * n) := by
  unfold capOf
  have h1 : 2 * n % 2 = 0 := by omega
  have h2 : 2 * n / 2 = n := by omega
  rw [h1, h2]; rfl

theorem cut_ok {x : RB} {c l : Nat} (h : (evenB c || Nat.beq l 0 || Nat.blt l (c / 2)) = true) : c / 2 = l ∨ capOf x c = l → (c / 2 = l ∧ capOf x c = l) ∨ l = 0 := by
  intro h2
  simp only [Bool.or_eq_true] at h
  rcases h with (h | h) | h
  · rw [capOf_even h] at h2 ⊢
    exact .inl ⟨h2.elim id id, h2.elim id id⟩
  · exact .inr (Nat.eq_of_beq_eq_true h)
  · have h3 : l + 1 ≤ c / 2 := Nat.le_of_ble_eq_true h
    have := capOf_ge x c
    omega

theorem vslice_ok {size len c : Nat} {p : Option Addr} {lo hi mx lo' hi' mx' : Option Value} {v w : Value} (h : vslice size p len c lo hi mx = some v) (hw : VR ρ (.slice p len c) w) (hlo : OVR ρ lo lo') (hhi : OVR ρ hi hi') (hmx : OVR ρ mx mx') :
    ∃ p' c' ps v', w = .slice p' len c' ∧ aslice size p' len c' lo' hi' mx' = some (ps, v') ∧ (∀ q ∈ ps, q) ∧ VR ρ v v' := by
  have two : ∀ {q1 q2 : Prop}, q1 → q2 → ∀ q ∈ [q1, q2], q := fun h1 h2 q hq => by
    simp only [List.mem_cons, List.not_mem_nil, or_false] at hq
    rcases hq with rfl | rfl
    · exact h1
    · exact h2
  have four : ∀ {q1 q2 q3 q4 : Prop}, q1 → q2 → q3 → q4 → ∀ q ∈ [q1, q2, q3, q4], q := fun h1 h2 h3 h4 q hq => by
    simp only [List.mem_cons, List.not_mem_nil, or_false] at hq
    rcases hq with rfl | rfl | rfl | rfl <;> assumption
  have six : ∀ {q1 q2 q3 q4 q5 q6 : Prop}, q1 → q2 → q3 → q4 → q5 → q6 → ∀ q ∈ [q1, q2, q3, q4, q5, q6], q := fun h1 h2 h3 h4 h5 h6 q hq => by
    simp only [List.mem_cons, List.not_mem_nil, or_false] at hq
    rcases hq with rfl | rfl | rfl | rfl | rfl | rfl <;> assumption
  unfold vslice at h
  split at h
  · cases hlo; cases hhi; cases hmx
    cases h
    cases hw with
    | sl0 _ _ c' hc => exact ⟨_, _, _, _, rfl, rfl, no_ps, .sl0 _ _ _ hc⟩
    | sl b o _ _ c' x hx hc => exact ⟨_, _, _, _, rfl, rfl, no_ps, .sl _ _ _ _ _ _ hx hc⟩
  · rename_i kk hh
    cases hlo; cases hmx
    cases hhi with
    | some hhi =>
    cases hhi
    cases hb : inB hh (c / 2) with
    | false => rw [hb] at h; cases h
    | true =>
      rw [hb, cond_true] at h
      cases h
      cases hw with
      | sl0 _ _ c' hc =>
        obtain ⟨h1, h2⟩ := inB_ok (m := c') hb (by omega)
        exact ⟨_, _, _, _, rfl, rfl, two h1 h2, .sl0 _ _ _ hc⟩
      | sl b o _ _ c' x hx hc =>
        obtain ⟨h1, h2⟩ := inB_ok (m := c') hb (by rw [hc]; exact capOf_ge ..)
        exact ⟨_, _, _, _, rfl, rfl, two h1 h2, .sl _ _ _ _ _ _ hx hc⟩
  · rename_i kk l
    cases hhi; cases hmx
    cases hlo with
    | some hlo =>
    cases hlo
    cases hb : inB l len && Nat.ble l.toNat (c / 2) && (evenB c || Nat.beq l.toNat 0 || Nat.blt l.toNat (c / 2)) with
    | false => rw [hb] at h; cases h
    | true =>
      rw [hb, cond_true] at h
      cases h
      rw [Bool.and_eq_true, Bool.and_eq_true] at hb
      obtain ⟨⟨hb1, hb2⟩, hb3⟩ := hb
      obtain ⟨h1, h2⟩ := inB_ok hb1 (Nat.le_refl _)
      have h3 := Nat.le_of_ble_eq_true hb2
      cases hw with
      | sl0 _ _ c' hc =>
        refine ⟨_, _, _, _, rfl, rfl, two h1 h2, ?_⟩
        rw [slp_none, slp_none]
        exact .sl0 _ _ _ (by omega)
      | sl b o _ _ c' x hx hc =>
        refine ⟨_, _, _, _, rfl, rfl, two h1 h2, ?_⟩
        subst hc
        exact (VR.slp_ptr (len := 0) hx (cut_ok hb3) (capOf_sub h3)).1
  · rename_i kk l kk2 hh
    cases hmx
    cases hlo with
    | some hlo =>
    cases hlo
    cases hhi with
    | some hhi =>
    cases hhi
    cases hb : inB hh (c / 2) && (decide (0 ≤ l) && decide (l ≤ hh)) && (evenB c || Nat.beq l.toNat 0 || Nat.blt l.toNat (c / 2)) with
    | false => rw [hb] at h; cases h
    | true =>
      rw [hb, cond_true] at h
      cases h
      rw [Bool.and_eq_true, Bool.and_eq_true, Bool.and_eq_true, decide_eq_true_eq, decide_eq_true_eq] at hb
      obtain ⟨⟨hb1, hb2, hb4⟩, hb3⟩ := hb
      obtain ⟨h0, h5⟩ := inB_ok hb1 (Nat.le_refl _)
      have h3 : l.toNat ≤ c / 2 := by omega
      cases hw with
      | sl0 _ _ c' hc =>
        obtain ⟨h1, h2⟩ := inB_ok (m := c') hb1 (by omega)
        refine ⟨_, _, _, _, rfl, rfl, four h1 h2 hb2 hb4, ?_⟩
        rw [slp_none, slp_none]
        exact .sl0 _ _ _ (by omega)
      | sl b o _ _ c' x hx hc =>
        obtain ⟨h1, h2⟩ := inB_ok (m := c') hb1 (by rw [hc]; exact capOf_ge ..)
        refine ⟨_, _, _, _, rfl, rfl, four h1 h2 hb2 hb4, ?_⟩
        subst hc
        exact (VR.slp_ptr (len := 0) hx (cut_ok hb3) (capOf_sub h3)).1
  · rename_i kk l kk2 hh kk3 m
    cases hlo with
    | some hlo =>
    cases hlo
    cases hhi with
    | some hhi =>
    cases hhi
    cases hmx with
    | some hmx =>
    cases hmx
    cases hb : inB m (c / 2) && (decide (0 ≤ hh) && decide (hh ≤ m)) && (decide (0 ≤ l) && decide (l ≤ hh)) with
    | false => rw [hb] at h; cases h
    | true =>
      rw [hb, cond_true] at h
      cases h
      rw [Bool.and_eq_true, Bool.and_eq_true, Bool.and_eq_true, Bool.and_eq_true, decide_eq_true_eq, decide_eq_true_eq, decide_eq_true_eq, decide_eq_true_eq] at hb
      obtain ⟨⟨hb1, hb2, hb4⟩, hb3, hb5⟩ := hb
      cases hw with
      | sl0 _ _ c' hc =>
        obtain ⟨h1, h2⟩ := inB_ok (m := c') hb1 (by omega)
        refine ⟨_, _, _, _, rfl, rfl, six h1 h2 hb2 hb4 hb3 hb5, ?_⟩
        rw [slp_none]
        exact .sl0 _ _ _ rfl
      | sl b o _ _ c' x hx hc =>
        obtain ⟨h1, h2⟩ := inB_ok (m := c') hb1 (by rw [hc]; exact capOf_ge ..)
        refine ⟨_, _, _, _, rfl, rfl, six h1 h2 hb2 hb4 hb3 hb5, ?_⟩
        exact (VR.slp_ptr (len := 0) hx (fun h => .inl ⟨h.elim id id, h.elim id id⟩) (capOf_two _ _)).1
  · cases h

theorem VRs.part {cs cs' : List Value} (h : VRs ρ cs cs') {off size : Nat} {agg : Bool} {v : Value} (hv : aggPart cs off size agg = some v) : ∃ v', aggPart cs' off size agg = some v' ∧ VR ρ v v' := by
  unfold aggPart at hv ⊢
  cases agg with
  | true =>
    rw [cond_true] at hv ⊢
    cases hv
    exact ⟨_, rfl, VR.mk_agg (by simpa using (h.drop off).take size)⟩
  | false =>
    rw [cond_false] at hv ⊢
    exact h.get hv

theorem VRs.ints {cs cs' : List Value} (h : VRs ρ cs cs') {k : IntKind} {l : List Int} (hv : aints cs = some (k, l)) : cs' = cs := by
  have e := aints_get hv
  subst e
  clear hv
  induction l generalizing cs' with
  | nil => cases h; rfl
  | cons n l ih => cases h with
    | cons h1 h2 =>
      cases h1
      rw [ih h2]
      rfl

theorem bfill_ok {place : Nat → Option (Nat × Nat)} : ∀ {parts parts' : List (Nat × Value)} {cs cs' r : List Value}, PR ρ parts parts' → VRs ρ cs cs' → bfill place cs parts = some r → ∃ r', bfill place cs' parts' = some r' ∧ VRs ρ r r'
  | [], _, cs, cs', r, hp, hc, h => by
    cases hp
    cases h
    exact ⟨cs', rfl, hc⟩
  | (j, v) :: parts, _, cs, cs', r, hp, hc, h => by
    cases hp with
    | cons _ hv hp =>
      unfold bfill at h ⊢
      split at h
      · cases h
      · rename_i off size ho
        have h1 := hv.vcells
        rw [← h1.length, ← hc.length]
        cases hb : ((vcells v).length == size && (off + (vcells v).length).ble cs.length) with
        | false => rw [hb] at h; cases h
        | true =>
          rw [hb, cond_true] at h
          rw [cond_true]
          exact bfill_ok hp (hc.lset h1 off) h

theorem abuild_ok {T : TT} {i : TI} {l l' : List (Nat × Value)} {v : Value} (hz : vconstL i.zero = true) (hl : PR ρ l l') (h : abuild T i l = some v) : ∃ v', abuild T i l' = some v' ∧ VR ρ v v' := by
  unfold abuild at h ⊢
  split at h
  · split at h
    · split at h
      · rename_i hb
        cases h
        obtain ⟨r', h1, h2⟩ := bfill_ok hl (vconstL_ok hz) hb
        rw [h1]
        exact ⟨_, rfl, VR.mk_agg (by simpa using h2)⟩
      · cases h
    · cases h
  · split at h
    · split at h
      · rename_i hb
        cases h
        obtain ⟨r', h1, h2⟩ := bfill_ok hl (vconstL_ok hz) hb
        rw [h1]
        exact ⟨_, rfl, VR.mk_agg (by simpa using h2)⟩
      · cases h
    · cases h
  · cases h

theorem vbuiltin_ok {T : TT} {b : Builtin} {ts : List TypeId} {args args' : List Value} {v : Value} (h : vbuiltin T b ts args = some v) (ha : VRs ρ args args') : ∃ ps v', abuiltin T b ts args' = some (ps, v') ∧ (∀ q ∈ ps, q) ∧ VR ρ v v' := by
  unfold vbuiltin at h
  split at h
  · split at h
    · rename_i i hi
      split at h
      · rename_i hk
        cases h
        cases ha with
        | cons h1 h2 =>
          cases h2
          cases h1 with
          | sl0 _ _ c' hc => exact ⟨[], _, by simp [abuiltin, hi, hk], no_ps, .int ..⟩
          | sl b o _ _ c' x hx hc => exact ⟨[], _, by simp [abuiltin, hi, hk], no_ps, .int ..⟩
      · cases h
    · cases h
  · split at h
    · rename_i i hi
      split at h
      · rename_i hk
        cases h
        cases ha with
        | cons h1 h2 =>
          cases h2
          cases h1
          exact ⟨[], _, by simp [abuiltin, hi, hk], no_ps, .int ..⟩
      · cases h
    · cases h
  · split at h
    · rename_i i hi
      split at h
      · rename_i hk
        cases h
        cases ha with
        | cons h1 h2 =>
          cases h2
          exact ⟨[], _, by simp [abuiltin, hi, hk], no_ps, .int ..⟩
      · cases h
    · cases h
  · rename_i c
    cases he : evenB c with
    | false => rw [he] at h; cases h
    | true =>
      rw [he, cond_true] at h
      split at h
      · rename_i i hi
        split at h
        · rename_i hk
          cases h
          cases ha with
          | cons h1 h2 =>
            cases h2
            cases h1 with
            | sl0 _ _ c' hc =>
              have : c / 2 = c' := by omega
              rw [this]
              exact ⟨[], _, by simp [abuiltin, hi, hk], no_ps, .int ..⟩
            | sl b o _ _ c' x hx hc =>
              rw [capOf_even he] at hc
              rw [← hc]
              exact ⟨[], _, by simp [abuiltin, hi, hk], no_ps, .int ..⟩
        · cases h
      · cases h
  · cases ha with
    | cons h1 h2 =>
      cases h2 with
      | cons h2 h3 =>
        cases h3
        cases h1
        cases h2
        refine ⟨[], v, ?_, no_ps, ?_⟩
        · simp [abuiltin, h]
        · simp only [aextreme, Option.some.injEq] at h
          subst h
          exact .int ..
  · cases ha with
    | cons h1 h2 =>
      cases h2 with
      | cons h2 h3 =>
        cases h3
        cases h1
        cases h2
        refine ⟨[], v, ?_, no_ps, ?_⟩
        · simp [abuiltin, h]
        · simp only [aextreme, Option.some.injEq] at h
          subst h
          exact .int ..
  · cases h

end
end Go.Eng

/- An operation that touches no memory, on values over names, stands for that of the model. Conditions: none. -/
namespace Go.Eng
open Go

section
variable {ρ : Ren} {ve : VEnv} {e : Env} {T : TT}

theorem pick_ok {b : Bool} {x x' y y' : Value} (hx : VR ρ x x') (hy : VR ρ y y') : VR ρ (pickV b x y) (pickV b x' y') := by
  rw [pickV_eq, pickV_eq]
  cases b
  · exact hy
  · exact hx

theorem one_ps {p : Prop} (h : p) : ∀ q ∈ [p], q := fun q hq => by obtain rfl := List.mem_singleton.1 hq; exact h
theorem three_ps {p1 p2 p3 : Prop} (h1 : p1) (h2 : p2) (h3 : p3) : ∀ q ∈ [p1, p2, p3], q := fun q hq => by
  simp only [List.mem_cons, List.not_mem_nil, or_false] at hq
  rcases hq with rfl | rfl | rfl <;> assumption

theorem vpv_ok (he : EnvR ρ ve e) {op : Op} {v : Value} (h : vpv T ve op = some v) : ∃ ps v', apv T e op = some (ps, v') ∧ (∀ q ∈ ps, q) ∧ VR ρ v v' := by
  unfold vpv at h
  split at h
  · obtain ⟨v', h1, h2⟩ := veval_ok he h
    exact ⟨[], v', by simp [apv, h1], no_ps, h2⟩
  · obtain ⟨v', h1, h2⟩ := veval_ok he h
    exact ⟨[], v', by simp [apv, h1], no_ps, h2⟩
  · split at h
    · rename_i t x y hc hx hy
      cases h
      obtain ⟨c', c1, c2⟩ := veval_ok he hc
      obtain ⟨x', x1, x2⟩ := veval_ok he hx
      obtain ⟨y', y1, y2⟩ := veval_ok he hy
      cases c2
      exact ⟨[], pickV t x' y', by simp only [apv, c1, x1, y1], no_ps, pick_ok x2 y2⟩
    · cases h
  · split at h
    · rename_i a hx
      cases h
      obtain ⟨x', x1, x2⟩ := veval_ok he hx
      cases x2 with
      | ptr b o x hb => exact ⟨[(some (⟨x.r, o, none⟩ : Addr)).isSome = true], .pointer (some ⟨x.r, o, none⟩), by simp only [apv, x1], one_ps rfl, .ptr b o x hb⟩
    · rename_i f a c hx
      cases h
      obtain ⟨x', x1, x2⟩ := veval_ok he hx
      obtain ⟨a', c', rfl, h3, h4⟩ := x2.arr_fn
      exact ⟨[callable (.func (.func f) a' c')], .func (.func f) a' c', by simp only [apv, x1], one_ps True.intro, VR.mk_fn h3 h4⟩
    · rename_i l a c hx
      cases h
      obtain ⟨x', x1, x2⟩ := veval_ok he hx
      cases x2 with
      | yl _ x hb => exact ⟨[callable (.func (.yield x.r) #[] #[])], .func (.yield x.r) #[] #[], by simp only [apv, x1], one_ps True.intro, .yl _ x hb⟩
    · cases h
  · split at h
    · rename_i i a b hi hx hy
      obtain ⟨x', x1, x2⟩ := veval_ok he hx
      obtain ⟨y', y1, y2⟩ := veval_ok he hy
      obtain ⟨ps, v', h1, h2, h3⟩ := vbin_ok h x2 y2
      exact ⟨ps, v', by simp [apv, hi, x1, y1, h1], h2, h3⟩
    · cases h
  · split at h
    · rename_i b hx
      cases h
      obtain ⟨x', x1, x2⟩ := veval_ok he hx
      cases x2
      exact ⟨[], .bool (!b), by simp only [apv, x1], no_ps, .bool _⟩
    · rename_i k n hx
      cases h
      obtain ⟨x', x1, x2⟩ := veval_ok he hx
      cases x2
      exact ⟨[], .int k (k.wrap (0 - n)), by simp only [apv, x1], no_ps, .int _ _⟩
    · rename_i k n hx
      cases h
      obtain ⟨x', x1, x2⟩ := veval_ok he hx
      cases x2
      exact ⟨[], _, by simp only [apv, x1], no_ps, .int _ _⟩
    · cases h
  · split at h
    · rename_i is id k n hs hd hx
      split at h
      · rename_i kk hk
        cases hn : nonOther is.k with
        | false => rw [hn] at h; cases h
        | true =>
          rw [hn, cond_true] at h
          cases h
          obtain ⟨x', x1, x2⟩ := veval_ok he hx
          cases x2
          exact ⟨[], _, by simp [apv, hs, hd, x1, hk, hn], no_ps, .int _ _⟩
      · cases h
    · cases h
  · split at h
    · rename_i a b ha hb
      cases h
      obtain ⟨a', a1, a2⟩ := vevals_ok he ha
      obtain ⟨b', b1, b2⟩ := vevals_ok he hb
      exact ⟨[], .func (.func _) a'.toArray b'.toArray, by simp only [apv, a1, b1], no_ps, VR.mk_fn (by simpa using a2) (by simpa using b2)⟩
    · cases h
  · split at h
    · rename_i i p len cap l hh m hi hx hl hhh hm
      split at h
      · rename_i el hk
        split at h
        · rename_i ie hie
          obtain ⟨x', x1, x2⟩ := veval_ok he hx
          obtain ⟨l', l1, l2⟩ := vevalo_ok he hl
          obtain ⟨h', h1, h2⟩ := vevalo_ok he hhh
          obtain ⟨m', m1, m2⟩ := vevalo_ok he hm
          obtain ⟨p', c', ps, v', rfl, h3, h4, h5⟩ := vslice_ok h x2 l2 h2 m2
          exact ⟨ps, v', by simp [apv, hi, x1, l1, h1, m1, hk, hie, h3], h4, h5⟩
        · cases h
      · cases h
    · cases h
  · split at h
    · rename_i i b o hi hx
      split at h
      · rename_i fs hk
        split at h
        · rename_i off ft hf
          split at h
          · rename_i j hj
            cases hz : (j.size == 0) with
            | true => rw [hz] at h; cases h
            | false =>
              rw [hz, cond_false] at h
              cases h
              obtain ⟨x', x1, x2⟩ := veval_ok he hx
              cases x2 with
              | ptr b o x hb =>
                refine ⟨[(some (⟨x.r, o, none⟩ : Addr)).isSome = true], .pointer (padd (some ⟨x.r, o, none⟩) off), by simp only [apv, hi, x1, hk, hf, hj, hz, cond_false], one_ps rfl, ?_⟩
                rw [padd_some]
                exact .ptr _ _ _ hb
          · cases h
        · cases h
      · cases h
    · cases h
  · split at h
    · rename_i i cs hi hx
      split at h
      · rename_i fs hk
        split at h
        · rename_i off ft hf
          split at h
          · rename_i j hj
            cases hz : nonOther j.k with
            | false => rw [hz] at h; cases h
            | true =>
              rw [hz, cond_true] at h
              obtain ⟨x', x1, x2⟩ := veval_ok he hx
              obtain ⟨a', rfl, ha⟩ := x2.arr_agg
              obtain ⟨v', h1, h2⟩ := ha.part h
              exact ⟨[], v', by simp [apv, hi, x1, hk, hf, hj, hz, h1], no_ps, h2⟩
          · cases h
        · cases h
      · cases h
    · cases h
  · split at h
    · rename_i i b o len cap kk n hi hx hn
      split at h
      · rename_i el hk
        split at h
        · rename_i ie hie
          cases hb : (decide (0 ≤ n) && decide (n < len)) with
          | false => rw [hb] at h; cases h
          | true =>
            rw [hb, cond_true] at h
            cases h
            rw [Bool.and_eq_true, decide_eq_true_eq, decide_eq_true_eq] at hb
            obtain ⟨x', x1, x2⟩ := veval_ok he hx
            obtain ⟨n', n1, n2⟩ := veval_ok he hn
            cases n2
            cases x2 with
            | sl b o _ _ c' x hx hc =>
              refine ⟨[0 ≤ n, n < len, (some (⟨x.r, o, none⟩ : Addr)).isSome = true], .pointer (padd (some ⟨x.r, o, none⟩) (n.toNat * ie.size)), by simp only [apv, hi, x1, n1, hk, hie], three_ps hb.1 hb.2 rfl, ?_⟩
              rw [padd_some]
              exact .ptr _ _ _ hx
        · cases h
      · cases h
    · rename_i i b o kk n hi hx hn
      split at h
      · rename_i len el hk
        split at h
        · rename_i ie hie
          cases hb : (decide (0 ≤ n) && decide (n < len)) with
          | false => rw [hb] at h; cases h
          | true =>
            rw [hb, cond_true] at h
            cases h
            rw [Bool.and_eq_true, decide_eq_true_eq, decide_eq_true_eq] at hb
            obtain ⟨x', x1, x2⟩ := veval_ok he hx
            obtain ⟨n', n1, n2⟩ := veval_ok he hn
            cases n2
            cases x2 with
            | ptr b o x hx =>
              refine ⟨[0 ≤ n, n < len, (some (⟨x.r, o, none⟩ : Addr)).isSome = true], .pointer (padd (some ⟨x.r, o, none⟩) (n.toNat * ie.size)), by simp only [apv, hi, x1, n1, hk, hie], three_ps hb.1 hb.2 rfl, ?_⟩
              rw [padd_some]
              exact .ptr _ _ _ hx
        · cases h
      · cases h
    · cases h
  · split at h
    · rename_i i s kk n hi hx hn
      split at h
      · rename_i hk
        cases hb : (decide (0 ≤ n) && decide (n < s.size)) with
        | false => rw [hb] at h; cases h
        | true =>
          rw [hb, cond_true] at h
          cases h
          rw [Bool.and_eq_true, decide_eq_true_eq, decide_eq_true_eq] at hb
          obtain ⟨x', x1, x2⟩ := veval_ok he hx
          obtain ⟨n', n1, n2⟩ := veval_ok he hn
          cases n2
          cases x2
          refine ⟨[0 ≤ n, n < s.size], .int .u8 ((s.data.toList.getD n.toNat 0).toNat : Int), by simp only [apv, hi, x1, n1, hk], ?_, .int _ _⟩
          intro q hq
          simp only [List.mem_cons, List.not_mem_nil, or_false] at hq
          rcases hq with rfl | rfl
          · exact hb.1
          · exact hb.2
      · cases h
    · rename_i i cs kk n hi hx hn
      split at h
      · rename_i len el hk
        split at h
        · rename_i ie k l hie hai
          split at h
          · rename_i kk2 hik
            cases hb : ((ie.size == 1 && Nat.ble len l.length) && (decide (0 ≤ n) && decide (n < len))) with
            | false => rw [hb] at h; cases h
            | true =>
              rw [hb, cond_true] at h
              cases h
              rw [Bool.and_eq_true, Bool.and_eq_true (decide (0 ≤ n)), decide_eq_true_eq, decide_eq_true_eq] at hb
              obtain ⟨x', x1, x2⟩ := veval_ok he hx
              obtain ⟨n', n1, n2⟩ := veval_ok he hn
              cases n2
              obtain ⟨a', rfl, ha⟩ := x2.arr_agg
              have hai' : aints a'.toList = some (k, l) := by rw [ha.ints hai]; exact hai
              refine ⟨[0 ≤ n, n < len], .int k (l.getD n.toNat 0), by simp only [apv, hi, x1, n1, hk, hie, hai', hik, hb.1, cond_true], ?_, .int _ _⟩
              intro q hq
              simp only [List.mem_cons, List.not_mem_nil, or_false] at hq
              rcases hq with rfl | rfl
              · exact hb.2.1
              · exact hb.2.2
          · cases h
        · cases h
      · cases h
    · cases h
  · split at h
    · rename_i vs hx
      obtain ⟨x', x1, x2⟩ := veval_ok he hx
      obtain ⟨a', rfl, ha⟩ := x2.arr_tup
      obtain ⟨v', h1, h2⟩ := ha.get h
      exact ⟨[], v', by simp only [apv, x1, h1], no_ps, h2⟩
    · cases h
  · split at h
    · rename_i i l hi hl
      cases hz : vconstL i.zero with
      | false => rw [hz] at h; cases h
      | true =>
        rw [hz, cond_true] at h
        obtain ⟨l', l1, l2⟩ := vevalp_ok he hl
        obtain ⟨v', h1, h2⟩ := abuild_ok hz l2 h
        exact ⟨[], v', by simp only [apv, hi, l1, h1], no_ps, h2⟩
    · cases h
  · split at h
    · rename_i b args hc ha
      obtain ⟨a', a1, a2⟩ := vevals_ok he ha
      obtain ⟨ps, v', h1, h2, h3⟩ := vbuiltin_ok h a2
      exact ⟨ps, v', by simp only [apv, hc, a1, h1], h2, h3⟩
    · cases h
  · cases h

end
end Go.Eng
