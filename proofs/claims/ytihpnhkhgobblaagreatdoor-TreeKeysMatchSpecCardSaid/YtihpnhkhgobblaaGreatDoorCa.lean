/- Reading lists of integers: the helpers of the loops. Conditions: none. -/
import Derived.Test.YtihpnhkhgobblaaGreatDoorLa
import Derived.Test.YtihpnhkhgobblaaGreatDoorSb
namespace Go.Eng
open Go Go.Proofs

theorem row_at {σ : Heap} {q : Option Addr} {n : Nat} {cs : List Value} (hl : σ.row q n cs) {k : Nat} {v : Value} (hk : cs[k]? = some v) {i : Int} (hi : i = (k : Int)) {t : TI} (ha : t.isAgg = false) (ht : t.size = 1) :
    q.isSome = true ∧ σ.ldT t (padd q (i.toNat * t.size)) = some v :=
  row_ld hl hk ha (by rw [hi, ht]; simp)

theorem ints_at {l pre suf : List Int} {y : Int} (h : l = pre ++ y :: suf) : (ints l)[pre.length]? = some (.int .i64 y) := by
  rw [ints_get, h]
  simp

theorem more_cons {α : Type} {l pre suf : List α} {i : Int} (h : l = pre ++ suf) (hi : i = (pre.length : Int)) (hb : decide (i < (l.length : Int)) = true) : ∃ y suf', suf = y :: suf' := by
  have hlt := of_decide_eq_true hb
  cases suf with
  | nil => rw [h] at hlt; simp at hlt; omega
  | cons y s => exact ⟨y, s, rfl⟩

theorem more_nil {α : Type} {l pre suf : List α} {i : Int} (h : l = pre ++ suf) (hi : i = (pre.length : Int)) (hb : decide (i < (l.length : Int)) = false) : suf = [] := by
  have hlt := of_decide_eq_false hb
  cases suf with
  | nil => rfl
  | cons y s => rw [h] at hlt; simp at hlt; omega

theorem wrap_next {α : Type} {l pre suf : List α} {y : α} {i : Int} (h : l = pre ++ y :: suf) (hi : i = (pre.length : Int)) (hm : l.length < 9223372036854775807) : IntKind.wrap .i64 (i + 1) = ((pre ++ [y]).length : Int) := by
  have : l.length = pre.length + (suf.length + 1) := by rw [h]; simp
  rw [wrap_i64 (by omega) (by omega), hi]
  simp

theorem less_next {α : Type} {l pre suf : List α} {y : α} {i : Int} (h : l = pre ++ y :: suf) (hi : i = (pre.length : Int)) : l.length - ((pre ++ [y]).length : Int).toNat < l.length - i.toNat := by
  have : l.length = pre.length + (suf.length + 1) := by rw [h]; simp
  simp [hi]
  omega

theorem app_next {α : Type} {l pre suf : List α} {y : α} (h : l = pre ++ y :: suf) : l = (pre ++ [y]) ++ suf := by rw [h]; simp

theorem in_lt {α : Type} {l pre suf : List α} {y : α} {i : Int} (h : l = pre ++ y :: suf) (hi : i = (pre.length : Int)) : i < (l.length : Int) := by
  have : l.length = pre.length + (suf.length + 1) := by rw [h]; simp
  omega

/-- The order of two integers. -/
def cmpI (x y : Int) : Int := if x < y then -1 else if y < x then 1 else 0

/-- The order of two lists. -/
def cmpL : List Int → List Int → Int
  | [], [] => 0
  | [], _ :: _ => -1
  | _ :: _, [] => 1
  | x :: a, y :: b => if x < y then -1 else if y < x then 1 else cmpL a b

def badW (x : Int) : Bool := decide (x < 0) || decide (1099511627775 < x)

/-- Is the list a key? -/
def rightM (l : List Int) : Bool := decide (1 ≤ (l.length : Int)) && decide ((l.length : Int) ≤ 6) && !(l.any badW)

def orL : List Int → Int
  | [] => 0
  | x :: l => if x = 0 then orL l else x

end Go.Eng

/- Contracts: comparing, lists of integers. Conditions: in each. -/
namespace Go.Eng
open Go Go.Proofs

set_option maxRecDepth 10000

theorem c69 {x : Int} {σ : Heap} {R : Value → Heap → Prop} (h : R (.bool false) σ) : ACalls Tryz.prog 69 [.int .i64 x] σ R := by
  refine ACalls_fn fn69 rfl ?_
  repeat' first
    | refine go rfl ?_
    | refine ifT rfl ?_
    | refine ifF rfl ?_
    | refine doT rfl rfl rfl rfl rfl (as0 rfl ?_)
    | refine doF rfl rfl rfl rfl rfl (as0 rfl ?_)
    | refine noT rfl rfl rfl rfl rfl ?_
    | refine noF rfl rfl rfl rfl rfl ?_
    | refine noU rfl rfl rfl rfl rfl rfl ?_
    | refine go_block ?_
  refine go_ret rfl ?_
  have e : (!decide (x = x)) = false := by simp
  show R (.bool (!decide (x = x))) σ
  rw [e]
  exact h

theorem c38 {x y : Int} {σ : Heap} {R : Value → Heap → Prop} (h : R (.int .i64 (cmpI x y)) σ) : ACalls Tryz.prog 38 [.int .i64 x, .int .i64 y] σ R := by
  unfold cmpI at h
  refine ACalls_fn fn38 rfl ?_
  repeat' first
    | refine go rfl ?_
    | refine ifT rfl ?_
    | refine ifF rfl ?_
    | refine doT rfl rfl rfl rfl rfl (as0 rfl ?_)
    | refine doF rfl rfl rfl rfl rfl (as0 rfl ?_)
    | refine noT rfl rfl rfl rfl rfl ?_
    | refine noF rfl rfl rfl rfl rfl ?_
    | refine noU rfl rfl rfl rfl rfl rfl ?_
    | refine go_block ?_
  refine opc rfl rfl rfl rfl rfl rfl rfl rfl rfl rfl (c69 (shK_mk ⟨_, rfl⟩ ?_))
  repeat' first
    | refine go rfl ?_
    | refine ifT rfl ?_
    | refine ifF rfl ?_
    | refine doT rfl rfl rfl rfl rfl (as0 rfl ?_)
    | refine doF rfl rfl rfl rfl rfl (as0 rfl ?_)
    | refine noT rfl rfl rfl rfl rfl ?_
    | refine noF rfl rfl rfl rfl rfl ?_
    | refine noU rfl rfl rfl rfl rfl rfl ?_
    | refine go_block ?_
  refine opc rfl rfl rfl rfl rfl rfl rfl rfl rfl rfl (c69 (shK_mk ⟨_, rfl⟩ ?_))
  repeat' first
    | refine go rfl ?_
    | refine ifT rfl ?_
    | refine ifF rfl ?_
    | refine doT rfl rfl rfl rfl rfl (as0 rfl ?_)
    | refine doF rfl rfl rfl rfl rfl (as0 rfl ?_)
    | refine noT rfl rfl rfl rfl rfl ?_
    | refine noF rfl rfl rfl rfl rfl ?_
    | refine noU rfl rfl rfl rfl rfl rfl ?_
    | refine go_block ?_
  refine go_cond rfl (fun hb => ?_) (fun hb => ?_)
  · rw [if_pos (of_decide_eq_true hb)] at h
    repeat' first
      | refine go rfl ?_
      | refine ifT rfl ?_
      | refine ifF rfl ?_
      | refine doT rfl rfl rfl rfl rfl (as0 rfl ?_)
      | refine doF rfl rfl rfl rfl rfl (as0 rfl ?_)
      | refine noT rfl rfl rfl rfl rfl ?_
      | refine noF rfl rfl rfl rfl rfl ?_
      | refine noU rfl rfl rfl rfl rfl rfl ?_
      | refine go_block ?_
    refine go_ret rfl ?_
    exact h
  · rw [if_neg (of_decide_eq_false hb)] at h
    repeat' first
      | refine go rfl ?_
      | refine ifT rfl ?_
      | refine ifF rfl ?_
      | refine doT rfl rfl rfl rfl rfl (as0 rfl ?_)
      | refine doF rfl rfl rfl rfl rfl (as0 rfl ?_)
      | refine noT rfl rfl rfl rfl rfl ?_
      | refine noF rfl rfl rfl rfl rfl ?_
      | refine noU rfl rfl rfl rfl rfl rfl ?_
      | refine go_block ?_
    refine go_cond rfl (fun hb => ?_) (fun hb => ?_)
    · rw [if_pos (of_decide_eq_true hb)] at h
      repeat' first
        | refine go rfl ?_
        | refine ifT rfl ?_
        | refine ifF rfl ?_
        | refine doT rfl rfl rfl rfl rfl (as0 rfl ?_)
        | refine doF rfl rfl rfl rfl rfl (as0 rfl ?_)
        | refine noT rfl rfl rfl rfl rfl ?_
        | refine noF rfl rfl rfl rfl rfl ?_
        | refine noU rfl rfl rfl rfl rfl rfl ?_
        | refine go_block ?_
      refine go_ret rfl ?_
      exact h
    · rw [if_neg (of_decide_eq_false hb)] at h
      repeat' first
        | refine go rfl ?_
        | refine ifT rfl ?_
        | refine ifF rfl ?_
        | refine doT rfl rfl rfl rfl rfl (as0 rfl ?_)
        | refine doF rfl rfl rfl rfl rfl (as0 rfl ?_)
        | refine noT rfl rfl rfl rfl rfl ?_
        | refine noF rfl rfl rfl rfl rfl ?_
        | refine noU rfl rfl rfl rfl rfl rfl ?_
        | refine go_block ?_
      refine go_ret rfl ?_
      exact h

theorem c35 {x : Int} {σ : Heap} {R : Value → Heap → Prop} (h : R (.bool (decide (x < 0) || decide (1099511627775 < x))) σ) : ACalls Tryz.prog 35 [.int .i64 x] σ R := by
  refine ACalls_fn fn35 rfl ?_
  repeat' first
    | refine go rfl ?_
    | refine ifT rfl ?_
    | refine ifF rfl ?_
    | refine doT rfl rfl rfl rfl rfl (as0 rfl ?_)
    | refine doF rfl rfl rfl rfl rfl (as0 rfl ?_)
    | refine noT rfl rfl rfl rfl rfl ?_
    | refine noF rfl rfl rfl rfl rfl ?_
    | refine noU rfl rfl rfl rfl rfl rfl ?_
    | refine go_block ?_
  cases hb : decide (x < 0) <;> rw [hb] at h
  · repeat' first
      | refine go rfl ?_
      | refine ifT rfl ?_
      | refine ifF rfl ?_
      | refine doT rfl rfl rfl rfl rfl (as0 rfl ?_)
      | refine doF rfl rfl rfl rfl rfl (as0 rfl ?_)
      | refine noT rfl rfl rfl rfl rfl ?_
      | refine noF rfl rfl rfl rfl rfl ?_
      | refine noU rfl rfl rfl rfl rfl rfl ?_
      | refine go_block ?_
    refine go_ret rfl ?_
    exact h
  · repeat' first
      | refine go rfl ?_
      | refine ifT rfl ?_
      | refine ifF rfl ?_
      | refine doT rfl rfl rfl rfl rfl (as0 rfl ?_)
      | refine doF rfl rfl rfl rfl rfl (as0 rfl ?_)
      | refine noT rfl rfl rfl rfl rfl ?_
      | refine noF rfl rfl rfl rfl rfl ?_
      | refine noU rfl rfl rfl rfl rfl rfl ?_
      | refine go_block ?_
    refine go_ret rfl ?_
    exact h

def idx (p : Int → Bool) : List Int → Nat → Int
  | [], _ => -1
  | x :: l, i => if p x then i else idx p l (i + 1)

theorem c68 {g : FuncId} {cap : Array Value} {q : Option Addr} {cp : Nat} {l : List Int} {p : Int → Bool} {σ : Heap} {R : Value → Heap → Prop} (hl : σ.row q l.length (ints l)) (hm : l.length < 9223372036854775807)
    (hp : ∀ x ∈ l, ∀ R, R (.bool (p x)) σ → ACalls Tryz.prog g (.int .i64 x :: cap.toList) σ R) (h : R (.int .i64 (idx p l 0)) σ) :
    ACalls Tryz.prog 68 [.slice q l.length cp, .func (.func g) #[] cap] σ R := by
  refine ACalls_fn fn68 rfl ?_
  repeat' first
    | refine go rfl ?_
    | refine ifT rfl ?_
    | refine ifF rfl ?_
    | refine doT rfl rfl rfl rfl rfl (as0 rfl ?_)
    | refine doF rfl rfl rfl rfl rfl (as0 rfl ?_)
    | refine noT rfl rfl rfl rfl rfl ?_
    | refine noF rfl rfl rfl rfl rfl ?_
    | refine noU rfl rfl rfl rfl rfl rfl ?_
    | refine go_block ?_
  refine go_loop [(0, .slice q l.length cp), (1, .func (.func g) #[] cap), (7, .int .i64 l.length)] [(8, .sc (.int .i64))]
    (fun (i : Int) σ' => σ = σ' ∧ ∃ pre suf, l = pre ++ suf ∧ i = pre.length ∧ idx p l 0 = idx p suf pre.length) (fun (i : Int) _ => (l.length - i.toNat : Nat)) (0 : Int) ⟨rfl, rfl, rfl, trivial⟩ rfl ⟨rfl, [], l, rfl, rfl, rfl⟩ ?_
  rintro (i : Int) σ' ⟨rfl, pre, suf, hlp, hi, hix⟩
  repeat' first
    | refine go rfl ?_
    | refine ifT rfl ?_
    | refine ifF rfl ?_
    | refine doT rfl rfl rfl rfl rfl (as0 rfl ?_)
    | refine doF rfl rfl rfl rfl rfl (as0 rfl ?_)
    | refine noT rfl rfl rfl rfl rfl ?_
    | refine noF rfl rfl rfl rfl rfl ?_
    | refine noU rfl rfl rfl rfl rfl rfl ?_
    | refine go_block ?_
  refine go_cond rfl (fun hb => ?_) (fun hb => ?_)
  · have hlt : i < (l.length : Int) := of_decide_eq_true hb
    obtain ⟨y, suf', rfl⟩ : ∃ y suf', suf = y :: suf' := by
      cases suf with
      | nil => rw [hlp] at hlt; simp at hlt; omega
      | cons y s => exact ⟨y, s, rfl⟩
    have hget : (ints l)[pre.length]? = some (.int .i64 y) := by
      rw [ints_get, hlp]
      simp
    obtain ⟨h1, h2⟩ := row_ld hl hget (t := ti3) rfl (j := i.toNat * ti3.size) (by rw [hi]; simp [ti3])
    repeat' first
      | refine go rfl ?_
      | refine ifT rfl ?_
      | refine ifF rfl ?_
      | refine doT rfl rfl rfl rfl rfl (as0 rfl ?_)
      | refine doF rfl rfl rfl rfl rfl (as0 rfl ?_)
      | refine noT rfl rfl rfl rfl rfl ?_
      | refine noF rfl rfl rfl rfl rfl ?_
      | refine noU rfl rfl rfl rfl rfl rfl ?_
      | refine go_block ?_
    refine op rfl rfl rfl rfl (as3 rfl (by rw [hi]; omega) hlt h1 ?_)
    refine opl (i := ti3) rfl rfl rfl rfl rfl rfl rfl rfl h2 ⟨y, rfl⟩ ?_
    refine opc rfl rfl rfl rfl rfl rfl rfl rfl rfl rfl (hp y (by simp [hlp]) _ (shK_mk ⟨_, rfl⟩ ?_))
    repeat' first
      | refine go rfl ?_
      | refine ifT rfl ?_
      | refine ifF rfl ?_
      | refine doT rfl rfl rfl rfl rfl (as0 rfl ?_)
      | refine doF rfl rfl rfl rfl rfl (as0 rfl ?_)
      | refine noT rfl rfl rfl rfl rfl ?_
      | refine noF rfl rfl rfl rfl rfl ?_
      | refine noU rfl rfl rfl rfl rfl rfl ?_
      | refine go_block ?_
    refine go_cond rfl (fun hb => ?_) (fun hb => ?_)
    · repeat' first
        | refine go rfl ?_
        | refine ifT rfl ?_
        | refine ifF rfl ?_
        | refine doT rfl rfl rfl rfl rfl (as0 rfl ?_)
        | refine doF rfl rfl rfl rfl rfl (as0 rfl ?_)
        | refine noT rfl rfl rfl rfl rfl ?_
        | refine noF rfl rfl rfl rfl rfl ?_
        | refine noU rfl rfl rfl rfl rfl rfl ?_
        | refine go_block ?_
      refine go_by_ret ?_
      repeat' first
        | refine go rfl ?_
        | refine ifT rfl ?_
        | refine ifF rfl ?_
        | refine doT rfl rfl rfl rfl rfl (as0 rfl ?_)
        | refine doF rfl rfl rfl rfl rfl (as0 rfl ?_)
        | refine noT rfl rfl rfl rfl rfl ?_
        | refine noF rfl rfl rfl rfl rfl ?_
        | refine noU rfl rfl rfl rfl rfl rfl ?_
        | refine go_block ?_
      refine go_ret rfl ?_
      have : idx p l 0 = i := by rw [hix, hi]; simp [idx, hb]
      rw [← this]
      exact h
    · repeat' first
        | refine go rfl ?_
        | refine ifT rfl ?_
        | refine ifF rfl ?_
        | refine doT rfl rfl rfl rfl rfl (as0 rfl ?_)
        | refine doF rfl rfl rfl rfl rfl (as0 rfl ?_)
        | refine noT rfl rfl rfl rfl rfl ?_
        | refine noF rfl rfl rfl rfl rfl ?_
        | refine noU rfl rfl rfl rfl rfl rfl ?_
        | refine go_block ?_
      have hw : IntKind.wrap .i64 (i + 1) = ((pre ++ [y]).length : Int) := by
        rw [wrap_i64 (by omega) (by omega), hi]
        simp
      refine go_meet ((pre ++ [y]).length : Int) ⟨rfl, rfl, rfl, trivial⟩ (by rw [← hw]; rfl) ⟨⟨rfl, pre ++ [y], suf', by simp [hlp], rfl, ?_⟩, ?_⟩
      · rw [hix]; simp [idx, hb]
      · have : l.length = pre.length + (suf'.length + 1) := by rw [hlp]; simp
        simp [hi]
        omega
  · have hge : ¬ i < (l.length : Int) := of_decide_eq_false hb
    have hs : suf = [] := by
      cases suf with
      | nil => rfl
      | cons y s => rw [hlp] at hge; simp at hge; omega
    subst hs
    repeat' first
      | refine go rfl ?_
      | refine ifT rfl ?_
      | refine ifF rfl ?_
      | refine doT rfl rfl rfl rfl rfl (as0 rfl ?_)
      | refine doF rfl rfl rfl rfl rfl (as0 rfl ?_)
      | refine noT rfl rfl rfl rfl rfl ?_
      | refine noF rfl rfl rfl rfl rfl ?_
      | refine noU rfl rfl rfl rfl rfl rfl ?_
      | refine go_block ?_
    refine go_by_exit ?_
    repeat' first
      | refine go rfl ?_
      | refine ifT rfl ?_
      | refine ifF rfl ?_
      | refine doT rfl rfl rfl rfl rfl (as0 rfl ?_)
      | refine doF rfl rfl rfl rfl rfl (as0 rfl ?_)
      | refine noT rfl rfl rfl rfl rfl ?_
      | refine noF rfl rfl rfl rfl rfl ?_
      | refine noU rfl rfl rfl rfl rfl rfl ?_
      | refine go_block ?_
    refine go_ret rfl ?_
    rw [hix] at h
    exact h

end Go.Eng

/- Contracts: keys and their order. Conditions: in each. -/
namespace Go.Eng
open Go Go.Proofs

set_option maxRecDepth 10000

theorem idx_any (p : Int → Bool) : ∀ (l : List Int) (i : Nat), decide (0 ≤ idx p l i) = l.any p
  | [], i => by simp [idx]
  | x :: l, i => by
    cases h : p x with
    | true => simp [idx, h]
    | false => simpa [idx, h] using idx_any p l (i + 1)

theorem c34 {g : FuncId} {cap : Array Value} {q : Option Addr} {cp : Nat} {l : List Int} {p : Int → Bool} {σ : Heap} {R : Value → Heap → Prop} (hl : σ.row q l.length (ints l)) (hm : l.length < 9223372036854775807)
    (hp : ∀ x ∈ l, ∀ R, R (.bool (p x)) σ → ACalls Tryz.prog g (.int .i64 x :: cap.toList) σ R) (h : R (.bool (l.any p)) σ) :
    ACalls Tryz.prog 34 [.slice q l.length cp, .func (.func g) #[] cap] σ R := by
  rw [← idx_any p l 0] at h
  refine ACalls_fn fn34 rfl ?_
  repeat' first
    | refine go rfl ?_
    | refine ifT rfl ?_
    | refine ifF rfl ?_
    | refine doT rfl rfl rfl rfl rfl (as0 rfl ?_)
    | refine doF rfl rfl rfl rfl rfl (as0 rfl ?_)
    | refine noT rfl rfl rfl rfl rfl ?_
    | refine noF rfl rfl rfl rfl rfl ?_
    | refine noU rfl rfl rfl rfl rfl rfl ?_
    | refine go_block ?_
  refine opc rfl rfl rfl rfl rfl rfl rfl rfl rfl rfl (c68 hl hm hp (shK_mk ⟨_, rfl⟩ ?_))
  repeat' first
    | refine go rfl ?_
    | refine ifT rfl ?_
    | refine ifF rfl ?_
    | refine doT rfl rfl rfl rfl rfl (as0 rfl ?_)
    | refine doF rfl rfl rfl rfl rfl (as0 rfl ?_)
    | refine noT rfl rfl rfl rfl rfl ?_
    | refine noF rfl rfl rfl rfl rfl ?_
    | refine noU rfl rfl rfl rfl rfl rfl ?_
    | refine go_block ?_
  refine go_ret rfl ?_
  exact h

theorem c10 {q : Option Addr} {cp : Nat} {l : List Int} {σ : Heap} {R : Value → Heap → Prop} (hl : σ.row q l.length (ints l)) (hm : l.length < 9223372036854775807) (h : R (.bool (rightM l)) σ) :
    ACalls Tryz.prog 10 [.slice q l.length cp] σ R := by
  unfold rightM at h
  refine ACalls_fn fn10 rfl ?_
  repeat' first
    | refine go rfl ?_
    | refine ifT rfl ?_
    | refine ifF rfl ?_
    | refine doT rfl rfl rfl rfl rfl (as0 rfl ?_)
    | refine doF rfl rfl rfl rfl rfl (as0 rfl ?_)
    | refine noT rfl rfl rfl rfl rfl ?_
    | refine noF rfl rfl rfl rfl rfl ?_
    | refine noU rfl rfl rfl rfl rfl rfl ?_
    | refine go_block ?_
  cases h1 : decide (1 ≤ (l.length : Int)) <;> rw [h1] at h
  · repeat' first
      | refine go rfl ?_
      | refine ifT rfl ?_
      | refine ifF rfl ?_
      | refine doT rfl rfl rfl rfl rfl (as0 rfl ?_)
      | refine doF rfl rfl rfl rfl rfl (as0 rfl ?_)
      | refine noT rfl rfl rfl rfl rfl ?_
      | refine noF rfl rfl rfl rfl rfl ?_
      | refine noU rfl rfl rfl rfl rfl rfl ?_
      | refine go_block ?_
    refine go_ret rfl ?_
    exact h
  · repeat' first
      | refine go rfl ?_
      | refine ifT rfl ?_
      | refine ifF rfl ?_
      | refine doT rfl rfl rfl rfl rfl (as0 rfl ?_)
      | refine doF rfl rfl rfl rfl rfl (as0 rfl ?_)
      | refine noT rfl rfl rfl rfl rfl ?_
      | refine noF rfl rfl rfl rfl rfl ?_
      | refine noU rfl rfl rfl rfl rfl rfl ?_
      | refine go_block ?_
    cases h2 : decide ((l.length : Int) ≤ 6) <;> rw [h2] at h
    · repeat' first
        | refine go rfl ?_
        | refine ifT rfl ?_
        | refine ifF rfl ?_
        | refine doT rfl rfl rfl rfl rfl (as0 rfl ?_)
        | refine doF rfl rfl rfl rfl rfl (as0 rfl ?_)
        | refine noT rfl rfl rfl rfl rfl ?_
        | refine noF rfl rfl rfl rfl rfl ?_
        | refine noU rfl rfl rfl rfl rfl rfl ?_
        | refine go_block ?_
      refine go_ret rfl ?_
      exact h
    · repeat' first
        | refine go rfl ?_
        | refine ifT rfl ?_
        | refine ifF rfl ?_
        | refine doT rfl rfl rfl rfl rfl (as0 rfl ?_)
        | refine doF rfl rfl rfl rfl rfl (as0 rfl ?_)
        | refine noT rfl rfl rfl rfl rfl ?_
        | refine noF rfl rfl rfl rfl rfl ?_
        | refine noU rfl rfl rfl rfl rfl rfl ?_
        | refine go_block ?_
      refine doT rfl rfl rfl rfl rfl ?_
      refine as_call rfl rfl rfl rfl rfl rfl ?_
      refine c34 (p := badW) (cap := #[]) hl hm (fun x _ R hR => c35 hR) (shK_mk ⟨_, rfl⟩ ?_)
      repeat' first
        | refine go rfl ?_
        | refine ifT rfl ?_
        | refine ifF rfl ?_
        | refine doT rfl rfl rfl rfl rfl (as0 rfl ?_)
        | refine doF rfl rfl rfl rfl rfl (as0 rfl ?_)
        | refine noT rfl rfl rfl rfl rfl ?_
        | refine noF rfl rfl rfl rfl rfl ?_
        | refine noU rfl rfl rfl rfl rfl rfl ?_
        | refine go_block ?_
      refine go_ret rfl ?_
      exact h

theorem c36 {q q' : Option Addr} {cp cp' : Nat} {a b : List Int} {σ : Heap} {R : Value → Heap → Prop} (ha : σ.row q a.length (ints a)) (hb : σ.row q' b.length (ints b)) (hma : a.length < 9223372036854775807)
    (h : R (.int .i64 (cmpL a b)) σ) : ACalls Tryz.prog 36 [.slice q a.length cp, .slice q' b.length cp'] σ R := by
  refine ACalls_fn fn36 rfl ?_
  repeat' first
    | refine go rfl ?_
    | refine ifT rfl ?_
    | refine ifF rfl ?_
    | refine doT rfl rfl rfl rfl rfl (as0 rfl ?_)
    | refine doF rfl rfl rfl rfl rfl (as0 rfl ?_)
    | refine noT rfl rfl rfl rfl rfl ?_
    | refine noF rfl rfl rfl rfl rfl ?_
    | refine noU rfl rfl rfl rfl rfl rfl ?_
    | refine go_block ?_
  refine go_loop [(0, .slice q a.length cp), (1, .slice q' b.length cp'), (9, .slice q a.length cp), (10, .int .i64 a.length)] [(11, .sc (.int .i64))]
    (fun (i : Int) σ' => σ = σ' ∧ ∃ pre suf pre' suf', a = pre ++ suf ∧ b = pre' ++ suf' ∧ pre'.length = pre.length ∧ i = (pre.length : Int) ∧ cmpL a b = cmpL suf suf') (fun (i : Int) _ => (a.length - i.toNat : Nat)) (0 : Int)
    ⟨rfl, rfl, rfl, rfl, trivial⟩ rfl ⟨rfl, [], a, [], b, rfl, rfl, rfl, rfl, rfl⟩ ?_
  rintro (i : Int) σ' ⟨rfl, pre, suf, pre', suf', ea, eb, el, hi, hc⟩
  have hi' : i = (pre'.length : Int) := by omega
  repeat' first
    | refine go rfl ?_
    | refine ifT rfl ?_
    | refine ifF rfl ?_
    | refine doT rfl rfl rfl rfl rfl (as0 rfl ?_)
    | refine doF rfl rfl rfl rfl rfl (as0 rfl ?_)
    | refine noT rfl rfl rfl rfl rfl ?_
    | refine noF rfl rfl rfl rfl rfl ?_
    | refine noU rfl rfl rfl rfl rfl rfl ?_
    | refine go_block ?_
  refine go_cond rfl (fun hlt => ?_) (fun hlt => ?_)
  · obtain ⟨y, suf, rfl⟩ := more_cons ea hi hlt
    obtain ⟨h1, h2⟩ := row_at ha (ints_at ea) hi (t := ti3) rfl rfl
    repeat' first
      | refine go rfl ?_
      | refine ifT rfl ?_
      | refine ifF rfl ?_
      | refine doT rfl rfl rfl rfl rfl (as0 rfl ?_)
      | refine doF rfl rfl rfl rfl rfl (as0 rfl ?_)
      | refine noT rfl rfl rfl rfl rfl ?_
      | refine noF rfl rfl rfl rfl rfl ?_
      | refine noU rfl rfl rfl rfl rfl rfl ?_
      | refine go_block ?_
    refine op rfl rfl rfl rfl (as3 rfl (by rw [hi]; omega) (in_lt ea hi) h1 ?_)
    refine opl (i := ti3) rfl rfl rfl rfl rfl rfl rfl rfl h2 ⟨y, rfl⟩ ?_
    repeat' first
      | refine go rfl ?_
      | refine ifT rfl ?_
      | refine ifF rfl ?_
      | refine doT rfl rfl rfl rfl rfl (as0 rfl ?_)
      | refine doF rfl rfl rfl rfl rfl (as0 rfl ?_)
      | refine noT rfl rfl rfl rfl rfl ?_
      | refine noF rfl rfl rfl rfl rfl ?_
      | refine noU rfl rfl rfl rfl rfl rfl ?_
      | refine go_block ?_
    refine go_cond rfl (fun hge => ?_) (fun hge => ?_)
    · have : suf' = [] := more_nil eb hi' (by simpa using hge)
      subst this
      repeat' first
        | refine go rfl ?_
        | refine ifT rfl ?_
        | refine ifF rfl ?_
        | refine doT rfl rfl rfl rfl rfl (as0 rfl ?_)
        | refine doF rfl rfl rfl rfl rfl (as0 rfl ?_)
        | refine noT rfl rfl rfl rfl rfl ?_
        | refine noF rfl rfl rfl rfl rfl ?_
        | refine noU rfl rfl rfl rfl rfl rfl ?_
        | refine go_block ?_
      refine go_by_ret ?_
      repeat' first
        | refine go rfl ?_
        | refine ifT rfl ?_
        | refine ifF rfl ?_
        | refine doT rfl rfl rfl rfl rfl (as0 rfl ?_)
        | refine doF rfl rfl rfl rfl rfl (as0 rfl ?_)
        | refine noT rfl rfl rfl rfl rfl ?_
        | refine noF rfl rfl rfl rfl rfl ?_
        | refine noU rfl rfl rfl rfl rfl rfl ?_
        | refine go_block ?_
      refine go_ret rfl ?_
      rw [hc] at h
      exact h
    · obtain ⟨z, suf', rfl⟩ := more_cons eb hi' (by simpa using hge)
      obtain ⟨h3, h4⟩ := row_at hb (ints_at eb) hi' (t := ti3) rfl rfl
      repeat' first
        | refine go rfl ?_
        | refine ifT rfl ?_
        | refine ifF rfl ?_
        | refine doT rfl rfl rfl rfl rfl (as0 rfl ?_)
        | refine doF rfl rfl rfl rfl rfl (as0 rfl ?_)
        | refine noT rfl rfl rfl rfl rfl ?_
        | refine noF rfl rfl rfl rfl rfl ?_
        | refine noU rfl rfl rfl rfl rfl rfl ?_
        | refine go_block ?_
      refine op rfl rfl rfl rfl (as3 rfl (by rw [hi]; omega) (in_lt eb hi') h3 ?_)
      refine opl (i := ti3) rfl rfl rfl rfl rfl rfl rfl rfl h4 ⟨z, rfl⟩ ?_
      repeat' first
        | refine go rfl ?_
        | refine ifT rfl ?_
        | refine ifF rfl ?_
        | refine doT rfl rfl rfl rfl rfl (as0 rfl ?_)
        | refine doF rfl rfl rfl rfl rfl (as0 rfl ?_)
        | refine noT rfl rfl rfl rfl rfl ?_
        | refine noF rfl rfl rfl rfl rfl ?_
        | refine noU rfl rfl rfl rfl rfl rfl ?_
        | refine go_block ?_
      refine opc rfl rfl rfl rfl rfl rfl rfl rfl rfl rfl (c38 (shK_mk ⟨_, rfl⟩ ?_))
      repeat' first
        | refine go rfl ?_
        | refine ifT rfl ?_
        | refine ifF rfl ?_
        | refine doT rfl rfl rfl rfl rfl (as0 rfl ?_)
        | refine doF rfl rfl rfl rfl rfl (as0 rfl ?_)
        | refine noT rfl rfl rfl rfl rfl ?_
        | refine noF rfl rfl rfl rfl rfl ?_
        | refine noU rfl rfl rfl rfl rfl rfl ?_
        | refine go_block ?_
      refine go_cond rfl (fun hne => ?_) (fun hne => ?_)
      · repeat' first
          | refine go rfl ?_
          | refine ifT rfl ?_
          | refine ifF rfl ?_
          | refine doT rfl rfl rfl rfl rfl (as0 rfl ?_)
          | refine doF rfl rfl rfl rfl rfl (as0 rfl ?_)
          | refine noT rfl rfl rfl rfl rfl ?_
          | refine noF rfl rfl rfl rfl rfl ?_
          | refine noU rfl rfl rfl rfl rfl rfl ?_
          | refine go_block ?_
        refine go_by_ret ?_
        repeat' first
          | refine go rfl ?_
          | refine ifT rfl ?_
          | refine ifF rfl ?_
          | refine doT rfl rfl rfl rfl rfl (as0 rfl ?_)
          | refine doF rfl rfl rfl rfl rfl (as0 rfl ?_)
          | refine noT rfl rfl rfl rfl rfl ?_
          | refine noF rfl rfl rfl rfl rfl ?_
          | refine noU rfl rfl rfl rfl rfl rfl ?_
          | refine go_block ?_
        refine go_ret rfl ?_
        have : cmpL a b = cmpI y z := by
          rw [hc]
          have : cmpI y z ≠ 0 := by simpa using hne
          unfold cmpI at this ⊢
          unfold cmpL
          split <;> simp_all
        rw [this] at h
        exact h
      · repeat' first
          | refine go rfl ?_
          | refine ifT rfl ?_
          | refine ifF rfl ?_
          | refine doT rfl rfl rfl rfl rfl (as0 rfl ?_)
          | refine doF rfl rfl rfl rfl rfl (as0 rfl ?_)
          | refine noT rfl rfl rfl rfl rfl ?_
          | refine noF rfl rfl rfl rfl rfl ?_
          | refine noU rfl rfl rfl rfl rfl rfl ?_
          | refine go_block ?_
        refine go_meet ((pre ++ [y]).length : Int) ⟨rfl, rfl, rfl, rfl, trivial⟩ (by rw [← wrap_next ea hi hma]; rfl)
          ⟨⟨rfl, pre ++ [y], suf, pre' ++ [z], suf', app_next ea, app_next eb, by simp [el], rfl, ?_⟩, less_next ea hi⟩
        rw [hc]
        have : cmpI y z = 0 := by simpa using hne
        unfold cmpI at this
        simp only [cmpL]
        split at this
        · cases this
        · split at this
          · cases this
          · simp [*]
  · have := more_nil ea hi hlt
    subst this
    repeat' first
      | refine go rfl ?_
      | refine ifT rfl ?_
      | refine ifF rfl ?_
      | refine doT rfl rfl rfl rfl rfl (as0 rfl ?_)
      | refine doF rfl rfl rfl rfl rfl (as0 rfl ?_)
      | refine noT rfl rfl rfl rfl rfl ?_
      | refine noF rfl rfl rfl rfl rfl ?_
      | refine noU rfl rfl rfl rfl rfl rfl ?_
      | refine go_block ?_
    refine go_by_exit ?_
    repeat' first
      | refine go rfl ?_
      | refine ifT rfl ?_
      | refine ifF rfl ?_
      | refine doT rfl rfl rfl rfl rfl (as0 rfl ?_)
      | refine doF rfl rfl rfl rfl rfl (as0 rfl ?_)
      | refine noT rfl rfl rfl rfl rfl ?_
      | refine noF rfl rfl rfl rfl rfl ?_
      | refine noU rfl rfl rfl rfl rfl rfl ?_
      | refine go_block ?_
    have hae : a = pre := by simpa using ea
    refine go_cond rfl (fun hs => ?_) (fun hs => ?_)
    · repeat' first
        | refine go rfl ?_
        | refine ifT rfl ?_
        | refine ifF rfl ?_
        | refine doT rfl rfl rfl rfl rfl (as0 rfl ?_)
        | refine doF rfl rfl rfl rfl rfl (as0 rfl ?_)
        | refine noT rfl rfl rfl rfl rfl ?_
        | refine noF rfl rfl rfl rfl rfl ?_
        | refine noU rfl rfl rfl rfl rfl rfl ?_
        | refine go_block ?_
      refine go_ret rfl ?_
      have : suf' ≠ [] := by
        rintro rfl
        have := of_decide_eq_true hs
        rw [hae, eb] at this
        simp [el] at this
      rw [hc] at h
      cases suf' with
      | nil => exact absurd rfl this
      | cons z s => exact h
    · repeat' first
        | refine go rfl ?_
        | refine ifT rfl ?_
        | refine ifF rfl ?_
        | refine doT rfl rfl rfl rfl rfl (as0 rfl ?_)
        | refine doF rfl rfl rfl rfl rfl (as0 rfl ?_)
        | refine noT rfl rfl rfl rfl rfl ?_
        | refine noF rfl rfl rfl rfl rfl ?_
        | refine noU rfl rfl rfl rfl rfl rfl ?_
        | refine go_block ?_
      refine go_ret rfl ?_
      have : suf' = [] := by
        have := of_decide_eq_false hs
        rw [hae, eb] at this
        cases suf' with
        | nil => rfl
        | cons z s => simp at this; omega
      rw [hc, this] at h
      exact h

theorem c11 {q q' : Option Addr} {cp cp' : Nat} {a b : List Int} {σ : Heap} {R : Value → Heap → Prop} (ha : σ.row q a.length (ints a)) (hb : σ.row q' b.length (ints b)) (hma : a.length < 9223372036854775807)
    (h : R (.int .i64 (cmpL a b)) σ) : ACalls Tryz.prog 11 [.slice q a.length cp, .slice q' b.length cp'] σ R := by
  refine ACalls_fn fn11 rfl ?_
  repeat' first
    | refine go rfl ?_
    | refine ifT rfl ?_
    | refine ifF rfl ?_
    | refine doT rfl rfl rfl rfl rfl (as0 rfl ?_)
    | refine doF rfl rfl rfl rfl rfl (as0 rfl ?_)
    | refine noT rfl rfl rfl rfl rfl ?_
    | refine noF rfl rfl rfl rfl rfl ?_
    | refine noU rfl rfl rfl rfl rfl rfl ?_
    | refine go_block ?_
  refine opc rfl rfl rfl rfl rfl rfl rfl rfl rfl rfl (c36 ha hb hma (shK_mk ⟨_, rfl⟩ ?_))
  repeat' first
    | refine go rfl ?_
    | refine ifT rfl ?_
    | refine ifF rfl ?_
    | refine doT rfl rfl rfl rfl rfl (as0 rfl ?_)
    | refine doF rfl rfl rfl rfl rfl (as0 rfl ?_)
    | refine noT rfl rfl rfl rfl rfl ?_
    | refine noF rfl rfl rfl rfl rfl ?_
    | refine noU rfl rfl rfl rfl rfl rfl ?_
    | refine go_block ?_
  refine go_ret rfl ?_
  exact h

theorem c37 {q : Option Addr} {cp : Nat} {l : List Int} {σ : Heap} {R : Value → Heap → Prop} (hl : σ.row q l.length (ints l)) (hm : l.length < 9223372036854775807) (h : R (.int .i64 (orL l)) σ) :
    ACalls Tryz.prog 37 [.slice q l.length cp] σ R := by
  refine ACalls_fn fn37 rfl ?_
  repeat' first
    | refine go rfl ?_
    | refine ifT rfl ?_
    | refine ifF rfl ?_
    | refine doT rfl rfl rfl rfl rfl (as0 rfl ?_)
    | refine doF rfl rfl rfl rfl rfl (as0 rfl ?_)
    | refine noT rfl rfl rfl rfl rfl ?_
    | refine noF rfl rfl rfl rfl rfl ?_
    | refine noU rfl rfl rfl rfl rfl rfl ?_
    | refine go_block ?_
  refine go_loop [(3, .int .i64 0), (6, .slice q l.length cp), (7, .int .i64 l.length)] [(8, .sc (.int .i64))]
    (fun (i : Int) σ' => σ = σ' ∧ ∃ pre suf, l = pre ++ suf ∧ i = (pre.length : Int) ∧ orL l = orL suf) (fun (i : Int) _ => (l.length - i.toNat : Nat)) (0 : Int)
    ⟨rfl, rfl, rfl, trivial⟩ rfl ⟨rfl, [], l, rfl, rfl, rfl⟩ ?_
  rintro (i : Int) σ' ⟨rfl, pre, suf, e, hi, hc⟩
  repeat' first
    | refine go rfl ?_
    | refine ifT rfl ?_
    | refine ifF rfl ?_
    | refine doT rfl rfl rfl rfl rfl (as0 rfl ?_)
    | refine doF rfl rfl rfl rfl rfl (as0 rfl ?_)
    | refine noT rfl rfl rfl rfl rfl ?_
    | refine noF rfl rfl rfl rfl rfl ?_
    | refine noU rfl rfl rfl rfl rfl rfl ?_
    | refine go_block ?_
  refine go_cond rfl (fun hlt => ?_) (fun hlt => ?_)
  · obtain ⟨y, suf, rfl⟩ := more_cons e hi hlt
    obtain ⟨h1, h2⟩ := row_at hl (ints_at e) hi (t := ti3) rfl rfl
    repeat' first
      | refine go rfl ?_
      | refine ifT rfl ?_
      | refine ifF rfl ?_
      | refine doT rfl rfl rfl rfl rfl (as0 rfl ?_)
      | refine doF rfl rfl rfl rfl rfl (as0 rfl ?_)
      | refine noT rfl rfl rfl rfl rfl ?_
      | refine noF rfl rfl rfl rfl rfl ?_
      | refine noU rfl rfl rfl rfl rfl rfl ?_
      | refine go_block ?_
    refine op rfl rfl rfl rfl (as3 rfl (by rw [hi]; omega) (in_lt e hi) h1 ?_)
    refine opl (i := ti3) rfl rfl rfl rfl rfl rfl rfl rfl h2 ⟨y, rfl⟩ ?_
    repeat' first
      | refine go rfl ?_
      | refine ifT rfl ?_
      | refine ifF rfl ?_
      | refine doT rfl rfl rfl rfl rfl (as0 rfl ?_)
      | refine doF rfl rfl rfl rfl rfl (as0 rfl ?_)
      | refine noT rfl rfl rfl rfl rfl ?_
      | refine noF rfl rfl rfl rfl rfl ?_
      | refine noU rfl rfl rfl rfl rfl rfl ?_
      | refine go_block ?_
    refine go_cond rfl (fun hne => ?_) (fun hne => ?_)
    · repeat' first
        | refine go rfl ?_
        | refine ifT rfl ?_
        | refine ifF rfl ?_
        | refine doT rfl rfl rfl rfl rfl (as0 rfl ?_)
        | refine doF rfl rfl rfl rfl rfl (as0 rfl ?_)
        | refine noT rfl rfl rfl rfl rfl ?_
        | refine noF rfl rfl rfl rfl rfl ?_
        | refine noU rfl rfl rfl rfl rfl rfl ?_
        | refine go_block ?_
      refine go_by_ret ?_
      repeat' first
        | refine go rfl ?_
        | refine ifT rfl ?_
        | refine ifF rfl ?_
        | refine doT rfl rfl rfl rfl rfl (as0 rfl ?_)
        | refine doF rfl rfl rfl rfl rfl (as0 rfl ?_)
        | refine noT rfl rfl rfl rfl rfl ?_
        | refine noF rfl rfl rfl rfl rfl ?_
        | refine noU rfl rfl rfl rfl rfl rfl ?_
        | refine go_block ?_
      refine go_ret rfl ?_
      have hy : y ≠ 0 := by simpa using hne
      rw [hc] at h
      simp only [orL, if_neg hy] at h
      exact h
    · repeat' first
        | refine go rfl ?_
        | refine ifT rfl ?_
        | refine ifF rfl ?_
        | refine doT rfl rfl rfl rfl rfl (as0 rfl ?_)
        | refine doF rfl rfl rfl rfl rfl (as0 rfl ?_)
        | refine noT rfl rfl rfl rfl rfl ?_
        | refine noF rfl rfl rfl rfl rfl ?_
        | refine noU rfl rfl rfl rfl rfl rfl ?_
        | refine go_block ?_
      refine go_meet ((pre ++ [y]).length : Int) ⟨rfl, rfl, rfl, trivial⟩ (by rw [← wrap_next e hi hm]; rfl) ⟨⟨rfl, pre ++ [y], suf, app_next e, rfl, ?_⟩, less_next e hi⟩
      have hy : y = 0 := by simpa using hne
      rw [hc]
      simp [orL, hy]
  · have := more_nil e hi hlt
    subst this
    repeat' first
      | refine go rfl ?_
      | refine ifT rfl ?_
      | refine ifF rfl ?_
      | refine doT rfl rfl rfl rfl rfl (as0 rfl ?_)
      | refine doF rfl rfl rfl rfl rfl (as0 rfl ?_)
      | refine noT rfl rfl rfl rfl rfl ?_
      | refine noF rfl rfl rfl rfl rfl ?_
      | refine noU rfl rfl rfl rfl rfl rfl ?_
      | refine go_block ?_
    refine go_by_exit ?_
    repeat' first
      | refine go rfl ?_
      | refine ifT rfl ?_
      | refine ifF rfl ?_
      | refine doT rfl rfl rfl rfl rfl (as0 rfl ?_)
      | refine doF rfl rfl rfl rfl rfl (as0 rfl ?_)
      | refine noT rfl rfl rfl rfl rfl ?_
      | refine noF rfl rfl rfl rfl rfl ?_
      | refine noU rfl rfl rfl rfl rfl rfl ?_
      | refine go_block ?_
    refine go_ret rfl ?_
    rw [hc] at h
    exact h

end Go.Eng

/- Contracts: the specification's keys and their order. Conditions: in each. -/
namespace Go.Eng
open Go Go.Proofs

set_option maxRecDepth 10000

theorem c9 {q : Option Addr} {cp : Nat} {l : List Int} {σ : Heap} {R : Value → Heap → Prop} (hl : σ.row q l.length (ints l)) (hm : l.length < 9223372036854775807) (h : R (.bool (rightM l)) σ) :
    ACalls Tryz.prog 9 [.slice q l.length cp] σ R := by
  refine ACalls_fn fn9 rfl ?_
  repeat' first
    | refine go rfl ?_
    | refine ifT rfl ?_
    | refine ifF rfl ?_
    | refine doT rfl rfl rfl rfl rfl (as0 rfl ?_)
    | refine doF rfl rfl rfl rfl rfl (as0 rfl ?_)
    | refine noT rfl rfl rfl rfl rfl ?_
    | refine noF rfl rfl rfl rfl rfl ?_
    | refine noU rfl rfl rfl rfl rfl rfl ?_
    | refine go_block ?_
  refine go_loop [(0, .slice q l.length cp)] [(3, .sc (.int .i64))]
    (fun (i : Int) σ' => σ = σ' ∧ ∃ pre suf, l = pre ++ suf ∧ i = (pre.length : Int) ∧ l.any badW = suf.any badW) (fun (i : Int) _ => (l.length - i.toNat : Nat)) (0 : Int)
    ⟨rfl, trivial⟩ rfl ⟨rfl, [], l, rfl, rfl, rfl⟩ ?_
  rintro (i : Int) σ' ⟨rfl, pre, suf, e, hi, hc⟩
  repeat' first
    | refine go rfl ?_
    | refine ifT rfl ?_
    | refine ifF rfl ?_
    | refine doT rfl rfl rfl rfl rfl (as0 rfl ?_)
    | refine doF rfl rfl rfl rfl rfl (as0 rfl ?_)
    | refine noT rfl rfl rfl rfl rfl ?_
    | refine noF rfl rfl rfl rfl rfl ?_
    | refine noU rfl rfl rfl rfl rfl rfl ?_
    | refine go_block ?_
  refine go_cond rfl (fun hlt => ?_) (fun hlt => ?_)
  · obtain ⟨y, suf, rfl⟩ := more_cons e hi hlt
    obtain ⟨h1, h2⟩ := row_at hl (ints_at e) hi (t := ti3) rfl rfl
    repeat' first
      | refine go rfl ?_
      | refine ifT rfl ?_
      | refine ifF rfl ?_
      | refine doT rfl rfl rfl rfl rfl (as0 rfl ?_)
      | refine doF rfl rfl rfl rfl rfl (as0 rfl ?_)
      | refine noT rfl rfl rfl rfl rfl ?_
      | refine noF rfl rfl rfl rfl rfl ?_
      | refine noU rfl rfl rfl rfl rfl rfl ?_
      | refine go_block ?_
    refine op rfl rfl rfl rfl (as3 rfl (by rw [hi]; omega) (in_lt e hi) h1 ?_)
    refine opl (i := ti3) rfl rfl rfl rfl rfl rfl rfl rfl h2 ⟨y, rfl⟩ ?_
    repeat' first
      | refine go rfl ?_
      | refine ifT rfl ?_
      | refine ifF rfl ?_
      | refine doT rfl rfl rfl rfl rfl (as0 rfl ?_)
      | refine doF rfl rfl rfl rfl rfl (as0 rfl ?_)
      | refine noT rfl rfl rfl rfl rfl ?_
      | refine noF rfl rfl rfl rfl rfl ?_
      | refine noU rfl rfl rfl rfl rfl rfl ?_
      | refine go_block ?_
    have bad : badW y = true → rightM l = false := fun hb => by
      unfold rightM
      rw [hc]
      simp [hb]
    have good : badW y = false → l.any badW = suf.any badW := fun hb => by
      rw [hc]
      simp [hb]
    cases h3 : decide (y < 0)
    · repeat' first
        | refine go rfl ?_
        | refine ifT rfl ?_
        | refine ifF rfl ?_
        | refine doT rfl rfl rfl rfl rfl (as0 rfl ?_)
        | refine doF rfl rfl rfl rfl rfl (as0 rfl ?_)
        | refine noT rfl rfl rfl rfl rfl ?_
        | refine noF rfl rfl rfl rfl rfl ?_
        | refine noU rfl rfl rfl rfl rfl rfl ?_
        | refine go_block ?_
      refine doF rfl rfl rfl rfl rfl (as3 rfl (by rw [hi]; omega) (in_lt e hi) h1 ?_)
      refine doF rfl rfl rfl rfl rfl (as_load rfl rfl rfl rfl h2 ⟨y, rfl⟩ ?_)
      repeat' first
        | refine go rfl ?_
        | refine ifT rfl ?_
        | refine ifF rfl ?_
        | refine doT rfl rfl rfl rfl rfl (as0 rfl ?_)
        | refine doF rfl rfl rfl rfl rfl (as0 rfl ?_)
        | refine noT rfl rfl rfl rfl rfl ?_
        | refine noF rfl rfl rfl rfl rfl ?_
        | refine noU rfl rfl rfl rfl rfl rfl ?_
        | refine go_block ?_
      refine go_cond rfl (fun hb => ?_) (fun hb => ?_)
      · repeat' first
          | refine go rfl ?_
          | refine ifT rfl ?_
          | refine ifF rfl ?_
          | refine doT rfl rfl rfl rfl rfl (as0 rfl ?_)
          | refine doF rfl rfl rfl rfl rfl (as0 rfl ?_)
          | refine noT rfl rfl rfl rfl rfl ?_
          | refine noF rfl rfl rfl rfl rfl ?_
          | refine noU rfl rfl rfl rfl rfl rfl ?_
          | refine go_block ?_
        refine go_by_ret ?_
        repeat' first
          | refine go rfl ?_
          | refine ifT rfl ?_
          | refine ifF rfl ?_
          | refine doT rfl rfl rfl rfl rfl (as0 rfl ?_)
          | refine doF rfl rfl rfl rfl rfl (as0 rfl ?_)
          | refine noT rfl rfl rfl rfl rfl ?_
          | refine noF rfl rfl rfl rfl rfl ?_
          | refine noU rfl rfl rfl rfl rfl rfl ?_
          | refine go_block ?_
        refine go_ret rfl ?_
        rw [bad (by unfold badW; rw [h3]; exact hb)] at h
        exact h
      · repeat' first
          | refine go rfl ?_
          | refine ifT rfl ?_
          | refine ifF rfl ?_
          | refine doT rfl rfl rfl rfl rfl (as0 rfl ?_)
          | refine doF rfl rfl rfl rfl rfl (as0 rfl ?_)
          | refine noT rfl rfl rfl rfl rfl ?_
          | refine noF rfl rfl rfl rfl rfl ?_
          | refine noU rfl rfl rfl rfl rfl rfl ?_
          | refine go_block ?_
        refine go_meet ((pre ++ [y]).length : Int) ⟨rfl, trivial⟩ (by rw [← wrap_next e hi hm]; rfl) ⟨⟨rfl, pre ++ [y], suf, app_next e, rfl, good (by unfold badW; rw [h3]; exact hb)⟩, less_next e hi⟩
    · repeat' first
        | refine go rfl ?_
        | refine ifT rfl ?_
        | refine ifF rfl ?_
        | refine doT rfl rfl rfl rfl rfl (as0 rfl ?_)
        | refine doF rfl rfl rfl rfl rfl (as0 rfl ?_)
        | refine noT rfl rfl rfl rfl rfl ?_
        | refine noF rfl rfl rfl rfl rfl ?_
        | refine noU rfl rfl rfl rfl rfl rfl ?_
        | refine go_block ?_
      refine go_by_ret ?_
      repeat' first
        | refine go rfl ?_
        | refine ifT rfl ?_
        | refine ifF rfl ?_
        | refine doT rfl rfl rfl rfl rfl (as0 rfl ?_)
        | refine doF rfl rfl rfl rfl rfl (as0 rfl ?_)
        | refine noT rfl rfl rfl rfl rfl ?_
        | refine noF rfl rfl rfl rfl rfl ?_
        | refine noU rfl rfl rfl rfl rfl rfl ?_
        | refine go_block ?_
      refine go_ret rfl ?_
      rw [bad (by unfold badW; rw [h3]; rfl)] at h
      exact h
  · have := more_nil e hi hlt
    subst this
    repeat' first
      | refine go rfl ?_
      | refine ifT rfl ?_
      | refine ifF rfl ?_
      | refine doT rfl rfl rfl rfl rfl (as0 rfl ?_)
      | refine doF rfl rfl rfl rfl rfl (as0 rfl ?_)
      | refine noT rfl rfl rfl rfl rfl ?_
      | refine noF rfl rfl rfl rfl rfl ?_
      | refine noU rfl rfl rfl rfl rfl rfl ?_
      | refine go_block ?_
    refine go_by_exit ?_
    unfold rightM at h
    rw [hc] at h
    repeat' first
      | refine go rfl ?_
      | refine ifT rfl ?_
      | refine ifF rfl ?_
      | refine doT rfl rfl rfl rfl rfl (as0 rfl ?_)
      | refine doF rfl rfl rfl rfl rfl (as0 rfl ?_)
      | refine noT rfl rfl rfl rfl rfl ?_
      | refine noF rfl rfl rfl rfl rfl ?_
      | refine noU rfl rfl rfl rfl rfl rfl ?_
      | refine go_block ?_
    cases h1 : decide (1 ≤ (l.length : Int)) <;> rw [h1] at h
    · repeat' first
        | refine go rfl ?_
        | refine ifT rfl ?_
        | refine ifF rfl ?_
        | refine doT rfl rfl rfl rfl rfl (as0 rfl ?_)
        | refine doF rfl rfl rfl rfl rfl (as0 rfl ?_)
        | refine noT rfl rfl rfl rfl rfl ?_
        | refine noF rfl rfl rfl rfl rfl ?_
        | refine noU rfl rfl rfl rfl rfl rfl ?_
        | refine go_block ?_
      refine go_ret rfl ?_
      exact h
    · repeat' first
        | refine go rfl ?_
        | refine ifT rfl ?_
        | refine ifF rfl ?_
        | refine doT rfl rfl rfl rfl rfl (as0 rfl ?_)
        | refine doF rfl rfl rfl rfl rfl (as0 rfl ?_)
        | refine noT rfl rfl rfl rfl rfl ?_
        | refine noF rfl rfl rfl rfl rfl ?_
        | refine noU rfl rfl rfl rfl rfl rfl ?_
        | refine go_block ?_
      refine go_ret rfl ?_
      cases h2 : decide ((l.length : Int) ≤ 6) <;> rw [h2] at h <;> exact h

theorem c12 {q q' : Option Addr} {cp cp' : Nat} {a b : List Int} {σ : Heap} {R : Value → Heap → Prop} (ha : σ.row q a.length (ints a)) (hb : σ.row q' b.length (ints b)) (hma : a.length < 9223372036854775807)
    (h : R (.int .i64 (cmpL a b)) σ) : ACalls Tryz.prog 12 [.slice q a.length cp, .slice q' b.length cp'] σ R := by
  refine ACalls_fn fn12 rfl ?_
  repeat' first
    | refine go rfl ?_
    | refine ifT rfl ?_
    | refine ifF rfl ?_
    | refine doT rfl rfl rfl rfl rfl (as0 rfl ?_)
    | refine doF rfl rfl rfl rfl rfl (as0 rfl ?_)
    | refine noT rfl rfl rfl rfl rfl ?_
    | refine noF rfl rfl rfl rfl rfl ?_
    | refine noU rfl rfl rfl rfl rfl rfl ?_
  refine go_block_cut [(0, .slice q a.length cp), (1, .slice q' b.length cp')] [] (fun _ σ' => σ = σ' ∧ cmpL a b = if (a.length : Int) < b.length then -1 else if (b.length : Int) < a.length then 1 else 0) ?_ ?_
  · refine go_loop [(0, .slice q a.length cp), (1, .slice q' b.length cp')] [(5, .sc (.int .i64))]
      (fun (i : Int) σ' => σ = σ' ∧ ∃ pre suf pre' suf', a = pre ++ suf ∧ b = pre' ++ suf' ∧ pre'.length = pre.length ∧ i = (pre.length : Int) ∧ cmpL a b = cmpL suf suf') (fun (i : Int) _ => (a.length - i.toNat : Nat)) (0 : Int)
      ⟨rfl, rfl, trivial⟩ rfl ⟨rfl, [], a, [], b, rfl, rfl, rfl, rfl, rfl⟩ ?_
    rintro (i : Int) σ' ⟨rfl, pre, suf, pre', suf', ea, eb, el, hi, hc⟩
    have hi' : i = (pre'.length : Int) := by omega
    repeat' first
      | refine go rfl ?_
      | refine ifT rfl ?_
      | refine ifF rfl ?_
      | refine doT rfl rfl rfl rfl rfl (as0 rfl ?_)
      | refine doF rfl rfl rfl rfl rfl (as0 rfl ?_)
      | refine noT rfl rfl rfl rfl rfl ?_
      | refine noF rfl rfl rfl rfl rfl ?_
      | refine noU rfl rfl rfl rfl rfl rfl ?_
      | refine go_block ?_
    cases hlt : decide (i < (a.length : Int))
    · have := more_nil ea hi hlt
      subst this
      repeat' first
        | refine go rfl ?_
        | refine ifT rfl ?_
        | refine ifF rfl ?_
        | refine doT rfl rfl rfl rfl rfl (as0 rfl ?_)
        | refine doF rfl rfl rfl rfl rfl (as0 rfl ?_)
        | refine noT rfl rfl rfl rfl rfl ?_
        | refine noF rfl rfl rfl rfl rfl ?_
        | refine noU rfl rfl rfl rfl rfl rfl ?_
        | refine go_block ?_
      refine go_by_exit ?_
      refine meetB () ⟨rfl, rfl, trivial⟩ rfl ⟨rfl, ?_⟩
      rw [hc, ea, eb]
      cases suf' with
      | nil => simp [cmpL, el]
      | cons z s =>
        simp [cmpL, el]
        omega
    · obtain ⟨y, suf, rfl⟩ := more_cons ea hi hlt
      repeat' first
        | refine go rfl ?_
        | refine ifT rfl ?_
        | refine ifF rfl ?_
        | refine doT rfl rfl rfl rfl rfl (as0 rfl ?_)
        | refine doF rfl rfl rfl rfl rfl (as0 rfl ?_)
        | refine noT rfl rfl rfl rfl rfl ?_
        | refine noF rfl rfl rfl rfl rfl ?_
        | refine noU rfl rfl rfl rfl rfl rfl ?_
        | refine go_block ?_
      cases hlt' : decide (i < (b.length : Int))
      · have := more_nil eb hi' hlt'
        subst this
        repeat' first
          | refine go rfl ?_
          | refine ifT rfl ?_
          | refine ifF rfl ?_
          | refine doT rfl rfl rfl rfl rfl (as0 rfl ?_)
          | refine doF rfl rfl rfl rfl rfl (as0 rfl ?_)
          | refine noT rfl rfl rfl rfl rfl ?_
          | refine noF rfl rfl rfl rfl rfl ?_
          | refine noU rfl rfl rfl rfl rfl rfl ?_
          | refine go_block ?_
        refine go_by_exit ?_
        refine meetB () ⟨rfl, rfl, trivial⟩ rfl ⟨rfl, ?_⟩
        rw [hc, ea, eb]
        simp [cmpL, el]
        omega
      · obtain ⟨z, suf', rfl⟩ := more_cons eb hi' hlt'
        obtain ⟨h1, h2⟩ := row_at ha (ints_at ea) hi (t := ti3) rfl rfl
        obtain ⟨h3, h4⟩ := row_at hb (ints_at eb) hi' (t := ti3) rfl rfl
        repeat' first
          | refine go rfl ?_
          | refine ifT rfl ?_
          | refine ifF rfl ?_
          | refine doT rfl rfl rfl rfl rfl (as0 rfl ?_)
          | refine doF rfl rfl rfl rfl rfl (as0 rfl ?_)
          | refine noT rfl rfl rfl rfl rfl ?_
          | refine noF rfl rfl rfl rfl rfl ?_
          | refine noU rfl rfl rfl rfl rfl rfl ?_
          | refine go_block ?_
        refine op rfl rfl rfl rfl (as3 rfl (by rw [hi]; omega) (in_lt ea hi) h1 ?_)
        refine opl (i := ti3) rfl rfl rfl rfl rfl rfl rfl rfl h2 ⟨y, rfl⟩ ?_
        repeat' first
          | refine go rfl ?_
          | refine ifT rfl ?_
          | refine ifF rfl ?_
          | refine doT rfl rfl rfl rfl rfl (as0 rfl ?_)
          | refine doF rfl rfl rfl rfl rfl (as0 rfl ?_)
          | refine noT rfl rfl rfl rfl rfl ?_
          | refine noF rfl rfl rfl rfl rfl ?_
          | refine noU rfl rfl rfl rfl rfl rfl ?_
          | refine go_block ?_
        refine op rfl rfl rfl rfl (as3 rfl (by rw [hi]; omega) (in_lt eb hi') h3 ?_)
        refine opl (i := ti3) rfl rfl rfl rfl rfl rfl rfl rfl h4 ⟨z, rfl⟩ ?_
        repeat' first
          | refine go rfl ?_
          | refine ifT rfl ?_
          | refine ifF rfl ?_
          | refine doT rfl rfl rfl rfl rfl (as0 rfl ?_)
          | refine doF rfl rfl rfl rfl rfl (as0 rfl ?_)
          | refine noT rfl rfl rfl rfl rfl ?_
          | refine noF rfl rfl rfl rfl rfl ?_
          | refine noU rfl rfl rfl rfl rfl rfl ?_
          | refine go_block ?_
        refine go_cond rfl (fun hyz => ?_) (fun hyz => ?_)
        · repeat' first
            | refine go rfl ?_
            | refine ifT rfl ?_
            | refine ifF rfl ?_
            | refine doT rfl rfl rfl rfl rfl (as0 rfl ?_)
            | refine doF rfl rfl rfl rfl rfl (as0 rfl ?_)
            | refine noT rfl rfl rfl rfl rfl ?_
            | refine noF rfl rfl rfl rfl rfl ?_
            | refine noU rfl rfl rfl rfl rfl rfl ?_
            | refine go_block ?_
          refine go_by_ret ?_
          refine byB_ret ?_
          repeat' first
            | refine go rfl ?_
            | refine ifT rfl ?_
            | refine ifF rfl ?_
            | refine doT rfl rfl rfl rfl rfl (as0 rfl ?_)
            | refine doF rfl rfl rfl rfl rfl (as0 rfl ?_)
            | refine noT rfl rfl rfl rfl rfl ?_
            | refine noF rfl rfl rfl rfl rfl ?_
            | refine noU rfl rfl rfl rfl rfl rfl ?_
            | refine go_block ?_
          refine go_ret rfl ?_
          simp only [cmpL, if_pos (of_decide_eq_true hyz)] at hc
          rw [hc] at h
          exact h
        · repeat' first
            | refine go rfl ?_
            | refine ifT rfl ?_
            | refine ifF rfl ?_
            | refine doT rfl rfl rfl rfl rfl (as0 rfl ?_)
            | refine doF rfl rfl rfl rfl rfl (as0 rfl ?_)
            | refine noT rfl rfl rfl rfl rfl ?_
            | refine noF rfl rfl rfl rfl rfl ?_
            | refine noU rfl rfl rfl rfl rfl rfl ?_
            | refine go_block ?_
          refine op rfl rfl rfl rfl (as3 rfl (by rw [hi]; omega) (in_lt ea hi) h1 ?_)
          refine opl (i := ti3) rfl rfl rfl rfl rfl rfl rfl rfl h2 ⟨y, rfl⟩ ?_
          repeat' first
            | refine go rfl ?_
            | refine ifT rfl ?_
            | refine ifF rfl ?_
            | refine doT rfl rfl rfl rfl rfl (as0 rfl ?_)
            | refine doF rfl rfl rfl rfl rfl (as0 rfl ?_)
            | refine noT rfl rfl rfl rfl rfl ?_
            | refine noF rfl rfl rfl rfl rfl ?_
            | refine noU rfl rfl rfl rfl rfl rfl ?_
            | refine go_block ?_
          refine op rfl rfl rfl rfl (as3 rfl (by rw [hi]; omega) (in_lt eb hi') h3 ?_)
          refine opl (i := ti3) rfl rfl rfl rfl rfl rfl rfl rfl h4 ⟨z, rfl⟩ ?_
          repeat' first
            | refine go rfl ?_
            | refine ifT rfl ?_
            | refine ifF rfl ?_
            | refine doT rfl rfl rfl rfl rfl (as0 rfl ?_)
            | refine doF rfl rfl rfl rfl rfl (as0 rfl ?_)
            | refine noT rfl rfl rfl rfl rfl ?_
            | refine noF rfl rfl rfl rfl rfl ?_
            | refine noU rfl rfl rfl rfl rfl rfl ?_
            | refine go_block ?_
          refine go_cond rfl (fun hzy => ?_) (fun hzy => ?_)
          · repeat' first
              | refine go rfl ?_
              | refine ifT rfl ?_
              | refine ifF rfl ?_
              | refine doT rfl rfl rfl rfl rfl (as0 rfl ?_)
              | refine doF rfl rfl rfl rfl rfl (as0 rfl ?_)
              | refine noT rfl rfl rfl rfl rfl ?_
              | refine noF rfl rfl rfl rfl rfl ?_
              | refine noU rfl rfl rfl rfl rfl rfl ?_
              | refine go_block ?_
            refine go_by_ret ?_
            refine byB_ret ?_
            repeat' first
              | refine go rfl ?_
              | refine ifT rfl ?_
              | refine ifF rfl ?_
              | refine doT rfl rfl rfl rfl rfl (as0 rfl ?_)
              | refine doF rfl rfl rfl rfl rfl (as0 rfl ?_)
              | refine noT rfl rfl rfl rfl rfl ?_
              | refine noF rfl rfl rfl rfl rfl ?_
              | refine noU rfl rfl rfl rfl rfl rfl ?_
              | refine go_block ?_
            refine go_ret rfl ?_
            simp only [cmpL, if_neg (of_decide_eq_false hyz), if_pos (of_decide_eq_true hzy)] at hc
            rw [hc] at h
            exact h
          · repeat' first
              | refine go rfl ?_
              | refine ifT rfl ?_
              | refine ifF rfl ?_
              | refine doT rfl rfl rfl rfl rfl (as0 rfl ?_)
              | refine doF rfl rfl rfl rfl rfl (as0 rfl ?_)
              | refine noT rfl rfl rfl rfl rfl ?_
              | refine noF rfl rfl rfl rfl rfl ?_
              | refine noU rfl rfl rfl rfl rfl rfl ?_
              | refine go_block ?_
            refine go_meet ((pre ++ [y]).length : Int) ⟨rfl, rfl, trivial⟩ (by rw [← wrap_next ea hi hma]; rfl)
              ⟨⟨rfl, pre ++ [y], suf, pre' ++ [z], suf', app_next ea, app_next eb, by simp [el], rfl, ?_⟩, less_next ea hi⟩
            simp only [cmpL, if_neg (of_decide_eq_false hyz), if_neg (of_decide_eq_false hzy)] at hc
            exact hc
  · rintro s σ' ⟨rfl, hc⟩
    repeat' first
      | refine go rfl ?_
      | refine ifT rfl ?_
      | refine ifF rfl ?_
      | refine doT rfl rfl rfl rfl rfl (as0 rfl ?_)
      | refine doF rfl rfl rfl rfl rfl (as0 rfl ?_)
      | refine noT rfl rfl rfl rfl rfl ?_
      | refine noF rfl rfl rfl rfl rfl ?_
      | refine noU rfl rfl rfl rfl rfl rfl ?_
      | refine go_block ?_
    refine go_cond rfl (fun h1 => ?_) (fun h1 => ?_)
    · rw [if_pos (of_decide_eq_true h1)] at hc
      repeat' first
        | refine go rfl ?_
        | refine ifT rfl ?_
        | refine ifF rfl ?_
        | refine doT rfl rfl rfl rfl rfl (as0 rfl ?_)
        | refine doF rfl rfl rfl rfl rfl (as0 rfl ?_)
        | refine noT rfl rfl rfl rfl rfl ?_
        | refine noF rfl rfl rfl rfl rfl ?_
        | refine noU rfl rfl rfl rfl rfl rfl ?_
        | refine go_block ?_
      refine go_ret rfl ?_
      rw [hc] at h
      exact h
    · rw [if_neg (of_decide_eq_false h1)] at hc
      repeat' first
        | refine go rfl ?_
        | refine ifT rfl ?_
        | refine ifF rfl ?_
        | refine doT rfl rfl rfl rfl rfl (as0 rfl ?_)
        | refine doF rfl rfl rfl rfl rfl (as0 rfl ?_)
        | refine noT rfl rfl rfl rfl rfl ?_
        | refine noF rfl rfl rfl rfl rfl ?_
        | refine noU rfl rfl rfl rfl rfl rfl ?_
        | refine go_block ?_
      refine go_cond rfl (fun h2 => ?_) (fun h2 => ?_)
      · rw [if_pos (of_decide_eq_true h2)] at hc
        repeat' first
          | refine go rfl ?_
          | refine ifT rfl ?_
          | refine ifF rfl ?_
          | refine doT rfl rfl rfl rfl rfl (as0 rfl ?_)
          | refine doF rfl rfl rfl rfl rfl (as0 rfl ?_)
          | refine noT rfl rfl rfl rfl rfl ?_
          | refine noF rfl rfl rfl rfl rfl ?_
          | refine noU rfl rfl rfl rfl rfl rfl ?_
          | refine go_block ?_
        refine go_ret rfl ?_
        rw [hc] at h
        exact h
      · rw [if_neg (of_decide_eq_false h2)] at hc
        repeat' first
          | refine go rfl ?_
          | refine ifT rfl ?_
          | refine ifF rfl ?_
          | refine doT rfl rfl rfl rfl rfl (as0 rfl ?_)
          | refine doF rfl rfl rfl rfl rfl (as0 rfl ?_)
          | refine noT rfl rfl rfl rfl rfl ?_
          | refine noF rfl rfl rfl rfl rfl ?_
          | refine noU rfl rfl rfl rfl rfl rfl ?_
          | refine go_block ?_
        refine go_ret rfl ?_
        rw [hc] at h
        exact h

theorem c22 {q q' : Option Addr} {cp cp' : Nat} {a b : List Int} {σ : Heap} {R : Value → Heap → Prop} (ha : σ.row q a.length (ints a)) (hb : σ.row q' b.length (ints b)) (hma : a.length < 9223372036854775807)
    (h : R (.bool (decide (a = b))) σ) : ACalls Tryz.prog 22 [.slice q a.length cp, .slice q' b.length cp'] σ R := by
  refine ACalls_fn fn22 rfl ?_
  repeat' first
    | refine go rfl ?_
    | refine ifT rfl ?_
    | refine ifF rfl ?_
    | refine doT rfl rfl rfl rfl rfl (as0 rfl ?_)
    | refine doF rfl rfl rfl rfl rfl (as0 rfl ?_)
    | refine noT rfl rfl rfl rfl rfl ?_
    | refine noF rfl rfl rfl rfl rfl ?_
    | refine noU rfl rfl rfl rfl rfl rfl ?_
    | refine go_block ?_
  refine go_cond rfl (fun hlt => ?_) (fun hlt => ?_)
  · repeat' first
      | refine go rfl ?_
      | refine ifT rfl ?_
      | refine ifF rfl ?_
      | refine doT rfl rfl rfl rfl rfl (as0 rfl ?_)
      | refine doF rfl rfl rfl rfl rfl (as0 rfl ?_)
      | refine noT rfl rfl rfl rfl rfl ?_
      | refine noF rfl rfl rfl rfl rfl ?_
      | refine noU rfl rfl rfl rfl rfl rfl ?_
      | refine go_block ?_
    refine go_ret rfl ?_
    have : decide (a = b) = false := by
      have : ¬ (a.length : Int) = b.length := by simpa using hlt
      exact decide_eq_false (fun e => this (by rw [e]))
    rw [this] at h
    exact h
  · have el : a.length = b.length := by
      have : (a.length : Int) = b.length := by simpa using hlt
      omega
    repeat' first
      | refine go rfl ?_
      | refine ifT rfl ?_
      | refine ifF rfl ?_
      | refine doT rfl rfl rfl rfl rfl (as0 rfl ?_)
      | refine doF rfl rfl rfl rfl rfl (as0 rfl ?_)
      | refine noT rfl rfl rfl rfl rfl ?_
      | refine noF rfl rfl rfl rfl rfl ?_
      | refine noU rfl rfl rfl rfl rfl rfl ?_
      | refine go_block ?_
    refine go_loop [(0, .slice q a.length cp), (1, .slice q' b.length cp')] [(5, .sc (.int .i64))]
      (fun (i : Int) σ' => σ = σ' ∧ ∃ pre suf suf', a = pre ++ suf ∧ b = pre ++ suf' ∧ i = (pre.length : Int)) (fun (i : Int) _ => (a.length - i.toNat : Nat)) (0 : Int)
      ⟨rfl, rfl, trivial⟩ rfl ⟨rfl, [], a, b, rfl, rfl, rfl⟩ ?_
    rintro (i : Int) σ' ⟨rfl, pre, suf, suf', ea, eb, hi⟩
    repeat' first
      | refine go rfl ?_
      | refine ifT rfl ?_
      | refine ifF rfl ?_
      | refine doT rfl rfl rfl rfl rfl (as0 rfl ?_)
      | refine doF rfl rfl rfl rfl rfl (as0 rfl ?_)
      | refine noT rfl rfl rfl rfl rfl ?_
      | refine noF rfl rfl rfl rfl rfl ?_
      | refine noU rfl rfl rfl rfl rfl rfl ?_
      | refine go_block ?_
    refine go_cond rfl (fun hlt => ?_) (fun hlt => ?_)
    · obtain ⟨y, suf, rfl⟩ := more_cons ea hi hlt
      obtain ⟨z, suf', rfl⟩ := more_cons eb hi (by rw [← el]; exact hlt)
      obtain ⟨h1, h2⟩ := row_at ha (ints_at ea) hi (t := ti3) rfl rfl
      obtain ⟨h3, h4⟩ := row_at hb (ints_at eb) hi (t := ti3) rfl rfl
      repeat' first
        | refine go rfl ?_
        | refine ifT rfl ?_
        | refine ifF rfl ?_
        | refine doT rfl rfl rfl rfl rfl (as0 rfl ?_)
        | refine doF rfl rfl rfl rfl rfl (as0 rfl ?_)
        | refine noT rfl rfl rfl rfl rfl ?_
        | refine noF rfl rfl rfl rfl rfl ?_
        | refine noU rfl rfl rfl rfl rfl rfl ?_
        | refine go_block ?_
      refine op rfl rfl rfl rfl (as3 rfl (by rw [hi]; omega) (in_lt ea hi) h1 ?_)
      refine opl (i := ti3) rfl rfl rfl rfl rfl rfl rfl rfl h2 ⟨y, rfl⟩ ?_
      repeat' first
        | refine go rfl ?_
        | refine ifT rfl ?_
        | refine ifF rfl ?_
        | refine doT rfl rfl rfl rfl rfl (as0 rfl ?_)
        | refine doF rfl rfl rfl rfl rfl (as0 rfl ?_)
        | refine noT rfl rfl rfl rfl rfl ?_
        | refine noF rfl rfl rfl rfl rfl ?_
        | refine noU rfl rfl rfl rfl rfl rfl ?_
        | refine go_block ?_
      refine op rfl rfl rfl rfl (as3 rfl (by rw [hi]; omega) (in_lt eb hi) h3 ?_)
      refine opl (i := ti3) rfl rfl rfl rfl rfl rfl rfl rfl h4 ⟨z, rfl⟩ ?_
      repeat' first
        | refine go rfl ?_
        | refine ifT rfl ?_
        | refine ifF rfl ?_
        | refine doT rfl rfl rfl rfl rfl (as0 rfl ?_)
        | refine doF rfl rfl rfl rfl rfl (as0 rfl ?_)
        | refine noT rfl rfl rfl rfl rfl ?_
        | refine noF rfl rfl rfl rfl rfl ?_
        | refine noU rfl rfl rfl rfl rfl rfl ?_
        | refine go_block ?_
      refine go_cond rfl (fun hne => ?_) (fun hne => ?_)
      · repeat' first
          | refine go rfl ?_
          | refine ifT rfl ?_
          | refine ifF rfl ?_
          | refine doT rfl rfl rfl rfl rfl (as0 rfl ?_)
          | refine doF rfl rfl rfl rfl rfl (as0 rfl ?_)
          | refine noT rfl rfl rfl rfl rfl ?_
          | refine noF rfl rfl rfl rfl rfl ?_
          | refine noU rfl rfl rfl rfl rfl rfl ?_
          | refine go_block ?_
        refine go_by_ret ?_
        repeat' first
          | refine go rfl ?_
          | refine ifT rfl ?_
          | refine ifF rfl ?_
          | refine doT rfl rfl rfl rfl rfl (as0 rfl ?_)
          | refine doF rfl rfl rfl rfl rfl (as0 rfl ?_)
          | refine noT rfl rfl rfl rfl rfl ?_
          | refine noF rfl rfl rfl rfl rfl ?_
          | refine noU rfl rfl rfl rfl rfl rfl ?_
          | refine go_block ?_
        refine go_ret rfl ?_
        have : decide (a = b) = false := by
          have : ¬ y = z := by simpa using hne
          refine decide_eq_false (fun e => this ?_)
          rw [ea, eb] at e
          simpa using (List.append_cancel_left e : y :: suf = z :: suf') |> List.cons.inj |>.1
        rw [this] at h
        exact h
      · have hyz : y = z := by simpa using hne
        subst hyz
        repeat' first
          | refine go rfl ?_
          | refine ifT rfl ?_
          | refine ifF rfl ?_
          | refine doT rfl rfl rfl rfl rfl (as0 rfl ?_)
          | refine doF rfl rfl rfl rfl rfl (as0 rfl ?_)
          | refine noT rfl rfl rfl rfl rfl ?_
          | refine noF rfl rfl rfl rfl rfl ?_
          | refine noU rfl rfl rfl rfl rfl rfl ?_
          | refine go_block ?_
        refine go_meet ((pre ++ [y]).length : Int) ⟨rfl, rfl, trivial⟩ (by rw [← wrap_next ea hi hma]; rfl) ⟨⟨rfl, pre ++ [y], suf, suf', app_next ea, app_next eb, rfl⟩, less_next ea hi⟩
    · have := more_nil ea hi hlt
      subst this
      have := more_nil eb hi (by rw [← el]; exact hlt)
      subst this
      repeat' first
        | refine go rfl ?_
        | refine ifT rfl ?_
        | refine ifF rfl ?_
        | refine doT rfl rfl rfl rfl rfl (as0 rfl ?_)
        | refine doF rfl rfl rfl rfl rfl (as0 rfl ?_)
        | refine noT rfl rfl rfl rfl rfl ?_
        | refine noF rfl rfl rfl rfl rfl ?_
        | refine noU rfl rfl rfl rfl rfl rfl ?_
        | refine go_block ?_
      refine go_by_exit ?_
      repeat' first
        | refine go rfl ?_
        | refine ifT rfl ?_
        | refine ifF rfl ?_
        | refine doT rfl rfl rfl rfl rfl (as0 rfl ?_)
        | refine doF rfl rfl rfl rfl rfl (as0 rfl ?_)
        | refine noT rfl rfl rfl rfl rfl ?_
        | refine noF rfl rfl rfl rfl rfl ?_
        | refine noU rfl rfl rfl rfl rfl rfl ?_
        | refine go_block ?_
      refine go_ret rfl ?_
      have : decide (a = b) = true := by rw [ea, eb]; simp
      rw [this] at h
      exact h

end Go.Eng
