/- Contracts: pointers made, headers packed, classes. Conditions: in each. -/
import Derived.Test.YtihpnhkhgobblaaGreatDoorCc
namespace Go.Eng
open Go Go.Proofs

set_option maxRecDepth 10000

def linesM (c : Int) : Int := if decide (c < 0) || decide (4 < c) then 0 else shlI .i64 1 c

theorem c91 {c : Int} {σ : Heap} {R : Value → Heap → Prop} (h : R (.int .i64 (linesM c)) σ) : ACalls Tryz.prog 91 [.int .i64 c] σ R := by
  unfold linesM at h
  refine ACalls_fn fn91 rfl ?_
  repeat' first
    | refine go rfl ?_
    | refine ifT rfl ?_
    | refine ifF rfl ?_
    | refine doT rfl rfl rfl rfl rfl (as0 rfl ?_)
    | refine doF rfl rfl rfl rfl rfl (as0 rfl ?_)
    | refine noT rfl rfl rfl rfl rfl ?_
    | refine noF rfl rfl rfl rfl rfl ?_
    | refine noU rfl rfl rfl rfl rfl rfl ?_
    | refine go_block ?_
  cases h1 : decide (c < 0) <;> rw [h1] at h
  · repeat' first
      | refine go rfl ?_
      | refine ifT rfl ?_
      | refine ifF rfl ?_
      | refine doT rfl rfl rfl rfl rfl (as0 rfl ?_)
      | refine doF rfl rfl rfl rfl rfl (as0 rfl ?_)
      | refine noT rfl rfl rfl rfl rfl ?_
      | refine noF rfl rfl rfl rfl rfl ?_
      | refine noU rfl rfl rfl rfl rfl rfl ?_
      | refine go_block ?_
    cases h2 : decide (4 < c) <;> rw [h2] at h
    · repeat' first
        | refine go rfl ?_
        | refine ifT rfl ?_
        | refine ifF rfl ?_
        | refine doT rfl rfl rfl rfl rfl (as0 rfl ?_)
        | refine doF rfl rfl rfl rfl rfl (as0 rfl ?_)
        | refine noT rfl rfl rfl rfl rfl ?_
        | refine noF rfl rfl rfl rfl rfl ?_
        | refine noU rfl rfl rfl rfl rfl rfl ?_
        | refine go_block ?_
      refine op rfl rfl rfl rfl (as1 rfl (by simpa using h1) ?_)
      repeat' first
        | refine go rfl ?_
        | refine ifT rfl ?_
        | refine ifF rfl ?_
        | refine doT rfl rfl rfl rfl rfl (as0 rfl ?_)
        | refine doF rfl rfl rfl rfl rfl (as0 rfl ?_)
        | refine noT rfl rfl rfl rfl rfl ?_
        | refine noF rfl rfl rfl rfl rfl ?_
        | refine noU rfl rfl rfl rfl rfl rfl ?_
        | refine go_block ?_
      refine go_ret rfl ?_
      exact h
    · repeat' first
        | refine go rfl ?_
        | refine ifT rfl ?_
        | refine ifF rfl ?_
        | refine doT rfl rfl rfl rfl rfl (as0 rfl ?_)
        | refine doF rfl rfl rfl rfl rfl (as0 rfl ?_)
        | refine noT rfl rfl rfl rfl rfl ?_
        | refine noF rfl rfl rfl rfl rfl ?_
        | refine noU rfl rfl rfl rfl rfl rfl ?_
        | refine go_block ?_
      refine go_ret rfl ?_
      exact h
  · repeat' first
      | refine go rfl ?_
      | refine ifT rfl ?_
      | refine ifF rfl ?_
      | refine doT rfl rfl rfl rfl rfl (as0 rfl ?_)
      | refine doF rfl rfl rfl rfl rfl (as0 rfl ?_)
      | refine noT rfl rfl rfl rfl rfl ?_
      | refine noF rfl rfl rfl rfl rfl ?_
      | refine noU rfl rfl rfl rfl rfl rfl ?_
      | refine go_block ?_
    refine go_ret rfl ?_
    exact h

def nextM (g : Int) : Int := if decide (g < 0) || decide (1048575 ≤ g) then 1 else IntKind.wrap .i64 (g + 1)

theorem c106 {g : Int} {σ : Heap} {R : Value → Heap → Prop} (h : R (.int .i64 (nextM g)) σ) : ACalls Tryz.prog 106 [.int .i64 g] σ R := by
  unfold nextM at h
  refine ACalls_fn fn106 rfl ?_
  repeat' first
    | refine go rfl ?_
    | refine ifT rfl ?_
    | refine ifF rfl ?_
    | refine doT rfl rfl rfl rfl rfl (as0 rfl ?_)
    | refine doF rfl rfl rfl rfl rfl (as0 rfl ?_)
    | refine noT rfl rfl rfl rfl rfl ?_
    | refine noF rfl rfl rfl rfl rfl ?_
    | refine noU rfl rfl rfl rfl rfl rfl ?_
    | refine go_block ?_
  cases h1 : decide (g < 0) <;> rw [h1] at h
  · repeat' first
      | refine go rfl ?_
      | refine ifT rfl ?_
      | refine ifF rfl ?_
      | refine doT rfl rfl rfl rfl rfl (as0 rfl ?_)
      | refine doF rfl rfl rfl rfl rfl (as0 rfl ?_)
      | refine noT rfl rfl rfl rfl rfl ?_
      | refine noF rfl rfl rfl rfl rfl ?_
      | refine noU rfl rfl rfl rfl rfl rfl ?_
      | refine go_block ?_
    cases h2 : decide (1048575 ≤ g) <;> rw [h2] at h
    · repeat' first
        | refine go rfl ?_
        | refine ifT rfl ?_
        | refine ifF rfl ?_
        | refine doT rfl rfl rfl rfl rfl (as0 rfl ?_)
        | refine doF rfl rfl rfl rfl rfl (as0 rfl ?_)
        | refine noT rfl rfl rfl rfl rfl ?_
        | refine noF rfl rfl rfl rfl rfl ?_
        | refine noU rfl rfl rfl rfl rfl rfl ?_
        | refine go_block ?_
      refine go_ret rfl ?_
      exact h
    · repeat' first
        | refine go rfl ?_
        | refine ifT rfl ?_
        | refine ifF rfl ?_
        | refine doT rfl rfl rfl rfl rfl (as0 rfl ?_)
        | refine doF rfl rfl rfl rfl rfl (as0 rfl ?_)
        | refine noT rfl rfl rfl rfl rfl ?_
        | refine noF rfl rfl rfl rfl rfl ?_
        | refine noU rfl rfl rfl rfl rfl rfl ?_
        | refine go_block ?_
      refine go_ret rfl ?_
      exact h
  · repeat' first
      | refine go rfl ?_
      | refine ifT rfl ?_
      | refine ifF rfl ?_
      | refine doT rfl rfl rfl rfl rfl (as0 rfl ?_)
      | refine doF rfl rfl rfl rfl rfl (as0 rfl ?_)
      | refine noT rfl rfl rfl rfl rfl ?_
      | refine noF rfl rfl rfl rfl rfl ?_
      | refine noU rfl rfl rfl rfl rfl rfl ?_
      | refine go_block ?_
    refine go_ret rfl ?_
    exact h

def makeM (line gen : Int) : Int := if decide (line < 1) || decide (4096 ≤ line) || decide (gen < 1) || decide (1048576 ≤ gen) then 0 else orI .i64 line (shlI .i64 gen 12)

theorem c107 {line gen : Int} {σ : Heap} {R : Value → Heap → Prop} (hG : Glob σ) (h : R (.int .i64 (makeM line gen)) σ) : ACalls Tryz.prog 107 [.int .i64 line, .int .i64 gen] σ R := by
  unfold makeM at h
  refine ACalls_fn fn107 rfl ?_
  repeat' first
    | refine go rfl ?_
    | refine ifT rfl ?_
    | refine ifF rfl ?_
    | refine doT rfl rfl rfl rfl rfl (as0 rfl ?_)
    | refine doF rfl rfl rfl rfl rfl (as0 rfl ?_)
    | refine noT rfl rfl rfl rfl rfl ?_
    | refine noF rfl rfl rfl rfl rfl ?_
    | refine noU rfl rfl rfl rfl rfl rfl ?_
    | refine go_block ?_
  cases h1 : decide (line < 1) <;> rw [h1] at h
  · repeat' first
      | refine go rfl ?_
      | refine ifT rfl ?_
      | refine ifF rfl ?_
      | refine doT rfl rfl rfl rfl rfl (as0 rfl ?_)
      | refine doF rfl rfl rfl rfl rfl (as0 rfl ?_)
      | refine noT rfl rfl rfl rfl rfl ?_
      | refine noF rfl rfl rfl rfl rfl ?_
      | refine noU rfl rfl rfl rfl rfl rfl ?_
      | refine go_block ?_
    cases h2 : decide (4096 ≤ line) <;> rw [h2] at h
    · repeat' first
        | refine go rfl ?_
        | refine ifT rfl ?_
        | refine ifF rfl ?_
        | refine doT rfl rfl rfl rfl rfl (as0 rfl ?_)
        | refine doF rfl rfl rfl rfl rfl (as0 rfl ?_)
        | refine noT rfl rfl rfl rfl rfl ?_
        | refine noF rfl rfl rfl rfl rfl ?_
        | refine noU rfl rfl rfl rfl rfl rfl ?_
        | refine go_block ?_
      cases h3 : decide (gen < 1) <;> rw [h3] at h
      · repeat' first
          | refine go rfl ?_
          | refine ifT rfl ?_
          | refine ifF rfl ?_
          | refine doT rfl rfl rfl rfl rfl (as0 rfl ?_)
          | refine doF rfl rfl rfl rfl rfl (as0 rfl ?_)
          | refine noT rfl rfl rfl rfl rfl ?_
          | refine noF rfl rfl rfl rfl rfl ?_
          | refine noU rfl rfl rfl rfl rfl rfl ?_
          | refine go_block ?_
        cases h4 : decide (1048576 ≤ gen) <;> rw [h4] at h
        · repeat' first
            | refine go rfl ?_
            | refine ifT rfl ?_
            | refine ifF rfl ?_
            | refine doT rfl rfl rfl rfl rfl (as0 rfl ?_)
            | refine doF rfl rfl rfl rfl rfl (as0 rfl ?_)
            | refine noT rfl rfl rfl rfl rfl ?_
            | refine noF rfl rfl rfl rfl rfl ?_
            | refine noU rfl rfl rfl rfl rfl rfl ?_
            | refine go_block ?_
          refine op rfl rfl rfl rfl (as3 rfl (by decide) (by decide) rfl ?_)
          refine op rfl rfl rfl rfl (as1 rfl rfl ?_)
          refine opl (i := ti3) rfl rfl rfl rfl rfl rfl rfl rfl (cell_ld (i := 2) hG.ptr rfl) ⟨(_ : Int), rfl⟩ ?_
          refine op rfl rfl rfl rfl (as1 rfl (by decide) ?_)
          repeat' first
            | refine go rfl ?_
            | refine ifT rfl ?_
            | refine ifF rfl ?_
            | refine doT rfl rfl rfl rfl rfl (as0 rfl ?_)
            | refine doF rfl rfl rfl rfl rfl (as0 rfl ?_)
            | refine noT rfl rfl rfl rfl rfl ?_
            | refine noF rfl rfl rfl rfl rfl ?_
            | refine noU rfl rfl rfl rfl rfl rfl ?_
            | refine go_block ?_
          refine go_ret rfl ?_
          exact h
        · repeat' first
            | refine go rfl ?_
            | refine ifT rfl ?_
            | refine ifF rfl ?_
            | refine doT rfl rfl rfl rfl rfl (as0 rfl ?_)
            | refine doF rfl rfl rfl rfl rfl (as0 rfl ?_)
            | refine noT rfl rfl rfl rfl rfl ?_
            | refine noF rfl rfl rfl rfl rfl ?_
            | refine noU rfl rfl rfl rfl rfl rfl ?_
            | refine go_block ?_
          refine go_ret rfl ?_
          exact h
      · repeat' first
          | refine go rfl ?_
          | refine ifT rfl ?_
          | refine ifF rfl ?_
          | refine doT rfl rfl rfl rfl rfl (as0 rfl ?_)
          | refine doF rfl rfl rfl rfl rfl (as0 rfl ?_)
          | refine noT rfl rfl rfl rfl rfl ?_
          | refine noF rfl rfl rfl rfl rfl ?_
          | refine noU rfl rfl rfl rfl rfl rfl ?_
          | refine go_block ?_
        refine go_ret rfl ?_
        exact h
    · repeat' first
        | refine go rfl ?_
        | refine ifT rfl ?_
        | refine ifF rfl ?_
        | refine doT rfl rfl rfl rfl rfl (as0 rfl ?_)
        | refine doF rfl rfl rfl rfl rfl (as0 rfl ?_)
        | refine noT rfl rfl rfl rfl rfl ?_
        | refine noF rfl rfl rfl rfl rfl ?_
        | refine noU rfl rfl rfl rfl rfl rfl ?_
        | refine go_block ?_
      refine go_ret rfl ?_
      exact h
  · repeat' first
      | refine go rfl ?_
      | refine ifT rfl ?_
      | refine ifF rfl ?_
      | refine doT rfl rfl rfl rfl rfl (as0 rfl ?_)
      | refine doF rfl rfl rfl rfl rfl (as0 rfl ?_)
      | refine noT rfl rfl rfl rfl rfl ?_
      | refine noF rfl rfl rfl rfl rfl ?_
      | refine noU rfl rfl rfl rfl rfl rfl ?_
      | refine go_block ?_
    refine go_ret rfl ?_
    exact h

def makeR (line gen : Int) : Int := if decide (line < 1) || decide (4095 < line) || decide (gen < 1) || decide (1048575 < gen) then 0 else IntKind.wrap .i64 (line + IntKind.wrap .i64 (gen * 4096))

theorem c33 {line gen : Int} {σ : Heap} {R : Value → Heap → Prop} (h : R (.int .i64 (makeR line gen)) σ) : ACalls Tryz.prog 33 [.int .i64 line, .int .i64 gen] σ R := by
  unfold makeR at h
  refine ACalls_fn fn33 rfl ?_
  repeat' first
    | refine go rfl ?_
    | refine ifT rfl ?_
    | refine ifF rfl ?_
    | refine doT rfl rfl rfl rfl rfl (as0 rfl ?_)
    | refine doF rfl rfl rfl rfl rfl (as0 rfl ?_)
    | refine noT rfl rfl rfl rfl rfl ?_
    | refine noF rfl rfl rfl rfl rfl ?_
    | refine noU rfl rfl rfl rfl rfl rfl ?_
    | refine go_block ?_
  cases h1 : decide (line < 1) <;> rw [h1] at h
  · repeat' first
      | refine go rfl ?_
      | refine ifT rfl ?_
      | refine ifF rfl ?_
      | refine doT rfl rfl rfl rfl rfl (as0 rfl ?_)
      | refine doF rfl rfl rfl rfl rfl (as0 rfl ?_)
      | refine noT rfl rfl rfl rfl rfl ?_
      | refine noF rfl rfl rfl rfl rfl ?_
      | refine noU rfl rfl rfl rfl rfl rfl ?_
      | refine go_block ?_
    cases h2 : decide (4095 < line) <;> rw [h2] at h
    · repeat' first
        | refine go rfl ?_
        | refine ifT rfl ?_
        | refine ifF rfl ?_
        | refine doT rfl rfl rfl rfl rfl (as0 rfl ?_)
        | refine doF rfl rfl rfl rfl rfl (as0 rfl ?_)
        | refine noT rfl rfl rfl rfl rfl ?_
        | refine noF rfl rfl rfl rfl rfl ?_
        | refine noU rfl rfl rfl rfl rfl rfl ?_
        | refine go_block ?_
      cases h3 : decide (gen < 1) <;> rw [h3] at h
      · repeat' first
          | refine go rfl ?_
          | refine ifT rfl ?_
          | refine ifF rfl ?_
          | refine doT rfl rfl rfl rfl rfl (as0 rfl ?_)
          | refine doF rfl rfl rfl rfl rfl (as0 rfl ?_)
          | refine noT rfl rfl rfl rfl rfl ?_
          | refine noF rfl rfl rfl rfl rfl ?_
          | refine noU rfl rfl rfl rfl rfl rfl ?_
          | refine go_block ?_
        cases h4 : decide (1048575 < gen) <;> rw [h4] at h
        · repeat' first
            | refine go rfl ?_
            | refine ifT rfl ?_
            | refine ifF rfl ?_
            | refine doT rfl rfl rfl rfl rfl (as0 rfl ?_)
            | refine doF rfl rfl rfl rfl rfl (as0 rfl ?_)
            | refine noT rfl rfl rfl rfl rfl ?_
            | refine noF rfl rfl rfl rfl rfl ?_
            | refine noU rfl rfl rfl rfl rfl rfl ?_
            | refine go_block ?_
          refine go_ret rfl ?_
          exact h
        · repeat' first
            | refine go rfl ?_
            | refine ifT rfl ?_
            | refine ifF rfl ?_
            | refine doT rfl rfl rfl rfl rfl (as0 rfl ?_)
            | refine doF rfl rfl rfl rfl rfl (as0 rfl ?_)
            | refine noT rfl rfl rfl rfl rfl ?_
            | refine noF rfl rfl rfl rfl rfl ?_
            | refine noU rfl rfl rfl rfl rfl rfl ?_
            | refine go_block ?_
          refine go_ret rfl ?_
          exact h
      · repeat' first
          | refine go rfl ?_
          | refine ifT rfl ?_
          | refine ifF rfl ?_
          | refine doT rfl rfl rfl rfl rfl (as0 rfl ?_)
          | refine doF rfl rfl rfl rfl rfl (as0 rfl ?_)
          | refine noT rfl rfl rfl rfl rfl ?_
          | refine noF rfl rfl rfl rfl rfl ?_
          | refine noU rfl rfl rfl rfl rfl rfl ?_
          | refine go_block ?_
        refine go_ret rfl ?_
        exact h
    · repeat' first
        | refine go rfl ?_
        | refine ifT rfl ?_
        | refine ifF rfl ?_
        | refine doT rfl rfl rfl rfl rfl (as0 rfl ?_)
        | refine doF rfl rfl rfl rfl rfl (as0 rfl ?_)
        | refine noT rfl rfl rfl rfl rfl ?_
        | refine noF rfl rfl rfl rfl rfl ?_
        | refine noU rfl rfl rfl rfl rfl rfl ?_
        | refine go_block ?_
      refine go_ret rfl ?_
      exact h
  · repeat' first
      | refine go rfl ?_
      | refine ifT rfl ?_
      | refine ifF rfl ?_
      | refine doT rfl rfl rfl rfl rfl (as0 rfl ?_)
      | refine doF rfl rfl rfl rfl rfl (as0 rfl ?_)
      | refine noT rfl rfl rfl rfl rfl ?_
      | refine noF rfl rfl rfl rfl rfl ?_
      | refine noU rfl rfl rfl rfl rfl rfl ?_
      | refine go_block ?_
    refine go_ret rfl ?_
    exact h

/-- The parts of a header, put together. -/
def packGo : List (Int × Int × Int) → Int → Option Int
  | [], out => some out
  | (n, a, b) :: l, out => if decide (n < 0) || decide (shlI .i64 1 b ≤ n) then none else packGo l (orI .i64 out (shlI .i64 n a))

def packM (kind cls gen : Int) : Int :=
  match packGo [(kind, 0, 4), (cls, 4, 3), (gen, 7, 20)] 0 with
  | some out => if 4 < cls then 0 else out
  | none => 0

theorem c110 {kind cls gen : Int} {σ : Heap} {R : Value → Heap → Prop} (hG : Glob σ) (h : R (.int .i64 (packM kind cls gen)) σ) : ACalls Tryz.prog 110 [.int .i64 kind, .int .i64 cls, .int .i64 gen] σ R := by
  unfold packM at h
  refine ACalls_fn fn110 rfl ?_
  repeat' first
    | refine go rfl ?_
    | refine ifT rfl ?_
    | refine ifF rfl ?_
    | refine doT rfl rfl rfl rfl rfl (as0 rfl ?_)
    | refine doF rfl rfl rfl rfl rfl (as0 rfl ?_)
    | refine noT rfl rfl rfl rfl rfl ?_
    | refine noF rfl rfl rfl rfl rfl ?_
    | refine noU rfl rfl rfl rfl rfl rfl ?_
  refine go_block_cut [(1, .int .i64 cls)] [(7, .sc (.int .i64))] (fun (out : Int) σ' => σ = σ' ∧ packGo [(kind, 0, 4), (cls, 4, 3), (gen, 7, 20)] 0 = some out) ?_ ?_
  · refine go_loop [(1, .int .i64 cls), (13, .agg #[.int .i64 kind, .int .i64 cls, .int .i64 gen])] [(7, .sc (.int .i64)), (14, .sc (.int .i64))]
      (fun (s : Int × Int) σ' => σ = σ' ∧ ∃ pre suf, [(kind, 0, 4), (cls, 4, 3), (gen, 7, 20)] = pre ++ suf ∧ s.2 = (pre.length : Int) ∧ packGo [(kind, 0, 4), (cls, 4, 3), (gen, 7, 20)] 0 = packGo suf s.1)
      (fun (s : Int × Int) _ => (3 - s.2.toNat : Nat)) ((0, 0) : Int × Int) ⟨rfl, rfl, trivial⟩ rfl ⟨rfl, [], _, rfl, rfl, rfl⟩ ?_
    rintro ⟨(out : Int), (i : Int)⟩ σ' ⟨rfl, pre, suf, e, hi, hc⟩
    replace hi : i = (pre.length : Int) := hi
    replace hc : packGo [(kind, 0, 4), (cls, 4, 3), (gen, 7, 20)] 0 = packGo suf out := hc
    repeat' first
      | refine go rfl ?_
      | refine ifT rfl ?_
      | refine ifF rfl ?_
      | refine doT rfl rfl rfl rfl rfl (as0 rfl ?_)
      | refine doF rfl rfl rfl rfl rfl (as0 rfl ?_)
      | refine noT rfl rfl rfl rfl rfl ?_
      | refine noF rfl rfl rfl rfl rfl ?_
      | refine noU rfl rfl rfl rfl rfl rfl ?_
      | refine go_block ?_
    refine go_cond rfl (fun hlt => ?_) (fun hlt => ?_)
    · obtain ⟨⟨y, a, b⟩, suf, rfl⟩ := more_cons (l := [(kind, 0, 4), (cls, 4, 3), (gen, 7, 20)]) e hi hlt
      have hi3 : i < 3 := in_lt (l := [(kind, 0, 4), (cls, 4, 3), (gen, 7, 20)]) e hi
      have hy : [kind, cls, gen].getD i.toNat 0 = y ∧ hdrs[2 * pre.length]? = some a ∧ hdrs[2 * pre.length + 1]? = some b ∧ 0 ≤ a ∧ 0 ≤ b := by
        have hp : pre.length < 3 := by omega
        match pre, hp with
        | [], _ => simp at e hi; obtain ⟨⟨rfl, rfl, rfl⟩, _⟩ := e; subst hi; simp [hdrs]
        | [_], _ => simp at e hi; obtain ⟨_, ⟨rfl, rfl, rfl⟩, _⟩ := e; subst hi; simp [hdrs]
        | [_, _], _ => simp at e hi; obtain ⟨_, _, ⟨rfl, rfl, rfl⟩, _⟩ := e; subst hi; simp [hdrs]
      obtain ⟨hy, ha, hb, ha0, hb0⟩ := hy
      repeat' first
        | refine go rfl ?_
        | refine ifT rfl ?_
        | refine ifF rfl ?_
        | refine doT rfl rfl rfl rfl rfl (as0 rfl ?_)
        | refine doF rfl rfl rfl rfl rfl (as0 rfl ?_)
        | refine noT rfl rfl rfl rfl rfl ?_
        | refine noF rfl rfl rfl rfl rfl ?_
        | refine noU rfl rfl rfl rfl rfl rfl ?_
        | refine go_block ?_
      refine op rfl rfl rfl rfl (as2 rfl (by rw [hi]; omega) hi3 ?_)
      repeat' first
        | refine go rfl ?_
        | refine ifT rfl ?_
        | refine ifF rfl ?_
        | refine doT rfl rfl rfl rfl rfl (as0 rfl ?_)
        | refine doF rfl rfl rfl rfl rfl (as0 rfl ?_)
        | refine noT rfl rfl rfl rfl rfl ?_
        | refine noF rfl rfl rfl rfl rfl ?_
        | refine noU rfl rfl rfl rfl rfl rfl ?_
        | refine go_block ?_
      have hload : ∀ (k : Nat) (x : Int), hdrs[2 * pre.length + k]? = some x → k < 2 → σ.ldT ti3 (padd (padd (some ⟨2, 0, none⟩) (i.toNat * ti212.size)) k) = some (.int .i64 x) := fun k x hk _ => by
        rw [padd_some, padd_some]
        have e2 : 0 + i.toNat * ti212.size + k = 2 * pre.length + k := by simp [ti212, hi]; omega
        rw [e2]
        exact cell_ld hG.hdr hk
      cases h1 : decide ([kind, cls, gen].getD i.toNat 0 < 0)
      · repeat' first
          | refine go rfl ?_
          | refine ifT rfl ?_
          | refine ifF rfl ?_
          | refine doT rfl rfl rfl rfl rfl (as0 rfl ?_)
          | refine doF rfl rfl rfl rfl rfl (as0 rfl ?_)
          | refine noT rfl rfl rfl rfl rfl ?_
          | refine noF rfl rfl rfl rfl rfl ?_
          | refine noU rfl rfl rfl rfl rfl rfl ?_
          | refine go_block ?_
        refine doF rfl rfl rfl rfl rfl (as3 rfl (by rw [hi]; omega) hi3 rfl ?_)
        refine doF rfl rfl rfl rfl rfl (as1 rfl rfl ?_)
        refine doF rfl rfl rfl rfl rfl (as_load rfl rfl rfl rfl (hload 1 b hb (by omega)) ⟨(_ : Int), rfl⟩ ?_)
        refine doF rfl rfl rfl rfl rfl (as1 rfl hb0 ?_)
        repeat' first
          | refine go rfl ?_
          | refine ifT rfl ?_
          | refine ifF rfl ?_
          | refine doT rfl rfl rfl rfl rfl (as0 rfl ?_)
          | refine doF rfl rfl rfl rfl rfl (as0 rfl ?_)
          | refine noT rfl rfl rfl rfl rfl ?_
          | refine noF rfl rfl rfl rfl rfl ?_
          | refine noU rfl rfl rfl rfl rfl rfl ?_
          | refine go_block ?_
        refine go_cond rfl (fun h2 => ?_) (fun h2 => ?_)
        · repeat' first
            | refine go rfl ?_
            | refine ifT rfl ?_
            | refine ifF rfl ?_
            | refine doT rfl rfl rfl rfl rfl (as0 rfl ?_)
            | refine doF rfl rfl rfl rfl rfl (as0 rfl ?_)
            | refine noT rfl rfl rfl rfl rfl ?_
            | refine noF rfl rfl rfl rfl rfl ?_
            | refine noU rfl rfl rfl rfl rfl rfl ?_
            | refine go_block ?_
          refine go_by_ret ?_
          refine byB_ret ?_
          repeat' first
            | refine go rfl ?_
            | refine ifT rfl ?_
            | refine ifF rfl ?_
            | refine doT rfl rfl rfl rfl rfl (as0 rfl ?_)
            | refine doF rfl rfl rfl rfl rfl (as0 rfl ?_)
            | refine noT rfl rfl rfl rfl rfl ?_
            | refine noF rfl rfl rfl rfl rfl ?_
            | refine noU rfl rfl rfl rfl rfl rfl ?_
            | refine go_block ?_
          refine go_ret rfl ?_
          rw [hc] at h
          rw [hy] at h1
          have h2' : decide (shlI .i64 1 b ≤ y) = true := by rw [← hy]; exact h2
          simp only [packGo, h1, h2', Bool.or_true, if_true] at h
          exact h
        · repeat' first
            | refine go rfl ?_
            | refine ifT rfl ?_
            | refine ifF rfl ?_
            | refine doT rfl rfl rfl rfl rfl (as0 rfl ?_)
            | refine doF rfl rfl rfl rfl rfl (as0 rfl ?_)
            | refine noT rfl rfl rfl rfl rfl ?_
            | refine noF rfl rfl rfl rfl rfl ?_
            | refine noU rfl rfl rfl rfl rfl rfl ?_
            | refine go_block ?_
          refine op rfl rfl rfl rfl (as3 rfl (by rw [hi]; omega) hi3 rfl ?_)
          refine op rfl rfl rfl rfl (as1 rfl rfl ?_)
          refine opl (i := ti3) rfl rfl rfl rfl rfl rfl rfl rfl (hload 0 a ha (by omega)) ⟨(_ : Int), rfl⟩ ?_
          refine op rfl rfl rfl rfl (as1 rfl ha0 ?_)
          repeat' first
            | refine go rfl ?_
            | refine ifT rfl ?_
            | refine ifF rfl ?_
            | refine doT rfl rfl rfl rfl rfl (as0 rfl ?_)
            | refine doF rfl rfl rfl rfl rfl (as0 rfl ?_)
            | refine noT rfl rfl rfl rfl rfl ?_
            | refine noF rfl rfl rfl rfl rfl ?_
            | refine noU rfl rfl rfl rfl rfl rfl ?_
            | refine go_block ?_
          refine go_meet ((orI .i64 out (shlI .i64 y a), ((pre ++ [(y, a, b)]).length : Int)) : Int × Int) ⟨rfl, rfl, trivial⟩ (by rw [← wrap_next e hi (by simp), ← hy]; rfl) ⟨⟨rfl, pre ++ [(y, a, b)], suf, app_next e, rfl, ?_⟩, less_next e hi⟩
          rw [hc]
          rw [hy] at h1
          have h2' : decide (shlI .i64 1 b ≤ y) = false := by rw [← hy]; exact h2
          simp [packGo, h1, h2']
      · repeat' first
          | refine go rfl ?_
          | refine ifT rfl ?_
          | refine ifF rfl ?_
          | refine doT rfl rfl rfl rfl rfl (as0 rfl ?_)
          | refine doF rfl rfl rfl rfl rfl (as0 rfl ?_)
          | refine noT rfl rfl rfl rfl rfl ?_
          | refine noF rfl rfl rfl rfl rfl ?_
          | refine noU rfl rfl rfl rfl rfl rfl ?_
          | refine go_block ?_
        refine go_by_ret ?_
        refine byB_ret ?_
        repeat' first
          | refine go rfl ?_
          | refine ifT rfl ?_
          | refine ifF rfl ?_
          | refine doT rfl rfl rfl rfl rfl (as0 rfl ?_)
          | refine doF rfl rfl rfl rfl rfl (as0 rfl ?_)
          | refine noT rfl rfl rfl rfl rfl ?_
          | refine noF rfl rfl rfl rfl rfl ?_
          | refine noU rfl rfl rfl rfl rfl rfl ?_
          | refine go_block ?_
        refine go_ret rfl ?_
        rw [hc] at h
        rw [hy] at h1
        simp only [packGo, h1, Bool.true_or, if_true] at h
        exact h
    · have := more_nil (l := [(kind, 0, 4), (cls, 4, 3), (gen, 7, 20)]) e hi hlt
      subst this
      repeat' first
        | refine go rfl ?_
        | refine ifT rfl ?_
        | refine ifF rfl ?_
        | refine doT rfl rfl rfl rfl rfl (as0 rfl ?_)
        | refine doF rfl rfl rfl rfl rfl (as0 rfl ?_)
        | refine noT rfl rfl rfl rfl rfl ?_
        | refine noF rfl rfl rfl rfl rfl ?_
        | refine noU rfl rfl rfl rfl rfl rfl ?_
        | refine go_block ?_
      refine go_by_exit ?_
      refine meetB (out : Int) ⟨rfl, trivial⟩ rfl ⟨rfl, ?_⟩
      rw [hc]
      rfl
  · rintro (out : Int) σ' ⟨rfl, hc⟩
    rw [hc] at h
    dsimp only at h
    repeat' first
      | refine go rfl ?_
      | refine ifT rfl ?_
      | refine ifF rfl ?_
      | refine doT rfl rfl rfl rfl rfl (as0 rfl ?_)
      | refine doF rfl rfl rfl rfl rfl (as0 rfl ?_)
      | refine noT rfl rfl rfl rfl rfl ?_
      | refine noF rfl rfl rfl rfl rfl ?_
      | refine noU rfl rfl rfl rfl rfl rfl ?_
      | refine go_block ?_
    refine go_cond rfl (fun h2 => ?_) (fun h2 => ?_)
    · rw [if_pos (of_decide_eq_true h2)] at h
      repeat' first
        | refine go rfl ?_
        | refine ifT rfl ?_
        | refine ifF rfl ?_
        | refine doT rfl rfl rfl rfl rfl (as0 rfl ?_)
        | refine doF rfl rfl rfl rfl rfl (as0 rfl ?_)
        | refine noT rfl rfl rfl rfl rfl ?_
        | refine noF rfl rfl rfl rfl rfl ?_
        | refine noU rfl rfl rfl rfl rfl rfl ?_
        | refine go_block ?_
      refine go_ret rfl ?_
      exact h
    · rw [if_neg (of_decide_eq_false h2)] at h
      repeat' first
        | refine go rfl ?_
        | refine ifT rfl ?_
        | refine ifF rfl ?_
        | refine doT rfl rfl rfl rfl rfl (as0 rfl ?_)
        | refine doF rfl rfl rfl rfl rfl (as0 rfl ?_)
        | refine noT rfl rfl rfl rfl rfl ?_
        | refine noF rfl rfl rfl rfl rfl ?_
        | refine noU rfl rfl rfl rfl rfl rfl ?_
        | refine go_block ?_
      refine go_ret rfl ?_
      exact h

def roomM (c : Int) : Int := if 0 < linesM c then IntKind.wrap .i64 (IntKind.wrap .i64 (8 * linesM c) - 1) else 0

theorem c66 {c : Int} {σ : Heap} {R : Value → Heap → Prop} (h : R (.int .i64 (roomM c)) σ) : ACalls Tryz.prog 66 [.int .i64 c] σ R := by
  unfold roomM at h
  refine ACalls_fn fn66 rfl ?_
  repeat' first
    | refine go rfl ?_
    | refine ifT rfl ?_
    | refine ifF rfl ?_
    | refine doT rfl rfl rfl rfl rfl (as0 rfl ?_)
    | refine doF rfl rfl rfl rfl rfl (as0 rfl ?_)
    | refine noT rfl rfl rfl rfl rfl ?_
    | refine noF rfl rfl rfl rfl rfl ?_
    | refine noU rfl rfl rfl rfl rfl rfl ?_
    | refine go_block ?_
  refine opc rfl rfl rfl rfl rfl rfl rfl rfl rfl rfl (c91 (shK_mk ⟨_, rfl⟩ ?_))
  repeat' first
    | refine go rfl ?_
    | refine ifT rfl ?_
    | refine ifF rfl ?_
    | refine doT rfl rfl rfl rfl rfl (as0 rfl ?_)
    | refine doF rfl rfl rfl rfl rfl (as0 rfl ?_)
    | refine noT rfl rfl rfl rfl rfl ?_
    | refine noF rfl rfl rfl rfl rfl ?_
    | refine noU rfl rfl rfl rfl rfl rfl ?_
    | refine go_block ?_
  refine go_cond rfl (fun h2 => ?_) (fun h2 => ?_)
  · rw [if_pos (of_decide_eq_true h2)] at h
    repeat' first
      | refine go rfl ?_
      | refine ifT rfl ?_
      | refine ifF rfl ?_
      | refine doT rfl rfl rfl rfl rfl (as0 rfl ?_)
      | refine doF rfl rfl rfl rfl rfl (as0 rfl ?_)
      | refine noT rfl rfl rfl rfl rfl ?_
      | refine noF rfl rfl rfl rfl rfl ?_
      | refine noU rfl rfl rfl rfl rfl rfl ?_
      | refine go_block ?_
    refine go_ret rfl ?_
    exact h
  · rw [if_neg (of_decide_eq_false h2)] at h
    repeat' first
      | refine go rfl ?_
      | refine ifT rfl ?_
      | refine ifF rfl ?_
      | refine doT rfl rfl rfl rfl rfl (as0 rfl ?_)
      | refine doF rfl rfl rfl rfl rfl (as0 rfl ?_)
      | refine noT rfl rfl rfl rfl rfl ?_
      | refine noF rfl rfl rfl rfl rfl ?_
      | refine noU rfl rfl rfl rfl rfl rfl ?_
      | refine go_block ?_
    refine go_ret rfl ?_
    exact h

/-- The class of blocks for some words: the first that has room. -/
def fitGo (words : Int) : Nat → Nat → Int × Int
  | 0, _ => (0, 2)
  | f + 1, c => if words ≤ roomM c then (c, 0) else fitGo words f (c + 1)

def fitM (words : Int) : Int × Int := if words < 0 then (0, 1) else fitGo words 5 0

def pairV (p : Int × Int) : Value := .tuple #[.int .i64 p.1, .int .i64 p.2]

theorem c78 {w : Int} {σ : Heap} {R : Value → Heap → Prop} (h : R (pairV (fitM w)) σ) : ACalls Tryz.prog 78 [.int .i64 w] σ R := by
  unfold fitM at h
  refine ACalls_fn fn78 rfl ?_
  repeat' first
    | refine go rfl ?_
    | refine ifT rfl ?_
    | refine ifF rfl ?_
    | refine doT rfl rfl rfl rfl rfl (as0 rfl ?_)
    | refine doF rfl rfl rfl rfl rfl (as0 rfl ?_)
    | refine noT rfl rfl rfl rfl rfl ?_
    | refine noF rfl rfl rfl rfl rfl ?_
    | refine noU rfl rfl rfl rfl rfl rfl ?_
    | refine go_block ?_
  refine go_cond rfl (fun h2 => ?_) (fun h2 => ?_)
  · rw [if_pos (of_decide_eq_true h2)] at h
    repeat' first
      | refine go rfl ?_
      | refine ifT rfl ?_
      | refine ifF rfl ?_
      | refine doT rfl rfl rfl rfl rfl (as0 rfl ?_)
      | refine doF rfl rfl rfl rfl rfl (as0 rfl ?_)
      | refine noT rfl rfl rfl rfl rfl ?_
      | refine noF rfl rfl rfl rfl rfl ?_
      | refine noU rfl rfl rfl rfl rfl rfl ?_
      | refine go_block ?_
    refine go_ret rfl ?_
    exact h
  · rw [if_neg (of_decide_eq_false h2)] at h
    repeat' first
      | refine go rfl ?_
      | refine ifT rfl ?_
      | refine ifF rfl ?_
      | refine doT rfl rfl rfl rfl rfl (as0 rfl ?_)
      | refine doF rfl rfl rfl rfl rfl (as0 rfl ?_)
      | refine noT rfl rfl rfl rfl rfl ?_
      | refine noF rfl rfl rfl rfl rfl ?_
      | refine noU rfl rfl rfl rfl rfl rfl ?_
      | refine go_block ?_
    refine go_loop [(0, .int .i64 w)] [(7, .sc (.int .i64))] (fun (i : Int) σ' => σ = σ' ∧ ∃ c f : Nat, c + f = 5 ∧ i = (c : Int) ∧ fitGo w 5 0 = fitGo w f c) (fun (i : Int) _ => (5 - i.toNat : Nat)) (0 : Int) ⟨rfl, trivial⟩ rfl ⟨rfl, 0, 5, rfl, rfl, rfl⟩ ?_
    rintro (i : Int) σ' ⟨rfl, c, f, hcf, hi, hc⟩
    repeat' first
      | refine go rfl ?_
      | refine ifT rfl ?_
      | refine ifF rfl ?_
      | refine doT rfl rfl rfl rfl rfl (as0 rfl ?_)
      | refine doF rfl rfl rfl rfl rfl (as0 rfl ?_)
      | refine noT rfl rfl rfl rfl rfl ?_
      | refine noF rfl rfl rfl rfl rfl ?_
      | refine noU rfl rfl rfl rfl rfl rfl ?_
      | refine go_block ?_
    refine go_cond rfl (fun hlt => ?_) (fun hlt => ?_)
    · have hlt' : i < 5 := of_decide_eq_true hlt
      obtain ⟨f, rfl⟩ : ∃ f', f = f' + 1 := ⟨f - 1, by omega⟩
      repeat' first
        | refine go rfl ?_
        | refine ifT rfl ?_
        | refine ifF rfl ?_
        | refine doT rfl rfl rfl rfl rfl (as0 rfl ?_)
        | refine doF rfl rfl rfl rfl rfl (as0 rfl ?_)
        | refine noT rfl rfl rfl rfl rfl ?_
        | refine noF rfl rfl rfl rfl rfl ?_
        | refine noU rfl rfl rfl rfl rfl rfl ?_
        | refine go_block ?_
      refine opc rfl rfl rfl rfl rfl rfl rfl rfl rfl rfl (c66 (shK_mk ⟨_, rfl⟩ ?_))
      repeat' first
        | refine go rfl ?_
        | refine ifT rfl ?_
        | refine ifF rfl ?_
        | refine doT rfl rfl rfl rfl rfl (as0 rfl ?_)
        | refine doF rfl rfl rfl rfl rfl (as0 rfl ?_)
        | refine noT rfl rfl rfl rfl rfl ?_
        | refine noF rfl rfl rfl rfl rfl ?_
        | refine noU rfl rfl rfl rfl rfl rfl ?_
        | refine go_block ?_
      refine go_cond rfl (fun hge => ?_) (fun hge => ?_)
      · have hge' : w ≤ roomM i := of_decide_eq_true hge
        repeat' first
          | refine go rfl ?_
          | refine ifT rfl ?_
          | refine ifF rfl ?_
          | refine doT rfl rfl rfl rfl rfl (as0 rfl ?_)
          | refine doF rfl rfl rfl rfl rfl (as0 rfl ?_)
          | refine noT rfl rfl rfl rfl rfl ?_
          | refine noF rfl rfl rfl rfl rfl ?_
          | refine noU rfl rfl rfl rfl rfl rfl ?_
          | refine go_block ?_
        refine go_by_ret ?_
        repeat' first
          | refine go rfl ?_
          | refine ifT rfl ?_
          | refine ifF rfl ?_
          | refine doT rfl rfl rfl rfl rfl (as0 rfl ?_)
          | refine doF rfl rfl rfl rfl rfl (as0 rfl ?_)
          | refine noT rfl rfl rfl rfl rfl ?_
          | refine noF rfl rfl rfl rfl rfl ?_
          | refine noU rfl rfl rfl rfl rfl rfl ?_
          | refine go_block ?_
        refine go_ret rfl ?_
        rw [hc] at h
        rw [hi] at hge' ⊢
        simp only [fitGo, if_pos hge'] at h
        exact h
      · have hge' : ¬ w ≤ roomM i := of_decide_eq_false hge
        repeat' first
          | refine go rfl ?_
          | refine ifT rfl ?_
          | refine ifF rfl ?_
          | refine doT rfl rfl rfl rfl rfl (as0 rfl ?_)
          | refine doF rfl rfl rfl rfl rfl (as0 rfl ?_)
          | refine noT rfl rfl rfl rfl rfl ?_
          | refine noF rfl rfl rfl rfl rfl ?_
          | refine noU rfl rfl rfl rfl rfl rfl ?_
          | refine go_block ?_
        have hw : IntKind.wrap .i64 (i + 1) = ((c + 1 : Nat) : Int) := by
          rw [wrap_i64 (by omega) (by omega), hi]
          simp
        refine go_meet (((c + 1 : Nat) : Int) : Int) ⟨rfl, trivial⟩ (by rw [← hw]; rfl) ⟨⟨rfl, c + 1, f, by omega, rfl, ?_⟩, ?_⟩
        · rw [hc]
          rw [hi] at hge'
          simp only [fitGo, if_neg hge']
        · show 5 - ((c + 1 : Nat) : Int).toNat < 5 - i.toNat
          omega
    · have hge : ¬ i < 5 := of_decide_eq_false hlt
      have : f = 0 := by omega
      subst this
      repeat' first
        | refine go rfl ?_
        | refine ifT rfl ?_
        | refine ifF rfl ?_
        | refine doT rfl rfl rfl rfl rfl (as0 rfl ?_)
        | refine doF rfl rfl rfl rfl rfl (as0 rfl ?_)
        | refine noT rfl rfl rfl rfl rfl ?_
        | refine noF rfl rfl rfl rfl rfl ?_
        | refine noU rfl rfl rfl rfl rfl rfl ?_
        | refine go_block ?_
      refine go_by_exit ?_
      repeat' first
        | refine go rfl ?_
        | refine ifT rfl ?_
        | refine ifF rfl ?_
        | refine doT rfl rfl rfl rfl rfl (as0 rfl ?_)
        | refine doF rfl rfl rfl rfl rfl (as0 rfl ?_)
        | refine noT rfl rfl rfl rfl rfl ?_
        | refine noF rfl rfl rfl rfl rfl ?_
        | refine noU rfl rfl rfl rfl rfl rfl ?_
        | refine go_block ?_
      refine go_ret rfl ?_
      rw [hc] at h
      exact h

/-- Is the word a proper header for a class? -/
def properM (w c : Int) : Bool :=
  if w = 0 then true else if !(formedH w) then false else if classM w ≠ c then false else if kindM w = 0 then true else decide (kindM w ≤ 6) && decide (0 < genM w)

theorem c120 {w c : Int} {σ : Heap} {R : Value → Heap → Prop} (hG : Glob σ) (h : R (.bool (properM w c)) σ) : ACalls Tryz.prog 120 [.int .i64 w, .int .i64 c] σ R := by
  unfold properM at h
  refine ACalls_fn fn120 rfl ?_
  repeat' first
    | refine go rfl ?_
    | refine ifT rfl ?_
    | refine ifF rfl ?_
    | refine doT rfl rfl rfl rfl rfl (as0 rfl ?_)
    | refine doF rfl rfl rfl rfl rfl (as0 rfl ?_)
    | refine noT rfl rfl rfl rfl rfl ?_
    | refine noF rfl rfl rfl rfl rfl ?_
    | refine noU rfl rfl rfl rfl rfl rfl ?_
    | refine go_block ?_
  refine go_cond rfl (fun h1 => ?_) (fun h1 => ?_)
  · rw [if_pos (of_decide_eq_true h1)] at h
    repeat' first
      | refine go rfl ?_
      | refine ifT rfl ?_
      | refine ifF rfl ?_
      | refine doT rfl rfl rfl rfl rfl (as0 rfl ?_)
      | refine doF rfl rfl rfl rfl rfl (as0 rfl ?_)
      | refine noT rfl rfl rfl rfl rfl ?_
      | refine noF rfl rfl rfl rfl rfl ?_
      | refine noU rfl rfl rfl rfl rfl rfl ?_
      | refine go_block ?_
    refine go_ret rfl ?_
    exact h
  · rw [if_neg (of_decide_eq_false h1)] at h
    repeat' first
      | refine go rfl ?_
      | refine ifT rfl ?_
      | refine ifF rfl ?_
      | refine doT rfl rfl rfl rfl rfl (as0 rfl ?_)
      | refine doF rfl rfl rfl rfl rfl (as0 rfl ?_)
      | refine noT rfl rfl rfl rfl rfl ?_
      | refine noF rfl rfl rfl rfl rfl ?_
      | refine noU rfl rfl rfl rfl rfl rfl ?_
      | refine go_block ?_
    refine opc rfl rfl rfl rfl rfl rfl rfl rfl rfl rfl (c145 hG (shK_mk ⟨_, rfl⟩ ?_))
    repeat' first
      | refine go rfl ?_
      | refine ifT rfl ?_
      | refine ifF rfl ?_
      | refine doT rfl rfl rfl rfl rfl (as0 rfl ?_)
      | refine doF rfl rfl rfl rfl rfl (as0 rfl ?_)
      | refine noT rfl rfl rfl rfl rfl ?_
      | refine noF rfl rfl rfl rfl rfl ?_
      | refine noU rfl rfl rfl rfl rfl rfl ?_
      | refine go_block ?_
    cases h2 : formedH w <;> rw [h2] at h
    · repeat' first
        | refine go rfl ?_
        | refine ifT rfl ?_
        | refine ifF rfl ?_
        | refine doT rfl rfl rfl rfl rfl (as0 rfl ?_)
        | refine doF rfl rfl rfl rfl rfl (as0 rfl ?_)
        | refine noT rfl rfl rfl rfl rfl ?_
        | refine noF rfl rfl rfl rfl rfl ?_
        | refine noU rfl rfl rfl rfl rfl rfl ?_
        | refine go_block ?_
      refine go_ret rfl ?_
      exact h
    · rw [if_neg (by simp)] at h
      repeat' first
        | refine go rfl ?_
        | refine ifT rfl ?_
        | refine ifF rfl ?_
        | refine doT rfl rfl rfl rfl rfl (as0 rfl ?_)
        | refine doF rfl rfl rfl rfl rfl (as0 rfl ?_)
        | refine noT rfl rfl rfl rfl rfl ?_
        | refine noF rfl rfl rfl rfl rfl ?_
        | refine noU rfl rfl rfl rfl rfl rfl ?_
        | refine go_block ?_
      refine opc rfl rfl rfl rfl rfl rfl rfl rfl rfl rfl (c146 hG (shK_mk ⟨_, rfl⟩ ?_))
      repeat' first
        | refine go rfl ?_
        | refine ifT rfl ?_
        | refine ifF rfl ?_
        | refine doT rfl rfl rfl rfl rfl (as0 rfl ?_)
        | refine doF rfl rfl rfl rfl rfl (as0 rfl ?_)
        | refine noT rfl rfl rfl rfl rfl ?_
        | refine noF rfl rfl rfl rfl rfl ?_
        | refine noU rfl rfl rfl rfl rfl rfl ?_
        | refine go_block ?_
      refine go_cond rfl (fun h3 => ?_) (fun h3 => ?_)
      · rw [if_pos (by simpa using h3)] at h
        repeat' first
          | refine go rfl ?_
          | refine ifT rfl ?_
          | refine ifF rfl ?_
          | refine doT rfl rfl rfl rfl rfl (as0 rfl ?_)
          | refine doF rfl rfl rfl rfl rfl (as0 rfl ?_)
          | refine noT rfl rfl rfl rfl rfl ?_
          | refine noF rfl rfl rfl rfl rfl ?_
          | refine noU rfl rfl rfl rfl rfl rfl ?_
          | refine go_block ?_
        refine go_ret rfl ?_
        exact h
      · rw [if_neg (by simpa using h3)] at h
        repeat' first
          | refine go rfl ?_
          | refine ifT rfl ?_
          | refine ifF rfl ?_
          | refine doT rfl rfl rfl rfl rfl (as0 rfl ?_)
          | refine doF rfl rfl rfl rfl rfl (as0 rfl ?_)
          | refine noT rfl rfl rfl rfl rfl ?_
          | refine noF rfl rfl rfl rfl rfl ?_
          | refine noU rfl rfl rfl rfl rfl rfl ?_
          | refine go_block ?_
        refine opc rfl rfl rfl rfl rfl rfl rfl rfl rfl rfl (c121 hG (shK_mk ⟨_, rfl⟩ ?_))
        repeat' first
          | refine go rfl ?_
          | refine ifT rfl ?_
          | refine ifF rfl ?_
          | refine doT rfl rfl rfl rfl rfl (as0 rfl ?_)
          | refine doF rfl rfl rfl rfl rfl (as0 rfl ?_)
          | refine noT rfl rfl rfl rfl rfl ?_
          | refine noF rfl rfl rfl rfl rfl ?_
          | refine noU rfl rfl rfl rfl rfl rfl ?_
          | refine go_block ?_
        refine go_cond rfl (fun h4 => ?_) (fun h4 => ?_)
        · rw [if_pos (of_decide_eq_true h4)] at h
          repeat' first
            | refine go rfl ?_
            | refine ifT rfl ?_
            | refine ifF rfl ?_
            | refine doT rfl rfl rfl rfl rfl (as0 rfl ?_)
            | refine doF rfl rfl rfl rfl rfl (as0 rfl ?_)
            | refine noT rfl rfl rfl rfl rfl ?_
            | refine noF rfl rfl rfl rfl rfl ?_
            | refine noU rfl rfl rfl rfl rfl rfl ?_
            | refine go_block ?_
          refine go_ret rfl ?_
          exact h
        · rw [if_neg (of_decide_eq_false h4)] at h
          repeat' first
            | refine go rfl ?_
            | refine ifT rfl ?_
            | refine ifF rfl ?_
            | refine doT rfl rfl rfl rfl rfl (as0 rfl ?_)
            | refine doF rfl rfl rfl rfl rfl (as0 rfl ?_)
            | refine noT rfl rfl rfl rfl rfl ?_
            | refine noF rfl rfl rfl rfl rfl ?_
            | refine noU rfl rfl rfl rfl rfl rfl ?_
            | refine go_block ?_
          refine opc rfl rfl rfl rfl rfl rfl rfl rfl rfl rfl (c121 hG (shK_mk ⟨_, rfl⟩ ?_))
          repeat' first
            | refine go rfl ?_
            | refine ifT rfl ?_
            | refine ifF rfl ?_
            | refine doT rfl rfl rfl rfl rfl (as0 rfl ?_)
            | refine doF rfl rfl rfl rfl rfl (as0 rfl ?_)
            | refine noT rfl rfl rfl rfl rfl ?_
            | refine noF rfl rfl rfl rfl rfl ?_
            | refine noU rfl rfl rfl rfl rfl rfl ?_
            | refine go_block ?_
          cases h5 : decide (kindM w ≤ 6) <;> rw [h5] at h
          · repeat' first
              | refine go rfl ?_
              | refine ifT rfl ?_
              | refine ifF rfl ?_
              | refine doT rfl rfl rfl rfl rfl (as0 rfl ?_)
              | refine doF rfl rfl rfl rfl rfl (as0 rfl ?_)
              | refine noT rfl rfl rfl rfl rfl ?_
              | refine noF rfl rfl rfl rfl rfl ?_
              | refine noU rfl rfl rfl rfl rfl rfl ?_
              | refine go_block ?_
            refine go_ret rfl ?_
            exact h
          · repeat' first
              | refine go rfl ?_
              | refine ifT rfl ?_
              | refine ifF rfl ?_
              | refine doT rfl rfl rfl rfl rfl (as0 rfl ?_)
              | refine doF rfl rfl rfl rfl rfl (as0 rfl ?_)
              | refine noT rfl rfl rfl rfl rfl ?_
              | refine noF rfl rfl rfl rfl rfl ?_
              | refine noU rfl rfl rfl rfl rfl rfl ?_
              | refine go_block ?_
            refine doT rfl rfl rfl rfl rfl ?_
            refine as_call rfl rfl rfl rfl rfl rfl ?_
            refine c122 hG (shK_mk ⟨_, rfl⟩ ?_)
            repeat' first
              | refine go rfl ?_
              | refine ifT rfl ?_
              | refine ifF rfl ?_
              | refine doT rfl rfl rfl rfl rfl (as0 rfl ?_)
              | refine doF rfl rfl rfl rfl rfl (as0 rfl ?_)
              | refine noT rfl rfl rfl rfl rfl ?_
              | refine noF rfl rfl rfl rfl rfl ?_
              | refine noU rfl rfl rfl rfl rfl rfl ?_
              | refine go_block ?_
            refine go_ret rfl ?_
            exact h

end Go.Eng
