/- Contracts: counting bits; the code of a line. Conditions: in each. -/
import Derived.Test.YtihpnhkhgobblaaGreatDoorCd
namespace Go.Eng
open Go Go.Proofs

set_option maxRecDepth 10000

def len8 : ByteArray := { data := (([0, 1, 2, 2, 3, 3, 3, 3, 4, 4, 4, 4, 4, 4, 4, 4, 5, 5, 5, 5, 5, 5, 5, 5, 5, 5, 5, 5, 5, 5, 5, 5, 6, 6, 6, 6, 6, 6, 6, 6, 6, 6, 6, 6, 6, 6, 6, 6, 6, 6, 6, 6, 6, 6, 6, 6, 6, 6, 6, 6, 6, 6, 6, 6].append [7, 7, 7, 7, 7, 7, 7, 7, 7, 7, 7, 7, 7, 7, 7, 7, 7, 7, 7, 7, 7, 7, 7, 7, 7, 7, 7, 7, 7, 7, 7, 7, 7, 7, 7, 7, 7, 7, 7, 7, 7, 7, 7, 7, 7, 7, 7, 7, 7, 7, 7, 7, 7, 7, 7, 7, 7, 7, 7, 7, 7, 7, 7, 7]).append ([8, 8, 8, 8, 8, 8, 8, 8, 8, 8, 8, 8, 8, 8, 8, 8, 8, 8, 8, 8, 8, 8, 8, 8, 8, 8, 8, 8, 8, 8, 8, 8, 8, 8, 8, 8, 8, 8, 8, 8, 8, 8, 8, 8, 8, 8, 8, 8, 8, 8, 8, 8, 8, 8, 8, 8, 8, 8, 8, 8, 8, 8, 8, 8].append [8, 8, 8, 8, 8, 8, 8, 8, 8, 8, 8, 8, 8, 8, 8, 8, 8, 8, 8, 8, 8, 8, 8, 8, 8, 8, 8, 8, 8, 8, 8, 8, 8, 8, 8, 8, 8, 8, 8, 8, 8, 8, 8, 8, 8, 8, 8, 8, 8, 8, 8, 8, 8, 8, 8, 8, 8, 8, 8, 8, 8, 8, 8, 8])).toArray }

theorem len8_size : len8.size = 256 := by decide +kernel

theorem wrap_u8 (x : Int) : 0 ≤ IntKind.wrap .u8 x ∧ IntKind.wrap .u8 x < 256 := by
  simp only [IntKind.wrap, IntKind.bits, IntKind.signed]
  simp
  omega

theorem wrap_u64_range (x : Int) : 0 ≤ IntKind.wrap .u64 x ∧ IntKind.wrap .u64 x < 18446744073709551616 := by
  simp only [IntKind.wrap, IntKind.bits, IntKind.signed]
  simp
  omega

def len8M (x : Int) : Int := IntKind.wrap .i64 ((len8.data.toList.getD (IntKind.wrap .u8 x).toNat 0).toNat : Int)

/-- The number of bits of a number. -/
def lenM (x : Int) : Int :=
  let p1 : Int × Int := if 4294967296 ≤ x then (shrI .u64 x 32, 32) else (x, 0)
  let p2 : Int × Int := if 65536 ≤ p1.1 then (shrI .u64 p1.1 16, IntKind.wrap .i64 (p1.2 + 16)) else p1
  let p3 : Int × Int := if 256 ≤ p2.1 then (shrI .u64 p2.1 8, IntKind.wrap .i64 (p2.2 + 8)) else p2
  IntKind.wrap .i64 (p3.2 + len8M p3.1)

theorem c165 {x : Int} {σ : Heap} {R : Value → Heap → Prop} (h : R (.int .i64 (lenM x)) σ) : ACalls Tryz.prog 165 [.int .u64 x] σ R := by
  have last : ∀ {e : Env} {y n : Int}, e.get 0 = some (.int .u64 y) → e.get 2 = some (.int .i64 n) → R (.int .i64 (IntKind.wrap .i64 (n + len8M y))) σ → True := fun _ _ _ => trivial
  clear last
  have size : ∀ y, IntKind.wrap .u8 y < (len8.size : Int) := fun y => by rw [len8_size]; exact (wrap_u8 y).2
  unfold lenM at h
  dsimp only at h
  refine ACalls_fn fn165 rfl ?_
  repeat' first
    | refine go rfl ?_
    | refine ifT rfl ?_
    | refine ifF rfl ?_
    | refine doT rfl rfl rfl rfl rfl (as0 rfl ?_)
    | refine doF rfl rfl rfl rfl rfl (as0 rfl ?_)
    | refine noT rfl rfl rfl rfl rfl ?_
    | refine noF rfl rfl rfl rfl rfl ?_
    | refine noU rfl rfl rfl rfl rfl rfl ?_
    | refine go_block ?_
  refine go_cond rfl (fun h1 => ?_) (fun h1 => ?_)
  · rw [if_pos (of_decide_eq_true h1)] at h
    dsimp only at h
    repeat' first
      | refine go rfl ?_
      | refine ifT rfl ?_
      | refine ifF rfl ?_
      | refine doT rfl rfl rfl rfl rfl (as0 rfl ?_)
      | refine doF rfl rfl rfl rfl rfl (as0 rfl ?_)
      | refine noT rfl rfl rfl rfl rfl ?_
      | refine noF rfl rfl rfl rfl rfl ?_
      | refine noU rfl rfl rfl rfl rfl rfl ?_
      | refine go_block ?_
    refine op rfl rfl rfl rfl (as1 rfl (by decide) ?_)
    repeat' first
      | refine go rfl ?_
      | refine ifT rfl ?_
      | refine ifF rfl ?_
      | refine doT rfl rfl rfl rfl rfl (as0 rfl ?_)
      | refine doF rfl rfl rfl rfl rfl (as0 rfl ?_)
      | refine noT rfl rfl rfl rfl rfl ?_
      | refine noF rfl rfl rfl rfl rfl ?_
      | refine noU rfl rfl rfl rfl rfl rfl ?_
      | refine go_block ?_
    refine go_cond rfl (fun h2 => ?_) (fun h2 => ?_)
    · rw [if_pos (of_decide_eq_true h2)] at h
      dsimp only at h
      repeat' first
        | refine go rfl ?_
        | refine ifT rfl ?_
        | refine ifF rfl ?_
        | refine doT rfl rfl rfl rfl rfl (as0 rfl ?_)
        | refine doF rfl rfl rfl rfl rfl (as0 rfl ?_)
        | refine noT rfl rfl rfl rfl rfl ?_
        | refine noF rfl rfl rfl rfl rfl ?_
        | refine noU rfl rfl rfl rfl rfl rfl ?_
        | refine go_block ?_
      refine op rfl rfl rfl rfl (as1 rfl (by decide) ?_)
      repeat' first
        | refine go rfl ?_
        | refine ifT rfl ?_
        | refine ifF rfl ?_
        | refine doT rfl rfl rfl rfl rfl (as0 rfl ?_)
        | refine doF rfl rfl rfl rfl rfl (as0 rfl ?_)
        | refine noT rfl rfl rfl rfl rfl ?_
        | refine noF rfl rfl rfl rfl rfl ?_
        | refine noU rfl rfl rfl rfl rfl rfl ?_
        | refine go_block ?_
      refine go_cond rfl (fun h3 => ?_) (fun h3 => ?_)
      · rw [if_pos (of_decide_eq_true h3)] at h
        repeat' first
          | refine go rfl ?_
          | refine ifT rfl ?_
          | refine ifF rfl ?_
          | refine doT rfl rfl rfl rfl rfl (as0 rfl ?_)
          | refine doF rfl rfl rfl rfl rfl (as0 rfl ?_)
          | refine noT rfl rfl rfl rfl rfl ?_
          | refine noF rfl rfl rfl rfl rfl ?_
          | refine noU rfl rfl rfl rfl rfl rfl ?_
          | refine go_block ?_
        refine op rfl rfl rfl rfl (as1 rfl (by decide) ?_)
        repeat' first
          | refine go rfl ?_
          | refine ifT rfl ?_
          | refine ifF rfl ?_
          | refine doT rfl rfl rfl rfl rfl (as0 rfl ?_)
          | refine doF rfl rfl rfl rfl rfl (as0 rfl ?_)
          | refine noT rfl rfl rfl rfl rfl ?_
          | refine noF rfl rfl rfl rfl rfl ?_
          | refine noU rfl rfl rfl rfl rfl rfl ?_
          | refine go_block ?_
        refine op rfl rfl rfl rfl (as2 rfl (wrap_u8 _).1 (size _) ?_)
        repeat' first
          | refine go rfl ?_
          | refine ifT rfl ?_
          | refine ifF rfl ?_
          | refine doT rfl rfl rfl rfl rfl (as0 rfl ?_)
          | refine doF rfl rfl rfl rfl rfl (as0 rfl ?_)
          | refine noT rfl rfl rfl rfl rfl ?_
          | refine noF rfl rfl rfl rfl rfl ?_
          | refine noU rfl rfl rfl rfl rfl rfl ?_
          | refine go_block ?_
        refine go_ret rfl ?_
        exact h
      · rw [if_neg (of_decide_eq_false h3)] at h
        repeat' first
          | refine go rfl ?_
          | refine ifT rfl ?_
          | refine ifF rfl ?_
          | refine doT rfl rfl rfl rfl rfl (as0 rfl ?_)
          | refine doF rfl rfl rfl rfl rfl (as0 rfl ?_)
          | refine noT rfl rfl rfl rfl rfl ?_
          | refine noF rfl rfl rfl rfl rfl ?_
          | refine noU rfl rfl rfl rfl rfl rfl ?_
          | refine go_block ?_
        refine op rfl rfl rfl rfl (as2 rfl (wrap_u8 _).1 (size _) ?_)
        repeat' first
          | refine go rfl ?_
          | refine ifT rfl ?_
          | refine ifF rfl ?_
          | refine doT rfl rfl rfl rfl rfl (as0 rfl ?_)
          | refine doF rfl rfl rfl rfl rfl (as0 rfl ?_)
          | refine noT rfl rfl rfl rfl rfl ?_
          | refine noF rfl rfl rfl rfl rfl ?_
          | refine noU rfl rfl rfl rfl rfl rfl ?_
          | refine go_block ?_
        refine go_ret rfl ?_
        exact h
    · rw [if_neg (of_decide_eq_false h2)] at h
      dsimp only at h
      repeat' first
        | refine go rfl ?_
        | refine ifT rfl ?_
        | refine ifF rfl ?_
        | refine doT rfl rfl rfl rfl rfl (as0 rfl ?_)
        | refine doF rfl rfl rfl rfl rfl (as0 rfl ?_)
        | refine noT rfl rfl rfl rfl rfl ?_
        | refine noF rfl rfl rfl rfl rfl ?_
        | refine noU rfl rfl rfl rfl rfl rfl ?_
        | refine go_block ?_
      refine go_cond rfl (fun h3 => ?_) (fun h3 => ?_)
      · rw [if_pos (of_decide_eq_true h3)] at h
        repeat' first
          | refine go rfl ?_
          | refine ifT rfl ?_
          | refine ifF rfl ?_
          | refine doT rfl rfl rfl rfl rfl (as0 rfl ?_)
          | refine doF rfl rfl rfl rfl rfl (as0 rfl ?_)
          | refine noT rfl rfl rfl rfl rfl ?_
          | refine noF rfl rfl rfl rfl rfl ?_
          | refine noU rfl rfl rfl rfl rfl rfl ?_
          | refine go_block ?_
        refine op rfl rfl rfl rfl (as1 rfl (by decide) ?_)
        repeat' first
          | refine go rfl ?_
          | refine ifT rfl ?_
          | refine ifF rfl ?_
          | refine doT rfl rfl rfl rfl rfl (as0 rfl ?_)
          | refine doF rfl rfl rfl rfl rfl (as0 rfl ?_)
          | refine noT rfl rfl rfl rfl rfl ?_
          | refine noF rfl rfl rfl rfl rfl ?_
          | refine noU rfl rfl rfl rfl rfl rfl ?_
          | refine go_block ?_
        refine op rfl rfl rfl rfl (as2 rfl (wrap_u8 _).1 (size _) ?_)
        repeat' first
          | refine go rfl ?_
          | refine ifT rfl ?_
          | refine ifF rfl ?_
          | refine doT rfl rfl rfl rfl rfl (as0 rfl ?_)
          | refine doF rfl rfl rfl rfl rfl (as0 rfl ?_)
          | refine noT rfl rfl rfl rfl rfl ?_
          | refine noF rfl rfl rfl rfl rfl ?_
          | refine noU rfl rfl rfl rfl rfl rfl ?_
          | refine go_block ?_
        refine go_ret rfl ?_
        exact h
      · rw [if_neg (of_decide_eq_false h3)] at h
        repeat' first
          | refine go rfl ?_
          | refine ifT rfl ?_
          | refine ifF rfl ?_
          | refine doT rfl rfl rfl rfl rfl (as0 rfl ?_)
          | refine doF rfl rfl rfl rfl rfl (as0 rfl ?_)
          | refine noT rfl rfl rfl rfl rfl ?_
          | refine noF rfl rfl rfl rfl rfl ?_
          | refine noU rfl rfl rfl rfl rfl rfl ?_
          | refine go_block ?_
        refine op rfl rfl rfl rfl (as2 rfl (wrap_u8 _).1 (size _) ?_)
        repeat' first
          | refine go rfl ?_
          | refine ifT rfl ?_
          | refine ifF rfl ?_
          | refine doT rfl rfl rfl rfl rfl (as0 rfl ?_)
          | refine doF rfl rfl rfl rfl rfl (as0 rfl ?_)
          | refine noT rfl rfl rfl rfl rfl ?_
          | refine noF rfl rfl rfl rfl rfl ?_
          | refine noU rfl rfl rfl rfl rfl rfl ?_
          | refine go_block ?_
        refine go_ret rfl ?_
        exact h
  · rw [if_neg (of_decide_eq_false h1)] at h
    dsimp only at h
    repeat' first
      | refine go rfl ?_
      | refine ifT rfl ?_
      | refine ifF rfl ?_
      | refine doT rfl rfl rfl rfl rfl (as0 rfl ?_)
      | refine doF rfl rfl rfl rfl rfl (as0 rfl ?_)
      | refine noT rfl rfl rfl rfl rfl ?_
      | refine noF rfl rfl rfl rfl rfl ?_
      | refine noU rfl rfl rfl rfl rfl rfl ?_
      | refine go_block ?_
    refine go_cond rfl (fun h2 => ?_) (fun h2 => ?_)
    · rw [if_pos (of_decide_eq_true h2)] at h
      dsimp only at h
      repeat' first
        | refine go rfl ?_
        | refine ifT rfl ?_
        | refine ifF rfl ?_
        | refine doT rfl rfl rfl rfl rfl (as0 rfl ?_)
        | refine doF rfl rfl rfl rfl rfl (as0 rfl ?_)
        | refine noT rfl rfl rfl rfl rfl ?_
        | refine noF rfl rfl rfl rfl rfl ?_
        | refine noU rfl rfl rfl rfl rfl rfl ?_
        | refine go_block ?_
      refine op rfl rfl rfl rfl (as1 rfl (by decide) ?_)
      repeat' first
        | refine go rfl ?_
        | refine ifT rfl ?_
        | refine ifF rfl ?_
        | refine doT rfl rfl rfl rfl rfl (as0 rfl ?_)
        | refine doF rfl rfl rfl rfl rfl (as0 rfl ?_)
        | refine noT rfl rfl rfl rfl rfl ?_
        | refine noF rfl rfl rfl rfl rfl ?_
        | refine noU rfl rfl rfl rfl rfl rfl ?_
        | refine go_block ?_
      refine go_cond rfl (fun h3 => ?_) (fun h3 => ?_)
      · rw [if_pos (of_decide_eq_true h3)] at h
        repeat' first
          | refine go rfl ?_
          | refine ifT rfl ?_
          | refine ifF rfl ?_
          | refine doT rfl rfl rfl rfl rfl (as0 rfl ?_)
          | refine doF rfl rfl rfl rfl rfl (as0 rfl ?_)
          | refine noT rfl rfl rfl rfl rfl ?_
          | refine noF rfl rfl rfl rfl rfl ?_
          | refine noU rfl rfl rfl rfl rfl rfl ?_
          | refine go_block ?_
        refine op rfl rfl rfl rfl (as1 rfl (by decide) ?_)
        repeat' first
          | refine go rfl ?_
          | refine ifT rfl ?_
          | refine ifF rfl ?_
          | refine doT rfl rfl rfl rfl rfl (as0 rfl ?_)
          | refine doF rfl rfl rfl rfl rfl (as0 rfl ?_)
          | refine noT rfl rfl rfl rfl rfl ?_
          | refine noF rfl rfl rfl rfl rfl ?_
          | refine noU rfl rfl rfl rfl rfl rfl ?_
          | refine go_block ?_
        refine op rfl rfl rfl rfl (as2 rfl (wrap_u8 _).1 (size _) ?_)
        repeat' first
          | refine go rfl ?_
          | refine ifT rfl ?_
          | refine ifF rfl ?_
          | refine doT rfl rfl rfl rfl rfl (as0 rfl ?_)
          | refine doF rfl rfl rfl rfl rfl (as0 rfl ?_)
          | refine noT rfl rfl rfl rfl rfl ?_
          | refine noF rfl rfl rfl rfl rfl ?_
          | refine noU rfl rfl rfl rfl rfl rfl ?_
          | refine go_block ?_
        refine go_ret rfl ?_
        exact h
      · rw [if_neg (of_decide_eq_false h3)] at h
        repeat' first
          | refine go rfl ?_
          | refine ifT rfl ?_
          | refine ifF rfl ?_
          | refine doT rfl rfl rfl rfl rfl (as0 rfl ?_)
          | refine doF rfl rfl rfl rfl rfl (as0 rfl ?_)
          | refine noT rfl rfl rfl rfl rfl ?_
          | refine noF rfl rfl rfl rfl rfl ?_
          | refine noU rfl rfl rfl rfl rfl rfl ?_
          | refine go_block ?_
        refine op rfl rfl rfl rfl (as2 rfl (wrap_u8 _).1 (size _) ?_)
        repeat' first
          | refine go rfl ?_
          | refine ifT rfl ?_
          | refine ifF rfl ?_
          | refine doT rfl rfl rfl rfl rfl (as0 rfl ?_)
          | refine doF rfl rfl rfl rfl rfl (as0 rfl ?_)
          | refine noT rfl rfl rfl rfl rfl ?_
          | refine noF rfl rfl rfl rfl rfl ?_
          | refine noU rfl rfl rfl rfl rfl rfl ?_
          | refine go_block ?_
        refine go_ret rfl ?_
        exact h
    · rw [if_neg (of_decide_eq_false h2)] at h
      dsimp only at h
      repeat' first
        | refine go rfl ?_
        | refine ifT rfl ?_
        | refine ifF rfl ?_
        | refine doT rfl rfl rfl rfl rfl (as0 rfl ?_)
        | refine doF rfl rfl rfl rfl rfl (as0 rfl ?_)
        | refine noT rfl rfl rfl rfl rfl ?_
        | refine noF rfl rfl rfl rfl rfl ?_
        | refine noU rfl rfl rfl rfl rfl rfl ?_
        | refine go_block ?_
      refine go_cond rfl (fun h3 => ?_) (fun h3 => ?_)
      · rw [if_pos (of_decide_eq_true h3)] at h
        repeat' first
          | refine go rfl ?_
          | refine ifT rfl ?_
          | refine ifF rfl ?_
          | refine doT rfl rfl rfl rfl rfl (as0 rfl ?_)
          | refine doF rfl rfl rfl rfl rfl (as0 rfl ?_)
          | refine noT rfl rfl rfl rfl rfl ?_
          | refine noF rfl rfl rfl rfl rfl ?_
          | refine noU rfl rfl rfl rfl rfl rfl ?_
          | refine go_block ?_
        refine op rfl rfl rfl rfl (as1 rfl (by decide) ?_)
        repeat' first
          | refine go rfl ?_
          | refine ifT rfl ?_
          | refine ifF rfl ?_
          | refine doT rfl rfl rfl rfl rfl (as0 rfl ?_)
          | refine doF rfl rfl rfl rfl rfl (as0 rfl ?_)
          | refine noT rfl rfl rfl rfl rfl ?_
          | refine noF rfl rfl rfl rfl rfl ?_
          | refine noU rfl rfl rfl rfl rfl rfl ?_
          | refine go_block ?_
        refine op rfl rfl rfl rfl (as2 rfl (wrap_u8 _).1 (size _) ?_)
        repeat' first
          | refine go rfl ?_
          | refine ifT rfl ?_
          | refine ifF rfl ?_
          | refine doT rfl rfl rfl rfl rfl (as0 rfl ?_)
          | refine doF rfl rfl rfl rfl rfl (as0 rfl ?_)
          | refine noT rfl rfl rfl rfl rfl ?_
          | refine noF rfl rfl rfl rfl rfl ?_
          | refine noU rfl rfl rfl rfl rfl rfl ?_
          | refine go_block ?_
        refine go_ret rfl ?_
        exact h
      · rw [if_neg (of_decide_eq_false h3)] at h
        repeat' first
          | refine go rfl ?_
          | refine ifT rfl ?_
          | refine ifF rfl ?_
          | refine doT rfl rfl rfl rfl rfl (as0 rfl ?_)
          | refine doF rfl rfl rfl rfl rfl (as0 rfl ?_)
          | refine noT rfl rfl rfl rfl rfl ?_
          | refine noF rfl rfl rfl rfl rfl ?_
          | refine noU rfl rfl rfl rfl rfl rfl ?_
          | refine go_block ?_
        refine op rfl rfl rfl rfl (as2 rfl (wrap_u8 _).1 (size _) ?_)
        repeat' first
          | refine go rfl ?_
          | refine ifT rfl ?_
          | refine ifF rfl ?_
          | refine doT rfl rfl rfl rfl rfl (as0 rfl ?_)
          | refine doF rfl rfl rfl rfl rfl (as0 rfl ?_)
          | refine noT rfl rfl rfl rfl rfl ?_
          | refine noF rfl rfl rfl rfl rfl ?_
          | refine noU rfl rfl rfl rfl rfl rfl ?_
          | refine go_block ?_
        refine go_ret rfl ?_
        exact h

theorem c149 {x : Int} {σ : Heap} {R : Value → Heap → Prop} (h : R (.int .i64 (lenM x)) σ) : ACalls Tryz.prog 149 [.int .u64 x] σ R := by
  refine ACalls_fn fn149 rfl ?_
  repeat' first
    | refine go rfl ?_
    | refine ifT rfl ?_
    | refine ifF rfl ?_
    | refine doT rfl rfl rfl rfl rfl (as0 rfl ?_)
    | refine doF rfl rfl rfl rfl rfl (as0 rfl ?_)
    | refine noT rfl rfl rfl rfl rfl ?_
    | refine noF rfl rfl rfl rfl rfl ?_
    | refine noU rfl rfl rfl rfl rfl rfl ?_
    | refine go_block ?_
  refine opc rfl rfl rfl rfl rfl rfl rfl rfl rfl rfl (c165 (shK_mk ⟨_, rfl⟩ ?_))
  repeat' first
    | refine go rfl ?_
    | refine ifT rfl ?_
    | refine ifF rfl ?_
    | refine doT rfl rfl rfl rfl rfl (as0 rfl ?_)
    | refine doF rfl rfl rfl rfl rfl (as0 rfl ?_)
    | refine noT rfl rfl rfl rfl rfl ?_
    | refine noF rfl rfl rfl rfl rfl ?_
    | refine noU rfl rfl rfl rfl rfl rfl ?_
    | refine go_block ?_
  refine go_ret rfl ?_
  exact h

/-- The number of zeros at a number's end. -/
def tzM (x : Int) : Int := if x = 0 then 64 else
  IntKind.wrap .i64 (db64.getD (shrI .u64 (IntKind.wrap .u64 (andI .u64 x (IntKind.wrap .u64 (0 - x)) * 285870213051353865)) 58).toNat 0)

theorem shr58 (x : Int) : 0 ≤ shrI .u64 (IntKind.wrap .u64 x) 58 ∧ shrI .u64 (IntKind.wrap .u64 x) 58 < 64 := by
  obtain ⟨h0, h1⟩ := wrap_u64_range x
  unfold shrI
  have e : (2 : Int) ^ (min (58 : Int).toNat IntKind.u64.bits) = 288230376151711744 := by decide
  rw [e, Int.fdiv_eq_ediv_of_nonneg _ (by decide)]
  omega

theorem db_ld {σ : Heap} (hG : Glob σ) {x : Int} (h0 : 0 ≤ x) (h1 : x < 64) : σ.ldT ti5 (padd (some ⟨4, 0, none⟩) (x.toNat * ti5.size)) = some (.int .u8 (db64.getD x.toNat 0)) := by
  rw [padd_some]
  refine ldT_one rfl ?_
  have hlt : x.toNat < 64 := by omega
  have hg : (u8s db64)[x.toNat]? = some (.int .u8 (db64.getD x.toNat 0)) := by
    unfold u8s
    rw [List.getElem?_map, List.getD_eq_getElem?_getD]
    have : x.toNat < db64.length := hlt
    simp [List.getElem?_eq_getElem this]
  have := (rds_get hG.d64).2 hg
  have e : x.toNat * ti5.size = x.toNat := by simp [ti5]
  rw [e]
  exact this

theorem c151 {x : Int} {σ : Heap} {R : Value → Heap → Prop} (hG : Glob σ) (h : R (.int .i64 (tzM x)) σ) : ACalls Tryz.prog 151 [.int .u64 x] σ R := by
  unfold tzM at h
  refine ACalls_fn fn151 rfl ?_
  repeat' first
    | refine go rfl ?_
    | refine ifT rfl ?_
    | refine ifF rfl ?_
    | refine doT rfl rfl rfl rfl rfl (as0 rfl ?_)
    | refine doF rfl rfl rfl rfl rfl (as0 rfl ?_)
    | refine noT rfl rfl rfl rfl rfl ?_
    | refine noF rfl rfl rfl rfl rfl ?_
    | refine noU rfl rfl rfl rfl rfl rfl ?_
    | refine go_block ?_
  refine go_cond rfl (fun h1 => ?_) (fun h1 => ?_)
  · rw [if_pos (of_decide_eq_true h1)] at h
    repeat' first
      | refine go rfl ?_
      | refine ifT rfl ?_
      | refine ifF rfl ?_
      | refine doT rfl rfl rfl rfl rfl (as0 rfl ?_)
      | refine doF rfl rfl rfl rfl rfl (as0 rfl ?_)
      | refine noT rfl rfl rfl rfl rfl ?_
      | refine noF rfl rfl rfl rfl rfl ?_
      | refine noU rfl rfl rfl rfl rfl rfl ?_
      | refine go_block ?_
    refine go_ret rfl ?_
    exact h
  · rw [if_neg (of_decide_eq_false h1)] at h
    obtain ⟨h2, h3⟩ := shr58 (andI .u64 x (IntKind.wrap .u64 (0 - x)) * 285870213051353865)
    repeat' first
      | refine go rfl ?_
      | refine ifT rfl ?_
      | refine ifF rfl ?_
      | refine doT rfl rfl rfl rfl rfl (as0 rfl ?_)
      | refine doF rfl rfl rfl rfl rfl (as0 rfl ?_)
      | refine noT rfl rfl rfl rfl rfl ?_
      | refine noF rfl rfl rfl rfl rfl ?_
      | refine noU rfl rfl rfl rfl rfl rfl ?_
      | refine go_block ?_
    refine op rfl rfl rfl rfl (as1 rfl (by decide) ?_)
    refine op rfl rfl rfl rfl (as3 rfl h2 h3 rfl ?_)
    refine opl (i := ti5) rfl rfl rfl rfl rfl rfl rfl rfl (db_ld hG h2 h3) ⟨(_ : Int), rfl⟩ ?_
    repeat' first
      | refine go rfl ?_
      | refine ifT rfl ?_
      | refine ifF rfl ?_
      | refine doT rfl rfl rfl rfl rfl (as0 rfl ?_)
      | refine doF rfl rfl rfl rfl rfl (as0 rfl ?_)
      | refine noT rfl rfl rfl rfl rfl ?_
      | refine noF rfl rfl rfl rfl rfl ?_
      | refine noU rfl rfl rfl rfl rfl rfl ?_
      | refine go_block ?_
    refine go_ret rfl ?_
    exact h

theorem c127 {x : Int} {σ : Heap} {R : Value → Heap → Prop} (hG : Glob σ) (h : R (.int .i64 (tzM x)) σ) : ACalls Tryz.prog 127 [.int .u64 x] σ R := by
  refine ACalls_fn fn127 rfl ?_
  repeat' first
    | refine go rfl ?_
    | refine ifT rfl ?_
    | refine ifF rfl ?_
    | refine doT rfl rfl rfl rfl rfl (as0 rfl ?_)
    | refine doF rfl rfl rfl rfl rfl (as0 rfl ?_)
    | refine noT rfl rfl rfl rfl rfl ?_
    | refine noF rfl rfl rfl rfl rfl ?_
    | refine noU rfl rfl rfl rfl rfl rfl ?_
    | refine go_block ?_
  refine opc rfl rfl rfl rfl rfl rfl rfl rfl rfl rfl (c151 hG (shK_mk ⟨_, rfl⟩ ?_))
  repeat' first
    | refine go rfl ?_
    | refine ifT rfl ?_
    | refine ifF rfl ?_
    | refine doT rfl rfl rfl rfl rfl (as0 rfl ?_)
    | refine doF rfl rfl rfl rfl rfl (as0 rfl ?_)
    | refine noT rfl rfl rfl rfl rfl ?_
    | refine noF rfl rfl rfl rfl rfl ?_
    | refine noU rfl rfl rfl rfl rfl rfl ?_
    | refine go_block ?_
  refine go_ret rfl ?_
  exact h

/-- The number of bits that are 1. -/
def popM (x : Int) : Int :=
  let a := IntKind.wrap .u64 (andI .u64 (shrI .u64 x 1) 6148914691236517205 + andI .u64 x 6148914691236517205)
  let b := IntKind.wrap .u64 (andI .u64 (shrI .u64 a 2) 3689348814741910323 + andI .u64 a 3689348814741910323)
  let c := andI .u64 (IntKind.wrap .u64 (shrI .u64 b 4 + b)) 1085102592571150095
  let d := IntKind.wrap .u64 (c + shrI .u64 c 8)
  let e := IntKind.wrap .u64 (d + shrI .u64 d 16)
  let f := IntKind.wrap .u64 (e + shrI .u64 e 32)
  andI .i64 (IntKind.wrap .i64 f) 127

theorem c129 {x : Int} {σ : Heap} {R : Value → Heap → Prop} (h : R (.int .i64 (popM x)) σ) : ACalls Tryz.prog 129 [.int .u64 x] σ R := by
  refine ACalls_fn fn129 rfl ?_
  repeat' first
    | refine go rfl ?_
    | refine ifT rfl ?_
    | refine ifF rfl ?_
    | refine doT rfl rfl rfl rfl rfl (as0 rfl ?_)
    | refine doF rfl rfl rfl rfl rfl (as0 rfl ?_)
    | refine noT rfl rfl rfl rfl rfl ?_
    | refine noF rfl rfl rfl rfl rfl ?_
    | refine noU rfl rfl rfl rfl rfl rfl ?_
    | refine go_block ?_
  refine op rfl rfl rfl rfl (as1 rfl (by decide) ?_)
  repeat' first
    | refine go rfl ?_
    | refine ifT rfl ?_
    | refine ifF rfl ?_
    | refine doT rfl rfl rfl rfl rfl (as0 rfl ?_)
    | refine doF rfl rfl rfl rfl rfl (as0 rfl ?_)
    | refine noT rfl rfl rfl rfl rfl ?_
    | refine noF rfl rfl rfl rfl rfl ?_
    | refine noU rfl rfl rfl rfl rfl rfl ?_
    | refine go_block ?_
  refine op rfl rfl rfl rfl (as1 rfl (by decide) ?_)
  repeat' first
    | refine go rfl ?_
    | refine ifT rfl ?_
    | refine ifF rfl ?_
    | refine doT rfl rfl rfl rfl rfl (as0 rfl ?_)
    | refine doF rfl rfl rfl rfl rfl (as0 rfl ?_)
    | refine noT rfl rfl rfl rfl rfl ?_
    | refine noF rfl rfl rfl rfl rfl ?_
    | refine noU rfl rfl rfl rfl rfl rfl ?_
    | refine go_block ?_
  refine op rfl rfl rfl rfl (as1 rfl (by decide) ?_)
  repeat' first
    | refine go rfl ?_
    | refine ifT rfl ?_
    | refine ifF rfl ?_
    | refine doT rfl rfl rfl rfl rfl (as0 rfl ?_)
    | refine doF rfl rfl rfl rfl rfl (as0 rfl ?_)
    | refine noT rfl rfl rfl rfl rfl ?_
    | refine noF rfl rfl rfl rfl rfl ?_
    | refine noU rfl rfl rfl rfl rfl rfl ?_
    | refine go_block ?_
  refine op rfl rfl rfl rfl (as1 rfl (by decide) ?_)
  repeat' first
    | refine go rfl ?_
    | refine ifT rfl ?_
    | refine ifF rfl ?_
    | refine doT rfl rfl rfl rfl rfl (as0 rfl ?_)
    | refine doF rfl rfl rfl rfl rfl (as0 rfl ?_)
    | refine noT rfl rfl rfl rfl rfl ?_
    | refine noF rfl rfl rfl rfl rfl ?_
    | refine noU rfl rfl rfl rfl rfl rfl ?_
    | refine go_block ?_
  refine op rfl rfl rfl rfl (as1 rfl (by decide) ?_)
  repeat' first
    | refine go rfl ?_
    | refine ifT rfl ?_
    | refine ifF rfl ?_
    | refine doT rfl rfl rfl rfl rfl (as0 rfl ?_)
    | refine doF rfl rfl rfl rfl rfl (as0 rfl ?_)
    | refine noT rfl rfl rfl rfl rfl ?_
    | refine noF rfl rfl rfl rfl rfl ?_
    | refine noU rfl rfl rfl rfl rfl rfl ?_
    | refine go_block ?_
  refine op rfl rfl rfl rfl (as1 rfl (by decide) ?_)
  repeat' first
    | refine go rfl ?_
    | refine ifT rfl ?_
    | refine ifF rfl ?_
    | refine doT rfl rfl rfl rfl rfl (as0 rfl ?_)
    | refine doF rfl rfl rfl rfl rfl (as0 rfl ?_)
    | refine noT rfl rfl rfl rfl rfl ?_
    | refine noF rfl rfl rfl rfl rfl ?_
    | refine noU rfl rfl rfl rfl rfl rfl ?_
    | refine go_block ?_
  refine go_ret rfl ?_
  exact h

theorem c98 {x : Int} {σ : Heap} {R : Value → Heap → Prop} (h : R (.int .i64 (popM x)) σ) : ACalls Tryz.prog 98 [.int .u64 x] σ R := by
  refine ACalls_fn fn98 rfl ?_
  repeat' first
    | refine go rfl ?_
    | refine ifT rfl ?_
    | refine ifF rfl ?_
    | refine doT rfl rfl rfl rfl rfl (as0 rfl ?_)
    | refine doF rfl rfl rfl rfl rfl (as0 rfl ?_)
    | refine noT rfl rfl rfl rfl rfl ?_
    | refine noF rfl rfl rfl rfl rfl ?_
    | refine noU rfl rfl rfl rfl rfl rfl ?_
    | refine go_block ?_
  refine opc rfl rfl rfl rfl rfl rfl rfl rfl rfl rfl (c129 (shK_mk ⟨_, rfl⟩ ?_))
  repeat' first
    | refine go rfl ?_
    | refine ifT rfl ?_
    | refine ifF rfl ?_
    | refine doT rfl rfl rfl rfl rfl (as0 rfl ?_)
    | refine doF rfl rfl rfl rfl rfl (as0 rfl ?_)
    | refine noT rfl rfl rfl rfl rfl ?_
    | refine noF rfl rfl rfl rfl rfl ?_
    | refine noU rfl rfl rfl rfl rfl rfl ?_
    | refine go_block ?_
  refine go_ret rfl ?_
  exact h

/-- The position of a data bit. -/
def posM (w b : Int) : Int :=
  let i := IntKind.wrap .i64 (IntKind.wrap .i64 (IntKind.wrap .i64 (w * 40) + b) + 1)
  let n := IntKind.wrap .i64 (i + lenM (IntKind.wrap .u64 i))
  if lenM (IntKind.wrap .u64 i) < lenM (IntKind.wrap .u64 n) then IntKind.wrap .i64 (n + 1) else n

theorem c126 {w b : Int} {σ : Heap} {R : Value → Heap → Prop} (h : R (.int .i64 (posM w b)) σ) : ACalls Tryz.prog 126 [.int .i64 w, .int .i64 b] σ R := by
  unfold posM at h
  dsimp only at h
  refine ACalls_fn fn126 rfl ?_
  repeat' first
    | refine go rfl ?_
    | refine ifT rfl ?_
    | refine ifF rfl ?_
    | refine doT rfl rfl rfl rfl rfl (as0 rfl ?_)
    | refine doF rfl rfl rfl rfl rfl (as0 rfl ?_)
    | refine noT rfl rfl rfl rfl rfl ?_
    | refine noF rfl rfl rfl rfl rfl ?_
    | refine noU rfl rfl rfl rfl rfl rfl ?_
    | refine go_block ?_
  refine opc rfl rfl rfl rfl rfl rfl rfl rfl rfl rfl (c149 (shK_mk ⟨_, rfl⟩ ?_))
  repeat' first
    | refine go rfl ?_
    | refine ifT rfl ?_
    | refine ifF rfl ?_
    | refine doT rfl rfl rfl rfl rfl (as0 rfl ?_)
    | refine doF rfl rfl rfl rfl rfl (as0 rfl ?_)
    | refine noT rfl rfl rfl rfl rfl ?_
    | refine noF rfl rfl rfl rfl rfl ?_
    | refine noU rfl rfl rfl rfl rfl rfl ?_
    | refine go_block ?_
  refine opc rfl rfl rfl rfl rfl rfl rfl rfl rfl rfl (c149 (shK_mk ⟨_, rfl⟩ ?_))
  repeat' first
    | refine go rfl ?_
    | refine ifT rfl ?_
    | refine ifF rfl ?_
    | refine doT rfl rfl rfl rfl rfl (as0 rfl ?_)
    | refine doF rfl rfl rfl rfl rfl (as0 rfl ?_)
    | refine noT rfl rfl rfl rfl rfl ?_
    | refine noF rfl rfl rfl rfl rfl ?_
    | refine noU rfl rfl rfl rfl rfl rfl ?_
    | refine go_block ?_
  refine opc rfl rfl rfl rfl rfl rfl rfl rfl rfl rfl (c149 (shK_mk ⟨_, rfl⟩ ?_))
  repeat' first
    | refine go rfl ?_
    | refine ifT rfl ?_
    | refine ifF rfl ?_
    | refine doT rfl rfl rfl rfl rfl (as0 rfl ?_)
    | refine doF rfl rfl rfl rfl rfl (as0 rfl ?_)
    | refine noT rfl rfl rfl rfl rfl ?_
    | refine noF rfl rfl rfl rfl rfl ?_
    | refine noU rfl rfl rfl rfl rfl rfl ?_
    | refine go_block ?_
  refine go_cond rfl (fun h1 => ?_) (fun h1 => ?_)
  · rw [if_pos (of_decide_eq_true h1)] at h
    repeat' first
      | refine go rfl ?_
      | refine ifT rfl ?_
      | refine ifF rfl ?_
      | refine doT rfl rfl rfl rfl rfl (as0 rfl ?_)
      | refine doF rfl rfl rfl rfl rfl (as0 rfl ?_)
      | refine noT rfl rfl rfl rfl rfl ?_
      | refine noF rfl rfl rfl rfl rfl ?_
      | refine noU rfl rfl rfl rfl rfl rfl ?_
      | refine go_block ?_
    refine go_ret rfl ?_
    exact h
  · rw [if_neg (of_decide_eq_false h1)] at h
    repeat' first
      | refine go rfl ?_
      | refine ifT rfl ?_
      | refine ifF rfl ?_
      | refine doT rfl rfl rfl rfl rfl (as0 rfl ?_)
      | refine doF rfl rfl rfl rfl rfl (as0 rfl ?_)
      | refine noT rfl rfl rfl rfl rfl ?_
      | refine noF rfl rfl rfl rfl rfl ?_
      | refine noU rfl rfl rfl rfl rfl rfl ?_
      | refine go_block ?_
    refine go_ret rfl ?_
    exact h

end Go.Eng

/- Contracts: the code of a line. Conditions: in each. -/
namespace Go.Eng
open Go Go.Proofs

set_option maxRecDepth 10000

theorem ofInt_toNat {a : Int} (h0 : 0 ≤ a) (h1 : a < 18446744073709551616) : (BitVec.ofInt 64 a).toNat = a.toNat := by
  rw [BitVec.toNat_ofInt]
  have : (a % ((2 ^ 64 : Nat) : Int)) = a := Int.emod_eq_of_lt h0 (by simpa using h1)
  rw [this]

theorem andI_eq {a b : Int} (ha : 0 ≤ a) (ha1 : a < 9223372036854775808) (hb : 0 ≤ b) (hb1 : b < 9223372036854775808) : andI .i64 a b = ((a.toNat &&& b.toNat : Nat) : Int) := by
  unfold andI
  show IntKind.wrap .i64 (((BitVec.ofInt 64 a &&& BitVec.ofInt 64 b).toNat : Nat) : Int) = _
  rw [BitVec.toNat_and, ofInt_toNat ha (by omega), ofInt_toNat hb (by omega)]
  have : a.toNat &&& b.toNat ≤ a.toNat := Nat.and_le_left
  exact wrap_i64 (by omega) (by omega)

theorem xorI_eq {a b : Int} {n : Nat} (hn : n ≤ 63) (ha : 0 ≤ a) (ha1 : a < ((2 ^ n : Nat) : Int)) (hb : 0 ≤ b) (hb1 : b < ((2 ^ n : Nat) : Int)) : xorI .i64 a b = ((a.toNat ^^^ b.toNat : Nat) : Int) ∧ xorI .i64 a b < ((2 ^ n : Nat) : Int) ∧ 0 ≤ xorI .i64 a b := by
  have hp : (2 : Nat) ^ n ≤ 2 ^ 63 := Nat.pow_le_pow_right (by decide) hn
  have h63 : (2 : Nat) ^ 63 = 9223372036854775808 := by decide
  rw [h63] at hp
  have hx : a.toNat ^^^ b.toNat < 2 ^ n := Nat.xor_lt_two_pow (by omega) (by omega)
  have e : xorI .i64 a b = ((a.toNat ^^^ b.toNat : Nat) : Int) := by
    unfold xorI
    show IntKind.wrap .i64 (((BitVec.ofInt 64 a ^^^ BitVec.ofInt 64 b).toNat : Nat) : Int) = _
    rw [BitVec.toNat_xor, ofInt_toNat ha (by omega), ofInt_toNat hb (by omega)]
    exact wrap_i64 (by omega) (by omega)
  rw [e]
  exact ⟨rfl, by omega, by omega⟩

theorem xor512 {a b : Int} (ha : 0 ≤ a) (ha1 : a < 512) (hb : 0 ≤ b) (hb1 : b < 512) : 0 ≤ xorI .i64 a b ∧ xorI .i64 a b < 512 := by
  obtain ⟨_, h2, h3⟩ := xorI_eq (n := 9) (by decide) ha ha1 hb hb1
  exact ⟨h3, h2⟩

theorem and_less {x : Int} (h0 : 0 < x) (h1 : x < 9223372036854775808) : 0 ≤ andI .i64 x (IntKind.wrap .i64 (x - 1)) ∧ andI .i64 x (IntKind.wrap .i64 (x - 1)) < x := by
  rw [wrap_i64 (by omega) (by omega), andI_eq (by omega) h1 (by omega) (by omega)]
  have : x.toNat &&& (x - 1).toNat ≤ (x - 1).toNat := Nat.and_le_right
  omega

/-- A word of a line. -/
def okW (x : Int) : Prop := 0 ≤ x ∧ x ≤ 1099511627775

theorem okW_bad {x : Int} : okW x ↔ badW x = false := by
  unfold okW badW
  simp

/-- A line: eight words. -/
structure OkL (W : List Int) : Prop where
  len : W.length = 8
  ok : ∀ x ∈ W, okW x

theorem eight {W : List Int} (h : W.length = 8) : ∃ a b c d e f g i, W = [a, b, c, d, e, f, g, i] := by
  match W, h with
  | [a, b, c, d, e, f, g, i], _ => exact ⟨a, b, c, d, e, f, g, i, rfl⟩

/-- The words of a line as a value. -/
abbrev lineV (W : List Int) : Value := .agg (ints W).toArray

def validM (W : List Int) (code : Int) : Bool := !(W.any badW) && (decide (0 ≤ code) && decide (code ≤ 1023))

theorem c96 {W : List Int} {code : Int} {σ : Heap} {R : Value → Heap → Prop} (hW : W.length = 8) (h : R (.bool (validM W code)) σ) : ACalls Tryz.prog 96 [lineV W, .int .i64 code] σ R := by
  obtain ⟨a, b, c, d, e, f, g, i, hWW⟩ := eight hW
  have hV : lineV W = lineV [a, b, c, d, e, f, g, i] := by rw [hWW]
  rw [hV]
  refine ACalls_fn fn96 rfl ?_
  repeat' first
    | refine go rfl ?_
    | refine ifT rfl ?_
    | refine ifF rfl ?_
    | refine doT rfl rfl rfl rfl rfl (as0 rfl ?_)
    | refine doF rfl rfl rfl rfl rfl (as0 rfl ?_)
    | refine noT rfl rfl rfl rfl rfl ?_
    | refine noF rfl rfl rfl rfl rfl ?_
    | refine noU rfl rfl rfl rfl rfl rfl ?_
    | refine go_block ?_
  refine op rfl rfl rfl rfl (as_box rfl rfl fun r hr => ?_)
  repeat' first
    | refine go rfl ?_
    | refine ifT rfl ?_
    | refine ifF rfl ?_
    | refine doT rfl rfl rfl rfl rfl (as0 rfl ?_)
    | refine doF rfl rfl rfl rfl rfl (as0 rfl ?_)
    | refine noT rfl rfl rfl rfl rfl ?_
    | refine noF rfl rfl rfl rfl rfl ?_
    | refine noU rfl rfl rfl rfl rfl rfl ?_
    | refine go_block ?_
  refine opl (i := ti149) rfl rfl rfl rfl rfl rfl rfl rfl (ldn (o := 0) (l := ints [a, b, c, d, e, f, g, i]) (Heap.ins_same ..) rfl rfl rfl) ⟨((_ : Int), (_ : Int), (_ : Int), (_ : Int), (_ : Int), (_ : Int), (_ : Int), (_ : Int)), rfl⟩ ?_
  repeat' first
    | refine go rfl ?_
    | refine ifT rfl ?_
    | refine ifF rfl ?_
    | refine doT rfl rfl rfl rfl rfl (as0 rfl ?_)
    | refine doF rfl rfl rfl rfl rfl (as0 rfl ?_)
    | refine noT rfl rfl rfl rfl rfl ?_
    | refine noF rfl rfl rfl rfl rfl ?_
    | refine noU rfl rfl rfl rfl rfl rfl ?_
    | refine go_block ?_
  refine go_loop [(1, .int .i64 code), (7, lineV [a, b, c, d, e, f, g, i])] [(8, .sc (.int .i64))]
    (fun (j : Int) σ' => σ' = σ.ins r (.cells 1 (vcells (lineV [a, b, c, d, e, f, g, i])) 149 8) ∧ ∃ pre suf, W = pre ++ suf ∧ j = (pre.length : Int) ∧ W.any badW = suf.any badW) (fun (j : Int) _ => (8 - j.toNat : Nat)) (0 : Int)
    ⟨rfl, rfl, trivial⟩ rfl ⟨rfl, [], W, rfl, rfl, rfl⟩ ?_
  rintro (j : Int) σ' ⟨rfl, pre, suf, hp, hj, hc⟩
  have hW8 : W.length = 8 := hW
  have h8 : (W.length : Int) = 8 := by omega
  repeat' first
    | refine go rfl ?_
    | refine ifT rfl ?_
    | refine ifF rfl ?_
    | refine doT rfl rfl rfl rfl rfl (as0 rfl ?_)
    | refine doF rfl rfl rfl rfl rfl (as0 rfl ?_)
    | refine noT rfl rfl rfl rfl rfl ?_
    | refine noF rfl rfl rfl rfl rfl ?_
    | refine noU rfl rfl rfl rfl rfl rfl ?_
    | refine go_block ?_
  refine go_cond rfl (fun hlt => ?_) (fun hlt => ?_)
  · obtain ⟨y, suf, rfl⟩ := more_cons hp hj (by rw [h8]; exact hlt)
    have hj8 : j < 8 := of_decide_eq_true hlt
    have hy : [a, b, c, d, e, f, g, i].getD j.toNat 0 = y := by
      rw [← hWW, hp, hj]
      simp
    repeat' first
      | refine go rfl ?_
      | refine ifT rfl ?_
      | refine ifF rfl ?_
      | refine doT rfl rfl rfl rfl rfl (as0 rfl ?_)
      | refine doF rfl rfl rfl rfl rfl (as0 rfl ?_)
      | refine noT rfl rfl rfl rfl rfl ?_
      | refine noF rfl rfl rfl rfl rfl ?_
      | refine noU rfl rfl rfl rfl rfl rfl ?_
      | refine go_block ?_
    refine op rfl rfl rfl rfl (as2 rfl (by rw [hj]; omega) hj8 ?_)
    repeat' first
      | refine go rfl ?_
      | refine ifT rfl ?_
      | refine ifF rfl ?_
      | refine doT rfl rfl rfl rfl rfl (as0 rfl ?_)
      | refine doF rfl rfl rfl rfl rfl (as0 rfl ?_)
      | refine noT rfl rfl rfl rfl rfl ?_
      | refine noF rfl rfl rfl rfl rfl ?_
      | refine noU rfl rfl rfl rfl rfl rfl ?_
      | refine go_block ?_
    cases h3 : decide ([a, b, c, d, e, f, g, i].getD j.toNat 0 < 0)
    · repeat' first
        | refine go rfl ?_
        | refine ifT rfl ?_
        | refine ifF rfl ?_
        | refine doT rfl rfl rfl rfl rfl (as0 rfl ?_)
        | refine doF rfl rfl rfl rfl rfl (as0 rfl ?_)
        | refine noT rfl rfl rfl rfl rfl ?_
        | refine noF rfl rfl rfl rfl rfl ?_
        | refine noU rfl rfl rfl rfl rfl rfl ?_
        | refine go_block ?_
      refine go_cond rfl (fun hb => ?_) (fun hb => ?_)
      · repeat' first
          | refine go rfl ?_
          | refine ifT rfl ?_
          | refine ifF rfl ?_
          | refine doT rfl rfl rfl rfl rfl (as0 rfl ?_)
          | refine doF rfl rfl rfl rfl rfl (as0 rfl ?_)
          | refine noT rfl rfl rfl rfl rfl ?_
          | refine noF rfl rfl rfl rfl rfl ?_
          | refine noU rfl rfl rfl rfl rfl rfl ?_
          | refine go_block ?_
        refine go_by_ret ?_
        repeat' first
          | refine go rfl ?_
          | refine ifT rfl ?_
          | refine ifF rfl ?_
          | refine doT rfl rfl rfl rfl rfl (as0 rfl ?_)
          | refine doF rfl rfl rfl rfl rfl (as0 rfl ?_)
          | refine noT rfl rfl rfl rfl rfl ?_
          | refine noF rfl rfl rfl rfl rfl ?_
          | refine noU rfl rfl rfl rfl rfl rfl ?_
          | refine go_block ?_
        refine go_ret' (ares_tmp rfl ares_nil) (weak_ins hr _) ?_
        have : W.any badW = true := by
          rw [hc]
          have : badW y = true := by
            rw [hy] at h3
            unfold badW
            rw [h3, ← hy]
            exact hb
          simp [this]
        unfold validM at h
        rw [this] at h
        exact h
      · repeat' first
          | refine go rfl ?_
          | refine ifT rfl ?_
          | refine ifF rfl ?_
          | refine doT rfl rfl rfl rfl rfl (as0 rfl ?_)
          | refine doF rfl rfl rfl rfl rfl (as0 rfl ?_)
          | refine noT rfl rfl rfl rfl rfl ?_
          | refine noF rfl rfl rfl rfl rfl ?_
          | refine noU rfl rfl rfl rfl rfl rfl ?_
          | refine go_block ?_
        refine go_meet ((pre ++ [y]).length : Int) ⟨rfl, rfl, trivial⟩ (by rw [← wrap_next hp hj (by omega)]; rfl) ⟨⟨rfl, pre ++ [y], suf, app_next hp, rfl, ?_⟩, by have := less_next hp hj; rw [hW8] at this; exact this⟩
        rw [hc]
        have : badW y = false := by
          rw [hy] at h3
          unfold badW
          rw [h3, ← hy]
          exact hb
        simp [this]
    · repeat' first
        | refine go rfl ?_
        | refine ifT rfl ?_
        | refine ifF rfl ?_
        | refine doT rfl rfl rfl rfl rfl (as0 rfl ?_)
        | refine doF rfl rfl rfl rfl rfl (as0 rfl ?_)
        | refine noT rfl rfl rfl rfl rfl ?_
        | refine noF rfl rfl rfl rfl rfl ?_
        | refine noU rfl rfl rfl rfl rfl rfl ?_
        | refine go_block ?_
      refine go_by_ret ?_
      repeat' first
        | refine go rfl ?_
        | refine ifT rfl ?_
        | refine ifF rfl ?_
        | refine doT rfl rfl rfl rfl rfl (as0 rfl ?_)
        | refine doF rfl rfl rfl rfl rfl (as0 rfl ?_)
        | refine noT rfl rfl rfl rfl rfl ?_
        | refine noF rfl rfl rfl rfl rfl ?_
        | refine noU rfl rfl rfl rfl rfl rfl ?_
        | refine go_block ?_
      refine go_ret' (ares_tmp rfl ares_nil) (weak_ins hr _) ?_
      have : W.any badW = true := by
        rw [hc]
        have : badW y = true := by
          rw [hy] at h3
          unfold badW
          rw [h3]
          rfl
        simp [this]
      unfold validM at h
      rw [this] at h
      exact h
  · have := more_nil hp hj (by rw [h8]; exact hlt)
    subst this
    repeat' first
      | refine go rfl ?_
      | refine ifT rfl ?_
      | refine ifF rfl ?_
      | refine doT rfl rfl rfl rfl rfl (as0 rfl ?_)
      | refine doF rfl rfl rfl rfl rfl (as0 rfl ?_)
      | refine noT rfl rfl rfl rfl rfl ?_
      | refine noF rfl rfl rfl rfl rfl ?_
      | refine noU rfl rfl rfl rfl rfl rfl ?_
      | refine go_block ?_
    refine go_by_exit ?_
    unfold validM at h
    rw [hc] at h
    repeat' first
      | refine go rfl ?_
      | refine ifT rfl ?_
      | refine ifF rfl ?_
      | refine doT rfl rfl rfl rfl rfl (as0 rfl ?_)
      | refine doF rfl rfl rfl rfl rfl (as0 rfl ?_)
      | refine noT rfl rfl rfl rfl rfl ?_
      | refine noF rfl rfl rfl rfl rfl ?_
      | refine noU rfl rfl rfl rfl rfl rfl ?_
      | refine go_block ?_
    cases h3 : decide (0 ≤ code) <;> rw [h3] at h
    · repeat' first
        | refine go rfl ?_
        | refine ifT rfl ?_
        | refine ifF rfl ?_
        | refine doT rfl rfl rfl rfl rfl (as0 rfl ?_)
        | refine doF rfl rfl rfl rfl rfl (as0 rfl ?_)
        | refine noT rfl rfl rfl rfl rfl ?_
        | refine noF rfl rfl rfl rfl rfl ?_
        | refine noU rfl rfl rfl rfl rfl rfl ?_
        | refine go_block ?_
      refine go_ret' (ares_tmp rfl ares_nil) (weak_ins hr _) ?_
      exact h
    · repeat' first
        | refine go rfl ?_
        | refine ifT rfl ?_
        | refine ifF rfl ?_
        | refine doT rfl rfl rfl rfl rfl (as0 rfl ?_)
        | refine doF rfl rfl rfl rfl rfl (as0 rfl ?_)
        | refine noT rfl rfl rfl rfl rfl ?_
        | refine noF rfl rfl rfl rfl rfl ?_
        | refine noU rfl rfl rfl rfl rfl rfl ?_
        | refine go_block ?_
      refine go_ret' (ares_tmp rfl ares_nil) (weak_ins hr _) ?_
      exact h

/-- The positions of the bits of a word that are 1, summed up; how many there are. -/
def sumGo : Nat → Int → Int → Int × Int → Int × Int
  | 0, _, _, p => p
  | f + 1, k, x, p => if x = 0 then p else sumGo f k (andI .i64 x (IntKind.wrap .i64 (x - 1))) (xorI .i64 p.1 (posM k (tzM (IntKind.wrap .u64 x))), IntKind.wrap .i64 (p.2 + 1))

def sumW : List Int → Int → Int × Int → Int × Int
  | [], _, p => p
  | x :: l, k, p => sumW l (k + 1) (sumGo x.toNat k x p)

theorem sumGo_zero (f : Nat) (k : Int) (p : Int × Int) : sumGo f k 0 p = p := by cases f <;> simp [sumGo]

theorem c97 {W : List Int} {σ : Heap} {R : Value → Heap → Prop} (hG : Glob σ) (hW : OkL W) (h : R (pairV (sumW W 0 (0, 0))) σ) : ACalls Tryz.prog 97 [lineV W] σ R := by
  obtain ⟨a, b, c, d, e, f, g, i, hWW⟩ := eight hW.len
  rw [hWW]
  rw [← hWW]
  have hV : lineV W = lineV [a, b, c, d, e, f, g, i] := by rw [hWW]
  rw [hV]
  refine ACalls_fn fn97 rfl ?_
  repeat' first
    | refine go rfl ?_
    | refine ifT rfl ?_
    | refine ifF rfl ?_
    | refine doT rfl rfl rfl rfl rfl (as0 rfl ?_)
    | refine doF rfl rfl rfl rfl rfl (as0 rfl ?_)
    | refine noT rfl rfl rfl rfl rfl ?_
    | refine noF rfl rfl rfl rfl rfl ?_
    | refine noU rfl rfl rfl rfl rfl rfl ?_
    | refine go_block ?_
  refine op rfl rfl rfl rfl (as_box rfl rfl fun r hr => ?_)
  repeat' first
    | refine go rfl ?_
    | refine ifT rfl ?_
    | refine ifF rfl ?_
    | refine doT rfl rfl rfl rfl rfl (as0 rfl ?_)
    | refine doF rfl rfl rfl rfl rfl (as0 rfl ?_)
    | refine noT rfl rfl rfl rfl rfl ?_
    | refine noF rfl rfl rfl rfl rfl ?_
    | refine noU rfl rfl rfl rfl rfl rfl ?_
    | refine go_block ?_
  refine opl (i := ti149) rfl rfl rfl rfl rfl rfl rfl rfl (ldn (o := 0) (l := ints [a, b, c, d, e, f, g, i]) (Heap.ins_same ..) rfl rfl rfl) ⟨((_ : Int), (_ : Int), (_ : Int), (_ : Int), (_ : Int), (_ : Int), (_ : Int), (_ : Int)), rfl⟩ ?_
  repeat' first
    | refine go rfl ?_
    | refine ifT rfl ?_
    | refine ifF rfl ?_
    | refine doT rfl rfl rfl rfl rfl (as0 rfl ?_)
    | refine doF rfl rfl rfl rfl rfl (as0 rfl ?_)
    | refine noT rfl rfl rfl rfl rfl ?_
    | refine noF rfl rfl rfl rfl rfl ?_
    | refine noU rfl rfl rfl rfl rfl rfl ?_
    | refine go_block ?_
  have hG' := hG.ins hr (.cells 1 (vcells (lineV [a, b, c, d, e, f, g, i])) 149 8)
  refine go_loop [(6, lineV [a, b, c, d, e, f, g, i])] [(2, .sc (.int .i64)), (3, .sc (.int .i64)), (7, .sc (.int .i64))]
    (fun (q : Int × Int × Int) σ' => σ' = σ.ins r (.cells 1 (vcells (lineV [a, b, c, d, e, f, g, i])) 149 8) ∧ ∃ pre suf, W = pre ++ suf ∧ q.2.2 = (pre.length : Int) ∧ sumW W 0 (0, 0) = sumW suf pre.length (q.1, q.2.1))
    (fun (q : Int × Int × Int) _ => (8 - q.2.2.toNat : Nat)) ((0, 0, 0) : Int × Int × Int)
    ⟨rfl, trivial⟩ rfl ⟨rfl, [], W, rfl, rfl, rfl⟩ ?_
  rintro ⟨(s : Int), (n : Int), (j : Int)⟩ σ' ⟨rfl, pre, suf, hp, hj, hc⟩
  replace hj : j = (pre.length : Int) := hj
  replace hc : sumW W 0 (0, 0) = sumW suf pre.length (s, n) := hc
  have hW8 : W.length = 8 := hW.len
  have h8 : (W.length : Int) = 8 := by omega
  repeat' first
    | refine go rfl ?_
    | refine ifT rfl ?_
    | refine ifF rfl ?_
    | refine doT rfl rfl rfl rfl rfl (as0 rfl ?_)
    | refine doF rfl rfl rfl rfl rfl (as0 rfl ?_)
    | refine noT rfl rfl rfl rfl rfl ?_
    | refine noF rfl rfl rfl rfl rfl ?_
    | refine noU rfl rfl rfl rfl rfl rfl ?_
    | refine go_block ?_
  refine go_cond rfl (fun hlt => ?_) (fun hlt => ?_)
  · obtain ⟨y, suf, rfl⟩ := more_cons hp hj (by rw [h8]; exact hlt)
    have hj8 : j < 8 := of_decide_eq_true hlt
    have hy : [a, b, c, d, e, f, g, i].getD j.toNat 0 = y := by
      rw [← hWW, hp, hj]
      simp
    have hyk := hW.ok y (by rw [hp]; simp)
    repeat' first
      | refine go rfl ?_
      | refine ifT rfl ?_
      | refine ifF rfl ?_
      | refine doT rfl rfl rfl rfl rfl (as0 rfl ?_)
      | refine doF rfl rfl rfl rfl rfl (as0 rfl ?_)
      | refine noT rfl rfl rfl rfl rfl ?_
      | refine noF rfl rfl rfl rfl rfl ?_
      | refine noU rfl rfl rfl rfl rfl rfl ?_
      | refine go_block ?_
    refine op rfl rfl rfl rfl (as2 rfl (by show (0 : Int) ≤ j; omega) hj8 ?_)
    rw [show (List.getD [a, b, c, d, e, f, g, i] j.toNat 0) = y from hy]
    repeat' first
      | refine go rfl ?_
      | refine ifT rfl ?_
      | refine ifF rfl ?_
      | refine doT rfl rfl rfl rfl rfl (as0 rfl ?_)
      | refine doF rfl rfl rfl rfl rfl (as0 rfl ?_)
      | refine noT rfl rfl rfl rfl rfl ?_
      | refine noF rfl rfl rfl rfl rfl ?_
      | refine noU rfl rfl rfl rfl rfl rfl ?_
    refine go_block_cut [(6, lineV [a, b, c, d, e, f, g, i]), (7, .int .i64 j)] [(2, .sc (.int .i64)), (3, .sc (.int .i64))]
      (fun (q : Int × Int) σ' => σ' = σ.ins r (.cells 1 (vcells (lineV [a, b, c, d, e, f, g, i])) 149 8) ∧ q = sumGo y.toNat j y (s, n)) ?_ ?_
    · refine go_loop [(6, lineV [a, b, c, d, e, f, g, i]), (7, .int .i64 j), (4, .int .i64 j)] [(2, .sc (.int .i64)), (3, .sc (.int .i64)), (5, .sc (.int .i64))]
        (fun (q : Int × Int × Int) σ' => σ' = σ.ins r (.cells 1 (vcells (lineV [a, b, c, d, e, f, g, i])) 149 8) ∧ 0 ≤ q.2.2 ∧ q.2.2 ≤ 1099511627775 ∧ ∃ fu : Nat, q.2.2.toNat ≤ fu ∧ sumGo y.toNat j y (s, n) = sumGo fu j q.2.2 (q.1, q.2.1))
        (fun (q : Int × Int × Int) _ => (q.2.2.toNat : Nat)) ((s, n, y) : Int × Int × Int) ⟨rfl, rfl, rfl, trivial⟩ rfl ⟨rfl, hyk.1, hyk.2, y.toNat, Nat.le_refl _, rfl⟩ ?_
      rintro ⟨(s' : Int), (n' : Int), (x : Int)⟩ σ' ⟨rfl, hx0, hx1, fu, hfu, hs⟩
      replace hx0 : 0 ≤ x := hx0
      replace hx1 : x ≤ 1099511627775 := hx1
      replace hfu : x.toNat ≤ fu := hfu
      replace hs : sumGo y.toNat j y (s, n) = sumGo fu j x (s', n') := hs
      repeat' first
        | refine go rfl ?_
        | refine ifT rfl ?_
        | refine ifF rfl ?_
        | refine doT rfl rfl rfl rfl rfl (as0 rfl ?_)
        | refine doF rfl rfl rfl rfl rfl (as0 rfl ?_)
        | refine noT rfl rfl rfl rfl rfl ?_
        | refine noF rfl rfl rfl rfl rfl ?_
        | refine noU rfl rfl rfl rfl rfl rfl ?_
        | refine go_block ?_
      refine go_cond rfl (fun hne => ?_) (fun hne => ?_)
      · have hne' : x ≠ 0 := by simpa using hne
        obtain ⟨fu, rfl⟩ : ∃ f', fu = f' + 1 := ⟨fu - 1, by omega⟩
        obtain ⟨l1, l2⟩ := and_less (x := x) (by omega) (by omega)
        repeat' first
          | refine go rfl ?_
          | refine ifT rfl ?_
          | refine ifF rfl ?_
          | refine doT rfl rfl rfl rfl rfl (as0 rfl ?_)
          | refine doF rfl rfl rfl rfl rfl (as0 rfl ?_)
          | refine noT rfl rfl rfl rfl rfl ?_
          | refine noF rfl rfl rfl rfl rfl ?_
          | refine noU rfl rfl rfl rfl rfl rfl ?_
          | refine go_block ?_
        refine opc rfl rfl rfl rfl rfl rfl rfl rfl rfl rfl (c127 hG' (shK_mk ⟨_, rfl⟩ ?_))
        refine opc rfl rfl rfl rfl rfl rfl rfl rfl rfl rfl (c126 (shK_mk ⟨_, rfl⟩ ?_))
        repeat' first
          | refine go rfl ?_
          | refine ifT rfl ?_
          | refine ifF rfl ?_
          | refine doT rfl rfl rfl rfl rfl (as0 rfl ?_)
          | refine doF rfl rfl rfl rfl rfl (as0 rfl ?_)
          | refine noT rfl rfl rfl rfl rfl ?_
          | refine noF rfl rfl rfl rfl rfl ?_
          | refine noU rfl rfl rfl rfl rfl rfl ?_
          | refine go_block ?_
        refine go_meet ((xorI .i64 s' (posM j (tzM (IntKind.wrap .u64 x))), IntKind.wrap .i64 (n' + 1), andI .i64 x (IntKind.wrap .i64 (x - 1))) : Int × Int × Int) ⟨rfl, rfl, rfl, trivial⟩ rfl ⟨⟨rfl, l1, ?_, fu, ?_, ?_⟩, ?_⟩
        · show andI .i64 x (IntKind.wrap .i64 (x - 1)) ≤ _
          omega
        · show (andI .i64 x (IntKind.wrap .i64 (x - 1))).toNat ≤ fu
          omega
        · rw [hs]
          simp only [sumGo, if_neg hne']
        · show (andI .i64 x (IntKind.wrap .i64 (x - 1))).toNat < x.toNat
          omega
      · have hx : x = 0 := by simpa using hne
        subst hx
        repeat' first
          | refine go rfl ?_
          | refine ifT rfl ?_
          | refine ifF rfl ?_
          | refine doT rfl rfl rfl rfl rfl (as0 rfl ?_)
          | refine doF rfl rfl rfl rfl rfl (as0 rfl ?_)
          | refine noT rfl rfl rfl rfl rfl ?_
          | refine noF rfl rfl rfl rfl rfl ?_
          | refine noU rfl rfl rfl rfl rfl rfl ?_
          | refine go_block ?_
        refine go_by_exit ?_
        refine meetB ((s', n') : Int × Int) ⟨rfl, rfl, trivial⟩ rfl ⟨rfl, ?_⟩
        rw [hs, sumGo_zero]
    · rintro ⟨(s' : Int), (n' : Int)⟩ σ' ⟨rfl, hq⟩
      repeat' first
        | refine go rfl ?_
        | refine ifT rfl ?_
        | refine ifF rfl ?_
        | refine doT rfl rfl rfl rfl rfl (as0 rfl ?_)
        | refine doF rfl rfl rfl rfl rfl (as0 rfl ?_)
        | refine noT rfl rfl rfl rfl rfl ?_
        | refine noF rfl rfl rfl rfl rfl ?_
        | refine noU rfl rfl rfl rfl rfl rfl ?_
        | refine go_block ?_
      refine go_meet ((s', n', ((pre ++ [y]).length : Int)) : Int × Int × Int) ⟨rfl, trivial⟩ (by rw [← wrap_next hp hj (by omega)]; rfl) ⟨⟨rfl, pre ++ [y], suf, app_next hp, rfl, ?_⟩, by have := less_next hp hj; rw [hW8] at this; exact this⟩
      rw [hc]
      have e1 : ((pre ++ [y]).length : Int) = (pre.length : Int) + 1 := by simp
      rw [e1]
      show sumW (y :: suf) pre.length (s, n) = sumW suf ((pre.length : Int) + 1) (s', n')
      have hq' : ((s', n') : Int × Int) = sumGo y.toNat j y (s, n) := hq
      exact congrArg (fun p => sumW suf ((pre.length : Int) + 1) p) (by rw [← hj]; exact hq'.symm)
  · have := more_nil hp hj (by rw [h8]; exact hlt)
    subst this
    repeat' first
      | refine go rfl ?_
      | refine ifT rfl ?_
      | refine ifF rfl ?_
      | refine doT rfl rfl rfl rfl rfl (as0 rfl ?_)
      | refine doF rfl rfl rfl rfl rfl (as0 rfl ?_)
      | refine noT rfl rfl rfl rfl rfl ?_
      | refine noF rfl rfl rfl rfl rfl ?_
      | refine noU rfl rfl rfl rfl rfl rfl ?_
      | refine go_block ?_
    refine go_by_exit ?_
    repeat' first
      | refine go rfl ?_
      | refine ifT rfl ?_
      | refine ifF rfl ?_
      | refine doT rfl rfl rfl rfl rfl (as0 rfl ?_)
      | refine doF rfl rfl rfl rfl rfl (as0 rfl ?_)
      | refine noT rfl rfl rfl rfl rfl ?_
      | refine noF rfl rfl rfl rfl rfl ?_
      | refine noU rfl rfl rfl rfl rfl rfl ?_
      | refine go_block ?_
    refine go_ret' (ares_tmp rfl (ares_tmp rfl ares_nil)) (weak_ins hr _) ?_
    rw [hc] at h
    exact h

end Go.Eng

/- Contracts: a line with its code reads as it was written. Conditions: in each. -/
namespace Go.Eng
open Go Go.Proofs

set_option maxRecDepth 10000

theorem db64_lt : ∀ i : Nat, 0 ≤ db64.getD i 0 ∧ db64.getD i 0 < 64 := by
  intro i
  by_cases h : i < 64
  · have : ∀ i : Fin 64, 0 ≤ db64.getD i.1 0 ∧ db64.getD i.1 0 < 64 := by decide
    exact this ⟨i, h⟩
  · have e : db64.getD i 0 = 0 := by
      rw [List.getD_eq_getElem?_getD, List.getElem?_eq_none (by simp [db64]; omega)]
      rfl
    rw [e]
    decide

theorem tz_range {x : Int} (h : x ≠ 0) : 0 ≤ tzM x ∧ tzM x < 64 := by
  unfold tzM
  rw [if_neg h]
  obtain ⟨h0, h1⟩ := db64_lt (shrI .u64 (IntKind.wrap .u64 (andI .u64 x (IntKind.wrap .u64 (0 - x)) * 285870213051353865)) 58).toNat
  rw [wrap_i64 (by omega) (by omega)]
  exact ⟨h0, h1⟩

theorem pos_all : ∀ w : Fin 8, ∀ b : Fin 64, 0 ≤ posM w.1 b.1 ∧ posM w.1 b.1 < 512 := by decide +kernel

theorem pos_range {w b : Int} (h0 : 0 ≤ w) (h1 : w < 8) (h2 : 0 ≤ b) (h3 : b < 64) : 0 ≤ posM w b ∧ posM w b < 512 := by
  have := pos_all ⟨w.toNat, by omega⟩ ⟨b.toNat, by omega⟩
  have e1 : ((w.toNat : Nat) : Int) = w := by omega
  have e2 : ((b.toNat : Nat) : Int) = b := by omega
  rwa [e1, e2] at this

theorem sumGo_range : ∀ (f : Nat) {k x : Int} {p : Int × Int}, 0 ≤ k → k < 8 → 0 ≤ x → x ≤ 1099511627775 → 0 ≤ p.1 → p.1 < 512 → 0 ≤ (sumGo f k x p).1 ∧ (sumGo f k x p).1 < 512
  | 0, k, x, p, _, _, _, _, h1, h2 => ⟨h1, h2⟩
  | f + 1, k, x, p, hk, hk', hx, hx', h1, h2 => by
    unfold sumGo
    split
    · exact ⟨h1, h2⟩
    · rename_i hne
      obtain ⟨a1, a2⟩ := and_less (x := x) (by omega) (by omega)
      have hw : IntKind.wrap .u64 x = x := wrap_u64 hx (by omega)
      obtain ⟨t1, t2⟩ := tz_range (x := IntKind.wrap .u64 x) (by rw [hw]; exact hne)
      obtain ⟨p1, p2⟩ := pos_range hk hk' t1 t2
      obtain ⟨x1, x2⟩ := xor512 h1 h2 p1 p2
      exact sumGo_range f hk hk' a1 (by omega) x1 x2

theorem sumW_range : ∀ (l : List Int) {k : Int} {p : Int × Int}, 0 ≤ k → k + (l.length : Int) ≤ 8 → (∀ x ∈ l, okW x) → 0 ≤ p.1 → p.1 < 512 → 0 ≤ (sumW l k p).1 ∧ (sumW l k p).1 < 512
  | [], k, p, _, _, _, h1, h2 => ⟨h1, h2⟩
  | x :: l, k, p, hk, hk', hl, h1, h2 => by
    have hx := hl x (List.mem_cons_self ..)
    simp only [List.length_cons] at hk'
    obtain ⟨a, b⟩ := sumGo_range x.toNat hk (by omega) hx.1 hx.2 h1 h2
    exact sumW_range l (by omega) (by omega) (fun y hy => hl y (List.mem_cons_of_mem _ hy)) a b

def oddM (s n : Int) : Bool := decide (Int.tmod (IntKind.wrap .i64 (n + popM (IntKind.wrap .u64 s))) 2 = 1)

/-- The code of a line. -/
def encM (W : List Int) : Int :=
  let p := sumW W 0 (0, 0)
  if oddM p.1 p.2 then orI .i64 p.1 512 else p.1

theorem c75 {W : List Int} {σ : Heap} {R : Value → Heap → Prop} (hG : Glob σ) (hW : OkL W) (h : R (.int .i64 (encM W)) σ) : ACalls Tryz.prog 75 [lineV W] σ R := by
  unfold encM at h
  dsimp only at h
  have hval : validM W 0 = true := by
    unfold validM
    have : W.any badW = false := by
      rw [Bool.eq_false_iff]
      intro hb
      obtain ⟨x, hx, hb⟩ := List.any_eq_true.1 hb
      rw [okW_bad.1 (hW.ok x hx)] at hb
      cases hb
    rw [this]
    decide
  obtain ⟨a, b, c, d, e, f, g, i, hWW⟩ := eight hW.len
  have hV : lineV W = lineV [a, b, c, d, e, f, g, i] := by rw [hWW]
  rw [hV]
  refine ACalls_fn fn75 rfl ?_
  repeat' first
    | refine go rfl ?_
    | refine ifT rfl ?_
    | refine ifF rfl ?_
    | refine doT rfl rfl rfl rfl rfl (as0 rfl ?_)
    | refine doF rfl rfl rfl rfl rfl (as0 rfl ?_)
    | refine noT rfl rfl rfl rfl rfl ?_
    | refine noF rfl rfl rfl rfl rfl ?_
    | refine noU rfl rfl rfl rfl rfl rfl ?_
    | refine go_block ?_
  refine op rfl rfl rfl rfl (as_box rfl rfl fun r hr => ?_)
  repeat' first
    | refine go rfl ?_
    | refine ifT rfl ?_
    | refine ifF rfl ?_
    | refine doT rfl rfl rfl rfl rfl (as0 rfl ?_)
    | refine doF rfl rfl rfl rfl rfl (as0 rfl ?_)
    | refine noT rfl rfl rfl rfl rfl ?_
    | refine noF rfl rfl rfl rfl rfl ?_
    | refine noU rfl rfl rfl rfl rfl rfl ?_
    | refine go_block ?_
  refine opl (i := ti149) rfl rfl rfl rfl rfl rfl rfl rfl (ldn (o := 0) (l := ints [a, b, c, d, e, f, g, i]) (Heap.ins_same ..) rfl rfl rfl) ⟨((_ : Int), (_ : Int), (_ : Int), (_ : Int), (_ : Int), (_ : Int), (_ : Int), (_ : Int)), rfl⟩ ?_
  refine opc rfl rfl rfl rfl rfl rfl rfl rfl rfl rfl (c96 (W := [a, b, c, d, e, f, g, i]) rfl (shK_mk ⟨_, rfl⟩ ?_))
  rw [← hWW, hval]
  repeat' first
    | refine go rfl ?_
    | refine ifT rfl ?_
    | refine ifF rfl ?_
    | refine doT rfl rfl rfl rfl rfl (as0 rfl ?_)
    | refine doF rfl rfl rfl rfl rfl (as0 rfl ?_)
    | refine noT rfl rfl rfl rfl rfl ?_
    | refine noF rfl rfl rfl rfl rfl ?_
    | refine noU rfl rfl rfl rfl rfl rfl ?_
    | refine go_block ?_
  refine opl (i := ti149) rfl rfl rfl rfl rfl rfl rfl rfl (ldn (o := 0) (l := ints [a, b, c, d, e, f, g, i]) (by rw [hWW]; exact Heap.ins_same ..) rfl rfl rfl) ⟨((_ : Int), (_ : Int), (_ : Int), (_ : Int), (_ : Int), (_ : Int), (_ : Int), (_ : Int)), rfl⟩ ?_
  refine opc rfl rfl rfl rfl rfl rfl rfl rfl rfl rfl (c97 (W := [a, b, c, d, e, f, g, i]) (hG.ins hr _) (by rw [← hWW]; exact hW) (shK_mk ⟨((_ : Int), (_ : Int)), rfl⟩ ?_))
  rw [← hWW]
  repeat' first
    | refine go rfl ?_
    | refine ifT rfl ?_
    | refine ifF rfl ?_
    | refine doT rfl rfl rfl rfl rfl (as0 rfl ?_)
    | refine doF rfl rfl rfl rfl rfl (as0 rfl ?_)
    | refine noT rfl rfl rfl rfl rfl ?_
    | refine noF rfl rfl rfl rfl rfl ?_
    | refine noU rfl rfl rfl rfl rfl rfl ?_
    | refine go_block ?_
  refine opc rfl rfl rfl rfl rfl rfl rfl rfl rfl rfl (c98 (shK_mk ⟨_, rfl⟩ ?_))
  repeat' first
    | refine go rfl ?_
    | refine ifT rfl ?_
    | refine ifF rfl ?_
    | refine doT rfl rfl rfl rfl rfl (as0 rfl ?_)
    | refine doF rfl rfl rfl rfl rfl (as0 rfl ?_)
    | refine noT rfl rfl rfl rfl rfl ?_
    | refine noF rfl rfl rfl rfl rfl ?_
    | refine noU rfl rfl rfl rfl rfl rfl ?_
    | refine go_block ?_
  refine op rfl rfl rfl rfl (as1 rfl (by decide) ?_)
  repeat' first
    | refine go rfl ?_
    | refine ifT rfl ?_
    | refine ifF rfl ?_
    | refine doT rfl rfl rfl rfl rfl (as0 rfl ?_)
    | refine doF rfl rfl rfl rfl rfl (as0 rfl ?_)
    | refine noT rfl rfl rfl rfl rfl ?_
    | refine noF rfl rfl rfl rfl rfl ?_
    | refine noU rfl rfl rfl rfl rfl rfl ?_
    | refine go_block ?_
  cases ho : oddM (sumW W 0 (0, 0)).1 (sumW W 0 (0, 0)).2 <;> rw [ho] at h
  · refine ifF (by rw [← ho]; rfl) ?_
    repeat' first
      | refine go rfl ?_
      | refine ifT rfl ?_
      | refine ifF rfl ?_
      | refine doT rfl rfl rfl rfl rfl (as0 rfl ?_)
      | refine doF rfl rfl rfl rfl rfl (as0 rfl ?_)
      | refine noT rfl rfl rfl rfl rfl ?_
      | refine noF rfl rfl rfl rfl rfl ?_
      | refine noU rfl rfl rfl rfl rfl rfl ?_
      | refine go_block ?_
    refine go_ret' (ares_tmp rfl ares_nil) (weak_ins hr _) ?_
    exact h
  · refine ifT (by rw [← ho]; rfl) ?_
    repeat' first
      | refine go rfl ?_
      | refine ifT rfl ?_
      | refine ifF rfl ?_
      | refine doT rfl rfl rfl rfl rfl (as0 rfl ?_)
      | refine doF rfl rfl rfl rfl rfl (as0 rfl ?_)
      | refine noT rfl rfl rfl rfl rfl ?_
      | refine noF rfl rfl rfl rfl rfl ?_
      | refine noU rfl rfl rfl rfl rfl rfl ?_
      | refine go_block ?_
    refine go_ret' (ares_tmp rfl ares_nil) (weak_ins hr _) ?_
    exact h

end Go.Eng
