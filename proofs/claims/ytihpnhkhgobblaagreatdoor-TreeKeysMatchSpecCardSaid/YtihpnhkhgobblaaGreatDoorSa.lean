/- The table of the program's types, made by program. Conditions: none. -/
import Derived.Test.YtihpnhkhgobblaaGreatDoorProg
import Derived.KernelRfl
import Derived.Test.YtihpnhkhgobblaaGreatDoorEd
namespace Go.Eng
open Go Go.Proofs

def lookT : List (Nat × TI) → Nat → Option TI
  | [], _ => none
  | (k, i) :: l, t => bif k == t then some i else lookT l t

theorem lookT_ok {P : Program} : ∀ {l : List (Nat × TI)}, (∀ p ∈ l, p.2.ok P p.1) → TTok P (lookT l)
  | [], _, t, i, h => by cases h
  | (k, j) :: l, hl, t, i, h => by
    unfold lookT at h
    cases hk : k == t with
    | true =>
      rw [hk, cond_true, Option.some.injEq] at h
      subst h
      obtain rfl := beq_iff_eq.1 hk
      exact hl _ (List.mem_cons_self ..)
    | false =>
      rw [hk, cond_false] at h
      exact lookT_ok (fun p hp => hl p (List.mem_cons_of_mem _ hp)) t i h

def ti0 : TI := { k := .other, size := 1, bytes := 0, zero := [.tuple #[]], sh := .tup [] }
def ti1 : TI := { k := .func, size := 1, bytes := 8, zero := [.nilFunc], sh := .one (.sc .any) }
def ti2 : TI := { k := .int .i64, size := 1, bytes := 8, zero := [.int .i64 0], sh := .one (.sc (.int .i64)) }
def ti3 : TI := { k := .int .i64, size := 1, bytes := 8, zero := [.int .i64 0], sh := .one (.sc (.int .i64)) }
def ti4 : TI := { k := .bool, size := 1, bytes := 1, zero := [.bool false], sh := .one (.sc .bool) }
def ti5 : TI := { k := .int .u8, size := 1, bytes := 1, zero := [.int .u8 0], sh := .one (.sc (.int .u8)) }
def ti6 : TI := { k := .int .u8, size := 1, bytes := 1, zero := [.int .u8 0], sh := .one (.sc (.int .u8)) }
def ti7 : TI := { k := .struct [(0, 2), (1, 3), (2, 4), (3, 6)], size := 4, bytes := 24, zero := [.int .i64 0, .int .i64 0, .bool false, .int .u8 0], sh := .one (.agg [.int .i64, .int .i64, .bool, .int .u8]) }
def ti8 : TI := { k := .struct [(0, 2), (1, 3), (2, 4), (3, 6)], size := 4, bytes := 24, zero := [.int .i64 0, .int .i64 0, .bool false, .int .u8 0], sh := .one (.agg [.int .i64, .int .i64, .bool, .int .u8]) }
def ti9 : TI := { k := .str, size := 1, bytes := 16, zero := [.string ⟨#[]⟩], sh := .one (.sc .str) }
def ti10 : TI := { k := .str, size := 1, bytes := 16, zero := [.string ⟨#[]⟩], sh := .one (.sc .str) }
def ti11 : TI := { k := .str, size := 1, bytes := 16, zero := [.string ⟨#[]⟩], sh := .one (.sc .str) }
def ti12 : TI := { k := .int .u64, size := 1, bytes := 8, zero := [.int .u64 0], sh := .one (.sc (.int .u64)) }
def ti13 : TI := { k := .struct [(0, 9), (1, 12)], size := 2, bytes := 24, zero := [.string ⟨#[]⟩, .int .u64 0], sh := .one (.agg [.str, .int .u64]) }
def ti14 : TI := { k := .struct [(0, 9), (1, 12)], size := 2, bytes := 24, zero := [.string ⟨#[]⟩, .int .u64 0], sh := .one (.agg [.str, .int .u64]) }
def ti15 : TI := { k := .ptr 269, size := 1, bytes := 8, zero := [.pointer none], sh := .one (.sc .ptr) }
def ti16 : TI := { k := .ptr 272, size := 1, bytes := 8, zero := [.pointer none], sh := .one (.sc .ptr) }
def ti17 : TI := { k := .ptr 280, size := 1, bytes := 8, zero := [.pointer none], sh := .one (.sc .ptr) }
def ti18 : TI := { k := .struct [(0, 17)], size := 1, bytes := 8, zero := [.pointer none], sh := .one (.agg [.ptr]) }
def ti19 : TI := { k := .struct [(0, 17)], size := 1, bytes := 8, zero := [.pointer none], sh := .one (.agg [.ptr]) }
def ti20 : TI := { k := .other, size := 1, bytes := 16, zero := [.nilIface], sh := .one (.sc .any) }
def ti21 : TI := { k := .int .i32, size := 1, bytes := 4, zero := [.int .i32 0], sh := .one (.sc (.int .i32)) }
def ti22 : TI := { k := .slice 3, size := 1, bytes := 24, zero := [.slice none 0 0], sh := .one (.sc .slice) }
def ti23 : TI := { k := .func, size := 1, bytes := 8, zero := [.nilFunc], sh := .one (.sc .any) }
def ti24 : TI := { k := .func, size := 1, bytes := 8, zero := [.nilFunc], sh := .one (.sc .any) }
def ti25 : TI := { k := .func, size := 1, bytes := 8, zero := [.nilFunc], sh := .one (.sc .any) }
def ti26 : TI := { k := .func, size := 1, bytes := 8, zero := [.nilFunc], sh := .one (.sc .any) }
def ti27 : TI := { k := .slice 61, size := 1, bytes := 24, zero := [.slice none 0 0], sh := .one (.sc .slice) }
def ti28 : TI := { k := .func, size := 1, bytes := 8, zero := [.nilFunc], sh := .one (.sc .any) }
def ti29 : TI := { k := .slice 54, size := 1, bytes := 24, zero := [.slice none 0 0], sh := .one (.sc .slice) }
def ti30 : TI := { k := .func, size := 1, bytes := 8, zero := [.nilFunc], sh := .one (.sc .any) }
def ti31 : TI := { k := .ptr 158, size := 1, bytes := 8, zero := [.pointer none], sh := .one (.sc .ptr) }
def ti32 : TI := { k := .ptr 168, size := 1, bytes := 8, zero := [.pointer none], sh := .one (.sc .ptr) }
def ti33 : TI := { k := .ptr 110, size := 1, bytes := 8, zero := [.pointer none], sh := .one (.sc .ptr) }
def ti34 : TI := { k := .ptr 170, size := 1, bytes := 8, zero := [.pointer none], sh := .one (.sc .ptr) }
def ti35 : TI := { k := .ptr 86, size := 1, bytes := 8, zero := [.pointer none], sh := .one (.sc .ptr) }
def ti36 : TI := { k := .struct [(0, 3), (1, 3), (2, 3), (3, 3), (4, 3), (5, 3), (6, 3), (7, 3)], size := 8, bytes := 64, zero := [.int .i64 0, .int .i64 0, .int .i64 0, .int .i64 0, .int .i64 0, .int .i64 0, .int .i64 0, .int .i64 0], sh := .one (.agg [.int .i64, .int .i64, .int .i64, .int .i64, .int .i64, .int .i64, .int .i64, .int .i64]) }
def ti37 : TI := { k := .struct [(0, 3), (1, 3), (2, 3), (3, 3), (4, 3), (5, 3), (6, 3), (7, 3)], size := 8, bytes := 64, zero := [.int .i64 0, .int .i64 0, .int .i64 0, .int .i64 0, .int .i64 0, .int .i64 0, .int .i64 0, .int .i64 0], sh := .one (.agg [.int .i64, .int .i64, .int .i64, .int .i64, .int .i64, .int .i64, .int .i64, .int .i64]) }
def ti38 : TI := { k := .struct [(0, 31), (1, 32), (2, 33), (3, 34), (4, 35), (5, 37), (13, 22)], size := 14, bytes := 128, zero := [.pointer none, .pointer none, .pointer none, .pointer none, .pointer none, .int .i64 0, .int .i64 0, .int .i64 0, .int .i64 0, .int .i64 0, .int .i64 0, .int .i64 0, .int .i64 0, .slice none 0 0], sh := .one (.agg [.ptr, .ptr, .ptr, .ptr, .ptr, .int .i64, .int .i64, .int .i64, .int .i64, .int .i64, .int .i64, .int .i64, .int .i64, .slice]) }
def ti39 : TI := { k := .struct [(0, 31), (1, 32), (2, 33), (3, 34), (4, 35), (5, 37), (13, 22)], size := 14, bytes := 128, zero := [.pointer none, .pointer none, .pointer none, .pointer none, .pointer none, .int .i64 0, .int .i64 0, .int .i64 0, .int .i64 0, .int .i64 0, .int .i64 0, .int .i64 0, .int .i64 0, .slice none 0 0], sh := .one (.agg [.ptr, .ptr, .ptr, .ptr, .ptr, .int .i64, .int .i64, .int .i64, .int .i64, .int .i64, .int .i64, .int .i64, .int .i64, .slice]) }
def ti40 : TI := { k := .other, size := 1, bytes := 0, zero := [.tuple #[.agg #[.pointer none, .pointer none, .pointer none, .pointer none, .pointer none, .int .i64 0, .int .i64 0, .int .i64 0, .int .i64 0, .int .i64 0, .int .i64 0, .int .i64 0, .int .i64 0, .slice none 0 0], .bool false]], sh := .tup [.agg [.ptr, .ptr, .ptr, .ptr, .ptr, .int .i64, .int .i64, .int .i64, .int .i64, .int .i64, .int .i64, .int .i64, .int .i64, .slice], .sc .bool] }
def ti41 : TI := { k := .func, size := 1, bytes := 8, zero := [.nilFunc], sh := .one (.sc .any) }
def ti42 : TI := { k := .func, size := 1, bytes := 8, zero := [.nilFunc], sh := .one (.sc .any) }
def ti43 : TI := { k := .other, size := 1, bytes := 0, zero := [.tuple #[.int .i64 0, .bool false, .bool false]], sh := .tup [.sc (.int .i64), .sc .bool, .sc .bool] }
def ti44 : TI := { k := .func, size := 1, bytes := 8, zero := [.nilFunc], sh := .one (.sc .any) }
def ti45 : TI := { k := .int .i64, size := 1, bytes := 8, zero := [.int .i64 0], sh := .one (.sc (.int .i64)) }
def ti46 : TI := { k := .other, size := 1, bytes := 0, zero := [.tuple #[.int .i64 0, .int .i64 0]], sh := .tup [.sc (.int .i64), .sc (.int .i64)] }
def ti47 : TI := { k := .func, size := 1, bytes := 8, zero := [.nilFunc], sh := .one (.sc .any) }
def ti48 : TI := { k := .func, size := 1, bytes := 8, zero := [.nilFunc], sh := .one (.sc .any) }
def ti49 : TI := { k := .func, size := 1, bytes := 8, zero := [.nilFunc], sh := .one (.sc .any) }
def ti50 : TI := { k := .func, size := 1, bytes := 8, zero := [.nilFunc], sh := .one (.sc .any) }
def ti51 : TI := { k := .other, size := 1, bytes := 0, zero := [.tuple #[.slice none 0 0, .int .i64 0]], sh := .tup [.sc .slice, .sc (.int .i64)] }
def ti52 : TI := { k := .func, size := 1, bytes := 8, zero := [.nilFunc], sh := .one (.sc .any) }
def ti53 : TI := { k := .struct [(0, 22), (1, 3)], size := 2, bytes := 32, zero := [.slice none 0 0, .int .i64 0], sh := .one (.agg [.slice, .int .i64]) }
def ti54 : TI := { k := .struct [(0, 22), (1, 3)], size := 2, bytes := 32, zero := [.slice none 0 0, .int .i64 0], sh := .one (.agg [.slice, .int .i64]) }
def ti55 : TI := { k := .func, size := 1, bytes := 8, zero := [.nilFunc], sh := .one (.sc .any) }
def ti56 : TI := { k := .other, size := 1, bytes := 0, zero := [.tuple #[.int .i64 0, .bool false, .int .i64 0]], sh := .tup [.sc (.int .i64), .sc .bool, .sc (.int .i64)] }
def ti57 : TI := { k := .func, size := 1, bytes := 8, zero := [.nilFunc], sh := .one (.sc .any) }
def ti58 : TI := { k := .func, size := 1, bytes := 8, zero := [.nilFunc], sh := .one (.sc .any) }
def ti59 : TI := { k := .func, size := 1, bytes := 8, zero := [.nilFunc], sh := .one (.sc .any) }
def ti60 : TI := { k := .struct [(0, 3), (1, 4), (2, 22), (3, 3), (4, 3), (5, 29)], size := 6, bytes := 80, zero := [.int .i64 0, .bool false, .slice none 0 0, .int .i64 0, .int .i64 0, .slice none 0 0], sh := .one (.agg [.int .i64, .bool, .slice, .int .i64, .int .i64, .slice]) }
def ti61 : TI := { k := .struct [(0, 3), (1, 4), (2, 22), (3, 3), (4, 3), (5, 29)], size := 6, bytes := 80, zero := [.int .i64 0, .bool false, .slice none 0 0, .int .i64 0, .int .i64 0, .slice none 0 0], sh := .one (.agg [.int .i64, .bool, .slice, .int .i64, .int .i64, .slice]) }
def ti62 : TI := { k := .func, size := 1, bytes := 8, zero := [.nilFunc], sh := .one (.sc .any) }
def ti63 : TI := { k := .other, size := 1, bytes := 0, zero := [.tuple #[.slice none 0 0, .int .i64 0]], sh := .tup [.sc .slice, .sc (.int .i64)] }
def ti64 : TI := { k := .func, size := 1, bytes := 8, zero := [.nilFunc], sh := .one (.sc .any) }
def ti65 : TI := { k := .other, size := 1, bytes := 0, zero := [.tuple #[.int .i64 0, .slice none 0 0, .int .i64 0]], sh := .tup [.sc (.int .i64), .sc .slice, .sc (.int .i64)] }
def ti66 : TI := { k := .func, size := 1, bytes := 8, zero := [.nilFunc], sh := .one (.sc .any) }
def ti67 : TI := { k := .func, size := 1, bytes := 8, zero := [.nilFunc], sh := .one (.sc .any) }
def ti68 : TI := { k := .func, size := 1, bytes := 8, zero := [.nilFunc], sh := .one (.sc .any) }
def ti69 : TI := { k := .func, size := 1, bytes := 8, zero := [.nilFunc], sh := .one (.sc .any) }
def ti70 : TI := { k := .func, size := 1, bytes := 8, zero := [.nilFunc], sh := .one (.sc .any) }
def ti71 : TI := { k := .func, size := 1, bytes := 8, zero := [.nilFunc], sh := .one (.sc .any) }
def ti72 : TI := { k := .func, size := 1, bytes := 8, zero := [.nilFunc], sh := .one (.sc .any) }
def ti73 : TI := { k := .func, size := 1, bytes := 8, zero := [.nilFunc], sh := .one (.sc .any) }
def ti74 : TI := { k := .func, size := 1, bytes := 8, zero := [.nilFunc], sh := .one (.sc .any) }
def ti75 : TI := { k := .func, size := 1, bytes := 8, zero := [.nilFunc], sh := .one (.sc .any) }
def ti76 : TI := { k := .other, size := 1, bytes := 0, zero := [.tuple #[.agg #[.int .i64 0, .int .i64 0, .int .i64 0, .int .i64 0, .int .i64 0, .int .i64 0, .int .i64 0, .int .i64 0], .int .i64 0]], sh := .tup [.agg [.int .i64, .int .i64, .int .i64, .int .i64, .int .i64, .int .i64, .int .i64, .int .i64], .sc (.int .i64)] }
def ti77 : TI := { k := .func, size := 1, bytes := 8, zero := [.nilFunc], sh := .one (.sc .any) }
def ti78 : TI := { k := .func, size := 1, bytes := 8, zero := [.nilFunc], sh := .one (.sc .any) }
def ti79 : TI := { k := .ptr 161, size := 1, bytes := 8, zero := [.pointer none], sh := .one (.sc .ptr) }
def ti80 : TI := { k := .func, size := 1, bytes := 8, zero := [.nilFunc], sh := .one (.sc .any) }
def ti81 : TI := { k := .func, size := 1, bytes := 8, zero := [.nilFunc], sh := .one (.sc .any) }
def ti82 : TI := { k := .func, size := 1, bytes := 8, zero := [.nilFunc], sh := .one (.sc .any) }
def ti83 : TI := { k := .func, size := 1, bytes := 8, zero := [.nilFunc], sh := .one (.sc .any) }
def ti84 : TI := { k := .slice 282, size := 1, bytes := 24, zero := [.slice none 0 0], sh := .one (.sc .slice) }
def ti85 : TI := { k := .struct [(0, 79), (1, 37), (9, 84)], size := 10, bytes := 96, zero := [.pointer none, .int .i64 0, .int .i64 0, .int .i64 0, .int .i64 0, .int .i64 0, .int .i64 0, .int .i64 0, .int .i64 0, .slice none 0 0], sh := .one (.agg [.ptr, .int .i64, .int .i64, .int .i64, .int .i64, .int .i64, .int .i64, .int .i64, .int .i64, .slice]) }
def ti86 : TI := { k := .struct [(0, 79), (1, 37), (9, 84)], size := 10, bytes := 96, zero := [.pointer none, .int .i64 0, .int .i64 0, .int .i64 0, .int .i64 0, .int .i64 0, .int .i64 0, .int .i64 0, .int .i64 0, .slice none 0 0], sh := .one (.agg [.ptr, .int .i64, .int .i64, .int .i64, .int .i64, .int .i64, .int .i64, .int .i64, .int .i64, .slice]) }
def ti87 : TI := { k := .func, size := 1, bytes := 8, zero := [.nilFunc], sh := .one (.sc .any) }
def ti88 : TI := { k := .slice 89, size := 1, bytes := 24, zero := [.slice none 0 0], sh := .one (.sc .slice) }
def ti89 : TI := { k := .ptr 94, size := 1, bytes := 8, zero := [.pointer none], sh := .one (.sc .ptr) }
def ti90 : TI := { k := .func, size := 1, bytes := 8, zero := [.nilFunc], sh := .one (.sc .any) }
def ti91 : TI := { k := .struct [(0, 3), (1, 89)], size := 2, bytes := 16, zero := [.int .i64 0, .pointer none], sh := .one (.agg [.int .i64, .ptr]) }
def ti92 : TI := { k := .struct [(0, 3), (1, 89)], size := 2, bytes := 16, zero := [.int .i64 0, .pointer none], sh := .one (.agg [.int .i64, .ptr]) }
def ti93 : TI := { k := .struct [(0, 22), (1, 3), (2, 92), (4, 92)], size := 6, bytes := 64, zero := [.slice none 0 0, .int .i64 0, .int .i64 0, .pointer none, .int .i64 0, .pointer none], sh := .one (.agg [.slice, .int .i64, .int .i64, .ptr, .int .i64, .ptr]) }
def ti94 : TI := { k := .struct [(0, 22), (1, 3), (2, 92), (4, 92)], size := 6, bytes := 64, zero := [.slice none 0 0, .int .i64 0, .int .i64 0, .pointer none, .int .i64 0, .pointer none], sh := .one (.agg [.slice, .int .i64, .int .i64, .ptr, .int .i64, .ptr]) }
def ti95 : TI := { k := .func, size := 1, bytes := 8, zero := [.nilFunc], sh := .one (.sc .any) }
def ti96 : TI := { k := .func, size := 1, bytes := 8, zero := [.nilFunc], sh := .one (.sc .any) }
def ti97 : TI := { k := .func, size := 1, bytes := 8, zero := [.nilFunc], sh := .one (.sc .any) }
def ti98 : TI := { k := .func, size := 1, bytes := 8, zero := [.nilFunc], sh := .one (.sc .any) }
def ti99 : TI := { k := .struct [(0, 22), (1, 22), (2, 22)], size := 3, bytes := 72, zero := [.slice none 0 0, .slice none 0 0, .slice none 0 0], sh := .one (.agg [.slice, .slice, .slice]) }
def ti100 : TI := { k := .struct [(0, 22), (1, 22), (2, 22)], size := 3, bytes := 72, zero := [.slice none 0 0, .slice none 0 0, .slice none 0 0], sh := .one (.agg [.slice, .slice, .slice]) }
def ti101 : TI := { k := .struct [(0, 3), (1, 89), (2, 100), (5, 4)], size := 6, bytes := 96, zero := [.int .i64 0, .pointer none, .slice none 0 0, .slice none 0 0, .slice none 0 0, .bool false], sh := .one (.agg [.int .i64, .ptr, .slice, .slice, .slice, .bool]) }
def ti102 : TI := { k := .struct [(0, 3), (1, 89), (2, 100), (5, 4)], size := 6, bytes := 96, zero := [.int .i64 0, .pointer none, .slice none 0 0, .slice none 0 0, .slice none 0 0, .bool false], sh := .one (.agg [.int .i64, .ptr, .slice, .slice, .slice, .bool]) }
def ti103 : TI := { k := .slice 102, size := 1, bytes := 24, zero := [.slice none 0 0], sh := .one (.sc .slice) }
def ti104 : TI := { k := .other, size := 1, bytes := 0, zero := [.tuple #[.slice none 0 0, .bool false, .int .i64 0]], sh := .tup [.sc .slice, .sc .bool, .sc (.int .i64)] }
def ti105 : TI := { k := .func, size := 1, bytes := 8, zero := [.nilFunc], sh := .one (.sc .any) }
def ti106 : TI := { k := .func, size := 1, bytes := 8, zero := [.nilFunc], sh := .one (.sc .any) }
def ti107 : TI := { k := .func, size := 1, bytes := 8, zero := [.nilFunc], sh := .one (.sc .any) }
def ti108 : TI := { k := .slice 112, size := 1, bytes := 24, zero := [.slice none 0 0], sh := .one (.sc .slice) }
def ti109 : TI := { k := .struct [(0, 31), (1, 37), (9, 107), (10, 108)], size := 11, bytes := 104, zero := [.pointer none, .int .i64 0, .int .i64 0, .int .i64 0, .int .i64 0, .int .i64 0, .int .i64 0, .int .i64 0, .int .i64 0, .nilFunc, .slice none 0 0], sh := .one (.agg [.ptr, .int .i64, .int .i64, .int .i64, .int .i64, .int .i64, .int .i64, .int .i64, .int .i64, .any, .slice]) }
def ti110 : TI := { k := .struct [(0, 31), (1, 37), (9, 107), (10, 108)], size := 11, bytes := 104, zero := [.pointer none, .int .i64 0, .int .i64 0, .int .i64 0, .int .i64 0, .int .i64 0, .int .i64 0, .int .i64 0, .int .i64 0, .nilFunc, .slice none 0 0], sh := .one (.agg [.ptr, .int .i64, .int .i64, .int .i64, .int .i64, .int .i64, .int .i64, .int .i64, .int .i64, .any, .slice]) }
def ti111 : TI := { k := .struct [(0, 3), (1, 3)], size := 2, bytes := 16, zero := [.int .i64 0, .int .i64 0], sh := .one (.agg [.int .i64, .int .i64]) }
def ti112 : TI := { k := .struct [(0, 3), (1, 3)], size := 2, bytes := 16, zero := [.int .i64 0, .int .i64 0], sh := .one (.agg [.int .i64, .int .i64]) }
def ti113 : TI := { k := .func, size := 1, bytes := 8, zero := [.nilFunc], sh := .one (.sc .any) }
def ti114 : TI := { k := .func, size := 1, bytes := 8, zero := [.nilFunc], sh := .one (.sc .any) }
def ti115 : TI := { k := .func, size := 1, bytes := 8, zero := [.nilFunc], sh := .one (.sc .any) }
def ti116 : TI := { k := .func, size := 1, bytes := 8, zero := [.nilFunc], sh := .one (.sc .any) }
def ti117 : TI := { k := .func, size := 1, bytes := 8, zero := [.nilFunc], sh := .one (.sc .any) }
def ti118 : TI := { k := .func, size := 1, bytes := 8, zero := [.nilFunc], sh := .one (.sc .any) }
def ti119 : TI := { k := .func, size := 1, bytes := 8, zero := [.nilFunc], sh := .one (.sc .any) }
def ti120 : TI := { k := .func, size := 1, bytes := 8, zero := [.nilFunc], sh := .one (.sc .any) }
def ti121 : TI := { k := .func, size := 1, bytes := 8, zero := [.nilFunc], sh := .one (.sc .any) }
def ti122 : TI := { k := .ptr 92, size := 1, bytes := 8, zero := [.pointer none], sh := .one (.sc .ptr) }
def ti123 : TI := { k := .func, size := 1, bytes := 8, zero := [.nilFunc], sh := .one (.sc .any) }
def ti124 : TI := { k := .struct [(0, 92), (2, 22), (3, 22)], size := 4, bytes := 64, zero := [.int .i64 0, .pointer none, .slice none 0 0, .slice none 0 0], sh := .one (.agg [.int .i64, .ptr, .slice, .slice]) }
def ti125 : TI := { k := .struct [(0, 92), (2, 22), (3, 22)], size := 4, bytes := 64, zero := [.int .i64 0, .pointer none, .slice none 0 0, .slice none 0 0], sh := .one (.agg [.int .i64, .ptr, .slice, .slice]) }
def ti126 : TI := { k := .other, size := 1, bytes := 0, zero := [.tuple #[.agg #[.int .i64 0, .pointer none, .slice none 0 0, .slice none 0 0], .int .i64 0]], sh := .tup [.agg [.int .i64, .ptr, .slice, .slice], .sc (.int .i64)] }
def ti127 : TI := { k := .func, size := 1, bytes := 8, zero := [.nilFunc], sh := .one (.sc .any) }
def ti128 : TI := { k := .func, size := 1, bytes := 8, zero := [.nilFunc], sh := .one (.sc .any) }
def ti129 : TI := { k := .func, size := 1, bytes := 8, zero := [.nilFunc], sh := .one (.sc .any) }
def ti130 : TI := { k := .func, size := 1, bytes := 8, zero := [.nilFunc], sh := .one (.sc .any) }
def ti131 : TI := { k := .struct [(0, 3), (1, 3), (2, 3), (3, 3)], size := 4, bytes := 32, zero := [.int .i64 0, .int .i64 0, .int .i64 0, .int .i64 0], sh := .one (.agg [.int .i64, .int .i64, .int .i64, .int .i64]) }
def ti132 : TI := { k := .struct [(0, 3), (1, 3), (2, 3), (3, 3)], size := 4, bytes := 32, zero := [.int .i64 0, .int .i64 0, .int .i64 0, .int .i64 0], sh := .one (.agg [.int .i64, .int .i64, .int .i64, .int .i64]) }
def ti133 : TI := { k := .other, size := 1, bytes := 0, zero := [.tuple #[.agg #[.int .i64 0, .int .i64 0, .int .i64 0, .int .i64 0], .int .i64 0]], sh := .tup [.agg [.int .i64, .int .i64, .int .i64, .int .i64], .sc (.int .i64)] }
def ti134 : TI := { k := .func, size := 1, bytes := 8, zero := [.nilFunc], sh := .one (.sc .any) }
def ti135 : TI := { k := .func, size := 1, bytes := 8, zero := [.nilFunc], sh := .one (.sc .any) }
def ti136 : TI := { k := .func, size := 1, bytes := 8, zero := [.nilFunc], sh := .one (.sc .any) }
def ti137 : TI := { k := .func, size := 1, bytes := 8, zero := [.nilFunc], sh := .one (.sc .any) }
def ti138 : TI := { k := .int .u64, size := 1, bytes := 8, zero := [.int .u64 0], sh := .one (.sc (.int .u64)) }
def ti139 : TI := { k := .struct [(0, 138)], size := 1, bytes := 8, zero := [.int .u64 0], sh := .one (.agg [.int .u64]) }
def ti140 : TI := { k := .struct [(0, 138)], size := 1, bytes := 8, zero := [.int .u64 0], sh := .one (.agg [.int .u64]) }
def ti141 : TI := { k := .func, size := 1, bytes := 8, zero := [.nilFunc], sh := .one (.sc .any) }
def ti142 : TI := { k := .func, size := 1, bytes := 8, zero := [.nilFunc], sh := .one (.sc .any) }
def ti143 : TI := { k := .func, size := 1, bytes := 8, zero := [.nilFunc], sh := .one (.sc .any) }
def ti144 : TI := { k := .func, size := 1, bytes := 8, zero := [.nilFunc], sh := .one (.sc .any) }
def ti145 : TI := { k := .slice 5, size := 1, bytes := 24, zero := [.slice none 0 0], sh := .one (.sc .slice) }
def ti146 : TI := { k := .func, size := 1, bytes := 8, zero := [.nilFunc], sh := .one (.sc .any) }
def ti147 : TI := { k := .slice 154, size := 1, bytes := 24, zero := [.slice none 0 0], sh := .one (.sc .slice) }
def ti148 : TI := { k := .func, size := 1, bytes := 8, zero := [.nilFunc], sh := .one (.sc .any) }
def ti149 : TI := { k := .arr 8 3, size := 8, bytes := 64, zero := [.int .i64 0, .int .i64 0, .int .i64 0, .int .i64 0, .int .i64 0, .int .i64 0, .int .i64 0, .int .i64 0], sh := .one (.agg [.int .i64, .int .i64, .int .i64, .int .i64, .int .i64, .int .i64, .int .i64, .int .i64]) }
def ti150 : TI := { k := .struct [(0, 149), (8, 3)], size := 9, bytes := 72, zero := [.int .i64 0, .int .i64 0, .int .i64 0, .int .i64 0, .int .i64 0, .int .i64 0, .int .i64 0, .int .i64 0, .int .i64 0], sh := .one (.agg [.int .i64, .int .i64, .int .i64, .int .i64, .int .i64, .int .i64, .int .i64, .int .i64, .int .i64]) }
def ti151 : TI := { k := .struct [(0, 149), (8, 3)], size := 9, bytes := 72, zero := [.int .i64 0, .int .i64 0, .int .i64 0, .int .i64 0, .int .i64 0, .int .i64 0, .int .i64 0, .int .i64 0, .int .i64 0], sh := .one (.agg [.int .i64, .int .i64, .int .i64, .int .i64, .int .i64, .int .i64, .int .i64, .int .i64, .int .i64]) }
def ti152 : TI := { k := .slice 244, size := 1, bytes := 24, zero := [.slice none 0 0], sh := .one (.sc .slice) }
def ti153 : TI := { k := .struct [(0, 151), (9, 152), (10, 3)], size := 11, bytes := 104, zero := [.int .i64 0, .int .i64 0, .int .i64 0, .int .i64 0, .int .i64 0, .int .i64 0, .int .i64 0, .int .i64 0, .int .i64 0, .slice none 0 0, .int .i64 0], sh := .one (.agg [.int .i64, .int .i64, .int .i64, .int .i64, .int .i64, .int .i64, .int .i64, .int .i64, .int .i64, .slice, .int .i64]) }
def ti154 : TI := { k := .struct [(0, 151), (9, 152), (10, 3)], size := 11, bytes := 104, zero := [.int .i64 0, .int .i64 0, .int .i64 0, .int .i64 0, .int .i64 0, .int .i64 0, .int .i64 0, .int .i64 0, .int .i64 0, .slice none 0 0, .int .i64 0], sh := .one (.agg [.int .i64, .int .i64, .int .i64, .int .i64, .int .i64, .int .i64, .int .i64, .int .i64, .int .i64, .slice, .int .i64]) }
def ti155 : TI := { k := .map 3 4, size := 1, bytes := 8, zero := [.map none], sh := .one (.sc .map) }
def ti156 : TI := { k := .slice 240, size := 1, bytes := 24, zero := [.slice none 0 0], sh := .one (.sc .slice) }
def ti157 : TI := { k := .struct [(0, 147), (1, 155), (2, 3), (3, 156)], size := 4, bytes := 64, zero := [.slice none 0 0, .map none, .int .i64 0, .slice none 0 0], sh := .one (.agg [.slice, .map, .int .i64, .slice]) }
def ti158 : TI := { k := .struct [(0, 147), (1, 155), (2, 3), (3, 156)], size := 4, bytes := 64, zero := [.slice none 0 0, .map none, .int .i64 0, .slice none 0 0], sh := .one (.agg [.slice, .map, .int .i64, .slice]) }
def ti159 : TI := { k := .slice 163, size := 1, bytes := 24, zero := [.slice none 0 0], sh := .one (.sc .slice) }
def ti160 : TI := { k := .struct [(0, 159), (1, 3), (2, 156)], size := 3, bytes := 56, zero := [.slice none 0 0, .int .i64 0, .slice none 0 0], sh := .one (.agg [.slice, .int .i64, .slice]) }
def ti161 : TI := { k := .struct [(0, 159), (1, 3), (2, 156)], size := 3, bytes := 56, zero := [.slice none 0 0, .int .i64 0, .slice none 0 0], sh := .one (.agg [.slice, .int .i64, .slice]) }
def ti162 : TI := { k := .struct [(0, 149), (8, 3), (9, 152), (10, 3)], size := 11, bytes := 104, zero := [.int .i64 0, .int .i64 0, .int .i64 0, .int .i64 0, .int .i64 0, .int .i64 0, .int .i64 0, .int .i64 0, .int .i64 0, .slice none 0 0, .int .i64 0], sh := .one (.agg [.int .i64, .int .i64, .int .i64, .int .i64, .int .i64, .int .i64, .int .i64, .int .i64, .int .i64, .slice, .int .i64]) }
def ti163 : TI := { k := .struct [(0, 149), (8, 3), (9, 152), (10, 3)], size := 11, bytes := 104, zero := [.int .i64 0, .int .i64 0, .int .i64 0, .int .i64 0, .int .i64 0, .int .i64 0, .int .i64 0, .int .i64 0, .int .i64 0, .slice none 0 0, .int .i64 0], sh := .one (.agg [.int .i64, .int .i64, .int .i64, .int .i64, .int .i64, .int .i64, .int .i64, .int .i64, .int .i64, .slice, .int .i64]) }
def ti164 : TI := { k := .struct [(0, 31)], size := 1, bytes := 8, zero := [.pointer none], sh := .one (.agg [.ptr]) }
def ti165 : TI := { k := .struct [(0, 31)], size := 1, bytes := 8, zero := [.pointer none], sh := .one (.agg [.ptr]) }
def ti166 : TI := { k := .slice 188, size := 1, bytes := 24, zero := [.slice none 0 0], sh := .one (.sc .slice) }
def ti167 : TI := { k := .struct [(0, 165), (1, 166)], size := 2, bytes := 32, zero := [.pointer none, .slice none 0 0], sh := .one (.agg [.ptr, .slice]) }
def ti168 : TI := { k := .struct [(0, 165), (1, 166)], size := 2, bytes := 32, zero := [.pointer none, .slice none 0 0], sh := .one (.agg [.ptr, .slice]) }
def ti169 : TI := { k := .struct [(0, 79), (1, 166)], size := 2, bytes := 32, zero := [.pointer none, .slice none 0 0], sh := .one (.agg [.ptr, .slice]) }
def ti170 : TI := { k := .struct [(0, 79), (1, 166)], size := 2, bytes := 32, zero := [.pointer none, .slice none 0 0], sh := .one (.agg [.ptr, .slice]) }
def ti171 : TI := { k := .func, size := 1, bytes := 8, zero := [.nilFunc], sh := .one (.sc .any) }
def ti172 : TI := { k := .func, size := 1, bytes := 8, zero := [.nilFunc], sh := .one (.sc .any) }
def ti173 : TI := { k := .func, size := 1, bytes := 8, zero := [.nilFunc], sh := .one (.sc .any) }
def ti174 : TI := { k := .func, size := 1, bytes := 8, zero := [.nilFunc], sh := .one (.sc .any) }
def ti175 : TI := { k := .func, size := 1, bytes := 8, zero := [.nilFunc], sh := .one (.sc .any) }
def ti176 : TI := { k := .other, size := 1, bytes := 0, zero := [.tuple #[.pointer none, .int .i64 0]], sh := .tup [.sc .ptr, .sc (.int .i64)] }
def ti177 : TI := { k := .func, size := 1, bytes := 8, zero := [.nilFunc], sh := .one (.sc .any) }
def ti178 : TI := { k := .func, size := 1, bytes := 8, zero := [.nilFunc], sh := .one (.sc .any) }
def ti179 : TI := { k := .func, size := 1, bytes := 8, zero := [.nilFunc], sh := .one (.sc .any) }
def ti180 : TI := { k := .slice 22, size := 1, bytes := 24, zero := [.slice none 0 0], sh := .one (.sc .slice) }
def ti181 : TI := { k := .func, size := 1, bytes := 8, zero := [.nilFunc], sh := .one (.sc .any) }
def ti182 : TI := { k := .func, size := 1, bytes := 8, zero := [.nilFunc], sh := .one (.sc .any) }
def ti183 : TI := { k := .func, size := 1, bytes := 8, zero := [.nilFunc], sh := .one (.sc .any) }
def ti184 : TI := { k := .func, size := 1, bytes := 8, zero := [.nilFunc], sh := .one (.sc .any) }
def ti185 : TI := { k := .func, size := 1, bytes := 8, zero := [.nilFunc], sh := .one (.sc .any) }
def ti186 : TI := { k := .func, size := 1, bytes := 8, zero := [.nilFunc], sh := .one (.sc .any) }
def ti187 : TI := { k := .struct [(0, 3), (1, 3)], size := 2, bytes := 16, zero := [.int .i64 0, .int .i64 0], sh := .one (.agg [.int .i64, .int .i64]) }
def ti188 : TI := { k := .struct [(0, 3), (1, 3)], size := 2, bytes := 16, zero := [.int .i64 0, .int .i64 0], sh := .one (.agg [.int .i64, .int .i64]) }
def ti189 : TI := { k := .int .u64, size := 1, bytes := 8, zero := [.int .u64 0], sh := .one (.sc (.int .u64)) }
def ti190 : TI := { k := .arr 16 138, size := 16, bytes := 128, zero := [.int .u64 0, .int .u64 0, .int .u64 0, .int .u64 0, .int .u64 0, .int .u64 0, .int .u64 0, .int .u64 0, .int .u64 0, .int .u64 0, .int .u64 0, .int .u64 0, .int .u64 0, .int .u64 0, .int .u64 0, .int .u64 0], sh := .one (.agg [.int .u64, .int .u64, .int .u64, .int .u64, .int .u64, .int .u64, .int .u64, .int .u64, .int .u64, .int .u64, .int .u64, .int .u64, .int .u64, .int .u64, .int .u64, .int .u64]) }
def ti191 : TI := { k := .func, size := 1, bytes := 8, zero := [.nilFunc], sh := .one (.sc .any) }
def ti192 : TI := { k := .func, size := 1, bytes := 8, zero := [.nilFunc], sh := .one (.sc .any) }
def ti193 : TI := { k := .func, size := 1, bytes := 8, zero := [.nilFunc], sh := .one (.sc .any) }
def ti194 : TI := { k := .other, size := 1, bytes := 0, zero := [.tuple #[.int .i64 0, .int .i64 0]], sh := .tup [.sc (.int .i64), .sc (.int .i64)] }
def ti195 : TI := { k := .func, size := 1, bytes := 8, zero := [.nilFunc], sh := .one (.sc .any) }
def ti196 : TI := { k := .func, size := 1, bytes := 8, zero := [.nilFunc], sh := .one (.sc .any) }
def ti197 : TI := { k := .func, size := 1, bytes := 8, zero := [.nilFunc], sh := .one (.sc .any) }
def ti198 : TI := { k := .func, size := 1, bytes := 8, zero := [.nilFunc], sh := .one (.sc .any) }
def ti199 : TI := { k := .func, size := 1, bytes := 8, zero := [.nilFunc], sh := .one (.sc .any) }
def ti200 : TI := { k := .func, size := 1, bytes := 8, zero := [.nilFunc], sh := .one (.sc .any) }
def ti201 : TI := { k := .struct [(0, 3), (1, 3), (2, 3)], size := 3, bytes := 24, zero := [.int .i64 0, .int .i64 0, .int .i64 0], sh := .one (.agg [.int .i64, .int .i64, .int .i64]) }
def ti202 : TI := { k := .struct [(0, 3), (1, 3), (2, 3)], size := 3, bytes := 24, zero := [.int .i64 0, .int .i64 0, .int .i64 0], sh := .one (.agg [.int .i64, .int .i64, .int .i64]) }
def ti203 : TI := { k := .other, size := 1, bytes := 0, zero := [.tuple #[.agg #[.int .i64 0, .int .i64 0, .int .i64 0], .int .i64 0]], sh := .tup [.agg [.int .i64, .int .i64, .int .i64], .sc (.int .i64)] }
def ti204 : TI := { k := .func, size := 1, bytes := 8, zero := [.nilFunc], sh := .one (.sc .any) }
def ti205 : TI := { k := .func, size := 1, bytes := 8, zero := [.nilFunc], sh := .one (.sc .any) }
def ti206 : TI := { k := .func, size := 1, bytes := 8, zero := [.nilFunc], sh := .one (.sc .any) }
def ti207 : TI := { k := .func, size := 1, bytes := 8, zero := [.nilFunc], sh := .one (.sc .any) }
def ti208 : TI := { k := .func, size := 1, bytes := 8, zero := [.nilFunc], sh := .one (.sc .any) }
def ti209 : TI := { k := .func, size := 1, bytes := 8, zero := [.nilFunc], sh := .one (.sc .any) }
def ti210 : TI := { k := .func, size := 1, bytes := 8, zero := [.nilFunc], sh := .one (.sc .any) }
def ti211 : TI := { k := .struct [(0, 3), (1, 3)], size := 2, bytes := 16, zero := [.int .i64 0, .int .i64 0], sh := .one (.agg [.int .i64, .int .i64]) }
def ti212 : TI := { k := .struct [(0, 3), (1, 3)], size := 2, bytes := 16, zero := [.int .i64 0, .int .i64 0], sh := .one (.agg [.int .i64, .int .i64]) }
def ti213 : TI := { k := .arr 2 212, size := 4, bytes := 32, zero := [.int .i64 0, .int .i64 0, .int .i64 0, .int .i64 0], sh := .one (.agg [.int .i64, .int .i64, .int .i64, .int .i64]) }
def ti214 : TI := { k := .func, size := 1, bytes := 8, zero := [.nilFunc], sh := .one (.sc .any) }
def ti215 : TI := { k := .func, size := 1, bytes := 8, zero := [.nilFunc], sh := .one (.sc .any) }
def ti216 : TI := { k := .func, size := 1, bytes := 8, zero := [.nilFunc], sh := .one (.sc .any) }
def ti217 : TI := { k := .func, size := 1, bytes := 8, zero := [.nilFunc], sh := .one (.sc .any) }
def ti218 : TI := { k := .ptr 154, size := 1, bytes := 8, zero := [.pointer none], sh := .one (.sc .ptr) }
def ti219 : TI := { k := .other, size := 1, bytes := 0, zero := [.tuple #[.agg #[.int .i64 0, .int .i64 0, .int .i64 0, .int .i64 0, .int .i64 0, .int .i64 0, .int .i64 0, .int .i64 0], .int .i64 0]], sh := .tup [.agg [.int .i64, .int .i64, .int .i64, .int .i64, .int .i64, .int .i64, .int .i64, .int .i64], .sc (.int .i64)] }
def ti220 : TI := { k := .func, size := 1, bytes := 8, zero := [.nilFunc], sh := .one (.sc .any) }
def ti221 : TI := { k := .func, size := 1, bytes := 8, zero := [.nilFunc], sh := .one (.sc .any) }
def ti222 : TI := { k := .int .u32, size := 1, bytes := 4, zero := [.int .u32 0], sh := .one (.sc (.int .u32)) }
def ti223 : TI := { k := .func, size := 1, bytes := 8, zero := [.nilFunc], sh := .one (.sc .any) }
def ti224 : TI := { k := .func, size := 1, bytes := 8, zero := [.nilFunc], sh := .one (.sc .any) }
def ti225 : TI := { k := .slice 132, size := 1, bytes := 24, zero := [.slice none 0 0], sh := .one (.sc .slice) }
def ti226 : TI := { k := .struct [(0, 22), (1, 225), (2, 22)], size := 3, bytes := 72, zero := [.slice none 0 0, .slice none 0 0, .slice none 0 0], sh := .one (.agg [.slice, .slice, .slice]) }
def ti227 : TI := { k := .struct [(0, 22), (1, 225), (2, 22)], size := 3, bytes := 72, zero := [.slice none 0 0, .slice none 0 0, .slice none 0 0], sh := .one (.agg [.slice, .slice, .slice]) }
def ti228 : TI := { k := .func, size := 1, bytes := 8, zero := [.nilFunc], sh := .one (.sc .any) }
def ti229 : TI := { k := .func, size := 1, bytes := 8, zero := [.nilFunc], sh := .one (.sc .any) }
def ti230 : TI := { k := .other, size := 1, bytes := 0, zero := [.tuple #[.int .i64 0, .bool false]], sh := .tup [.sc (.int .i64), .sc .bool] }
def ti231 : TI := { k := .func, size := 1, bytes := 8, zero := [.nilFunc], sh := .one (.sc .any) }
def ti232 : TI := { k := .func, size := 1, bytes := 8, zero := [.nilFunc], sh := .one (.sc .any) }
def ti233 : TI := { k := .arr 3 3, size := 3, bytes := 24, zero := [.int .i64 0, .int .i64 0, .int .i64 0], sh := .one (.agg [.int .i64, .int .i64, .int .i64]) }
def ti234 : TI := { k := .arr 3 212, size := 6, bytes := 48, zero := [.int .i64 0, .int .i64 0, .int .i64 0, .int .i64 0, .int .i64 0, .int .i64 0], sh := .one (.agg [.int .i64, .int .i64, .int .i64, .int .i64, .int .i64, .int .i64]) }
def ti235 : TI := { k := .other, size := 1, bytes := 0, zero := [.tuple #[.int .i64 0, .int .i64 0, .int .i64 0]], sh := .tup [.sc (.int .i64), .sc (.int .i64), .sc (.int .i64)] }
def ti236 : TI := { k := .func, size := 1, bytes := 8, zero := [.nilFunc], sh := .one (.sc .any) }
def ti237 : TI := { k := .func, size := 1, bytes := 8, zero := [.nilFunc], sh := .one (.sc .any) }
def ti238 : TI := { k := .func, size := 1, bytes := 8, zero := [.nilFunc], sh := .one (.sc .any) }
def ti239 : TI := { k := .struct [(0, 3), (1, 3), (2, 3), (3, 3), (4, 149)], size := 12, bytes := 96, zero := [.int .i64 0, .int .i64 0, .int .i64 0, .int .i64 0, .int .i64 0, .int .i64 0, .int .i64 0, .int .i64 0, .int .i64 0, .int .i64 0, .int .i64 0, .int .i64 0], sh := .one (.agg [.int .i64, .int .i64, .int .i64, .int .i64, .int .i64, .int .i64, .int .i64, .int .i64, .int .i64, .int .i64, .int .i64, .int .i64]) }
def ti240 : TI := { k := .struct [(0, 3), (1, 3), (2, 3), (3, 3), (4, 149)], size := 12, bytes := 96, zero := [.int .i64 0, .int .i64 0, .int .i64 0, .int .i64 0, .int .i64 0, .int .i64 0, .int .i64 0, .int .i64 0, .int .i64 0, .int .i64 0, .int .i64 0, .int .i64 0], sh := .one (.agg [.int .i64, .int .i64, .int .i64, .int .i64, .int .i64, .int .i64, .int .i64, .int .i64, .int .i64, .int .i64, .int .i64, .int .i64]) }
def ti241 : TI := { k := .other, size := 1, bytes := 0, zero := [.tuple #[.agg #[.int .i64 0, .int .i64 0, .int .i64 0, .int .i64 0, .int .i64 0, .int .i64 0, .int .i64 0, .int .i64 0], .int .i64 0, .int .i64 0]], sh := .tup [.agg [.int .i64, .int .i64, .int .i64, .int .i64, .int .i64, .int .i64, .int .i64, .int .i64], .sc (.int .i64), .sc (.int .i64)] }
def ti242 : TI := { k := .func, size := 1, bytes := 8, zero := [.nilFunc], sh := .one (.sc .any) }
def ti243 : TI := { k := .struct [(0, 3), (1, 3)], size := 2, bytes := 16, zero := [.int .i64 0, .int .i64 0], sh := .one (.agg [.int .i64, .int .i64]) }
def ti244 : TI := { k := .struct [(0, 3), (1, 3)], size := 2, bytes := 16, zero := [.int .i64 0, .int .i64 0], sh := .one (.agg [.int .i64, .int .i64]) }
def ti245 : TI := { k := .func, size := 1, bytes := 8, zero := [.nilFunc], sh := .one (.sc .any) }
def ti246 : TI := { k := .func, size := 1, bytes := 8, zero := [.nilFunc], sh := .one (.sc .any) }
def ti247 : TI := { k := .func, size := 1, bytes := 8, zero := [.nilFunc], sh := .one (.sc .any) }
def ti248 : TI := { k := .func, size := 1, bytes := 8, zero := [.nilFunc], sh := .one (.sc .any) }
def ti249 : TI := { k := .func, size := 1, bytes := 8, zero := [.nilFunc], sh := .one (.sc .any) }
def ti250 : TI := { k := .func, size := 1, bytes := 8, zero := [.nilFunc], sh := .one (.sc .any) }
def ti251 : TI := { k := .func, size := 1, bytes := 8, zero := [.nilFunc], sh := .one (.sc .any) }
def ti252 : TI := { k := .func, size := 1, bytes := 8, zero := [.nilFunc], sh := .one (.sc .any) }
def ti253 : TI := { k := .func, size := 1, bytes := 8, zero := [.nilFunc], sh := .one (.sc .any) }
def ti254 : TI := { k := .func, size := 1, bytes := 8, zero := [.nilFunc], sh := .one (.sc .any) }
def ti255 : TI := { k := .struct [(0, 3), (1, 3)], size := 2, bytes := 16, zero := [.int .i64 0, .int .i64 0], sh := .one (.agg [.int .i64, .int .i64]) }
def ti256 : TI := { k := .struct [(0, 3), (1, 3)], size := 2, bytes := 16, zero := [.int .i64 0, .int .i64 0], sh := .one (.agg [.int .i64, .int .i64]) }
def ti257 : TI := { k := .other, size := 1, bytes := 0, zero := [.tuple #[.agg #[.int .i64 0, .int .i64 0, .int .i64 0, .int .i64 0, .int .i64 0, .int .i64 0, .int .i64 0, .int .i64 0], .int .i64 0]], sh := .tup [.agg [.int .i64, .int .i64, .int .i64, .int .i64, .int .i64, .int .i64, .int .i64, .int .i64], .sc (.int .i64)] }
def ti258 : TI := { k := .func, size := 1, bytes := 8, zero := [.nilFunc], sh := .one (.sc .any) }
def ti259 : TI := { k := .arr 32 5, size := 32, bytes := 32, zero := [.int .u8 0, .int .u8 0, .int .u8 0, .int .u8 0, .int .u8 0, .int .u8 0, .int .u8 0, .int .u8 0, .int .u8 0, .int .u8 0, .int .u8 0, .int .u8 0, .int .u8 0, .int .u8 0, .int .u8 0, .int .u8 0, .int .u8 0, .int .u8 0, .int .u8 0, .int .u8 0, .int .u8 0, .int .u8 0, .int .u8 0, .int .u8 0, .int .u8 0, .int .u8 0, .int .u8 0, .int .u8 0, .int .u8 0, .int .u8 0, .int .u8 0, .int .u8 0], sh := .one (.agg [.int .u8, .int .u8, .int .u8, .int .u8, .int .u8, .int .u8, .int .u8, .int .u8, .int .u8, .int .u8, .int .u8, .int .u8, .int .u8, .int .u8, .int .u8, .int .u8, .int .u8, .int .u8, .int .u8, .int .u8, .int .u8, .int .u8, .int .u8, .int .u8, .int .u8, .int .u8, .int .u8, .int .u8, .int .u8, .int .u8, .int .u8, .int .u8]) }
def ti260 : TI := { k := .arr 64 5, size := 64, bytes := 64, zero := [.int .u8 0, .int .u8 0, .int .u8 0, .int .u8 0, .int .u8 0, .int .u8 0, .int .u8 0, .int .u8 0, .int .u8 0, .int .u8 0, .int .u8 0, .int .u8 0, .int .u8 0, .int .u8 0, .int .u8 0, .int .u8 0, .int .u8 0, .int .u8 0, .int .u8 0, .int .u8 0, .int .u8 0, .int .u8 0, .int .u8 0, .int .u8 0, .int .u8 0, .int .u8 0, .int .u8 0, .int .u8 0, .int .u8 0, .int .u8 0, .int .u8 0, .int .u8 0, .int .u8 0, .int .u8 0, .int .u8 0, .int .u8 0, .int .u8 0, .int .u8 0, .int .u8 0, .int .u8 0, .int .u8 0, .int .u8 0, .int .u8 0, .int .u8 0, .int .u8 0, .int .u8 0, .int .u8 0, .int .u8 0, .int .u8 0, .int .u8 0, .int .u8 0, .int .u8 0, .int .u8 0, .int .u8 0, .int .u8 0, .int .u8 0, .int .u8 0, .int .u8 0, .int .u8 0, .int .u8 0, .int .u8 0, .int .u8 0, .int .u8 0, .int .u8 0], sh := .one (.agg [.int .u8, .int .u8, .int .u8, .int .u8, .int .u8, .int .u8, .int .u8, .int .u8, .int .u8, .int .u8, .int .u8, .int .u8, .int .u8, .int .u8, .int .u8, .int .u8, .int .u8, .int .u8, .int .u8, .int .u8, .int .u8, .int .u8, .int .u8, .int .u8, .int .u8, .int .u8, .int .u8, .int .u8, .int .u8, .int .u8, .int .u8, .int .u8, .int .u8, .int .u8, .int .u8, .int .u8, .int .u8, .int .u8, .int .u8, .int .u8, .int .u8, .int .u8, .int .u8, .int .u8, .int .u8, .int .u8, .int .u8, .int .u8, .int .u8, .int .u8, .int .u8, .int .u8, .int .u8, .int .u8, .int .u8, .int .u8, .int .u8, .int .u8, .int .u8, .int .u8, .int .u8, .int .u8, .int .u8, .int .u8]) }
def ti261 : TI := { k := .func, size := 1, bytes := 8, zero := [.nilFunc], sh := .one (.sc .any) }
def ti262 : TI := { k := .func, size := 1, bytes := 8, zero := [.nilFunc], sh := .one (.sc .any) }
def ti263 : TI := { k := .func, size := 1, bytes := 8, zero := [.nilFunc], sh := .one (.sc .any) }
def ti264 : TI := { k := .func, size := 1, bytes := 8, zero := [.nilFunc], sh := .one (.sc .any) }
def ti265 : TI := { k := .func, size := 1, bytes := 8, zero := [.nilFunc], sh := .one (.sc .any) }
def ti266 : TI := { k := .func, size := 1, bytes := 8, zero := [.nilFunc], sh := .one (.sc .any) }
def ti267 : TI := { k := .func, size := 1, bytes := 8, zero := [.nilFunc], sh := .one (.sc .any) }
def ti268 : TI := { k := .struct [(0, 17), (1, 17), (2, 17), (3, 9)], size := 4, bytes := 40, zero := [.pointer none, .pointer none, .pointer none, .string ⟨#[]⟩], sh := .one (.agg [.ptr, .ptr, .ptr, .str]) }
def ti269 : TI := { k := .struct [(0, 17), (1, 17), (2, 17), (3, 9)], size := 4, bytes := 40, zero := [.pointer none, .pointer none, .pointer none, .string ⟨#[]⟩], sh := .one (.agg [.ptr, .ptr, .ptr, .str]) }
def ti270 : TI := { k := .arr 0 16, size := 0, bytes := 0, zero := [], sh := .one (.agg []) }
def ti271 : TI := { k := .struct [(0, 270)], size := 0, bytes := 0, zero := [], sh := .one (.agg []) }
def ti272 : TI := { k := .struct [(0, 270)], size := 0, bytes := 0, zero := [], sh := .one (.agg []) }
def ti273 : TI := { k := .int .u8, size := 1, bytes := 1, zero := [.int .u8 0], sh := .one (.sc (.int .u8)) }
def ti274 : TI := { k := .int .u8, size := 1, bytes := 1, zero := [.int .u8 0], sh := .one (.sc (.int .u8)) }
def ti275 : TI := { k := .func, size := 1, bytes := 8, zero := [.nilFunc], sh := .one (.sc .any) }
def ti276 : TI := { k := .ptr 5, size := 1, bytes := 8, zero := [.pointer none], sh := .one (.sc .ptr) }
def ti277 : TI := { k := .int .i32, size := 1, bytes := 4, zero := [.int .i32 0], sh := .one (.sc (.int .i32)) }
def ti278 : TI := { k := .int .i32, size := 1, bytes := 4, zero := [.int .i32 0], sh := .one (.sc (.int .i32)) }
def ti279 : TI := { k := .struct [(0, 12), (1, 12), (2, 222), (3, 273), (4, 5), (5, 5), (6, 274), (7, 275), (8, 276), (9, 277), (10, 278)], size := 11, bytes := 48, zero := [.int .u64 0, .int .u64 0, .int .u32 0, .int .u8 0, .int .u8 0, .int .u8 0, .int .u8 0, .nilFunc, .pointer none, .int .i32 0, .int .i32 0], sh := .one (.agg [.int .u64, .int .u64, .int .u32, .int .u8, .int .u8, .int .u8, .int .u8, .any, .ptr, .int .i32, .int .i32]) }
def ti280 : TI := { k := .struct [(0, 12), (1, 12), (2, 222), (3, 273), (4, 5), (5, 5), (6, 274), (7, 275), (8, 276), (9, 277), (10, 278)], size := 11, bytes := 48, zero := [.int .u64 0, .int .u64 0, .int .u32 0, .int .u8 0, .int .u8 0, .int .u8 0, .int .u8 0, .nilFunc, .pointer none, .int .i32 0, .int .i32 0], sh := .one (.agg [.int .u64, .int .u64, .int .u32, .int .u8, .int .u8, .int .u8, .int .u8, .any, .ptr, .int .i32, .int .i32]) }
def ti281 : TI := { k := .struct [(0, 3), (1, 3)], size := 2, bytes := 16, zero := [.int .i64 0, .int .i64 0], sh := .one (.agg [.int .i64, .int .i64]) }
def ti282 : TI := { k := .struct [(0, 3), (1, 3)], size := 2, bytes := 16, zero := [.int .i64 0, .int .i64 0], sh := .one (.agg [.int .i64, .int .i64]) }

theorem ti0_ok : ti0.ok Tryz.prog 0 := ⟨trivial, Tryz.t0, _, by kernel_rfl, rfl, rfl, rfl, rfl⟩
theorem ti1_ok : ti1.ok Tryz.prog 1 := ⟨⟨_, _, _, Tryz.underlying1⟩, Tryz.t1, _, by kernel_rfl, rfl, rfl, rfl, rfl⟩
theorem ti2_ok : ti2.ok Tryz.prog 2 := ⟨Tryz.underlying2, Tryz.t2, _, by kernel_rfl, rfl, rfl, rfl, rfl⟩
theorem ti3_ok : ti3.ok Tryz.prog 3 := ⟨Tryz.underlying3, Tryz.t3, _, by kernel_rfl, rfl, rfl, rfl, rfl⟩
theorem ti4_ok : ti4.ok Tryz.prog 4 := ⟨Tryz.underlying4, Tryz.t4, _, by kernel_rfl, rfl, rfl, rfl, rfl⟩
theorem ti5_ok : ti5.ok Tryz.prog 5 := ⟨Tryz.underlying5, Tryz.t5, _, by kernel_rfl, rfl, rfl, rfl, rfl⟩
theorem ti6_ok : ti6.ok Tryz.prog 6 := ⟨Tryz.underlying6, Tryz.t6, _, by kernel_rfl, rfl, rfl, rfl, rfl⟩
theorem ti7_ok : ti7.ok Tryz.prog 7 := ⟨⟨_, Tryz.underlying7, rfl⟩, Tryz.t7, _, by kernel_rfl, rfl, rfl, rfl, rfl⟩
theorem ti8_ok : ti8.ok Tryz.prog 8 := ⟨⟨_, Tryz.underlying8, rfl⟩, Tryz.t8, _, by kernel_rfl, rfl, rfl, rfl, rfl⟩
theorem ti9_ok : ti9.ok Tryz.prog 9 := ⟨Tryz.underlying9, Tryz.t9, _, by kernel_rfl, rfl, rfl, rfl, rfl⟩
theorem ti10_ok : ti10.ok Tryz.prog 10 := ⟨Tryz.underlying10, Tryz.t10, _, by kernel_rfl, rfl, rfl, rfl, rfl⟩
theorem ti11_ok : ti11.ok Tryz.prog 11 := ⟨Tryz.underlying11, Tryz.t11, _, by kernel_rfl, rfl, rfl, rfl, rfl⟩
theorem ti12_ok : ti12.ok Tryz.prog 12 := ⟨Tryz.underlying12, Tryz.t12, _, by kernel_rfl, rfl, rfl, rfl, rfl⟩
theorem ti13_ok : ti13.ok Tryz.prog 13 := ⟨⟨_, Tryz.underlying13, rfl⟩, Tryz.t13, _, by kernel_rfl, rfl, rfl, rfl, rfl⟩
theorem ti14_ok : ti14.ok Tryz.prog 14 := ⟨⟨_, Tryz.underlying14, rfl⟩, Tryz.t14, _, by kernel_rfl, rfl, rfl, rfl, rfl⟩
theorem ti15_ok : ti15.ok Tryz.prog 15 := ⟨Tryz.underlying15, Tryz.t15, _, by kernel_rfl, rfl, rfl, rfl, rfl⟩
theorem ti16_ok : ti16.ok Tryz.prog 16 := ⟨Tryz.underlying16, Tryz.t16, _, by kernel_rfl, rfl, rfl, rfl, rfl⟩
theorem ti17_ok : ti17.ok Tryz.prog 17 := ⟨Tryz.underlying17, Tryz.t17, _, by kernel_rfl, rfl, rfl, rfl, rfl⟩
theorem ti18_ok : ti18.ok Tryz.prog 18 := ⟨⟨_, Tryz.underlying18, rfl⟩, Tryz.t18, _, by kernel_rfl, rfl, rfl, rfl, rfl⟩
theorem ti19_ok : ti19.ok Tryz.prog 19 := ⟨⟨_, Tryz.underlying19, rfl⟩, Tryz.t19, _, by kernel_rfl, rfl, rfl, rfl, rfl⟩
theorem ti20_ok : ti20.ok Tryz.prog 20 := ⟨trivial, Tryz.t20, _, by kernel_rfl, rfl, rfl, rfl, rfl⟩
theorem ti21_ok : ti21.ok Tryz.prog 21 := ⟨Tryz.underlying21, Tryz.t21, _, by kernel_rfl, rfl, rfl, rfl, rfl⟩
theorem ti22_ok : ti22.ok Tryz.prog 22 := ⟨Tryz.underlying22, Tryz.t22, _, by kernel_rfl, rfl, rfl, rfl, rfl⟩
theorem ti23_ok : ti23.ok Tryz.prog 23 := ⟨⟨_, _, _, Tryz.underlying23⟩, Tryz.t23, _, by kernel_rfl, rfl, rfl, rfl, rfl⟩
theorem ti24_ok : ti24.ok Tryz.prog 24 := ⟨⟨_, _, _, Tryz.underlying24⟩, Tryz.t24, _, by kernel_rfl, rfl, rfl, rfl, rfl⟩
theorem ti25_ok : ti25.ok Tryz.prog 25 := ⟨⟨_, _, _, Tryz.underlying25⟩, Tryz.t25, _, by kernel_rfl, rfl, rfl, rfl, rfl⟩
theorem ti26_ok : ti26.ok Tryz.prog 26 := ⟨⟨_, _, _, Tryz.underlying26⟩, Tryz.t26, _, by kernel_rfl, rfl, rfl, rfl, rfl⟩
theorem ti27_ok : ti27.ok Tryz.prog 27 := ⟨Tryz.underlying27, Tryz.t27, _, by kernel_rfl, rfl, rfl, rfl, rfl⟩
theorem ti28_ok : ti28.ok Tryz.prog 28 := ⟨⟨_, _, _, Tryz.underlying28⟩, Tryz.t28, _, by kernel_rfl, rfl, rfl, rfl, rfl⟩
theorem ti29_ok : ti29.ok Tryz.prog 29 := ⟨Tryz.underlying29, Tryz.t29, _, by kernel_rfl, rfl, rfl, rfl, rfl⟩
theorem ti30_ok : ti30.ok Tryz.prog 30 := ⟨⟨_, _, _, Tryz.underlying30⟩, Tryz.t30, _, by kernel_rfl, rfl, rfl, rfl, rfl⟩
theorem ti31_ok : ti31.ok Tryz.prog 31 := ⟨Tryz.underlying31, Tryz.t31, _, by kernel_rfl, rfl, rfl, rfl, rfl⟩
theorem ti32_ok : ti32.ok Tryz.prog 32 := ⟨Tryz.underlying32, Tryz.t32, _, by kernel_rfl, rfl, rfl, rfl, rfl⟩
theorem ti33_ok : ti33.ok Tryz.prog 33 := ⟨Tryz.underlying33, Tryz.t33, _, by kernel_rfl, rfl, rfl, rfl, rfl⟩
theorem ti34_ok : ti34.ok Tryz.prog 34 := ⟨Tryz.underlying34, Tryz.t34, _, by kernel_rfl, rfl, rfl, rfl, rfl⟩
theorem ti35_ok : ti35.ok Tryz.prog 35 := ⟨Tryz.underlying35, Tryz.t35, _, by kernel_rfl, rfl, rfl, rfl, rfl⟩
theorem ti36_ok : ti36.ok Tryz.prog 36 := ⟨⟨_, Tryz.underlying36, rfl⟩, Tryz.t36, _, by kernel_rfl, rfl, rfl, rfl, rfl⟩
theorem ti37_ok : ti37.ok Tryz.prog 37 := ⟨⟨_, Tryz.underlying37, rfl⟩, Tryz.t37, _, by kernel_rfl, rfl, rfl, rfl, rfl⟩
theorem ti38_ok : ti38.ok Tryz.prog 38 := ⟨⟨_, Tryz.underlying38, rfl⟩, Tryz.t38, _, by kernel_rfl, rfl, rfl, rfl, rfl⟩
theorem ti39_ok : ti39.ok Tryz.prog 39 := ⟨⟨_, Tryz.underlying39, rfl⟩, Tryz.t39, _, by kernel_rfl, rfl, rfl, rfl, rfl⟩
theorem ti40_ok : ti40.ok Tryz.prog 40 := ⟨trivial, Tryz.t40, _, by kernel_rfl, rfl, rfl, rfl, rfl⟩
theorem ti41_ok : ti41.ok Tryz.prog 41 := ⟨⟨_, _, _, Tryz.underlying41⟩, Tryz.t41, _, by kernel_rfl, rfl, rfl, rfl, rfl⟩
theorem ti42_ok : ti42.ok Tryz.prog 42 := ⟨⟨_, _, _, Tryz.underlying42⟩, Tryz.t42, _, by kernel_rfl, rfl, rfl, rfl, rfl⟩
theorem ti43_ok : ti43.ok Tryz.prog 43 := ⟨trivial, Tryz.t43, _, by kernel_rfl, rfl, rfl, rfl, rfl⟩
theorem ti44_ok : ti44.ok Tryz.prog 44 := ⟨⟨_, _, _, Tryz.underlying44⟩, Tryz.t44, _, by kernel_rfl, rfl, rfl, rfl, rfl⟩
theorem ti45_ok : ti45.ok Tryz.prog 45 := ⟨Tryz.underlying45, Tryz.t45, _, by kernel_rfl, rfl, rfl, rfl, rfl⟩
theorem ti46_ok : ti46.ok Tryz.prog 46 := ⟨trivial, Tryz.t46, _, by kernel_rfl, rfl, rfl, rfl, rfl⟩
theorem ti47_ok : ti47.ok Tryz.prog 47 := ⟨⟨_, _, _, Tryz.underlying47⟩, Tryz.t47, _, by kernel_rfl, rfl, rfl, rfl, rfl⟩
theorem ti48_ok : ti48.ok Tryz.prog 48 := ⟨⟨_, _, _, Tryz.underlying48⟩, Tryz.t48, _, by kernel_rfl, rfl, rfl, rfl, rfl⟩
theorem ti49_ok : ti49.ok Tryz.prog 49 := ⟨⟨_, _, _, Tryz.underlying49⟩, Tryz.t49, _, by kernel_rfl, rfl, rfl, rfl, rfl⟩
theorem ti50_ok : ti50.ok Tryz.prog 50 := ⟨⟨_, _, _, Tryz.underlying50⟩, Tryz.t50, _, by kernel_rfl, rfl, rfl, rfl, rfl⟩
theorem ti51_ok : ti51.ok Tryz.prog 51 := ⟨trivial, Tryz.t51, _, by kernel_rfl, rfl, rfl, rfl, rfl⟩
theorem ti52_ok : ti52.ok Tryz.prog 52 := ⟨⟨_, _, _, Tryz.underlying52⟩, Tryz.t52, _, by kernel_rfl, rfl, rfl, rfl, rfl⟩
theorem ti53_ok : ti53.ok Tryz.prog 53 := ⟨⟨_, Tryz.underlying53, rfl⟩, Tryz.t53, _, by kernel_rfl, rfl, rfl, rfl, rfl⟩
theorem ti54_ok : ti54.ok Tryz.prog 54 := ⟨⟨_, Tryz.underlying54, rfl⟩, Tryz.t54, _, by kernel_rfl, rfl, rfl, rfl, rfl⟩
theorem ti55_ok : ti55.ok Tryz.prog 55 := ⟨⟨_, _, _, Tryz.underlying55⟩, Tryz.t55, _, by kernel_rfl, rfl, rfl, rfl, rfl⟩
theorem ti56_ok : ti56.ok Tryz.prog 56 := ⟨trivial, Tryz.t56, _, by kernel_rfl, rfl, rfl, rfl, rfl⟩
theorem ti57_ok : ti57.ok Tryz.prog 57 := ⟨⟨_, _, _, Tryz.underlying57⟩, Tryz.t57, _, by kernel_rfl, rfl, rfl, rfl, rfl⟩
theorem ti58_ok : ti58.ok Tryz.prog 58 := ⟨⟨_, _, _, Tryz.underlying58⟩, Tryz.t58, _, by kernel_rfl, rfl, rfl, rfl, rfl⟩
theorem ti59_ok : ti59.ok Tryz.prog 59 := ⟨⟨_, _, _, Tryz.underlying59⟩, Tryz.t59, _, by kernel_rfl, rfl, rfl, rfl, rfl⟩
theorem ti60_ok : ti60.ok Tryz.prog 60 := ⟨⟨_, Tryz.underlying60, rfl⟩, Tryz.t60, _, by kernel_rfl, rfl, rfl, rfl, rfl⟩
theorem ti61_ok : ti61.ok Tryz.prog 61 := ⟨⟨_, Tryz.underlying61, rfl⟩, Tryz.t61, _, by kernel_rfl, rfl, rfl, rfl, rfl⟩
theorem ti62_ok : ti62.ok Tryz.prog 62 := ⟨⟨_, _, _, Tryz.underlying62⟩, Tryz.t62, _, by kernel_rfl, rfl, rfl, rfl, rfl⟩
theorem ti63_ok : ti63.ok Tryz.prog 63 := ⟨trivial, Tryz.t63, _, by kernel_rfl, rfl, rfl, rfl, rfl⟩
theorem ti64_ok : ti64.ok Tryz.prog 64 := ⟨⟨_, _, _, Tryz.underlying64⟩, Tryz.t64, _, by kernel_rfl, rfl, rfl, rfl, rfl⟩
theorem ti65_ok : ti65.ok Tryz.prog 65 := ⟨trivial, Tryz.t65, _, by kernel_rfl, rfl, rfl, rfl, rfl⟩
theorem ti66_ok : ti66.ok Tryz.prog 66 := ⟨⟨_, _, _, Tryz.underlying66⟩, Tryz.t66, _, by kernel_rfl, rfl, rfl, rfl, rfl⟩
theorem ti67_ok : ti67.ok Tryz.prog 67 := ⟨⟨_, _, _, Tryz.underlying67⟩, Tryz.t67, _, by kernel_rfl, rfl, rfl, rfl, rfl⟩
theorem ti68_ok : ti68.ok Tryz.prog 68 := ⟨⟨_, _, _, Tryz.underlying68⟩, Tryz.t68, _, by kernel_rfl, rfl, rfl, rfl, rfl⟩
theorem ti69_ok : ti69.ok Tryz.prog 69 := ⟨⟨_, _, _, Tryz.underlying69⟩, Tryz.t69, _, by kernel_rfl, rfl, rfl, rfl, rfl⟩
theorem ti70_ok : ti70.ok Tryz.prog 70 := ⟨⟨_, _, _, Tryz.underlying70⟩, Tryz.t70, _, by kernel_rfl, rfl, rfl, rfl, rfl⟩
theorem ti71_ok : ti71.ok Tryz.prog 71 := ⟨⟨_, _, _, Tryz.underlying71⟩, Tryz.t71, _, by kernel_rfl, rfl, rfl, rfl, rfl⟩
theorem ti72_ok : ti72.ok Tryz.prog 72 := ⟨⟨_, _, _, Tryz.underlying72⟩, Tryz.t72, _, by kernel_rfl, rfl, rfl, rfl, rfl⟩
theorem ti73_ok : ti73.ok Tryz.prog 73 := ⟨⟨_, _, _, Tryz.underlying73⟩, Tryz.t73, _, by kernel_rfl, rfl, rfl, rfl, rfl⟩
theorem ti74_ok : ti74.ok Tryz.prog 74 := ⟨⟨_, _, _, Tryz.underlying74⟩, Tryz.t74, _, by kernel_rfl, rfl, rfl, rfl, rfl⟩
theorem ti75_ok : ti75.ok Tryz.prog 75 := ⟨⟨_, _, _, Tryz.underlying75⟩, Tryz.t75, _, by kernel_rfl, rfl, rfl, rfl, rfl⟩
theorem ti76_ok : ti76.ok Tryz.prog 76 := ⟨trivial, Tryz.t76, _, by kernel_rfl, rfl, rfl, rfl, rfl⟩
theorem ti77_ok : ti77.ok Tryz.prog 77 := ⟨⟨_, _, _, Tryz.underlying77⟩, Tryz.t77, _, by kernel_rfl, rfl, rfl, rfl, rfl⟩
theorem ti78_ok : ti78.ok Tryz.prog 78 := ⟨⟨_, _, _, Tryz.underlying78⟩, Tryz.t78, _, by kernel_rfl, rfl, rfl, rfl, rfl⟩
theorem ti79_ok : ti79.ok Tryz.prog 79 := ⟨Tryz.underlying79, Tryz.t79, _, by kernel_rfl, rfl, rfl, rfl, rfl⟩
theorem ti80_ok : ti80.ok Tryz.prog 80 := ⟨⟨_, _, _, Tryz.underlying80⟩, Tryz.t80, _, by kernel_rfl, rfl, rfl, rfl, rfl⟩
theorem ti81_ok : ti81.ok Tryz.prog 81 := ⟨⟨_, _, _, Tryz.underlying81⟩, Tryz.t81, _, by kernel_rfl, rfl, rfl, rfl, rfl⟩
theorem ti82_ok : ti82.ok Tryz.prog 82 := ⟨⟨_, _, _, Tryz.underlying82⟩, Tryz.t82, _, by kernel_rfl, rfl, rfl, rfl, rfl⟩
theorem ti83_ok : ti83.ok Tryz.prog 83 := ⟨⟨_, _, _, Tryz.underlying83⟩, Tryz.t83, _, by kernel_rfl, rfl, rfl, rfl, rfl⟩
theorem ti84_ok : ti84.ok Tryz.prog 84 := ⟨Tryz.underlying84, Tryz.t84, _, by kernel_rfl, rfl, rfl, rfl, rfl⟩
theorem ti85_ok : ti85.ok Tryz.prog 85 := ⟨⟨_, Tryz.underlying85, rfl⟩, Tryz.t85, _, by kernel_rfl, rfl, rfl, rfl, rfl⟩
theorem ti86_ok : ti86.ok Tryz.prog 86 := ⟨⟨_, Tryz.underlying86, rfl⟩, Tryz.t86, _, by kernel_rfl, rfl, rfl, rfl, rfl⟩
theorem ti87_ok : ti87.ok Tryz.prog 87 := ⟨⟨_, _, _, Tryz.underlying87⟩, Tryz.t87, _, by kernel_rfl, rfl, rfl, rfl, rfl⟩
theorem ti88_ok : ti88.ok Tryz.prog 88 := ⟨Tryz.underlying88, Tryz.t88, _, by kernel_rfl, rfl, rfl, rfl, rfl⟩
theorem ti89_ok : ti89.ok Tryz.prog 89 := ⟨Tryz.underlying89, Tryz.t89, _, by kernel_rfl, rfl, rfl, rfl, rfl⟩
theorem ti90_ok : ti90.ok Tryz.prog 90 := ⟨⟨_, _, _, Tryz.underlying90⟩, Tryz.t90, _, by kernel_rfl, rfl, rfl, rfl, rfl⟩
theorem ti91_ok : ti91.ok Tryz.prog 91 := ⟨⟨_, Tryz.underlying91, rfl⟩, Tryz.t91, _, by kernel_rfl, rfl, rfl, rfl, rfl⟩
theorem ti92_ok : ti92.ok Tryz.prog 92 := ⟨⟨_, Tryz.underlying92, rfl⟩, Tryz.t92, _, by kernel_rfl, rfl, rfl, rfl, rfl⟩
theorem ti93_ok : ti93.ok Tryz.prog 93 := ⟨⟨_, Tryz.underlying93, rfl⟩, Tryz.t93, _, by kernel_rfl, rfl, rfl, rfl, rfl⟩
theorem ti94_ok : ti94.ok Tryz.prog 94 := ⟨⟨_, Tryz.underlying94, rfl⟩, Tryz.t94, _, by kernel_rfl, rfl, rfl, rfl, rfl⟩
theorem ti95_ok : ti95.ok Tryz.prog 95 := ⟨⟨_, _, _, Tryz.underlying95⟩, Tryz.t95, _, by kernel_rfl, rfl, rfl, rfl, rfl⟩
theorem ti96_ok : ti96.ok Tryz.prog 96 := ⟨⟨_, _, _, Tryz.underlying96⟩, Tryz.t96, _, by kernel_rfl, rfl, rfl, rfl, rfl⟩
theorem ti97_ok : ti97.ok Tryz.prog 97 := ⟨⟨_, _, _, Tryz.underlying97⟩, Tryz.t97, _, by kernel_rfl, rfl, rfl, rfl, rfl⟩
theorem ti98_ok : ti98.ok Tryz.prog 98 := ⟨⟨_, _, _, Tryz.underlying98⟩, Tryz.t98, _, by kernel_rfl, rfl, rfl, rfl, rfl⟩
theorem ti99_ok : ti99.ok Tryz.prog 99 := ⟨⟨_, Tryz.underlying99, rfl⟩, Tryz.t99, _, by kernel_rfl, rfl, rfl, rfl, rfl⟩
theorem ti100_ok : ti100.ok Tryz.prog 100 := ⟨⟨_, Tryz.underlying100, rfl⟩, Tryz.t100, _, by kernel_rfl, rfl, rfl, rfl, rfl⟩
theorem ti101_ok : ti101.ok Tryz.prog 101 := ⟨⟨_, Tryz.underlying101, rfl⟩, Tryz.t101, _, by kernel_rfl, rfl, rfl, rfl, rfl⟩
theorem ti102_ok : ti102.ok Tryz.prog 102 := ⟨⟨_, Tryz.underlying102, rfl⟩, Tryz.t102, _, by kernel_rfl, rfl, rfl, rfl, rfl⟩
theorem ti103_ok : ti103.ok Tryz.prog 103 := ⟨Tryz.underlying103, Tryz.t103, _, by kernel_rfl, rfl, rfl, rfl, rfl⟩
theorem ti104_ok : ti104.ok Tryz.prog 104 := ⟨trivial, Tryz.t104, _, by kernel_rfl, rfl, rfl, rfl, rfl⟩
theorem ti105_ok : ti105.ok Tryz.prog 105 := ⟨⟨_, _, _, Tryz.underlying105⟩, Tryz.t105, _, by kernel_rfl, rfl, rfl, rfl, rfl⟩
theorem ti106_ok : ti106.ok Tryz.prog 106 := ⟨⟨_, _, _, Tryz.underlying106⟩, Tryz.t106, _, by kernel_rfl, rfl, rfl, rfl, rfl⟩
theorem ti107_ok : ti107.ok Tryz.prog 107 := ⟨⟨_, _, _, Tryz.underlying107⟩, Tryz.t107, _, by kernel_rfl, rfl, rfl, rfl, rfl⟩
theorem ti108_ok : ti108.ok Tryz.prog 108 := ⟨Tryz.underlying108, Tryz.t108, _, by kernel_rfl, rfl, rfl, rfl, rfl⟩
theorem ti109_ok : ti109.ok Tryz.prog 109 := ⟨⟨_, Tryz.underlying109, rfl⟩, Tryz.t109, _, by kernel_rfl, rfl, rfl, rfl, rfl⟩
theorem ti110_ok : ti110.ok Tryz.prog 110 := ⟨⟨_, Tryz.underlying110, rfl⟩, Tryz.t110, _, by kernel_rfl, rfl, rfl, rfl, rfl⟩
theorem ti111_ok : ti111.ok Tryz.prog 111 := ⟨⟨_, Tryz.underlying111, rfl⟩, Tryz.t111, _, by kernel_rfl, rfl, rfl, rfl, rfl⟩
theorem ti112_ok : ti112.ok Tryz.prog 112 := ⟨⟨_, Tryz.underlying112, rfl⟩, Tryz.t112, _, by kernel_rfl, rfl, rfl, rfl, rfl⟩
theorem ti113_ok : ti113.ok Tryz.prog 113 := ⟨⟨_, _, _, Tryz.underlying113⟩, Tryz.t113, _, by kernel_rfl, rfl, rfl, rfl, rfl⟩
theorem ti114_ok : ti114.ok Tryz.prog 114 := ⟨⟨_, _, _, Tryz.underlying114⟩, Tryz.t114, _, by kernel_rfl, rfl, rfl, rfl, rfl⟩
theorem ti115_ok : ti115.ok Tryz.prog 115 := ⟨⟨_, _, _, Tryz.underlying115⟩, Tryz.t115, _, by kernel_rfl, rfl, rfl, rfl, rfl⟩
theorem ti116_ok : ti116.ok Tryz.prog 116 := ⟨⟨_, _, _, Tryz.underlying116⟩, Tryz.t116, _, by kernel_rfl, rfl, rfl, rfl, rfl⟩
theorem ti117_ok : ti117.ok Tryz.prog 117 := ⟨⟨_, _, _, Tryz.underlying117⟩, Tryz.t117, _, by kernel_rfl, rfl, rfl, rfl, rfl⟩
theorem ti118_ok : ti118.ok Tryz.prog 118 := ⟨⟨_, _, _, Tryz.underlying118⟩, Tryz.t118, _, by kernel_rfl, rfl, rfl, rfl, rfl⟩
theorem ti119_ok : ti119.ok Tryz.prog 119 := ⟨⟨_, _, _, Tryz.underlying119⟩, Tryz.t119, _, by kernel_rfl, rfl, rfl, rfl, rfl⟩
theorem ti120_ok : ti120.ok Tryz.prog 120 := ⟨⟨_, _, _, Tryz.underlying120⟩, Tryz.t120, _, by kernel_rfl, rfl, rfl, rfl, rfl⟩
theorem ti121_ok : ti121.ok Tryz.prog 121 := ⟨⟨_, _, _, Tryz.underlying121⟩, Tryz.t121, _, by kernel_rfl, rfl, rfl, rfl, rfl⟩
theorem ti122_ok : ti122.ok Tryz.prog 122 := ⟨Tryz.underlying122, Tryz.t122, _, by kernel_rfl, rfl, rfl, rfl, rfl⟩
theorem ti123_ok : ti123.ok Tryz.prog 123 := ⟨⟨_, _, _, Tryz.underlying123⟩, Tryz.t123, _, by kernel_rfl, rfl, rfl, rfl, rfl⟩
theorem ti124_ok : ti124.ok Tryz.prog 124 := ⟨⟨_, Tryz.underlying124, rfl⟩, Tryz.t124, _, by kernel_rfl, rfl, rfl, rfl, rfl⟩
theorem ti125_ok : ti125.ok Tryz.prog 125 := ⟨⟨_, Tryz.underlying125, rfl⟩, Tryz.t125, _, by kernel_rfl, rfl, rfl, rfl, rfl⟩
theorem ti126_ok : ti126.ok Tryz.prog 126 := ⟨trivial, Tryz.t126, _, by kernel_rfl, rfl, rfl, rfl, rfl⟩
theorem ti127_ok : ti127.ok Tryz.prog 127 := ⟨⟨_, _, _, Tryz.underlying127⟩, Tryz.t127, _, by kernel_rfl, rfl, rfl, rfl, rfl⟩
theorem ti128_ok : ti128.ok Tryz.prog 128 := ⟨⟨_, _, _, Tryz.underlying128⟩, Tryz.t128, _, by kernel_rfl, rfl, rfl, rfl, rfl⟩
theorem ti129_ok : ti129.ok Tryz.prog 129 := ⟨⟨_, _, _, Tryz.underlying129⟩, Tryz.t129, _, by kernel_rfl, rfl, rfl, rfl, rfl⟩
theorem ti130_ok : ti130.ok Tryz.prog 130 := ⟨⟨_, _, _, Tryz.underlying130⟩, Tryz.t130, _, by kernel_rfl, rfl, rfl, rfl, rfl⟩
theorem ti131_ok : ti131.ok Tryz.prog 131 := ⟨⟨_, Tryz.underlying131, rfl⟩, Tryz.t131, _, by kernel_rfl, rfl, rfl, rfl, rfl⟩
theorem ti132_ok : ti132.ok Tryz.prog 132 := ⟨⟨_, Tryz.underlying132, rfl⟩, Tryz.t132, _, by kernel_rfl, rfl, rfl, rfl, rfl⟩
theorem ti133_ok : ti133.ok Tryz.prog 133 := ⟨trivial, Tryz.t133, _, by kernel_rfl, rfl, rfl, rfl, rfl⟩
theorem ti134_ok : ti134.ok Tryz.prog 134 := ⟨⟨_, _, _, Tryz.underlying134⟩, Tryz.t134, _, by kernel_rfl, rfl, rfl, rfl, rfl⟩
theorem ti135_ok : ti135.ok Tryz.prog 135 := ⟨⟨_, _, _, Tryz.underlying135⟩, Tryz.t135, _, by kernel_rfl, rfl, rfl, rfl, rfl⟩
theorem ti136_ok : ti136.ok Tryz.prog 136 := ⟨⟨_, _, _, Tryz.underlying136⟩, Tryz.t136, _, by kernel_rfl, rfl, rfl, rfl, rfl⟩
theorem ti137_ok : ti137.ok Tryz.prog 137 := ⟨⟨_, _, _, Tryz.underlying137⟩, Tryz.t137, _, by kernel_rfl, rfl, rfl, rfl, rfl⟩
theorem ti138_ok : ti138.ok Tryz.prog 138 := ⟨Tryz.underlying138, Tryz.t138, _, by kernel_rfl, rfl, rfl, rfl, rfl⟩
theorem ti139_ok : ti139.ok Tryz.prog 139 := ⟨⟨_, Tryz.underlying139, rfl⟩, Tryz.t139, _, by kernel_rfl, rfl, rfl, rfl, rfl⟩
theorem ti140_ok : ti140.ok Tryz.prog 140 := ⟨⟨_, Tryz.underlying140, rfl⟩, Tryz.t140, _, by kernel_rfl, rfl, rfl, rfl, rfl⟩
theorem ti141_ok : ti141.ok Tryz.prog 141 := ⟨⟨_, _, _, Tryz.underlying141⟩, Tryz.t141, _, by kernel_rfl, rfl, rfl, rfl, rfl⟩
theorem ti142_ok : ti142.ok Tryz.prog 142 := ⟨⟨_, _, _, Tryz.underlying142⟩, Tryz.t142, _, by kernel_rfl, rfl, rfl, rfl, rfl⟩
theorem ti143_ok : ti143.ok Tryz.prog 143 := ⟨⟨_, _, _, Tryz.underlying143⟩, Tryz.t143, _, by kernel_rfl, rfl, rfl, rfl, rfl⟩
theorem ti144_ok : ti144.ok Tryz.prog 144 := ⟨⟨_, _, _, Tryz.underlying144⟩, Tryz.t144, _, by kernel_rfl, rfl, rfl, rfl, rfl⟩
theorem ti145_ok : ti145.ok Tryz.prog 145 := ⟨Tryz.underlying145, Tryz.t145, _, by kernel_rfl, rfl, rfl, rfl, rfl⟩
theorem ti146_ok : ti146.ok Tryz.prog 146 := ⟨⟨_, _, _, Tryz.underlying146⟩, Tryz.t146, _, by kernel_rfl, rfl, rfl, rfl, rfl⟩
theorem ti147_ok : ti147.ok Tryz.prog 147 := ⟨Tryz.underlying147, Tryz.t147, _, by kernel_rfl, rfl, rfl, rfl, rfl⟩
theorem ti148_ok : ti148.ok Tryz.prog 148 := ⟨⟨_, _, _, Tryz.underlying148⟩, Tryz.t148, _, by kernel_rfl, rfl, rfl, rfl, rfl⟩
theorem ti149_ok : ti149.ok Tryz.prog 149 := ⟨Tryz.underlying149, Tryz.t149, _, by kernel_rfl, rfl, rfl, rfl, rfl⟩
theorem ti150_ok : ti150.ok Tryz.prog 150 := ⟨⟨_, Tryz.underlying150, rfl⟩, Tryz.t150, _, by kernel_rfl, rfl, rfl, rfl, rfl⟩
theorem ti151_ok : ti151.ok Tryz.prog 151 := ⟨⟨_, Tryz.underlying151, rfl⟩, Tryz.t151, _, by kernel_rfl, rfl, rfl, rfl, rfl⟩
theorem ti152_ok : ti152.ok Tryz.prog 152 := ⟨Tryz.underlying152, Tryz.t152, _, by kernel_rfl, rfl, rfl, rfl, rfl⟩
theorem ti153_ok : ti153.ok Tryz.prog 153 := ⟨⟨_, Tryz.underlying153, rfl⟩, Tryz.t153, _, by kernel_rfl, rfl, rfl, rfl, rfl⟩
theorem ti154_ok : ti154.ok Tryz.prog 154 := ⟨⟨_, Tryz.underlying154, rfl⟩, Tryz.t154, _, by kernel_rfl, rfl, rfl, rfl, rfl⟩
theorem ti155_ok : ti155.ok Tryz.prog 155 := ⟨Tryz.underlying155, Tryz.t155, _, by kernel_rfl, rfl, rfl, rfl, rfl⟩
theorem ti156_ok : ti156.ok Tryz.prog 156 := ⟨Tryz.underlying156, Tryz.t156, _, by kernel_rfl, rfl, rfl, rfl, rfl⟩
theorem ti157_ok : ti157.ok Tryz.prog 157 := ⟨⟨_, Tryz.underlying157, rfl⟩, Tryz.t157, _, by kernel_rfl, rfl, rfl, rfl, rfl⟩
theorem ti158_ok : ti158.ok Tryz.prog 158 := ⟨⟨_, Tryz.underlying158, rfl⟩, Tryz.t158, _, by kernel_rfl, rfl, rfl, rfl, rfl⟩
theorem ti159_ok : ti159.ok Tryz.prog 159 := ⟨Tryz.underlying159, Tryz.t159, _, by kernel_rfl, rfl, rfl, rfl, rfl⟩
theorem ti160_ok : ti160.ok Tryz.prog 160 := ⟨⟨_, Tryz.underlying160, rfl⟩, Tryz.t160, _, by kernel_rfl, rfl, rfl, rfl, rfl⟩
theorem ti161_ok : ti161.ok Tryz.prog 161 := ⟨⟨_, Tryz.underlying161, rfl⟩, Tryz.t161, _, by kernel_rfl, rfl, rfl, rfl, rfl⟩
theorem ti162_ok : ti162.ok Tryz.prog 162 := ⟨⟨_, Tryz.underlying162, rfl⟩, Tryz.t162, _, by kernel_rfl, rfl, rfl, rfl, rfl⟩
theorem ti163_ok : ti163.ok Tryz.prog 163 := ⟨⟨_, Tryz.underlying163, rfl⟩, Tryz.t163, _, by kernel_rfl, rfl, rfl, rfl, rfl⟩
theorem ti164_ok : ti164.ok Tryz.prog 164 := ⟨⟨_, Tryz.underlying164, rfl⟩, Tryz.t164, _, by kernel_rfl, rfl, rfl, rfl, rfl⟩
theorem ti165_ok : ti165.ok Tryz.prog 165 := ⟨⟨_, Tryz.underlying165, rfl⟩, Tryz.t165, _, by kernel_rfl, rfl, rfl, rfl, rfl⟩
theorem ti166_ok : ti166.ok Tryz.prog 166 := ⟨Tryz.underlying166, Tryz.t166, _, by kernel_rfl, rfl, rfl, rfl, rfl⟩
theorem ti167_ok : ti167.ok Tryz.prog 167 := ⟨⟨_, Tryz.underlying167, rfl⟩, Tryz.t167, _, by kernel_rfl, rfl, rfl, rfl, rfl⟩
theorem ti168_ok : ti168.ok Tryz.prog 168 := ⟨⟨_, Tryz.underlying168, rfl⟩, Tryz.t168, _, by kernel_rfl, rfl, rfl, rfl, rfl⟩
theorem ti169_ok : ti169.ok Tryz.prog 169 := ⟨⟨_, Tryz.underlying169, rfl⟩, Tryz.t169, _, by kernel_rfl, rfl, rfl, rfl, rfl⟩
theorem ti170_ok : ti170.ok Tryz.prog 170 := ⟨⟨_, Tryz.underlying170, rfl⟩, Tryz.t170, _, by kernel_rfl, rfl, rfl, rfl, rfl⟩
theorem ti171_ok : ti171.ok Tryz.prog 171 := ⟨⟨_, _, _, Tryz.underlying171⟩, Tryz.t171, _, by kernel_rfl, rfl, rfl, rfl, rfl⟩
theorem ti172_ok : ti172.ok Tryz.prog 172 := ⟨⟨_, _, _, Tryz.underlying172⟩, Tryz.t172, _, by kernel_rfl, rfl, rfl, rfl, rfl⟩
theorem ti173_ok : ti173.ok Tryz.prog 173 := ⟨⟨_, _, _, Tryz.underlying173⟩, Tryz.t173, _, by kernel_rfl, rfl, rfl, rfl, rfl⟩
theorem ti174_ok : ti174.ok Tryz.prog 174 := ⟨⟨_, _, _, Tryz.underlying174⟩, Tryz.t174, _, by kernel_rfl, rfl, rfl, rfl, rfl⟩
theorem ti175_ok : ti175.ok Tryz.prog 175 := ⟨⟨_, _, _, Tryz.underlying175⟩, Tryz.t175, _, by kernel_rfl, rfl, rfl, rfl, rfl⟩
theorem ti176_ok : ti176.ok Tryz.prog 176 := ⟨trivial, Tryz.t176, _, by kernel_rfl, rfl, rfl, rfl, rfl⟩
theorem ti177_ok : ti177.ok Tryz.prog 177 := ⟨⟨_, _, _, Tryz.underlying177⟩, Tryz.t177, _, by kernel_rfl, rfl, rfl, rfl, rfl⟩
theorem ti178_ok : ti178.ok Tryz.prog 178 := ⟨⟨_, _, _, Tryz.underlying178⟩, Tryz.t178, _, by kernel_rfl, rfl, rfl, rfl, rfl⟩
theorem ti179_ok : ti179.ok Tryz.prog 179 := ⟨⟨_, _, _, Tryz.underlying179⟩, Tryz.t179, _, by kernel_rfl, rfl, rfl, rfl, rfl⟩
theorem ti180_ok : ti180.ok Tryz.prog 180 := ⟨Tryz.underlying180, Tryz.t180, _, by kernel_rfl, rfl, rfl, rfl, rfl⟩
theorem ti181_ok : ti181.ok Tryz.prog 181 := ⟨⟨_, _, _, Tryz.underlying181⟩, Tryz.t181, _, by kernel_rfl, rfl, rfl, rfl, rfl⟩
theorem ti182_ok : ti182.ok Tryz.prog 182 := ⟨⟨_, _, _, Tryz.underlying182⟩, Tryz.t182, _, by kernel_rfl, rfl, rfl, rfl, rfl⟩
theorem ti183_ok : ti183.ok Tryz.prog 183 := ⟨⟨_, _, _, Tryz.underlying183⟩, Tryz.t183, _, by kernel_rfl, rfl, rfl, rfl, rfl⟩
theorem ti184_ok : ti184.ok Tryz.prog 184 := ⟨⟨_, _, _, Tryz.underlying184⟩, Tryz.t184, _, by kernel_rfl, rfl, rfl, rfl, rfl⟩
theorem ti185_ok : ti185.ok Tryz.prog 185 := ⟨⟨_, _, _, Tryz.underlying185⟩, Tryz.t185, _, by kernel_rfl, rfl, rfl, rfl, rfl⟩
theorem ti186_ok : ti186.ok Tryz.prog 186 := ⟨⟨_, _, _, Tryz.underlying186⟩, Tryz.t186, _, by kernel_rfl, rfl, rfl, rfl, rfl⟩
theorem ti187_ok : ti187.ok Tryz.prog 187 := ⟨⟨_, Tryz.underlying187, rfl⟩, Tryz.t187, _, by kernel_rfl, rfl, rfl, rfl, rfl⟩
theorem ti188_ok : ti188.ok Tryz.prog 188 := ⟨⟨_, Tryz.underlying188, rfl⟩, Tryz.t188, _, by kernel_rfl, rfl, rfl, rfl, rfl⟩
theorem ti189_ok : ti189.ok Tryz.prog 189 := ⟨Tryz.underlying189, Tryz.t189, _, by kernel_rfl, rfl, rfl, rfl, rfl⟩
theorem ti190_ok : ti190.ok Tryz.prog 190 := ⟨Tryz.underlying190, Tryz.t190, _, by kernel_rfl, rfl, rfl, rfl, rfl⟩
theorem ti191_ok : ti191.ok Tryz.prog 191 := ⟨⟨_, _, _, Tryz.underlying191⟩, Tryz.t191, _, by kernel_rfl, rfl, rfl, rfl, rfl⟩
theorem ti192_ok : ti192.ok Tryz.prog 192 := ⟨⟨_, _, _, Tryz.underlying192⟩, Tryz.t192, _, by kernel_rfl, rfl, rfl, rfl, rfl⟩
theorem ti193_ok : ti193.ok Tryz.prog 193 := ⟨⟨_, _, _, Tryz.underlying193⟩, Tryz.t193, _, by kernel_rfl, rfl, rfl, rfl, rfl⟩
theorem ti194_ok : ti194.ok Tryz.prog 194 := ⟨trivial, Tryz.t194, _, by kernel_rfl, rfl, rfl, rfl, rfl⟩
theorem ti195_ok : ti195.ok Tryz.prog 195 := ⟨⟨_, _, _, Tryz.underlying195⟩, Tryz.t195, _, by kernel_rfl, rfl, rfl, rfl, rfl⟩
theorem ti196_ok : ti196.ok Tryz.prog 196 := ⟨⟨_, _, _, Tryz.underlying196⟩, Tryz.t196, _, by kernel_rfl, rfl, rfl, rfl, rfl⟩
theorem ti197_ok : ti197.ok Tryz.prog 197 := ⟨⟨_, _, _, Tryz.underlying197⟩, Tryz.t197, _, by kernel_rfl, rfl, rfl, rfl, rfl⟩
theorem ti198_ok : ti198.ok Tryz.prog 198 := ⟨⟨_, _, _, Tryz.underlying198⟩, Tryz.t198, _, by kernel_rfl, rfl, rfl, rfl, rfl⟩
theorem ti199_ok : ti199.ok Tryz.prog 199 := ⟨⟨_, _, _, Tryz.underlying199⟩, Tryz.t199, _, by kernel_rfl, rfl, rfl, rfl, rfl⟩
theorem ti200_ok : ti200.ok Tryz.prog 200 := ⟨⟨_, _, _, Tryz.underlying200⟩, Tryz.t200, _, by kernel_rfl, rfl, rfl, rfl, rfl⟩
theorem ti201_ok : ti201.ok Tryz.prog 201 := ⟨⟨_, Tryz.underlying201, rfl⟩, Tryz.t201, _, by kernel_rfl, rfl, rfl, rfl, rfl⟩
theorem ti202_ok : ti202.ok Tryz.prog 202 := ⟨⟨_, Tryz.underlying202, rfl⟩, Tryz.t202, _, by kernel_rfl, rfl, rfl, rfl, rfl⟩
theorem ti203_ok : ti203.ok Tryz.prog 203 := ⟨trivial, Tryz.t203, _, by kernel_rfl, rfl, rfl, rfl, rfl⟩
theorem ti204_ok : ti204.ok Tryz.prog 204 := ⟨⟨_, _, _, Tryz.underlying204⟩, Tryz.t204, _, by kernel_rfl, rfl, rfl, rfl, rfl⟩
theorem ti205_ok : ti205.ok Tryz.prog 205 := ⟨⟨_, _, _, Tryz.underlying205⟩, Tryz.t205, _, by kernel_rfl, rfl, rfl, rfl, rfl⟩
theorem ti206_ok : ti206.ok Tryz.prog 206 := ⟨⟨_, _, _, Tryz.underlying206⟩, Tryz.t206, _, by kernel_rfl, rfl, rfl, rfl, rfl⟩
theorem ti207_ok : ti207.ok Tryz.prog 207 := ⟨⟨_, _, _, Tryz.underlying207⟩, Tryz.t207, _, by kernel_rfl, rfl, rfl, rfl, rfl⟩
theorem ti208_ok : ti208.ok Tryz.prog 208 := ⟨⟨_, _, _, Tryz.underlying208⟩, Tryz.t208, _, by kernel_rfl, rfl, rfl, rfl, rfl⟩
theorem ti209_ok : ti209.ok Tryz.prog 209 := ⟨⟨_, _, _, Tryz.underlying209⟩, Tryz.t209, _, by kernel_rfl, rfl, rfl, rfl, rfl⟩
theorem ti210_ok : ti210.ok Tryz.prog 210 := ⟨⟨_, _, _, Tryz.underlying210⟩, Tryz.t210, _, by kernel_rfl, rfl, rfl, rfl, rfl⟩
theorem ti211_ok : ti211.ok Tryz.prog 211 := ⟨⟨_, Tryz.underlying211, rfl⟩, Tryz.t211, _, by kernel_rfl, rfl, rfl, rfl, rfl⟩
theorem ti212_ok : ti212.ok Tryz.prog 212 := ⟨⟨_, Tryz.underlying212, rfl⟩, Tryz.t212, _, by kernel_rfl, rfl, rfl, rfl, rfl⟩
theorem ti213_ok : ti213.ok Tryz.prog 213 := ⟨Tryz.underlying213, Tryz.t213, _, by kernel_rfl, rfl, rfl, rfl, rfl⟩
theorem ti214_ok : ti214.ok Tryz.prog 214 := ⟨⟨_, _, _, Tryz.underlying214⟩, Tryz.t214, _, by kernel_rfl, rfl, rfl, rfl, rfl⟩
theorem ti215_ok : ti215.ok Tryz.prog 215 := ⟨⟨_, _, _, Tryz.underlying215⟩, Tryz.t215, _, by kernel_rfl, rfl, rfl, rfl, rfl⟩
theorem ti216_ok : ti216.ok Tryz.prog 216 := ⟨⟨_, _, _, Tryz.underlying216⟩, Tryz.t216, _, by kernel_rfl, rfl, rfl, rfl, rfl⟩
theorem ti217_ok : ti217.ok Tryz.prog 217 := ⟨⟨_, _, _, Tryz.underlying217⟩, Tryz.t217, _, by kernel_rfl, rfl, rfl, rfl, rfl⟩
theorem ti218_ok : ti218.ok Tryz.prog 218 := ⟨Tryz.underlying218, Tryz.t218, _, by kernel_rfl, rfl, rfl, rfl, rfl⟩
theorem ti219_ok : ti219.ok Tryz.prog 219 := ⟨trivial, Tryz.t219, _, by kernel_rfl, rfl, rfl, rfl, rfl⟩
theorem ti220_ok : ti220.ok Tryz.prog 220 := ⟨⟨_, _, _, Tryz.underlying220⟩, Tryz.t220, _, by kernel_rfl, rfl, rfl, rfl, rfl⟩
theorem ti221_ok : ti221.ok Tryz.prog 221 := ⟨⟨_, _, _, Tryz.underlying221⟩, Tryz.t221, _, by kernel_rfl, rfl, rfl, rfl, rfl⟩
theorem ti222_ok : ti222.ok Tryz.prog 222 := ⟨Tryz.underlying222, Tryz.t222, _, by kernel_rfl, rfl, rfl, rfl, rfl⟩
theorem ti223_ok : ti223.ok Tryz.prog 223 := ⟨⟨_, _, _, Tryz.underlying223⟩, Tryz.t223, _, by kernel_rfl, rfl, rfl, rfl, rfl⟩
theorem ti224_ok : ti224.ok Tryz.prog 224 := ⟨⟨_, _, _, Tryz.underlying224⟩, Tryz.t224, _, by kernel_rfl, rfl, rfl, rfl, rfl⟩
theorem ti225_ok : ti225.ok Tryz.prog 225 := ⟨Tryz.underlying225, Tryz.t225, _, by kernel_rfl, rfl, rfl, rfl, rfl⟩
theorem ti226_ok : ti226.ok Tryz.prog 226 := ⟨⟨_, Tryz.underlying226, rfl⟩, Tryz.t226, _, by kernel_rfl, rfl, rfl, rfl, rfl⟩
theorem ti227_ok : ti227.ok Tryz.prog 227 := ⟨⟨_, Tryz.underlying227, rfl⟩, Tryz.t227, _, by kernel_rfl, rfl, rfl, rfl, rfl⟩
theorem ti228_ok : ti228.ok Tryz.prog 228 := ⟨⟨_, _, _, Tryz.underlying228⟩, Tryz.t228, _, by kernel_rfl, rfl, rfl, rfl, rfl⟩
theorem ti229_ok : ti229.ok Tryz.prog 229 := ⟨⟨_, _, _, Tryz.underlying229⟩, Tryz.t229, _, by kernel_rfl, rfl, rfl, rfl, rfl⟩
theorem ti230_ok : ti230.ok Tryz.prog 230 := ⟨trivial, Tryz.t230, _, by kernel_rfl, rfl, rfl, rfl, rfl⟩
theorem ti231_ok : ti231.ok Tryz.prog 231 := ⟨⟨_, _, _, Tryz.underlying231⟩, Tryz.t231, _, by kernel_rfl, rfl, rfl, rfl, rfl⟩
theorem ti232_ok : ti232.ok Tryz.prog 232 := ⟨⟨_, _, _, Tryz.underlying232⟩, Tryz.t232, _, by kernel_rfl, rfl, rfl, rfl, rfl⟩
theorem ti233_ok : ti233.ok Tryz.prog 233 := ⟨Tryz.underlying233, Tryz.t233, _, by kernel_rfl, rfl, rfl, rfl, rfl⟩
theorem ti234_ok : ti234.ok Tryz.prog 234 := ⟨Tryz.underlying234, Tryz.t234, _, by kernel_rfl, rfl, rfl, rfl, rfl⟩
theorem ti235_ok : ti235.ok Tryz.prog 235 := ⟨trivial, Tryz.t235, _, by kernel_rfl, rfl, rfl, rfl, rfl⟩
theorem ti236_ok : ti236.ok Tryz.prog 236 := ⟨⟨_, _, _, Tryz.underlying236⟩, Tryz.t236, _, by kernel_rfl, rfl, rfl, rfl, rfl⟩
theorem ti237_ok : ti237.ok Tryz.prog 237 := ⟨⟨_, _, _, Tryz.underlying237⟩, Tryz.t237, _, by kernel_rfl, rfl, rfl, rfl, rfl⟩
theorem ti238_ok : ti238.ok Tryz.prog 238 := ⟨⟨_, _, _, Tryz.underlying238⟩, Tryz.t238, _, by kernel_rfl, rfl, rfl, rfl, rfl⟩
theorem ti239_ok : ti239.ok Tryz.prog 239 := ⟨⟨_, Tryz.underlying239, rfl⟩, Tryz.t239, _, by kernel_rfl, rfl, rfl, rfl, rfl⟩
theorem ti240_ok : ti240.ok Tryz.prog 240 := ⟨⟨_, Tryz.underlying240, rfl⟩, Tryz.t240, _, by kernel_rfl, rfl, rfl, rfl, rfl⟩
theorem ti241_ok : ti241.ok Tryz.prog 241 := ⟨trivial, Tryz.t241, _, by kernel_rfl, rfl, rfl, rfl, rfl⟩
theorem ti242_ok : ti242.ok Tryz.prog 242 := ⟨⟨_, _, _, Tryz.underlying242⟩, Tryz.t242, _, by kernel_rfl, rfl, rfl, rfl, rfl⟩
theorem ti243_ok : ti243.ok Tryz.prog 243 := ⟨⟨_, Tryz.underlying243, rfl⟩, Tryz.t243, _, by kernel_rfl, rfl, rfl, rfl, rfl⟩
theorem ti244_ok : ti244.ok Tryz.prog 244 := ⟨⟨_, Tryz.underlying244, rfl⟩, Tryz.t244, _, by kernel_rfl, rfl, rfl, rfl, rfl⟩
theorem ti245_ok : ti245.ok Tryz.prog 245 := ⟨⟨_, _, _, Tryz.underlying245⟩, Tryz.t245, _, by kernel_rfl, rfl, rfl, rfl, rfl⟩
theorem ti246_ok : ti246.ok Tryz.prog 246 := ⟨⟨_, _, _, Tryz.underlying246⟩, Tryz.t246, _, by kernel_rfl, rfl, rfl, rfl, rfl⟩
theorem ti247_ok : ti247.ok Tryz.prog 247 := ⟨⟨_, _, _, Tryz.underlying247⟩, Tryz.t247, _, by kernel_rfl, rfl, rfl, rfl, rfl⟩
theorem ti248_ok : ti248.ok Tryz.prog 248 := ⟨⟨_, _, _, Tryz.underlying248⟩, Tryz.t248, _, by kernel_rfl, rfl, rfl, rfl, rfl⟩
theorem ti249_ok : ti249.ok Tryz.prog 249 := ⟨⟨_, _, _, Tryz.underlying249⟩, Tryz.t249, _, by kernel_rfl, rfl, rfl, rfl, rfl⟩
theorem ti250_ok : ti250.ok Tryz.prog 250 := ⟨⟨_, _, _, Tryz.underlying250⟩, Tryz.t250, _, by kernel_rfl, rfl, rfl, rfl, rfl⟩
theorem ti251_ok : ti251.ok Tryz.prog 251 := ⟨⟨_, _, _, Tryz.underlying251⟩, Tryz.t251, _, by kernel_rfl, rfl, rfl, rfl, rfl⟩
theorem ti252_ok : ti252.ok Tryz.prog 252 := ⟨⟨_, _, _, Tryz.underlying252⟩, Tryz.t252, _, by kernel_rfl, rfl, rfl, rfl, rfl⟩
theorem ti253_ok : ti253.ok Tryz.prog 253 := ⟨⟨_, _, _, Tryz.underlying253⟩, Tryz.t253, _, by kernel_rfl, rfl, rfl, rfl, rfl⟩
theorem ti254_ok : ti254.ok Tryz.prog 254 := ⟨⟨_, _, _, Tryz.underlying254⟩, Tryz.t254, _, by kernel_rfl, rfl, rfl, rfl, rfl⟩
theorem ti255_ok : ti255.ok Tryz.prog 255 := ⟨⟨_, Tryz.underlying255, rfl⟩, Tryz.t255, _, by kernel_rfl, rfl, rfl, rfl, rfl⟩
theorem ti256_ok : ti256.ok Tryz.prog 256 := ⟨⟨_, Tryz.underlying256, rfl⟩, Tryz.t256, _, by kernel_rfl, rfl, rfl, rfl, rfl⟩
theorem ti257_ok : ti257.ok Tryz.prog 257 := ⟨trivial, Tryz.t257, _, by kernel_rfl, rfl, rfl, rfl, rfl⟩
theorem ti258_ok : ti258.ok Tryz.prog 258 := ⟨⟨_, _, _, Tryz.underlying258⟩, Tryz.t258, _, by kernel_rfl, rfl, rfl, rfl, rfl⟩
theorem ti259_ok : ti259.ok Tryz.prog 259 := ⟨Tryz.underlying259, Tryz.t259, _, by kernel_rfl, rfl, rfl, rfl, rfl⟩
theorem ti260_ok : ti260.ok Tryz.prog 260 := ⟨Tryz.underlying260, Tryz.t260, _, by kernel_rfl, rfl, rfl, rfl, rfl⟩
theorem ti261_ok : ti261.ok Tryz.prog 261 := ⟨⟨_, _, _, Tryz.underlying261⟩, Tryz.t261, _, by kernel_rfl, rfl, rfl, rfl, rfl⟩
theorem ti262_ok : ti262.ok Tryz.prog 262 := ⟨⟨_, _, _, Tryz.underlying262⟩, Tryz.t262, _, by kernel_rfl, rfl, rfl, rfl, rfl⟩
theorem ti263_ok : ti263.ok Tryz.prog 263 := ⟨⟨_, _, _, Tryz.underlying263⟩, Tryz.t263, _, by kernel_rfl, rfl, rfl, rfl, rfl⟩
theorem ti264_ok : ti264.ok Tryz.prog 264 := ⟨⟨_, _, _, Tryz.underlying264⟩, Tryz.t264, _, by kernel_rfl, rfl, rfl, rfl, rfl⟩
theorem ti265_ok : ti265.ok Tryz.prog 265 := ⟨⟨_, _, _, Tryz.underlying265⟩, Tryz.t265, _, by kernel_rfl, rfl, rfl, rfl, rfl⟩
theorem ti266_ok : ti266.ok Tryz.prog 266 := ⟨⟨_, _, _, Tryz.underlying266⟩, Tryz.t266, _, by kernel_rfl, rfl, rfl, rfl, rfl⟩
theorem ti267_ok : ti267.ok Tryz.prog 267 := ⟨⟨_, _, _, Tryz.underlying267⟩, Tryz.t267, _, by kernel_rfl, rfl, rfl, rfl, rfl⟩
theorem ti268_ok : ti268.ok Tryz.prog 268 := ⟨⟨_, Tryz.underlying268, rfl⟩, Tryz.t268, _, by kernel_rfl, rfl, rfl, rfl, rfl⟩
theorem ti269_ok : ti269.ok Tryz.prog 269 := ⟨⟨_, Tryz.underlying269, rfl⟩, Tryz.t269, _, by kernel_rfl, rfl, rfl, rfl, rfl⟩
theorem ti270_ok : ti270.ok Tryz.prog 270 := ⟨Tryz.underlying270, Tryz.t270, _, by kernel_rfl, rfl, rfl, rfl, rfl⟩
theorem ti271_ok : ti271.ok Tryz.prog 271 := ⟨⟨_, Tryz.underlying271, rfl⟩, Tryz.t271, _, by kernel_rfl, rfl, rfl, rfl, rfl⟩
theorem ti272_ok : ti272.ok Tryz.prog 272 := ⟨⟨_, Tryz.underlying272, rfl⟩, Tryz.t272, _, by kernel_rfl, rfl, rfl, rfl, rfl⟩
theorem ti273_ok : ti273.ok Tryz.prog 273 := ⟨Tryz.underlying273, Tryz.t273, _, by kernel_rfl, rfl, rfl, rfl, rfl⟩
theorem ti274_ok : ti274.ok Tryz.prog 274 := ⟨Tryz.underlying274, Tryz.t274, _, by kernel_rfl, rfl, rfl, rfl, rfl⟩
theorem ti275_ok : ti275.ok Tryz.prog 275 := ⟨⟨_, _, _, Tryz.underlying275⟩, Tryz.t275, _, by kernel_rfl, rfl, rfl, rfl, rfl⟩
theorem ti276_ok : ti276.ok Tryz.prog 276 := ⟨Tryz.underlying276, Tryz.t276, _, by kernel_rfl, rfl, rfl, rfl, rfl⟩
theorem ti277_ok : ti277.ok Tryz.prog 277 := ⟨Tryz.underlying277, Tryz.t277, _, by kernel_rfl, rfl, rfl, rfl, rfl⟩
theorem ti278_ok : ti278.ok Tryz.prog 278 := ⟨Tryz.underlying278, Tryz.t278, _, by kernel_rfl, rfl, rfl, rfl, rfl⟩
theorem ti279_ok : ti279.ok Tryz.prog 279 := ⟨⟨_, Tryz.underlying279, rfl⟩, Tryz.t279, _, by kernel_rfl, rfl, rfl, rfl, rfl⟩
theorem ti280_ok : ti280.ok Tryz.prog 280 := ⟨⟨_, Tryz.underlying280, rfl⟩, Tryz.t280, _, by kernel_rfl, rfl, rfl, rfl, rfl⟩
theorem ti281_ok : ti281.ok Tryz.prog 281 := ⟨⟨_, Tryz.underlying281, rfl⟩, Tryz.t281, _, by kernel_rfl, rfl, rfl, rfl, rfl⟩
theorem ti282_ok : ti282.ok Tryz.prog 282 := ⟨⟨_, Tryz.underlying282, rfl⟩, Tryz.t282, _, by kernel_rfl, rfl, rfl, rfl, rfl⟩

set_option maxRecDepth 10000
def tab : List (Nat × TI) := [(0, ti0), (1, ti1), (2, ti2), (3, ti3), (4, ti4), (5, ti5), (6, ti6), (7, ti7), (8, ti8), (9, ti9), (10, ti10), (11, ti11), (12, ti12), (13, ti13), (14, ti14), (15, ti15), (16, ti16), (17, ti17), (18, ti18), (19, ti19), (20, ti20), (21, ti21), (22, ti22), (23, ti23), (24, ti24), (25, ti25), (26, ti26), (27, ti27), (28, ti28), (29, ti29), (30, ti30), (31, ti31), (32, ti32), (33, ti33), (34, ti34), (35, ti35), (36, ti36), (37, ti37), (38, ti38), (39, ti39), (40, ti40), (41, ti41), (42, ti42), (43, ti43), (44, ti44), (45, ti45), (46, ti46), (47, ti47), (48, ti48), (49, ti49), (50, ti50), (51, ti51), (52, ti52), (53, ti53), (54, ti54), (55, ti55), (56, ti56), (57, ti57), (58, ti58), (59, ti59), (60, ti60), (61, ti61), (62, ti62), (63, ti63), (64, ti64), (65, ti65), (66, ti66), (67, ti67), (68, ti68), (69, ti69), (70, ti70), (71, ti71), (72, ti72), (73, ti73), (74, ti74), (75, ti75), (76, ti76), (77, ti77), (78, ti78), (79, ti79), (80, ti80), (81, ti81), (82, ti82), (83, ti83), (84, ti84), (85, ti85), (86, ti86), (87, ti87), (88, ti88), (89, ti89), (90, ti90), (91, ti91), (92, ti92), (93, ti93), (94, ti94), (95, ti95), (96, ti96), (97, ti97), (98, ti98), (99, ti99), (100, ti100), (101, ti101), (102, ti102), (103, ti103), (104, ti104), (105, ti105), (106, ti106), (107, ti107), (108, ti108), (109, ti109), (110, ti110), (111, ti111), (112, ti112), (113, ti113), (114, ti114), (115, ti115), (116, ti116), (117, ti117), (118, ti118), (119, ti119), (120, ti120), (121, ti121), (122, ti122), (123, ti123), (124, ti124), (125, ti125), (126, ti126), (127, ti127), (128, ti128), (129, ti129), (130, ti130), (131, ti131), (132, ti132), (133, ti133), (134, ti134), (135, ti135), (136, ti136), (137, ti137), (138, ti138), (139, ti139), (140, ti140), (141, ti141), (142, ti142), (143, ti143), (144, ti144), (145, ti145), (146, ti146), (147, ti147), (148, ti148), (149, ti149), (150, ti150), (151, ti151), (152, ti152), (153, ti153), (154, ti154), (155, ti155), (156, ti156), (157, ti157), (158, ti158), (159, ti159), (160, ti160), (161, ti161), (162, ti162), (163, ti163), (164, ti164), (165, ti165), (166, ti166), (167, ti167), (168, ti168), (169, ti169), (170, ti170), (171, ti171), (172, ti172), (173, ti173), (174, ti174), (175, ti175), (176, ti176), (177, ti177), (178, ti178), (179, ti179), (180, ti180), (181, ti181), (182, ti182), (183, ti183), (184, ti184), (185, ti185), (186, ti186), (187, ti187), (188, ti188), (189, ti189), (190, ti190), (191, ti191), (192, ti192), (193, ti193), (194, ti194), (195, ti195), (196, ti196), (197, ti197), (198, ti198), (199, ti199), (200, ti200), (201, ti201), (202, ti202), (203, ti203), (204, ti204), (205, ti205), (206, ti206), (207, ti207), (208, ti208), (209, ti209), (210, ti210), (211, ti211), (212, ti212), (213, ti213), (214, ti214), (215, ti215), (216, ti216), (217, ti217), (218, ti218), (219, ti219), (220, ti220), (221, ti221), (222, ti222), (223, ti223), (224, ti224), (225, ti225), (226, ti226), (227, ti227), (228, ti228), (229, ti229), (230, ti230), (231, ti231), (232, ti232), (233, ti233), (234, ti234), (235, ti235), (236, ti236), (237, ti237), (238, ti238), (239, ti239), (240, ti240), (241, ti241), (242, ti242), (243, ti243), (244, ti244), (245, ti245), (246, ti246), (247, ti247), (248, ti248), (249, ti249), (250, ti250), (251, ti251), (252, ti252), (253, ti253), (254, ti254), (255, ti255), (256, ti256), (257, ti257), (258, ti258), (259, ti259), (260, ti260), (261, ti261), (262, ti262), (263, ti263), (264, ti264), (265, ti265), (266, ti266), (267, ti267), (268, ti268), (269, ti269), (270, ti270), (271, ti271), (272, ti272), (273, ti273), (274, ti274), (275, ti275), (276, ti276), (277, ti277), (278, ti278), (279, ti279), (280, ti280), (281, ti281), (282, ti282)]

abbrev T : TT := lookT tab

theorem T_ok : TTok Tryz.prog T := lookT_ok (by
  unfold tab
  refine List.forall_mem_cons.2 ⟨ti0_ok, ?_⟩
  refine List.forall_mem_cons.2 ⟨ti1_ok, ?_⟩
  refine List.forall_mem_cons.2 ⟨ti2_ok, ?_⟩
  refine List.forall_mem_cons.2 ⟨ti3_ok, ?_⟩
  refine List.forall_mem_cons.2 ⟨ti4_ok, ?_⟩
  refine List.forall_mem_cons.2 ⟨ti5_ok, ?_⟩
  refine List.forall_mem_cons.2 ⟨ti6_ok, ?_⟩
  refine List.forall_mem_cons.2 ⟨ti7_ok, ?_⟩
  refine List.forall_mem_cons.2 ⟨ti8_ok, ?_⟩
  refine List.forall_mem_cons.2 ⟨ti9_ok, ?_⟩
  refine List.forall_mem_cons.2 ⟨ti10_ok, ?_⟩
  refine List.forall_mem_cons.2 ⟨ti11_ok, ?_⟩
  refine List.forall_mem_cons.2 ⟨ti12_ok, ?_⟩
  refine List.forall_mem_cons.2 ⟨ti13_ok, ?_⟩
  refine List.forall_mem_cons.2 ⟨ti14_ok, ?_⟩
  refine List.forall_mem_cons.2 ⟨ti15_ok, ?_⟩
  refine List.forall_mem_cons.2 ⟨ti16_ok, ?_⟩
  refine List.forall_mem_cons.2 ⟨ti17_ok, ?_⟩
  refine List.forall_mem_cons.2 ⟨ti18_ok, ?_⟩
  refine List.forall_mem_cons.2 ⟨ti19_ok, ?_⟩
  refine List.forall_mem_cons.2 ⟨ti20_ok, ?_⟩
  refine List.forall_mem_cons.2 ⟨ti21_ok, ?_⟩
  refine List.forall_mem_cons.2 ⟨ti22_ok, ?_⟩
  refine List.forall_mem_cons.2 ⟨ti23_ok, ?_⟩
  refine List.forall_mem_cons.2 ⟨ti24_ok, ?_⟩
  refine List.forall_mem_cons.2 ⟨ti25_ok, ?_⟩
  refine List.forall_mem_cons.2 ⟨ti26_ok, ?_⟩
  refine List.forall_mem_cons.2 ⟨ti27_ok, ?_⟩
  refine List.forall_mem_cons.2 ⟨ti28_ok, ?_⟩
  refine List.forall_mem_cons.2 ⟨ti29_ok, ?_⟩
  refine List.forall_mem_cons.2 ⟨ti30_ok, ?_⟩
  refine List.forall_mem_cons.2 ⟨ti31_ok, ?_⟩
  refine List.forall_mem_cons.2 ⟨ti32_ok, ?_⟩
  refine List.forall_mem_cons.2 ⟨ti33_ok, ?_⟩
  refine List.forall_mem_cons.2 ⟨ti34_ok, ?_⟩
  refine List.forall_mem_cons.2 ⟨ti35_ok, ?_⟩
  refine List.forall_mem_cons.2 ⟨ti36_ok, ?_⟩
  refine List.forall_mem_cons.2 ⟨ti37_ok, ?_⟩
  refine List.forall_mem_cons.2 ⟨ti38_ok, ?_⟩
  refine List.forall_mem_cons.2 ⟨ti39_ok, ?_⟩
  refine List.forall_mem_cons.2 ⟨ti40_ok, ?_⟩
  refine List.forall_mem_cons.2 ⟨ti41_ok, ?_⟩
  refine List.forall_mem_cons.2 ⟨ti42_ok, ?_⟩
  refine List.forall_mem_cons.2 ⟨ti43_ok, ?_⟩
  refine List.forall_mem_cons.2 ⟨ti44_ok, ?_⟩
  refine List.forall_mem_cons.2 ⟨ti45_ok, ?_⟩
  refine List.forall_mem_cons.2 ⟨ti46_ok, ?_⟩
  refine List.forall_mem_cons.2 ⟨ti47_ok, ?_⟩
  refine List.forall_mem_cons.2 ⟨ti48_ok, ?_⟩
  refine List.forall_mem_cons.2 ⟨ti49_ok, ?_⟩
  refine List.forall_mem_cons.2 ⟨ti50_ok, ?_⟩
  refine List.forall_mem_cons.2 ⟨ti51_ok, ?_⟩
  refine List.forall_mem_cons.2 ⟨ti52_ok, ?_⟩
  refine List.forall_mem_cons.2 ⟨ti53_ok, ?_⟩
  refine List.forall_mem_cons.2 ⟨ti54_ok, ?_⟩
  refine List.forall_mem_cons.2 ⟨ti55_ok, ?_⟩
  refine List.forall_mem_cons.2 ⟨ti56_ok, ?_⟩
  refine List.forall_mem_cons.2 ⟨ti57_ok, ?_⟩
  refine List.forall_mem_cons.2 ⟨ti58_ok, ?_⟩
  refine List.forall_mem_cons.2 ⟨ti59_ok, ?_⟩
  refine List.forall_mem_cons.2 ⟨ti60_ok, ?_⟩
  refine List.forall_mem_cons.2 ⟨ti61_ok, ?_⟩
  refine List.forall_mem_cons.2 ⟨ti62_ok, ?_⟩
  refine List.forall_mem_cons.2 ⟨ti63_ok, ?_⟩
  refine List.forall_mem_cons.2 ⟨ti64_ok, ?_⟩
  refine List.forall_mem_cons.2 ⟨ti65_ok, ?_⟩
  refine List.forall_mem_cons.2 ⟨ti66_ok, ?_⟩
  refine List.forall_mem_cons.2 ⟨ti67_ok, ?_⟩
  refine List.forall_mem_cons.2 ⟨ti68_ok, ?_⟩
  refine List.forall_mem_cons.2 ⟨ti69_ok, ?_⟩
  refine List.forall_mem_cons.2 ⟨ti70_ok, ?_⟩
  refine List.forall_mem_cons.2 ⟨ti71_ok, ?_⟩
  refine List.forall_mem_cons.2 ⟨ti72_ok, ?_⟩
  refine List.forall_mem_cons.2 ⟨ti73_ok, ?_⟩
  refine List.forall_mem_cons.2 ⟨ti74_ok, ?_⟩
  refine List.forall_mem_cons.2 ⟨ti75_ok, ?_⟩
  refine List.forall_mem_cons.2 ⟨ti76_ok, ?_⟩
  refine List.forall_mem_cons.2 ⟨ti77_ok, ?_⟩
  refine List.forall_mem_cons.2 ⟨ti78_ok, ?_⟩
  refine List.forall_mem_cons.2 ⟨ti79_ok, ?_⟩
  refine List.forall_mem_cons.2 ⟨ti80_ok, ?_⟩
  refine List.forall_mem_cons.2 ⟨ti81_ok, ?_⟩
  refine List.forall_mem_cons.2 ⟨ti82_ok, ?_⟩
  refine List.forall_mem_cons.2 ⟨ti83_ok, ?_⟩
  refine List.forall_mem_cons.2 ⟨ti84_ok, ?_⟩
  refine List.forall_mem_cons.2 ⟨ti85_ok, ?_⟩
  refine List.forall_mem_cons.2 ⟨ti86_ok, ?_⟩
  refine List.forall_mem_cons.2 ⟨ti87_ok, ?_⟩
  refine List.forall_mem_cons.2 ⟨ti88_ok, ?_⟩
  refine List.forall_mem_cons.2 ⟨ti89_ok, ?_⟩
  refine List.forall_mem_cons.2 ⟨ti90_ok, ?_⟩
  refine List.forall_mem_cons.2 ⟨ti91_ok, ?_⟩
  refine List.forall_mem_cons.2 ⟨ti92_ok, ?_⟩
  refine List.forall_mem_cons.2 ⟨ti93_ok, ?_⟩
  refine List.forall_mem_cons.2 ⟨ti94_ok, ?_⟩
  refine List.forall_mem_cons.2 ⟨ti95_ok, ?_⟩
  refine List.forall_mem_cons.2 ⟨ti96_ok, ?_⟩
  refine List.forall_mem_cons.2 ⟨ti97_ok, ?_⟩
  refine List.forall_mem_cons.2 ⟨ti98_ok, ?_⟩
  refine List.forall_mem_cons.2 ⟨ti99_ok, ?_⟩
  refine List.forall_mem_cons.2 ⟨ti100_ok, ?_⟩
  refine List.forall_mem_cons.2 ⟨ti101_ok, ?_⟩
  refine List.forall_mem_cons.2 ⟨ti102_ok, ?_⟩
  refine List.forall_mem_cons.2 ⟨ti103_ok, ?_⟩
  refine List.forall_mem_cons.2 ⟨ti104_ok, ?_⟩
  refine List.forall_mem_cons.2 ⟨ti105_ok, ?_⟩
  refine List.forall_mem_cons.2 ⟨ti106_ok, ?_⟩
  refine List.forall_mem_cons.2 ⟨ti107_ok, ?_⟩
  refine List.forall_mem_cons.2 ⟨ti108_ok, ?_⟩
  refine List.forall_mem_cons.2 ⟨ti109_ok, ?_⟩
  refine List.forall_mem_cons.2 ⟨ti110_ok, ?_⟩
  refine List.forall_mem_cons.2 ⟨ti111_ok, ?_⟩
  refine List.forall_mem_cons.2 ⟨ti112_ok, ?_⟩
  refine List.forall_mem_cons.2 ⟨ti113_ok, ?_⟩
  refine List.forall_mem_cons.2 ⟨ti114_ok, ?_⟩
  refine List.forall_mem_cons.2 ⟨ti115_ok, ?_⟩
  refine List.forall_mem_cons.2 ⟨ti116_ok, ?_⟩
  refine List.forall_mem_cons.2 ⟨ti117_ok, ?_⟩
  refine List.forall_mem_cons.2 ⟨ti118_ok, ?_⟩
  refine List.forall_mem_cons.2 ⟨ti119_ok, ?_⟩
  refine List.forall_mem_cons.2 ⟨ti120_ok, ?_⟩
  refine List.forall_mem_cons.2 ⟨ti121_ok, ?_⟩
  refine List.forall_mem_cons.2 ⟨ti122_ok, ?_⟩
  refine List.forall_mem_cons.2 ⟨ti123_ok, ?_⟩
  refine List.forall_mem_cons.2 ⟨ti124_ok, ?_⟩
  refine List.forall_mem_cons.2 ⟨ti125_ok, ?_⟩
  refine List.forall_mem_cons.2 ⟨ti126_ok, ?_⟩
  refine List.forall_mem_cons.2 ⟨ti127_ok, ?_⟩
  refine List.forall_mem_cons.2 ⟨ti128_ok, ?_⟩
  refine List.forall_mem_cons.2 ⟨ti129_ok, ?_⟩
  refine List.forall_mem_cons.2 ⟨ti130_ok, ?_⟩
  refine List.forall_mem_cons.2 ⟨ti131_ok, ?_⟩
  refine List.forall_mem_cons.2 ⟨ti132_ok, ?_⟩
  refine List.forall_mem_cons.2 ⟨ti133_ok, ?_⟩
  refine List.forall_mem_cons.2 ⟨ti134_ok, ?_⟩
  refine List.forall_mem_cons.2 ⟨ti135_ok, ?_⟩
  refine List.forall_mem_cons.2 ⟨ti136_ok, ?_⟩
  refine List.forall_mem_cons.2 ⟨ti137_ok, ?_⟩
  refine List.forall_mem_cons.2 ⟨ti138_ok, ?_⟩
  refine List.forall_mem_cons.2 ⟨ti139_ok, ?_⟩
  refine List.forall_mem_cons.2 ⟨ti140_ok, ?_⟩
  refine List.forall_mem_cons.2 ⟨ti141_ok, ?_⟩
  refine List.forall_mem_cons.2 ⟨ti142_ok, ?_⟩
  refine List.forall_mem_cons.2 ⟨ti143_ok, ?_⟩
  refine List.forall_mem_cons.2 ⟨ti144_ok, ?_⟩
  refine List.forall_mem_cons.2 ⟨ti145_ok, ?_⟩
  refine List.forall_mem_cons.2 ⟨ti146_ok, ?_⟩
  refine List.forall_mem_cons.2 ⟨ti147_ok, ?_⟩
  refine List.forall_mem_cons.2 ⟨ti148_ok, ?_⟩
  refine List.forall_mem_cons.2 ⟨ti149_ok, ?_⟩
  refine List.forall_mem_cons.2 ⟨ti150_ok, ?_⟩
  refine List.forall_mem_cons.2 ⟨ti151_ok, ?_⟩
  refine List.forall_mem_cons.2 ⟨ti152_ok, ?_⟩
  refine List.forall_mem_cons.2 ⟨ti153_ok, ?_⟩
  refine List.forall_mem_cons.2 ⟨ti154_ok, ?_⟩
  refine List.forall_mem_cons.2 ⟨ti155_ok, ?_⟩
  refine List.forall_mem_cons.2 ⟨ti156_ok, ?_⟩
  refine List.forall_mem_cons.2 ⟨ti157_ok, ?_⟩
  refine List.forall_mem_cons.2 ⟨ti158_ok, ?_⟩
  refine List.forall_mem_cons.2 ⟨ti159_ok, ?_⟩
  refine List.forall_mem_cons.2 ⟨ti160_ok, ?_⟩
  refine List.forall_mem_cons.2 ⟨ti161_ok, ?_⟩
  refine List.forall_mem_cons.2 ⟨ti162_ok, ?_⟩
  refine List.forall_mem_cons.2 ⟨ti163_ok, ?_⟩
  refine List.forall_mem_cons.2 ⟨ti164_ok, ?_⟩
  refine List.forall_mem_cons.2 ⟨ti165_ok, ?_⟩
  refine List.forall_mem_cons.2 ⟨ti166_ok, ?_⟩
  refine List.forall_mem_cons.2 ⟨ti167_ok, ?_⟩
  refine List.forall_mem_cons.2 ⟨ti168_ok, ?_⟩
  refine List.forall_mem_cons.2 ⟨ti169_ok, ?_⟩
  refine List.forall_mem_cons.2 ⟨ti170_ok, ?_⟩
  refine List.forall_mem_cons.2 ⟨ti171_ok, ?_⟩
  refine List.forall_mem_cons.2 ⟨ti172_ok, ?_⟩
  refine List.forall_mem_cons.2 ⟨ti173_ok, ?_⟩
  refine List.forall_mem_cons.2 ⟨ti174_ok, ?_⟩
  refine List.forall_mem_cons.2 ⟨ti175_ok, ?_⟩
  refine List.forall_mem_cons.2 ⟨ti176_ok, ?_⟩
  refine List.forall_mem_cons.2 ⟨ti177_ok, ?_⟩
  refine List.forall_mem_cons.2 ⟨ti178_ok, ?_⟩
  refine List.forall_mem_cons.2 ⟨ti179_ok, ?_⟩
  refine List.forall_mem_cons.2 ⟨ti180_ok, ?_⟩
  refine List.forall_mem_cons.2 ⟨ti181_ok, ?_⟩
  refine List.forall_mem_cons.2 ⟨ti182_ok, ?_⟩
  refine List.forall_mem_cons.2 ⟨ti183_ok, ?_⟩
  refine List.forall_mem_cons.2 ⟨ti184_ok, ?_⟩
  refine List.forall_mem_cons.2 ⟨ti185_ok, ?_⟩
  refine List.forall_mem_cons.2 ⟨ti186_ok, ?_⟩
  refine List.forall_mem_cons.2 ⟨ti187_ok, ?_⟩
  refine List.forall_mem_cons.2 ⟨ti188_ok, ?_⟩
  refine List.forall_mem_cons.2 ⟨ti189_ok, ?_⟩
  refine List.forall_mem_cons.2 ⟨ti190_ok, ?_⟩
  refine List.forall_mem_cons.2 ⟨ti191_ok, ?_⟩
  refine List.forall_mem_cons.2 ⟨ti192_ok, ?_⟩
  refine List.forall_mem_cons.2 ⟨ti193_ok, ?_⟩
  refine List.forall_mem_cons.2 ⟨ti194_ok, ?_⟩
  refine List.forall_mem_cons.2 ⟨ti195_ok, ?_⟩
  refine List.forall_mem_cons.2 ⟨ti196_ok, ?_⟩
  refine List.forall_mem_cons.2 ⟨ti197_ok, ?_⟩
  refine List.forall_mem_cons.2 ⟨ti198_ok, ?_⟩
  refine List.forall_mem_cons.2 ⟨ti199_ok, ?_⟩
  refine List.forall_mem_cons.2 ⟨ti200_ok, ?_⟩
  refine List.forall_mem_cons.2 ⟨ti201_ok, ?_⟩
  refine List.forall_mem_cons.2 ⟨ti202_ok, ?_⟩
  refine List.forall_mem_cons.2 ⟨ti203_ok, ?_⟩
  refine List.forall_mem_cons.2 ⟨ti204_ok, ?_⟩
  refine List.forall_mem_cons.2 ⟨ti205_ok, ?_⟩
  refine List.forall_mem_cons.2 ⟨ti206_ok, ?_⟩
  refine List.forall_mem_cons.2 ⟨ti207_ok, ?_⟩
  refine List.forall_mem_cons.2 ⟨ti208_ok, ?_⟩
  refine List.forall_mem_cons.2 ⟨ti209_ok, ?_⟩
  refine List.forall_mem_cons.2 ⟨ti210_ok, ?_⟩
  refine List.forall_mem_cons.2 ⟨ti211_ok, ?_⟩
  refine List.forall_mem_cons.2 ⟨ti212_ok, ?_⟩
  refine List.forall_mem_cons.2 ⟨ti213_ok, ?_⟩
  refine List.forall_mem_cons.2 ⟨ti214_ok, ?_⟩
  refine List.forall_mem_cons.2 ⟨ti215_ok, ?_⟩
  refine List.forall_mem_cons.2 ⟨ti216_ok, ?_⟩
  refine List.forall_mem_cons.2 ⟨ti217_ok, ?_⟩
  refine List.forall_mem_cons.2 ⟨ti218_ok, ?_⟩
  refine List.forall_mem_cons.2 ⟨ti219_ok, ?_⟩
  refine List.forall_mem_cons.2 ⟨ti220_ok, ?_⟩
  refine List.forall_mem_cons.2 ⟨ti221_ok, ?_⟩
  refine List.forall_mem_cons.2 ⟨ti222_ok, ?_⟩
  refine List.forall_mem_cons.2 ⟨ti223_ok, ?_⟩
  refine List.forall_mem_cons.2 ⟨ti224_ok, ?_⟩
  refine List.forall_mem_cons.2 ⟨ti225_ok, ?_⟩
  refine List.forall_mem_cons.2 ⟨ti226_ok, ?_⟩
  refine List.forall_mem_cons.2 ⟨ti227_ok, ?_⟩
  refine List.forall_mem_cons.2 ⟨ti228_ok, ?_⟩
  refine List.forall_mem_cons.2 ⟨ti229_ok, ?_⟩
  refine List.forall_mem_cons.2 ⟨ti230_ok, ?_⟩
  refine List.forall_mem_cons.2 ⟨ti231_ok, ?_⟩
  refine List.forall_mem_cons.2 ⟨ti232_ok, ?_⟩
  refine List.forall_mem_cons.2 ⟨ti233_ok, ?_⟩
  refine List.forall_mem_cons.2 ⟨ti234_ok, ?_⟩
  refine List.forall_mem_cons.2 ⟨ti235_ok, ?_⟩
  refine List.forall_mem_cons.2 ⟨ti236_ok, ?_⟩
  refine List.forall_mem_cons.2 ⟨ti237_ok, ?_⟩
  refine List.forall_mem_cons.2 ⟨ti238_ok, ?_⟩
  refine List.forall_mem_cons.2 ⟨ti239_ok, ?_⟩
  refine List.forall_mem_cons.2 ⟨ti240_ok, ?_⟩
  refine List.forall_mem_cons.2 ⟨ti241_ok, ?_⟩
  refine List.forall_mem_cons.2 ⟨ti242_ok, ?_⟩
  refine List.forall_mem_cons.2 ⟨ti243_ok, ?_⟩
  refine List.forall_mem_cons.2 ⟨ti244_ok, ?_⟩
  refine List.forall_mem_cons.2 ⟨ti245_ok, ?_⟩
  refine List.forall_mem_cons.2 ⟨ti246_ok, ?_⟩
  refine List.forall_mem_cons.2 ⟨ti247_ok, ?_⟩
  refine List.forall_mem_cons.2 ⟨ti248_ok, ?_⟩
  refine List.forall_mem_cons.2 ⟨ti249_ok, ?_⟩
  refine List.forall_mem_cons.2 ⟨ti250_ok, ?_⟩
  refine List.forall_mem_cons.2 ⟨ti251_ok, ?_⟩
  refine List.forall_mem_cons.2 ⟨ti252_ok, ?_⟩
  refine List.forall_mem_cons.2 ⟨ti253_ok, ?_⟩
  refine List.forall_mem_cons.2 ⟨ti254_ok, ?_⟩
  refine List.forall_mem_cons.2 ⟨ti255_ok, ?_⟩
  refine List.forall_mem_cons.2 ⟨ti256_ok, ?_⟩
  refine List.forall_mem_cons.2 ⟨ti257_ok, ?_⟩
  refine List.forall_mem_cons.2 ⟨ti258_ok, ?_⟩
  refine List.forall_mem_cons.2 ⟨ti259_ok, ?_⟩
  refine List.forall_mem_cons.2 ⟨ti260_ok, ?_⟩
  refine List.forall_mem_cons.2 ⟨ti261_ok, ?_⟩
  refine List.forall_mem_cons.2 ⟨ti262_ok, ?_⟩
  refine List.forall_mem_cons.2 ⟨ti263_ok, ?_⟩
  refine List.forall_mem_cons.2 ⟨ti264_ok, ?_⟩
  refine List.forall_mem_cons.2 ⟨ti265_ok, ?_⟩
  refine List.forall_mem_cons.2 ⟨ti266_ok, ?_⟩
  refine List.forall_mem_cons.2 ⟨ti267_ok, ?_⟩
  refine List.forall_mem_cons.2 ⟨ti268_ok, ?_⟩
  refine List.forall_mem_cons.2 ⟨ti269_ok, ?_⟩
  refine List.forall_mem_cons.2 ⟨ti270_ok, ?_⟩
  refine List.forall_mem_cons.2 ⟨ti271_ok, ?_⟩
  refine List.forall_mem_cons.2 ⟨ti272_ok, ?_⟩
  refine List.forall_mem_cons.2 ⟨ti273_ok, ?_⟩
  refine List.forall_mem_cons.2 ⟨ti274_ok, ?_⟩
  refine List.forall_mem_cons.2 ⟨ti275_ok, ?_⟩
  refine List.forall_mem_cons.2 ⟨ti276_ok, ?_⟩
  refine List.forall_mem_cons.2 ⟨ti277_ok, ?_⟩
  refine List.forall_mem_cons.2 ⟨ti278_ok, ?_⟩
  refine List.forall_mem_cons.2 ⟨ti279_ok, ?_⟩
  refine List.forall_mem_cons.2 ⟨ti280_ok, ?_⟩
  refine List.forall_mem_cons.2 ⟨ti281_ok, ?_⟩
  refine List.forall_mem_cons.2 ⟨ti282_ok, ?_⟩
  exact fun _ h => by cases h)

theorem T0 : T 0 = some ti0 := by kernel_rfl
theorem T1 : T 1 = some ti1 := by kernel_rfl
theorem T2 : T 2 = some ti2 := by kernel_rfl
theorem T3 : T 3 = some ti3 := by kernel_rfl
theorem T4 : T 4 = some ti4 := by kernel_rfl
theorem T5 : T 5 = some ti5 := by kernel_rfl
theorem T6 : T 6 = some ti6 := by kernel_rfl
theorem T7 : T 7 = some ti7 := by kernel_rfl
theorem T8 : T 8 = some ti8 := by kernel_rfl
theorem T9 : T 9 = some ti9 := by kernel_rfl
theorem T10 : T 10 = some ti10 := by kernel_rfl
theorem T11 : T 11 = some ti11 := by kernel_rfl
theorem T12 : T 12 = some ti12 := by kernel_rfl
theorem T13 : T 13 = some ti13 := by kernel_rfl
theorem T14 : T 14 = some ti14 := by kernel_rfl
theorem T15 : T 15 = some ti15 := by kernel_rfl
theorem T16 : T 16 = some ti16 := by kernel_rfl
theorem T17 : T 17 = some ti17 := by kernel_rfl
theorem T18 : T 18 = some ti18 := by kernel_rfl
theorem T19 : T 19 = some ti19 := by kernel_rfl
theorem T20 : T 20 = some ti20 := by kernel_rfl
theorem T21 : T 21 = some ti21 := by kernel_rfl
theorem T22 : T 22 = some ti22 := by kernel_rfl
theorem T23 : T 23 = some ti23 := by kernel_rfl
theorem T24 : T 24 = some ti24 := by kernel_rfl
theorem T25 : T 25 = some ti25 := by kernel_rfl
theorem T26 : T 26 = some ti26 := by kernel_rfl
theorem T27 : T 27 = some ti27 := by kernel_rfl
theorem T28 : T 28 = some ti28 := by kernel_rfl
theorem T29 : T 29 = some ti29 := by kernel_rfl
theorem T30 : T 30 = some ti30 := by kernel_rfl
theorem T31 : T 31 = some ti31 := by kernel_rfl
theorem T32 : T 32 = some ti32 := by kernel_rfl
theorem T33 : T 33 = some ti33 := by kernel_rfl
theorem T34 : T 34 = some ti34 := by kernel_rfl
theorem T35 : T 35 = some ti35 := by kernel_rfl
theorem T36 : T 36 = some ti36 := by kernel_rfl
theorem T37 : T 37 = some ti37 := by kernel_rfl
theorem T38 : T 38 = some ti38 := by kernel_rfl
theorem T39 : T 39 = some ti39 := by kernel_rfl
theorem T40 : T 40 = some ti40 := by kernel_rfl
theorem T41 : T 41 = some ti41 := by kernel_rfl
theorem T42 : T 42 = some ti42 := by kernel_rfl
theorem T43 : T 43 = some ti43 := by kernel_rfl
theorem T44 : T 44 = some ti44 := by kernel_rfl
theorem T45 : T 45 = some ti45 := by kernel_rfl
theorem T46 : T 46 = some ti46 := by kernel_rfl
theorem T47 : T 47 = some ti47 := by kernel_rfl
theorem T48 : T 48 = some ti48 := by kernel_rfl
theorem T49 : T 49 = some ti49 := by kernel_rfl
theorem T50 : T 50 = some ti50 := by kernel_rfl
theorem T51 : T 51 = some ti51 := by kernel_rfl
theorem T52 : T 52 = some ti52 := by kernel_rfl
theorem T53 : T 53 = some ti53 := by kernel_rfl
theorem T54 : T 54 = some ti54 := by kernel_rfl
theorem T55 : T 55 = some ti55 := by kernel_rfl
theorem T56 : T 56 = some ti56 := by kernel_rfl
theorem T57 : T 57 = some ti57 := by kernel_rfl
theorem T58 : T 58 = some ti58 := by kernel_rfl
theorem T59 : T 59 = some ti59 := by kernel_rfl
theorem T60 : T 60 = some ti60 := by kernel_rfl
theorem T61 : T 61 = some ti61 := by kernel_rfl
theorem T62 : T 62 = some ti62 := by kernel_rfl
theorem T63 : T 63 = some ti63 := by kernel_rfl
theorem T64 : T 64 = some ti64 := by kernel_rfl
theorem T65 : T 65 = some ti65 := by kernel_rfl
theorem T66 : T 66 = some ti66 := by kernel_rfl
theorem T67 : T 67 = some ti67 := by kernel_rfl
theorem T68 : T 68 = some ti68 := by kernel_rfl
theorem T69 : T 69 = some ti69 := by kernel_rfl
theorem T70 : T 70 = some ti70 := by kernel_rfl
theorem T71 : T 71 = some ti71 := by kernel_rfl
theorem T72 : T 72 = some ti72 := by kernel_rfl
theorem T73 : T 73 = some ti73 := by kernel_rfl
theorem T74 : T 74 = some ti74 := by kernel_rfl
theorem T75 : T 75 = some ti75 := by kernel_rfl
theorem T76 : T 76 = some ti76 := by kernel_rfl
theorem T77 : T 77 = some ti77 := by kernel_rfl
theorem T78 : T 78 = some ti78 := by kernel_rfl
theorem T79 : T 79 = some ti79 := by kernel_rfl
theorem T80 : T 80 = some ti80 := by kernel_rfl
theorem T81 : T 81 = some ti81 := by kernel_rfl
theorem T82 : T 82 = some ti82 := by kernel_rfl
theorem T83 : T 83 = some ti83 := by kernel_rfl
theorem T84 : T 84 = some ti84 := by kernel_rfl
theorem T85 : T 85 = some ti85 := by kernel_rfl
theorem T86 : T 86 = some ti86 := by kernel_rfl
theorem T87 : T 87 = some ti87 := by kernel_rfl
theorem T88 : T 88 = some ti88 := by kernel_rfl
theorem T89 : T 89 = some ti89 := by kernel_rfl
theorem T90 : T 90 = some ti90 := by kernel_rfl
theorem T91 : T 91 = some ti91 := by kernel_rfl
theorem T92 : T 92 = some ti92 := by kernel_rfl
theorem T93 : T 93 = some ti93 := by kernel_rfl
theorem T94 : T 94 = some ti94 := by kernel_rfl
theorem T95 : T 95 = some ti95 := by kernel_rfl
theorem T96 : T 96 = some ti96 := by kernel_rfl
theorem T97 : T 97 = some ti97 := by kernel_rfl
theorem T98 : T 98 = some ti98 := by kernel_rfl
theorem T99 : T 99 = some ti99 := by kernel_rfl
theorem T100 : T 100 = some ti100 := by kernel_rfl
theorem T101 : T 101 = some ti101 := by kernel_rfl
theorem T102 : T 102 = some ti102 := by kernel_rfl
theorem T103 : T 103 = some ti103 := by kernel_rfl
theorem T104 : T 104 = some ti104 := by kernel_rfl
theorem T105 : T 105 = some ti105 := by kernel_rfl
theorem T106 : T 106 = some ti106 := by kernel_rfl
theorem T107 : T 107 = some ti107 := by kernel_rfl
theorem T108 : T 108 = some ti108 := by kernel_rfl
theorem T109 : T 109 = some ti109 := by kernel_rfl
theorem T110 : T 110 = some ti110 := by kernel_rfl
theorem T111 : T 111 = some ti111 := by kernel_rfl
theorem T112 : T 112 = some ti112 := by kernel_rfl
theorem T113 : T 113 = some ti113 := by kernel_rfl
theorem T114 : T 114 = some ti114 := by kernel_rfl
theorem T115 : T 115 = some ti115 := by kernel_rfl
theorem T116 : T 116 = some ti116 := by kernel_rfl
theorem T117 : T 117 = some ti117 := by kernel_rfl
theorem T118 : T 118 = some ti118 := by kernel_rfl
theorem T119 : T 119 = some ti119 := by kernel_rfl
theorem T120 : T 120 = some ti120 := by kernel_rfl
theorem T121 : T 121 = some ti121 := by kernel_rfl
theorem T122 : T 122 = some ti122 := by kernel_rfl
theorem T123 : T 123 = some ti123 := by kernel_rfl
theorem T124 : T 124 = some ti124 := by kernel_rfl
theorem T125 : T 125 = some ti125 := by kernel_rfl
theorem T126 : T 126 = some ti126 := by kernel_rfl
theorem T127 : T 127 = some ti127 := by kernel_rfl
theorem T128 : T 128 = some ti128 := by kernel_rfl
theorem T129 : T 129 = some ti129 := by kernel_rfl
theorem T130 : T 130 = some ti130 := by kernel_rfl
theorem T131 : T 131 = some ti131 := by kernel_rfl
theorem T132 : T 132 = some ti132 := by kernel_rfl
theorem T133 : T 133 = some ti133 := by kernel_rfl
theorem T134 : T 134 = some ti134 := by kernel_rfl
theorem T135 : T 135 = some ti135 := by kernel_rfl
theorem T136 : T 136 = some ti136 := by kernel_rfl
theorem T137 : T 137 = some ti137 := by kernel_rfl
theorem T138 : T 138 = some ti138 := by kernel_rfl
theorem T139 : T 139 = some ti139 := by kernel_rfl
theorem T140 : T 140 = some ti140 := by kernel_rfl
theorem T141 : T 141 = some ti141 := by kernel_rfl
theorem T142 : T 142 = some ti142 := by kernel_rfl
theorem T143 : T 143 = some ti143 := by kernel_rfl
theorem T144 : T 144 = some ti144 := by kernel_rfl
theorem T145 : T 145 = some ti145 := by kernel_rfl
theorem T146 : T 146 = some ti146 := by kernel_rfl
theorem T147 : T 147 = some ti147 := by kernel_rfl
theorem T148 : T 148 = some ti148 := by kernel_rfl
theorem T149 : T 149 = some ti149 := by kernel_rfl
theorem T150 : T 150 = some ti150 := by kernel_rfl
theorem T151 : T 151 = some ti151 := by kernel_rfl
theorem T152 : T 152 = some ti152 := by kernel_rfl
theorem T153 : T 153 = some ti153 := by kernel_rfl
theorem T154 : T 154 = some ti154 := by kernel_rfl
theorem T155 : T 155 = some ti155 := by kernel_rfl
theorem T156 : T 156 = some ti156 := by kernel_rfl
theorem T157 : T 157 = some ti157 := by kernel_rfl
theorem T158 : T 158 = some ti158 := by kernel_rfl
theorem T159 : T 159 = some ti159 := by kernel_rfl
theorem T160 : T 160 = some ti160 := by kernel_rfl
theorem T161 : T 161 = some ti161 := by kernel_rfl
theorem T162 : T 162 = some ti162 := by kernel_rfl
theorem T163 : T 163 = some ti163 := by kernel_rfl
theorem T164 : T 164 = some ti164 := by kernel_rfl
theorem T165 : T 165 = some ti165 := by kernel_rfl
theorem T166 : T 166 = some ti166 := by kernel_rfl
theorem T167 : T 167 = some ti167 := by kernel_rfl
theorem T168 : T 168 = some ti168 := by kernel_rfl
theorem T169 : T 169 = some ti169 := by kernel_rfl
theorem T170 : T 170 = some ti170 := by kernel_rfl
theorem T171 : T 171 = some ti171 := by kernel_rfl
theorem T172 : T 172 = some ti172 := by kernel_rfl
theorem T173 : T 173 = some ti173 := by kernel_rfl
theorem T174 : T 174 = some ti174 := by kernel_rfl
theorem T175 : T 175 = some ti175 := by kernel_rfl
theorem T176 : T 176 = some ti176 := by kernel_rfl
theorem T177 : T 177 = some ti177 := by kernel_rfl
theorem T178 : T 178 = some ti178 := by kernel_rfl
theorem T179 : T 179 = some ti179 := by kernel_rfl
theorem T180 : T 180 = some ti180 := by kernel_rfl
theorem T181 : T 181 = some ti181 := by kernel_rfl
theorem T182 : T 182 = some ti182 := by kernel_rfl
theorem T183 : T 183 = some ti183 := by kernel_rfl
theorem T184 : T 184 = some ti184 := by kernel_rfl
theorem T185 : T 185 = some ti185 := by kernel_rfl
theorem T186 : T 186 = some ti186 := by kernel_rfl
theorem T187 : T 187 = some ti187 := by kernel_rfl
theorem T188 : T 188 = some ti188 := by kernel_rfl
theorem T189 : T 189 = some ti189 := by kernel_rfl
theorem T190 : T 190 = some ti190 := by kernel_rfl
theorem T191 : T 191 = some ti191 := by kernel_rfl
theorem T192 : T 192 = some ti192 := by kernel_rfl
theorem T193 : T 193 = some ti193 := by kernel_rfl
theorem T194 : T 194 = some ti194 := by kernel_rfl
theorem T195 : T 195 = some ti195 := by kernel_rfl
theorem T196 : T 196 = some ti196 := by kernel_rfl
theorem T197 : T 197 = some ti197 := by kernel_rfl
theorem T198 : T 198 = some ti198 := by kernel_rfl
theorem T199 : T 199 = some ti199 := by kernel_rfl
theorem T200 : T 200 = some ti200 := by kernel_rfl
theorem T201 : T 201 = some ti201 := by kernel_rfl
theorem T202 : T 202 = some ti202 := by kernel_rfl
theorem T203 : T 203 = some ti203 := by kernel_rfl
theorem T204 : T 204 = some ti204 := by kernel_rfl
theorem T205 : T 205 = some ti205 := by kernel_rfl
theorem T206 : T 206 = some ti206 := by kernel_rfl
theorem T207 : T 207 = some ti207 := by kernel_rfl
theorem T208 : T 208 = some ti208 := by kernel_rfl
theorem T209 : T 209 = some ti209 := by kernel_rfl
theorem T210 : T 210 = some ti210 := by kernel_rfl
theorem T211 : T 211 = some ti211 := by kernel_rfl
theorem T212 : T 212 = some ti212 := by kernel_rfl
theorem T213 : T 213 = some ti213 := by kernel_rfl
theorem T214 : T 214 = some ti214 := by kernel_rfl
theorem T215 : T 215 = some ti215 := by kernel_rfl
theorem T216 : T 216 = some ti216 := by kernel_rfl
theorem T217 : T 217 = some ti217 := by kernel_rfl
theorem T218 : T 218 = some ti218 := by kernel_rfl
theorem T219 : T 219 = some ti219 := by kernel_rfl
theorem T220 : T 220 = some ti220 := by kernel_rfl
theorem T221 : T 221 = some ti221 := by kernel_rfl
theorem T222 : T 222 = some ti222 := by kernel_rfl
theorem T223 : T 223 = some ti223 := by kernel_rfl
theorem T224 : T 224 = some ti224 := by kernel_rfl
theorem T225 : T 225 = some ti225 := by kernel_rfl
theorem T226 : T 226 = some ti226 := by kernel_rfl
theorem T227 : T 227 = some ti227 := by kernel_rfl
theorem T228 : T 228 = some ti228 := by kernel_rfl
theorem T229 : T 229 = some ti229 := by kernel_rfl
theorem T230 : T 230 = some ti230 := by kernel_rfl
theorem T231 : T 231 = some ti231 := by kernel_rfl
theorem T232 : T 232 = some ti232 := by kernel_rfl
theorem T233 : T 233 = some ti233 := by kernel_rfl
theorem T234 : T 234 = some ti234 := by kernel_rfl
theorem T235 : T 235 = some ti235 := by kernel_rfl
theorem T236 : T 236 = some ti236 := by kernel_rfl
theorem T237 : T 237 = some ti237 := by kernel_rfl
theorem T238 : T 238 = some ti238 := by kernel_rfl
theorem T239 : T 239 = some ti239 := by kernel_rfl
theorem T240 : T 240 = some ti240 := by kernel_rfl
theorem T241 : T 241 = some ti241 := by kernel_rfl
theorem T242 : T 242 = some ti242 := by kernel_rfl
theorem T243 : T 243 = some ti243 := by kernel_rfl
theorem T244 : T 244 = some ti244 := by kernel_rfl
theorem T245 : T 245 = some ti245 := by kernel_rfl
theorem T246 : T 246 = some ti246 := by kernel_rfl
theorem T247 : T 247 = some ti247 := by kernel_rfl
theorem T248 : T 248 = some ti248 := by kernel_rfl
theorem T249 : T 249 = some ti249 := by kernel_rfl
theorem T250 : T 250 = some ti250 := by kernel_rfl
theorem T251 : T 251 = some ti251 := by kernel_rfl
theorem T252 : T 252 = some ti252 := by kernel_rfl
theorem T253 : T 253 = some ti253 := by kernel_rfl
theorem T254 : T 254 = some ti254 := by kernel_rfl
theorem T255 : T 255 = some ti255 := by kernel_rfl
theorem T256 : T 256 = some ti256 := by kernel_rfl
theorem T257 : T 257 = some ti257 := by kernel_rfl
theorem T258 : T 258 = some ti258 := by kernel_rfl
theorem T259 : T 259 = some ti259 := by kernel_rfl
theorem T260 : T 260 = some ti260 := by kernel_rfl
theorem T261 : T 261 = some ti261 := by kernel_rfl
theorem T262 : T 262 = some ti262 := by kernel_rfl
theorem T263 : T 263 = some ti263 := by kernel_rfl
theorem T264 : T 264 = some ti264 := by kernel_rfl
theorem T265 : T 265 = some ti265 := by kernel_rfl
theorem T266 : T 266 = some ti266 := by kernel_rfl
theorem T267 : T 267 = some ti267 := by kernel_rfl
theorem T268 : T 268 = some ti268 := by kernel_rfl
theorem T269 : T 269 = some ti269 := by kernel_rfl
theorem T270 : T 270 = some ti270 := by kernel_rfl
theorem T271 : T 271 = some ti271 := by kernel_rfl
theorem T272 : T 272 = some ti272 := by kernel_rfl
theorem T273 : T 273 = some ti273 := by kernel_rfl
theorem T274 : T 274 = some ti274 := by kernel_rfl
theorem T275 : T 275 = some ti275 := by kernel_rfl
theorem T276 : T 276 = some ti276 := by kernel_rfl
theorem T277 : T 277 = some ti277 := by kernel_rfl
theorem T278 : T 278 = some ti278 := by kernel_rfl
theorem T279 : T 279 = some ti279 := by kernel_rfl
theorem T280 : T 280 = some ti280 := by kernel_rfl
theorem T281 : T 281 = some ti281 := by kernel_rfl
theorem T282 : T 282 = some ti282 := by kernel_rfl

end Go.Eng
