/- A memory over names; the functions that are not walked. Definitions alone. -/
import Derived.Test.YtihpnhkhgobblaaGreatDoorCh
import Derived.Test.YtihpnhkhgobblaaGreatDoorSc
import Derived.Test.YtihpnhkhgobblaaGreatDoorVc
namespace Go.Eng
open Go Go.Proofs

/-- The memory: its name, its lines (their slices left out), how many events it has at most. -/
structure MX where
  m : Option (Nat × List MLine × Nat)

def MLine.bare (L : MLine) : MLine := { L with s := ⟨none, 0, 0⟩ }

abbrev VSM := VS MX
abbrev Hook := List Value → VSM → Option (Value × VSM)

/-- A function of numbers alone. -/
def h1 (f : Int → Value) : Hook := fun args s => match args with
  | [.int .i64 x] => some (f x, s)
  | _ => none
def h2 (f : Int → Int → Value) : Hook := fun args s => match args with
  | [.int .i64 x, .int .i64 y] => some (f x y, s)
  | _ => none
def h3 (f : Int → Int → Int → Value) : Hook := fun args s => match args with
  | [.int .i64 x, .int .i64 y, .int .i64 z] => some (f x y z, s)
  | _ => none

/-- The memory that an argument names. -/
def memOf (s : VSM) (b : Nat) : Option (List MLine × Nat) :=
  match s.x.m with
  | some (b', ls, ev) => bif Nat.beq b b' then some (ls, ev) else none
  | none => none

def big63 (x : Int) : Bool := decide (x < 9223372036854775808)

def hLoad : Hook := fun args s => match args with
  | [.pointer (some ⟨b, 0, none⟩), .int .i64 x] => match memOf s b with
    | some (ls, _) => bif big63 x then some (pairV (loadM ls x), s) else none
    | none => none
  | _ => none

def hState : Hook := fun args s => match args with
  | [.pointer (some ⟨b, 0, none⟩), .int .i64 x] => match memOf s b with
    | some (ls, _) => some (.int .i64 (stateM ls x), s)
    | none => none
  | _ => none

def setM (s : VSM) (b : Nat) (ls : List MLine) (ev : Nat) : VSM := { s with x := ⟨some (b, ls, ev)⟩ }

def fewB (ls : List MLine) : Bool := ls.all fun L => Nat.blt L.p.length 1000000

def hStore : Hook := fun args s => match args with
  | [.pointer (some ⟨b, 0, none⟩), .int .i64 x, .int .i64 v] => match memOf s b with
    | some (ls, ev) => bif big63 x && decide (0 ≤ x) && wordB v && Nat.ble ev 1000000000 && fewB ls then match ls[(x / 8).toNat]? with
        | some L => some (.int .i64 0, setM s b (ls.set (x / 8).toNat (L.push (x % 8, v) ⟨none, 0, 0⟩)) (ev + 1))
        | none => none
      else none
    | none => none
  | _ => none

def hFlush : Hook := fun args s => match args with
  | [.pointer (some ⟨b, 0, none⟩), .int .i64 x] => match memOf s b with
    | some (ls, ev) => bif decide (0 ≤ x) && Nat.ble ev 1000000000 then match ls[x.toNat]? with
        | some L => some (.int .i64 0, setM s b (ls.set x.toNat L.flushed) (ev + 1))
        | none => none
      else none
    | none => none
  | _ => none

/-- The first pending stores of a line made durable. -/
def MLine.settled (L : MLine) (k : Nat) : MLine := bif Nat.beq k 0 then L else { w := showM L.w (L.p.take k), p := L.p.drop k, s := ⟨none, 0, 0⟩, mark := L.mark - k }

def fenceM (ls : List MLine) : List MLine := ls.map fun L => L.settled L.mark

def hFence : Hook := fun args s => match args with
  | [.pointer (some ⟨b, 0, none⟩)] => match memOf s b with
    | some (ls, ev) => bif Nat.ble ev 1000000000 then some (.tuple #[], setM s b (fenceM ls) (ev + 1)) else none
    | none => none
  | _ => none

def newM (n : Nat) : List MLine := List.replicate n { w := [0, 0, 0, 0, 0, 0, 0, 0], p := [], s := ⟨none, 0, 0⟩, mark := 0 }

def hNew : Hook := fun args s => match args with
  | [.int .i64 n] => match s.x.m with
    | none => bif decide (1 ≤ n) && decide (n ≤ 4096) then some (.pointer (some ⟨s.nx, 0, none⟩), { h := s.h, nx := s.nx + 1, x := ⟨some (s.nx, newM n.toNat, 0)⟩ }) else none
    | some _ => none
  | _ => none

def hooks : List (Nat × Hook) := [
  (35, h1 fun x => .bool (decide (x < 0) || decide (1099511627775 < x))), (38, h2 fun x y => .int .i64 (cmpI x y)),
  (87, h1 fun x => .bool (rightP x)), (145, h1 fun x => .bool (formedH x)), (121, h1 fun x => .int .i64 (kindM x)), (146, h1 fun x => .int .i64 (classM x)), (122, h1 fun x => .int .i64 (genM x)),
  (89, h1 fun x => .int .i64 (lineP x)), (90, h1 fun x => .int .i64 (genP x)), (91, h1 fun x => .int .i64 (linesM x)), (106, h1 fun x => .int .i64 (nextM x)), (107, h2 fun x y => .int .i64 (makeM x y)),
  (33, h2 fun x y => .int .i64 (makeR x y)), (110, h3 fun x y z => .int .i64 (packM x y z)), (66, h1 fun x => .int .i64 (roomM x)), (78, h1 fun x => pairV (fitM x)), (120, h2 fun x y => .bool (properM x y)),
  (93, hLoad), (113, hState), (114, hStore), (115, hFlush), (133, hFence), (43, hNew)]

def hookTr : Tr Hook := Tr.ofL hooks

def hkOf (f : FuncId) : Option Hook := hookTr.get f

noncomputable def sane (fuel : Nat) : Option (Value × VSM) :=
  (frun TTr (fun f => fnTr.get f) hkOf fuel).call [] (.func (.func 8) #[] #[]) [] ⟨.nil, 0, ⟨none⟩⟩

def isTrue : Option (Value × VSM) → Bool
  | some (.bool true, _) => true
  | _ => false

end Go.Eng
