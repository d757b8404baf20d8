/-
  NARROWER THAN 'FOR EVERY INPUT', by the rows' own cells (each row's printed sentence says how): TreeKeysMatchSpec: laid · TreeIsCanonical: laid · TreeRanges: laid · TreeIsMap: laid · TreeRetires: laid.
  DERIVED. THE GIVEN ROWS OF THIS SEAT. 5 by the template 'for every input the law returns true; each argument reads behind the call as it read before'; 0 by the template 'total and deterministic' (their statements: YtihpnhkhgobblaaGreatDoorTotals.lean).
  GIVEN WITH THE SEED: the statements are not yours to turn. If you find one false, say at which input.
  Laid BY PROGRAM, IN A SANDBOX (cutbox-rows.mjs): the forced cells as the released guide's own fill.sh prints them over the translation d127149cc208aac7… (all of the seat's roots in one cut). By AI agents, Wed Nov 11 2026. No macro, syntax, notation, axiom, sorry.
-/
import Derived.Test.YtihpnhkhgobblaaGreatDoorChecked
import GoSem.Claim
import GoSem.ClaimJoined
import GoSem.ClaimMapViews
import Derived.JoinedTies
import Derived.KernelRfl
namespace Go.Proofs.YtihpnhkhgobblaaGreatDoor
/- THE CELL 'sum', in the pinned program and in every row, IS THE sha256 OF THE DUMP (.gsa) THAT YtihpnhkhgobblaaGreatDoorProg.lean LOADS. Nothing in Lean hashes anything: it is a label: what it is worth is what the hold of that sum in a sandbox is worth. -/
noncomputable def Tryz.pinned : Pinned := { name := "ytihpnhkhgobblaagreatdoor", sum := "d127149cc208aac70ea46de846e37f9a23306c180a565a2b009d9157b3e7862c", checked := Tryz.checked }
namespace Rows
def none {H : Type} : Left H := { results := [], args := [] }

/- WHAT THE LISTED PACKAGE-LEVEL VARIABLES READ AS WHEN THE CALL BEGINS. Each datum BY PROGRAM (the guide's laid-datum.mjs) off the statement by which the dump's own 'gosem.cut.vars' lays the variable. In a bare row this is a premise. The card (YtihpnhkhgobblaaGreatDoorCards.lean) ties it to the program's text. -/
def laid_alum_pointer_pointers {H : Type} : DataW H := .agg [.agg [.lit (.int .i64 0), .lit (.int .i64 12)], .agg [.lit (.int .i64 12), .lit (.int .i64 20)]]
def laid_alum_pointer_headers {H : Type} : DataW H := .agg [.agg [.lit (.int .i64 0), .lit (.int .i64 4)], .agg [.lit (.int .i64 4), .lit (.int .i64 3)], .agg [.lit (.int .i64 7), .lit (.int .i64 20)]]
def laid_math_bits_deBruijn32tab {H : Type} : DataW H := .agg [.lit (.int .u8 0), .lit (.int .u8 1), .lit (.int .u8 28), .lit (.int .u8 2), .lit (.int .u8 29), .lit (.int .u8 14), .lit (.int .u8 24), .lit (.int .u8 3), .lit (.int .u8 30), .lit (.int .u8 22), .lit (.int .u8 20), .lit (.int .u8 15), .lit (.int .u8 25), .lit (.int .u8 17), .lit (.int .u8 4), .lit (.int .u8 8), .lit (.int .u8 31), .lit (.int .u8 27), .lit (.int .u8 13), .lit (.int .u8 23), .lit (.int .u8 21), .lit (.int .u8 19), .lit (.int .u8 16), .lit (.int .u8 7), .lit (.int .u8 26), .lit (.int .u8 12), .lit (.int .u8 18), .lit (.int .u8 6), .lit (.int .u8 11), .lit (.int .u8 5), .lit (.int .u8 10), .lit (.int .u8 9)]
def laid_math_bits_deBruijn64tab {H : Type} : DataW H := .agg [.lit (.int .u8 0), .lit (.int .u8 1), .lit (.int .u8 56), .lit (.int .u8 2), .lit (.int .u8 57), .lit (.int .u8 49), .lit (.int .u8 28), .lit (.int .u8 3), .lit (.int .u8 61), .lit (.int .u8 58), .lit (.int .u8 42), .lit (.int .u8 50), .lit (.int .u8 38), .lit (.int .u8 29), .lit (.int .u8 17), .lit (.int .u8 4), .lit (.int .u8 62), .lit (.int .u8 47), .lit (.int .u8 59), .lit (.int .u8 36), .lit (.int .u8 45), .lit (.int .u8 43), .lit (.int .u8 51), .lit (.int .u8 22), .lit (.int .u8 53), .lit (.int .u8 39), .lit (.int .u8 33), .lit (.int .u8 30), .lit (.int .u8 24), .lit (.int .u8 18), .lit (.int .u8 12), .lit (.int .u8 5), .lit (.int .u8 63), .lit (.int .u8 55), .lit (.int .u8 48), .lit (.int .u8 27), .lit (.int .u8 60), .lit (.int .u8 41), .lit (.int .u8 37), .lit (.int .u8 16), .lit (.int .u8 46), .lit (.int .u8 35), .lit (.int .u8 44), .lit (.int .u8 21), .lit (.int .u8 52), .lit (.int .u8 32), .lit (.int .u8 23), .lit (.int .u8 11), .lit (.int .u8 54), .lit (.int .u8 26), .lit (.int .u8 40), .lit (.int .u8 15), .lit (.int .u8 34), .lit (.int .u8 20), .lit (.int .u8 31), .lit (.int .u8 10), .lit (.int .u8 25), .lit (.int .u8 14), .lit (.int .u8 19), .lit (.int .u8 9), .lit (.int .u8 13), .lit (.int .u8 8), .lit (.int .u8 7), .lit (.int .u8 6)]
def laid_alum_hash_nibbles {H : Type} : DataW H := .agg [.lit (.int .u64 0), .lit (.int .u64 75628553), .lit (.int .u64 151257106), .lit (.int .u64 226885659), .lit (.int .u64 302514212), .lit (.int .u64 378142765), .lit (.int .u64 453771318), .lit (.int .u64 529399871), .lit (.int .u64 605028424), .lit (.int .u64 546439233), .lit (.int .u64 756285530), .lit (.int .u64 697696339), .lit (.int .u64 907542636), .lit (.int .u64 848953445), .lit (.int .u64 1058799742), .lit (.int .u64 1000210551)]

/-- 'alumlaw15.TreeKeysMatchSpec': WHATEVER THE INPUT: true; the input reads as it did. -/
def treeKeysMatchSpecSpec : ChangeSpec := { name := "treeKeysMatchSpec", fn := fun _ => fun
  | [d1, d2] => { results := [.lit (.bool true)], args := [d1, d2] }
  | _ => none }
def treeKeysMatchSpecRow : OpenClaim := { program := "ytihpnhkhgobblaagreatdoor", sum := "d127149cc208aac70ea46de846e37f9a23306c180a565a2b009d9157b3e7862c", func := "alum/alumlaw15.TreeKeysMatchSpec", spec := "treeKeysMatchSpec", unfollowed := true, recurses := true, named := ["math/bits.deBruijn32tab", "math/bits.deBruijn64tab", "alum/pointer.pointers", "alum/pointer.headers", "alum/hash.nibbles"], apart := false, laid := [("alum/pointer.pointers", laid_alum_pointer_pointers), ("alum/pointer.headers", laid_alum_pointer_headers), ("math/bits.deBruijn32tab", laid_math_bits_deBruijn32tab), ("math/bits.deBruijn64tab", laid_math_bits_deBruijn64tab), ("alum/hash.nibbles", laid_alum_hash_nibbles)] }
def TreeKeysMatchSpecSaid : Prop := treeKeysMatchSpecRow.holds Tryz.pinned (OpenSpec.ofChange treeKeysMatchSpecSpec)

/-- ITS FALSE NEIGHBOUR: 'it returns false'. Refute it at one input. -/
def treeKeysMatchSpecWrong : ChangeSpec := { name := "treeKeysMatchSpec", fn := fun _ => fun
  | [d1, d2] => { results := [.lit (.bool false)], args := [d1, d2] }
  | _ => none }
def TreeKeysMatchSpecWrongFalsely : Prop := treeKeysMatchSpecRow.holds Tryz.pinned (OpenSpec.ofChange treeKeysMatchSpecWrong)

/-- 'alumlaw15.TreeIsCanonical': WHATEVER THE INPUT: true; the input reads as it did. -/
def treeIsCanonicalSpec : ChangeSpec := { name := "treeIsCanonical", fn := fun _ => fun
  | [d1, d2, d3] => { results := [.lit (.bool true)], args := [d1, d2, d3] }
  | _ => none }
def treeIsCanonicalRow : OpenClaim := { program := "ytihpnhkhgobblaagreatdoor", sum := "d127149cc208aac70ea46de846e37f9a23306c180a565a2b009d9157b3e7862c", func := "alum/alumlaw15.TreeIsCanonical", spec := "treeIsCanonical", unfollowed := true, recurses := true, named := ["math/bits.deBruijn32tab", "math/bits.deBruijn64tab", "alum/pointer.pointers", "alum/pointer.headers", "alum/hash.nibbles"], apart := false, laid := [("alum/pointer.pointers", laid_alum_pointer_pointers), ("alum/pointer.headers", laid_alum_pointer_headers), ("math/bits.deBruijn32tab", laid_math_bits_deBruijn32tab), ("math/bits.deBruijn64tab", laid_math_bits_deBruijn64tab), ("alum/hash.nibbles", laid_alum_hash_nibbles)] }
def TreeIsCanonicalSaid : Prop := treeIsCanonicalRow.holds Tryz.pinned (OpenSpec.ofChange treeIsCanonicalSpec)

/-- ITS FALSE NEIGHBOUR: 'it returns false'. Refute it at one input. -/
def treeIsCanonicalWrong : ChangeSpec := { name := "treeIsCanonical", fn := fun _ => fun
  | [d1, d2, d3] => { results := [.lit (.bool false)], args := [d1, d2, d3] }
  | _ => none }
def TreeIsCanonicalWrongFalsely : Prop := treeIsCanonicalRow.holds Tryz.pinned (OpenSpec.ofChange treeIsCanonicalWrong)

/-- 'alumlaw15.TreeRanges': WHATEVER THE INPUT: true; the input reads as it did. -/
def treeRangesSpec : ChangeSpec := { name := "treeRanges", fn := fun _ => fun
  | [d1, d2, d3, d4] => { results := [.lit (.bool true)], args := [d1, d2, d3, d4] }
  | _ => none }
def treeRangesRow : OpenClaim := { program := "ytihpnhkhgobblaagreatdoor", sum := "d127149cc208aac70ea46de846e37f9a23306c180a565a2b009d9157b3e7862c", func := "alum/alumlaw15.TreeRanges", spec := "treeRanges", unfollowed := true, recurses := true, named := ["math/bits.deBruijn32tab", "math/bits.deBruijn64tab", "alum/pointer.pointers", "alum/pointer.headers", "alum/hash.nibbles"], apart := false, laid := [("alum/pointer.pointers", laid_alum_pointer_pointers), ("alum/pointer.headers", laid_alum_pointer_headers), ("math/bits.deBruijn32tab", laid_math_bits_deBruijn32tab), ("math/bits.deBruijn64tab", laid_math_bits_deBruijn64tab), ("alum/hash.nibbles", laid_alum_hash_nibbles)] }
def TreeRangesSaid : Prop := treeRangesRow.holds Tryz.pinned (OpenSpec.ofChange treeRangesSpec)

/-- ITS FALSE NEIGHBOUR: 'it returns false'. Refute it at one input. -/
def treeRangesWrong : ChangeSpec := { name := "treeRanges", fn := fun _ => fun
  | [d1, d2, d3, d4] => { results := [.lit (.bool false)], args := [d1, d2, d3, d4] }
  | _ => none }
def TreeRangesWrongFalsely : Prop := treeRangesRow.holds Tryz.pinned (OpenSpec.ofChange treeRangesWrong)

/-- 'alumlaw15.TreeIsMap': WHATEVER THE INPUT: true; the input reads as it did. -/
def treeIsMapSpec : ChangeSpec := { name := "treeIsMap", fn := fun _ => fun
  | [d1, d2, d3] => { results := [.lit (.bool true)], args := [d1, d2, d3] }
  | _ => none }
def treeIsMapRow : OpenClaim := { program := "ytihpnhkhgobblaagreatdoor", sum := "d127149cc208aac70ea46de846e37f9a23306c180a565a2b009d9157b3e7862c", func := "alum/alumlaw15.TreeIsMap", spec := "treeIsMap", unfollowed := true, recurses := true, named := ["math/bits.deBruijn32tab", "math/bits.deBruijn64tab", "alum/pointer.pointers", "alum/pointer.headers", "alum/hash.nibbles"], apart := false, laid := [("alum/pointer.pointers", laid_alum_pointer_pointers), ("alum/pointer.headers", laid_alum_pointer_headers), ("math/bits.deBruijn32tab", laid_math_bits_deBruijn32tab), ("math/bits.deBruijn64tab", laid_math_bits_deBruijn64tab), ("alum/hash.nibbles", laid_alum_hash_nibbles)] }
def TreeIsMapSaid : Prop := treeIsMapRow.holds Tryz.pinned (OpenSpec.ofChange treeIsMapSpec)

/-- ITS FALSE NEIGHBOUR: 'it returns false'. Refute it at one input. -/
def treeIsMapWrong : ChangeSpec := { name := "treeIsMap", fn := fun _ => fun
  | [d1, d2, d3] => { results := [.lit (.bool false)], args := [d1, d2, d3] }
  | _ => none }
def TreeIsMapWrongFalsely : Prop := treeIsMapRow.holds Tryz.pinned (OpenSpec.ofChange treeIsMapWrong)

/-- 'alumlaw15.TreeRetires': WHATEVER THE INPUT: true; the input reads as it did. -/
def treeRetiresSpec : ChangeSpec := { name := "treeRetires", fn := fun _ => fun
  | [d1, d2, d3] => { results := [.lit (.bool true)], args := [d1, d2, d3] }
  | _ => none }
def treeRetiresRow : OpenClaim := { program := "ytihpnhkhgobblaagreatdoor", sum := "d127149cc208aac70ea46de846e37f9a23306c180a565a2b009d9157b3e7862c", func := "alum/alumlaw15.TreeRetires", spec := "treeRetires", unfollowed := true, recurses := true, named := ["math/bits.deBruijn32tab", "math/bits.deBruijn64tab", "alum/pointer.pointers", "alum/pointer.headers", "alum/hash.nibbles"], apart := false, laid := [("alum/pointer.pointers", laid_alum_pointer_pointers), ("alum/pointer.headers", laid_alum_pointer_headers), ("math/bits.deBruijn32tab", laid_math_bits_deBruijn32tab), ("math/bits.deBruijn64tab", laid_math_bits_deBruijn64tab), ("alum/hash.nibbles", laid_alum_hash_nibbles)] }
def TreeRetiresSaid : Prop := treeRetiresRow.holds Tryz.pinned (OpenSpec.ofChange treeRetiresSpec)

/-- ITS FALSE NEIGHBOUR: 'it returns false'. Refute it at one input. -/
def treeRetiresWrong : ChangeSpec := { name := "treeRetires", fn := fun _ => fun
  | [d1, d2, d3] => { results := [.lit (.bool false)], args := [d1, d2, d3] }
  | _ => none }
def TreeRetiresWrongFalsely : Prop := treeRetiresRow.holds Tryz.pinned (OpenSpec.ofChange treeRetiresWrong)

/- THE SECOND FORM. 'bulk': how many values and letters a reading holds, each counted each time it is reached (what is shared counts as often as it is met; a slice's spare places count too). A statement '..UptoSaid' is the law's where the arguments, and the package variables that the reading takes, are together of bulk at most 1048576: NARROWER than '..Said'. Prove '..Said' where nothing that the law and all that it calls make is longer than what came in: it says more and counts as full. Else prove '..UptoSaid'. A law counts once. -/
mutual
def uptoBulk {H : Type} : DataW H → Nat
  | .lit (.string bytes) => bytes.length + 1
  | .lit _ => 1
  | .nil => 1
  | .ptr d => uptoBulk d + 1
  | .slice elems spare => uptoBulkAll elems + uptoBulkAll spare + 1
  | .agg parts => uptoBulkAll parts + 1
  | .iface _ d => uptoBulk d + 1
  | .map entries => uptoBulkEntries entries + 1
  | .held _ => 1
def uptoBulkAll {H : Type} : List (DataW H) → Nat
  | [] => 0
  | d :: r => uptoBulk d + uptoBulkAll r
def uptoBulkEntries {H : Type} : List (Lit × DataW H) → Nat
  | [] => 0
  | x :: r => uptoBulkEntry x + uptoBulkEntries r
def uptoBulkEntry {H : Type} : Lit × DataW H → Nat
  | (.string bytes, d) => bytes.length + uptoBulk d + 1
  | (_, d) => uptoBulk d + 1
 end
def uptoSmall : (H : Type) → List (DataW H) → Bool := fun _ ds => decide (uptoBulkAll ds ≤ 1048576)
def OpenSpec.upto (s : _root_.Go.ChangeSpec) : _root_.Go.OpenSpec := { _root_.Go.OpenSpec.ofChange s with cond := some uptoSmall }

/-- 'alumlaw15.TreeKeysMatchSpec', WHERE WHAT IT READS IS OF BULK AT MOST 1048576: true; the input reads as it did. -/
def treeKeysMatchSpecUptoRow : OpenClaim := { program := "ytihpnhkhgobblaagreatdoor", sum := "d127149cc208aac70ea46de846e37f9a23306c180a565a2b009d9157b3e7862c", func := "alum/alumlaw15.TreeKeysMatchSpec", spec := "treeKeysMatchSpec", unfollowed := true, recurses := true, named := ["math/bits.deBruijn32tab", "math/bits.deBruijn64tab", "alum/pointer.pointers", "alum/pointer.headers", "alum/hash.nibbles"], apart := false, laid := [("alum/pointer.pointers", laid_alum_pointer_pointers), ("alum/pointer.headers", laid_alum_pointer_headers), ("math/bits.deBruijn32tab", laid_math_bits_deBruijn32tab), ("math/bits.deBruijn64tab", laid_math_bits_deBruijn64tab), ("alum/hash.nibbles", laid_alum_hash_nibbles)], narrowed := true }
def TreeKeysMatchSpecUptoSaid : Prop := treeKeysMatchSpecUptoRow.holds Tryz.pinned (OpenSpec.upto treeKeysMatchSpecSpec)

/-- 'alumlaw15.TreeIsCanonical', WHERE WHAT IT READS IS OF BULK AT MOST 1048576: true; the input reads as it did. -/
def treeIsCanonicalUptoRow : OpenClaim := { program := "ytihpnhkhgobblaagreatdoor", sum := "d127149cc208aac70ea46de846e37f9a23306c180a565a2b009d9157b3e7862c", func := "alum/alumlaw15.TreeIsCanonical", spec := "treeIsCanonical", unfollowed := true, recurses := true, named := ["math/bits.deBruijn32tab", "math/bits.deBruijn64tab", "alum/pointer.pointers", "alum/pointer.headers", "alum/hash.nibbles"], apart := false, laid := [("alum/pointer.pointers", laid_alum_pointer_pointers), ("alum/pointer.headers", laid_alum_pointer_headers), ("math/bits.deBruijn32tab", laid_math_bits_deBruijn32tab), ("math/bits.deBruijn64tab", laid_math_bits_deBruijn64tab), ("alum/hash.nibbles", laid_alum_hash_nibbles)], narrowed := true }
def TreeIsCanonicalUptoSaid : Prop := treeIsCanonicalUptoRow.holds Tryz.pinned (OpenSpec.upto treeIsCanonicalSpec)

/-- 'alumlaw15.TreeRanges', WHERE WHAT IT READS IS OF BULK AT MOST 1048576: true; the input reads as it did. -/
def treeRangesUptoRow : OpenClaim := { program := "ytihpnhkhgobblaagreatdoor", sum := "d127149cc208aac70ea46de846e37f9a23306c180a565a2b009d9157b3e7862c", func := "alum/alumlaw15.TreeRanges", spec := "treeRanges", unfollowed := true, recurses := true, named := ["math/bits.deBruijn32tab", "math/bits.deBruijn64tab", "alum/pointer.pointers", "alum/pointer.headers", "alum/hash.nibbles"], apart := false, laid := [("alum/pointer.pointers", laid_alum_pointer_pointers), ("alum/pointer.headers", laid_alum_pointer_headers), ("math/bits.deBruijn32tab", laid_math_bits_deBruijn32tab), ("math/bits.deBruijn64tab", laid_math_bits_deBruijn64tab), ("alum/hash.nibbles", laid_alum_hash_nibbles)], narrowed := true }
def TreeRangesUptoSaid : Prop := treeRangesUptoRow.holds Tryz.pinned (OpenSpec.upto treeRangesSpec)

/-- 'alumlaw15.TreeIsMap', WHERE WHAT IT READS IS OF BULK AT MOST 1048576: true; the input reads as it did. -/
def treeIsMapUptoRow : OpenClaim := { program := "ytihpnhkhgobblaagreatdoor", sum := "d127149cc208aac70ea46de846e37f9a23306c180a565a2b009d9157b3e7862c", func := "alum/alumlaw15.TreeIsMap", spec := "treeIsMap", unfollowed := true, recurses := true, named := ["math/bits.deBruijn32tab", "math/bits.deBruijn64tab", "alum/pointer.pointers", "alum/pointer.headers", "alum/hash.nibbles"], apart := false, laid := [("alum/pointer.pointers", laid_alum_pointer_pointers), ("alum/pointer.headers", laid_alum_pointer_headers), ("math/bits.deBruijn32tab", laid_math_bits_deBruijn32tab), ("math/bits.deBruijn64tab", laid_math_bits_deBruijn64tab), ("alum/hash.nibbles", laid_alum_hash_nibbles)], narrowed := true }
def TreeIsMapUptoSaid : Prop := treeIsMapUptoRow.holds Tryz.pinned (OpenSpec.upto treeIsMapSpec)

/-- 'alumlaw15.TreeRetires', WHERE WHAT IT READS IS OF BULK AT MOST 1048576: true; the input reads as it did. -/
def treeRetiresUptoRow : OpenClaim := { program := "ytihpnhkhgobblaagreatdoor", sum := "d127149cc208aac70ea46de846e37f9a23306c180a565a2b009d9157b3e7862c", func := "alum/alumlaw15.TreeRetires", spec := "treeRetires", unfollowed := true, recurses := true, named := ["math/bits.deBruijn32tab", "math/bits.deBruijn64tab", "alum/pointer.pointers", "alum/pointer.headers", "alum/hash.nibbles"], apart := false, laid := [("alum/pointer.pointers", laid_alum_pointer_pointers), ("alum/pointer.headers", laid_alum_pointer_headers), ("math/bits.deBruijn32tab", laid_math_bits_deBruijn32tab), ("math/bits.deBruijn64tab", laid_math_bits_deBruijn64tab), ("alum/hash.nibbles", laid_alum_hash_nibbles)], narrowed := true }
def TreeRetiresUptoSaid : Prop := treeRetiresUptoRow.holds Tryz.pinned (OpenSpec.upto treeRetiresSpec)

end Rows
end Go.Proofs.YtihpnhkhgobblaaGreatDoor
