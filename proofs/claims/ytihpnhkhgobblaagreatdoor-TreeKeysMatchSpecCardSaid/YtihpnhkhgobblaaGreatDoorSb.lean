/- The facts of each function that the walks begin with, made by program. Conditions: none. -/
import Derived.Test.YtihpnhkhgobblaaGreatDoorEd
import Derived.Test.YtihpnhkhgobblaaGreatDoorSa
namespace Go.Eng
open Go Go.Proofs

set_option maxRecDepth 10000

theorem rel0 : Tryz.prog.follows .mixedOrders = true := by kernel_rfl

/-- What a walk of a function begins with. -/
structure FnOK (f : FuncId) (n : Nat) (pl : Plan) (c : Code) (rs : List ResultVar) : Prop where
  fn : ∃ fn, Tryz.prog.funcs[f]? = some fn ∧ fn.body = some c ∧ fn.ntmps = n ∧ fn.results.toList = rs ∧ (fn.name == "runtime.NumGoroutine") = false
  ok : codeOK n pl c = true

theorem ACalls_fn {f n : Nat} {pl : Plan} {c : Code} {rs : List ResultVar} (h : FnOK f n pl c rs) {args : List Value} (ha : Nat.ble args.length n = true) {σ : Heap} {R : Value → Heap → Prop}
    (hd : den Tryz.prog T n pl true (.code c) [] (env0 0 args) σ (fin T rs R)) : ACalls Tryz.prog f args σ R := by
  obtain ⟨fn, h1, h2, h3, h4, h5⟩ := h.fn
  exact ACalls_of T_ok rel0 h1 h2 h3 h4 h5 pl h.ok (Nat.le_of_ble_eq_true ha) (go_fn hd)

/-- alum/alumlaw15.TreeKeysMatchSpec -/
noncomputable def b3 : Code := Tryz.f3.body.getD .skip
theorem fn3 : FnOK 3 70 [] b3 [.tmp 4] := ⟨⟨_, Tryz.func3, rfl, Tryz.ntmps3, rfl, rfl⟩, by kernel_rfl⟩
/-- alum/alumlaw15.TreeIsCanonical -/
noncomputable def b4 : Code := Tryz.f4.body.getD .skip
theorem fn4 : FnOK 4 131 [] b4 [.tmp 6] := ⟨⟨_, Tryz.func4, rfl, Tryz.ntmps4, rfl, rfl⟩, by kernel_rfl⟩
/-- alum/alumlaw15.TreeRanges -/
noncomputable def b5 : Code := Tryz.f5.body.getD .skip
theorem fn5 : FnOK 5 140 [(16, [(0, []), (1, []), (2, []), (3, []), (4, []), (5, []), (6, []), (7, []), (8, []), (9, []), (10, []), (11, []), (12, []), (13, []), (14, []), (15, []), (16, [])])] b5 [.tmp 8] := ⟨⟨_, Tryz.func5, rfl, Tryz.ntmps5, rfl, rfl⟩, by kernel_rfl⟩
/-- alum/alumlaw15.TreeIsMap -/
noncomputable def b6 : Code := Tryz.f6.body.getD .skip
theorem fn6 : FnOK 6 130 [] b6 [.tmp 6] := ⟨⟨_, Tryz.func6, rfl, Tryz.ntmps6, rfl, rfl⟩, by kernel_rfl⟩
/-- alum/alumlaw15.TreeRetires -/
noncomputable def b7 : Code := Tryz.f7.body.getD .skip
theorem fn7 : FnOK 7 204 [] b7 [.tmp 6] := ⟨⟨_, Tryz.func7, rfl, Tryz.ntmps7, rfl, rfl⟩, by kernel_rfl⟩
/-- alum/alumlaw15.sanity -/
noncomputable def b8 : Code := Tryz.f8.body.getD .skip
theorem fn8 : FnOK 8 317 [] b8 [.tmp 0] := ⟨⟨_, Tryz.func8, rfl, Tryz.ntmps8, rfl, rfl⟩, by kernel_rfl⟩
/-- alum/alumref15.Right -/
noncomputable def b9 : Code := Tryz.f9.body.getD .skip
theorem fn9 : FnOK 9 30 [] b9 [.tmp 2] := ⟨⟨_, Tryz.func9, rfl, Tryz.ntmps9, rfl, rfl⟩, by kernel_rfl⟩
/-- alum/tree.Right -/
noncomputable def b10 : Code := Tryz.f10.body.getD .skip
theorem fn10 : FnOK 10 16 [] b10 [.tmp 2] := ⟨⟨_, Tryz.func10, rfl, Tryz.ntmps10, rfl, rfl⟩, by kernel_rfl⟩
/-- alum/tree.Compare -/
noncomputable def b11 : Code := Tryz.f11.body.getD .skip
theorem fn11 : FnOK 11 8 [] b11 [.tmp 4] := ⟨⟨_, Tryz.func11, rfl, Tryz.ntmps11, rfl, rfl⟩, by kernel_rfl⟩
/-- alum/alumref15.Compare -/
noncomputable def b12 : Code := Tryz.f12.body.getD .skip
theorem fn12 : FnOK 12 46 [(4, [(0, []), (1, []), (2, []), (3, []), (4, []), (5, []), (6, []), (7, []), (8, [])]), (6, [(0, []), (1, []), (2, []), (3, []), (4, []), (5, []), (6, []), (7, []), (8, [])])] b12 [.tmp 4] := ⟨⟨_, Tryz.func12, rfl, Tryz.ntmps12, rfl, rfl⟩, by kernel_rfl⟩
/-- alum/tree.Above -/
noncomputable def b13 : Code := Tryz.f13.body.getD .skip
theorem fn13 : FnOK 13 16 [] b13 [.tmp 4] := ⟨⟨_, Tryz.func13, rfl, Tryz.ntmps13, rfl, rfl⟩, by kernel_rfl⟩
/-- alum/alumref15.Above -/
noncomputable def b14 : Code := Tryz.f14.body.getD .skip
theorem fn14 : FnOK 14 25 [] b14 [.tmp 4] := ⟨⟨_, Tryz.func14, rfl, Tryz.ntmps14, rfl, rfl⟩, by kernel_rfl⟩
/-- alum/alumref15.Few -/
noncomputable def b15 : Code := Tryz.f15.body.getD .skip
theorem fn15 : FnOK 15 51 [] b15 [.tmp 2] := ⟨⟨_, Tryz.func15, rfl, Tryz.ntmps15, rfl, rfl⟩, by kernel_rfl⟩
/-- alum/alumref15.Model -/
noncomputable def b16 : Code := Tryz.f16.body.getD .skip
theorem fn16 : FnOK 16 84 [(8, [(0, []), (1, []), (2, []), (3, []), (4, []), (5, []), (6, []), (7, []), (8, []), (9, []), (10, []), (11, []), (12, []), (13, [])]), (13, [(0, []), (1, []), (2, []), (3, []), (4, []), (5, []), (6, []), (7, []), (8, []), (9, []), (10, []), (11, [])])] b16 [.tmp 2] := ⟨⟨_, Tryz.func16, rfl, Tryz.ntmps16, rfl, rfl⟩, by kernel_rfl⟩
/-- alum/alumlaw15.begun -/
noncomputable def b17 : Code := Tryz.f17.body.getD .skip
theorem fn17 : FnOK 17 45 [(6, [(0, []), (1, []), (3, []), (4, []), (6, []), (8, []), (9, []), (10, []), (12, []), (2, [4, 9, 12]), (5, [9, 12]), (7, [9, 12]), (11, []), (13, []), (14, []), (15, []), (16, [])]), (7, [(0, []), (1, []), (2, []), (3, []), (4, []), (5, []), (6, []), (7, []), (8, []), (9, [6]), (10, [])])] b17 [.cell 2 39, .tmp 3] := ⟨⟨_, Tryz.func17, rfl, Tryz.ntmps17, rfl, rfl⟩, by kernel_rfl⟩
/-- alum/alumref12.Lines -/
noncomputable def b18 : Code := Tryz.f18.body.getD .skip
theorem fn18 : FnOK 18 7 [] b18 [.tmp 2] := ⟨⟨_, Tryz.func18, rfl, Tryz.ntmps18, rfl, rfl⟩, by kernel_rfl⟩
/-- alum/alumlaw15.filled -/
noncomputable def b19 : Code := Tryz.f19.body.getD .skip
theorem fn19 : FnOK 19 98 [(7, [(0, []), (1, []), (2, []), (3, []), (4, []), (5, []), (6, []), (7, []), (8, []), (9, []), (10, []), (11, []), (12, []), (13, []), (14, []), (15, []), (16, []), (17, []), (18, []), (19, []), (20, []), (21, []), (22, [])]), (9, [(0, []), (1, []), (2, []), (3, []), (4, []), (5, []), (6, []), (7, []), (8, []), (9, []), (10, []), (11, []), (12, []), (13, []), (14, []), (15, []), (16, []), (17, [])])] b19 [.tmp 4, .tmp 5, .tmp 6] := ⟨⟨_, Tryz.func19, rfl, Tryz.ntmps19, rfl, rfl⟩, by kernel_rfl⟩
/-- alum/tree.Build -/
noncomputable def b20 : Code := Tryz.f20.body.getD .skip
theorem fn20 : FnOK 20 130 [(11, [(0, []), (1, []), (2, []), (3, []), (4, []), (5, []), (6, []), (7, []), (8, []), (9, []), (10, []), (11, []), (12, []), (13, [])]), (13, [(0, []), (1, []), (3, []), (4, []), (2, [4]), (5, []), (6, []), (7, [])]), (14, [(0, []), (1, []), (2, []), (3, []), (4, []), (5, []), (6, []), (7, []), (8, []), (9, []), (10, []), (11, []), (12, []), (13, []), (14, []), (15, []), (16, []), (17, []), (18, [])])] b20 [.tmp 8, .tmp 9] := ⟨⟨_, Tryz.func20, rfl, Tryz.ntmps20, rfl, rfl⟩, by kernel_rfl⟩
/-- alum/alumlaw15.shape -/
noncomputable def b21 : Code := Tryz.f21.body.getD .skip
theorem fn21 : FnOK 21 78 [(8, [(0, []), (1, []), (2, []), (3, []), (4, []), (5, []), (6, []), (7, []), (8, []), (9, []), (10, []), (11, []), (12, [])]), (9, [(0, []), (1, []), (2, []), (3, []), (4, []), (5, []), (6, []), (7, []), (8, []), (9, []), (10, []), (11, []), (12, [])])] b21 [.tmp 8] := ⟨⟨_, Tryz.func21, rfl, Tryz.ntmps21, rfl, rfl⟩, by kernel_rfl⟩
/-- alum/alumref11.SameInts -/
noncomputable def b22 : Code := Tryz.f22.body.getD .skip
theorem fn22 : FnOK 22 26 [(6, [(0, []), (1, []), (2, []), (3, []), (4, []), (5, []), (6, []), (7, []), (8, [])])] b22 [.tmp 4] := ⟨⟨_, Tryz.func22, rfl, Tryz.ntmps22, rfl, rfl⟩, by kernel_rfl⟩
/-- alum/alumref15.SameItems -/
noncomputable def b23 : Code := Tryz.f23.body.getD .skip
theorem fn23 : FnOK 23 42 [(6, [(0, []), (1, []), (2, []), (3, []), (4, []), (5, []), (6, []), (7, []), (8, []), (9, []), (10, []), (11, []), (12, []), (13, []), (14, []), (15, []), (16, []), (17, []), (18, []), (19, []), (20, []), (21, []), (22, []), (23, []), (24, [])])] b23 [.tmp 4] := ⟨⟨_, Tryz.func23, rfl, Tryz.ntmps23, rfl, rfl⟩, by kernel_rfl⟩
/-- alum/tree.Range -/
noncomputable def b24 : Code := Tryz.f24.body.getD .skip
theorem fn24 : FnOK 24 41 [(7, [(0, []), (1, []), (2, []), (3, []), (4, []), (5, []), (6, []), (7, []), (8, []), (9, []), (10, []), (11, []), (12, []), (13, []), (14, [])])] b24 [.cell 10 29, .cell 11 45] := ⟨⟨_, Tryz.func24, rfl, Tryz.ntmps24, rfl, rfl⟩, by kernel_rfl⟩
/-- alum/tree.Get -/
noncomputable def b25 : Code := Tryz.f25.body.getD .skip
theorem fn25 : FnOK 25 40 [] b25 [.tmp 8, .tmp 9, .tmp 10] := ⟨⟨_, Tryz.func25, rfl, Tryz.ntmps25, rfl, rfl⟩, by kernel_rfl⟩
/-- (*alum/alloc.Heap).Owned -/
noncomputable def b26 : Code := Tryz.f26.body.getD .skip
theorem fn26 : FnOK 26 28 [] b26 [.tmp 4] := ⟨⟨_, Tryz.func26, rfl, Tryz.ntmps26, rfl, rfl⟩, by kernel_rfl⟩
/-- (*alum/alloc.Heap).Release -/
noncomputable def b27 : Code := Tryz.f27.body.getD .skip
theorem fn27 : FnOK 27 13 [] b27 [] := ⟨⟨_, Tryz.func27, rfl, Tryz.ntmps27, rfl, rfl⟩, by kernel_rfl⟩
/-- alum/tree.Blocks -/
noncomputable def b28 : Code := Tryz.f28.body.getD .skip
theorem fn28 : FnOK 28 26 [] b28 [.cell 6 22, .cell 7 45] := ⟨⟨_, Tryz.func28, rfl, Tryz.ntmps28, rfl, rfl⟩, by kernel_rfl⟩
/-- alum/tree.Put -/
noncomputable def b29 : Code := Tryz.f29.body.getD .skip
theorem fn29 : FnOK 29 157 [(3, [(0, []), (1, []), (3, []), (4, []), (2, [4]), (5, []), (6, []), (7, []), (8, []), (9, []), (10, []), (11, []), (12, [])]), (12, [(0, []), (1, []), (2, []), (3, []), (4, []), (5, []), (6, []), (7, []), (8, []), (9, []), (10, []), (11, []), (12, []), (13, []), (14, []), (15, []), (16, []), (17, []), (18, [])]), (24, [(0, []), (1, []), (2, []), (3, []), (4, []), (5, []), (6, [])]), (30, [(0, []), (1, []), (2, []), (3, []), (4, []), (5, []), (6, []), (8, []), (9, []), (10, []), (14, []), (7, [9, 10, 14]), (11, []), (12, []), (13, []), (15, []), (16, []), (17, []), (18, []), (19, []), (20, []), (21, [])])] b29 [.tmp 12, .tmp 13, .tmp 14] := ⟨⟨_, Tryz.func29, rfl, Tryz.ntmps29, rfl, rfl⟩, by kernel_rfl⟩
/-- alum/tree.Delete -/
noncomputable def b30 : Code := Tryz.f30.body.getD .skip
theorem fn30 : FnOK 30 95 [(7, [(0, []), (1, []), (3, []), (4, []), (5, []), (6, []), (7, []), (8, []), (9, []), (10, []), (11, []), (12, []), (13, []), (14, []), (15, []), (16, []), (17, []), (18, []), (20, []), (21, []), (22, []), (23, []), (2, [4, 8, 10, 14, 16, 18, 21, 23]), (19, [4, 8, 10, 14, 21, 23]), (24, [4, 8, 10, 14]), (25, []), (26, []), (27, []), (28, []), (29, []), (30, []), (31, [])]), (10, [(0, []), (1, []), (2, []), (3, []), (4, []), (5, []), (6, []), (7, []), (8, []), (9, []), (10, []), (11, []), (13, []), (14, []), (15, []), (16, []), (12, []), (17, []), (18, [9]), (19, []), (20, []), (21, []), (22, []), (23, []), (24, []), (25, [])])] b30 [.tmp 10, .tmp 11, .tmp 12] := ⟨⟨_, Tryz.func30, rfl, Tryz.ntmps30, rfl, rfl⟩, by kernel_rfl⟩
/-- alum/alumref15.Without -/
noncomputable def b31 : Code := Tryz.f31.body.getD .skip
theorem fn31 : FnOK 31 30 [] b31 [.tmp 4] := ⟨⟨_, Tryz.func31, rfl, Tryz.ntmps31, rfl, rfl⟩, by kernel_rfl⟩
/-- alum/class.Words -/
noncomputable def b32 : Code := Tryz.f32.body.getD .skip
theorem fn32 : FnOK 32 50 [] b32 [.tmp 6, .tmp 7] := ⟨⟨_, Tryz.func32, rfl, Tryz.ntmps32, rfl, rfl⟩, by kernel_rfl⟩
/-- alum/alumref07.Make -/
noncomputable def b33 : Code := Tryz.f33.body.getD .skip
theorem fn33 : FnOK 33 23 [] b33 [.tmp 4] := ⟨⟨_, Tryz.func33, rfl, Tryz.ntmps33, rfl, rfl⟩, by kernel_rfl⟩
/-- slices.ContainsFunc[[]int,int] -/
noncomputable def b34 : Code := Tryz.f34.body.getD .skip
theorem fn34 : FnOK 34 9 [] b34 [.tmp 4] := ⟨⟨_, Tryz.func34, rfl, Tryz.ntmps34, rfl, rfl⟩, by kernel_rfl⟩
/-- alum/tree.Right 1 -/
noncomputable def b35 : Code := Tryz.f35.body.getD .skip
theorem fn35 : FnOK 35 9 [] b35 [.tmp 2] := ⟨⟨_, Tryz.func35, rfl, Tryz.ntmps35, rfl, rfl⟩, by kernel_rfl⟩
/-- slices.Compare[[]int,int] -/
noncomputable def b36 : Code := Tryz.f36.body.getD .skip
theorem fn36 : FnOK 36 36 [] b36 [.tmp 4] := ⟨⟨_, Tryz.func36, rfl, Tryz.ntmps36, rfl, rfl⟩, by kernel_rfl⟩
/-- cmp.Or[int] -/
noncomputable def b37 : Code := Tryz.f37.body.getD .skip
theorem fn37 : FnOK 37 18 [] b37 [.tmp 2] := ⟨⟨_, Tryz.func37, rfl, Tryz.ntmps37, rfl, rfl⟩, by kernel_rfl⟩
/-- cmp.Compare[int] -/
noncomputable def b38 : Code := Tryz.f38.body.getD .skip
theorem fn38 : FnOK 38 20 [] b38 [.tmp 4] := ⟨⟨_, Tryz.func38, rfl, Tryz.ntmps38, rfl, rfl⟩, by kernel_rfl⟩
/-- alum/hash.Words -/
noncomputable def b39 : Code := Tryz.f39.body.getD .skip
theorem fn39 : FnOK 39 28 [(8, [(0, []), (1, []), (2, []), (3, []), (4, []), (5, []), (6, []), (7, [])])] b39 [.tmp 2] := ⟨⟨_, Tryz.func39, rfl, Tryz.ntmps39, rfl, rfl⟩, by kernel_rfl⟩
/-- alum/alumref02.Words -/
noncomputable def b40 : Code := Tryz.f40.body.getD .skip
theorem fn40 : FnOK 40 6 [] b40 [.tmp 2] := ⟨⟨_, Tryz.func40, rfl, Tryz.ntmps40, rfl, rfl⟩, by kernel_rfl⟩
/-- alum/alumref15.put -/
noncomputable def b41 : Code := Tryz.f41.body.getD .skip
theorem fn41 : FnOK 41 49 [(6, [(0, []), (1, []), (2, []), (3, []), (4, []), (5, []), (6, []), (7, []), (8, [])])] b41 [.tmp 4] := ⟨⟨_, Tryz.func41, rfl, Tryz.ntmps41, rfl, rfl⟩, by kernel_rfl⟩
/-- alum/alumref08.Plan -/
noncomputable def b42 : Code := Tryz.f42.body.getD .skip
theorem fn42 : FnOK 42 58 [] b42 [.cell 2 37, .tmp 3] := ⟨⟨_, Tryz.func42, rfl, Tryz.ntmps42, rfl, rfl⟩, by kernel_rfl⟩
/-- alum/memory.New -/
noncomputable def b43 : Code := Tryz.f43.body.getD .skip
theorem fn43 : FnOK 43 32 [] b43 [.tmp 2] := ⟨⟨_, Tryz.func43, rfl, Tryz.ntmps43, rfl, rfl⟩, by kernel_rfl⟩
/-- alum/alumref04.New -/
noncomputable def b44 : Code := Tryz.f44.body.getD .skip
theorem fn44 : FnOK 44 30 [] b44 [.tmp 2] := ⟨⟨_, Tryz.func44, rfl, Tryz.ntmps44, rfl, rfl⟩, by kernel_rfl⟩
/-- alum/redo.Over -/
noncomputable def b45 : Code := Tryz.f45.body.getD .skip
theorem fn45 : FnOK 45 7 [] b45 [.tmp 2] := ⟨⟨_, Tryz.func45, rfl, Tryz.ntmps45, rfl, rfl⟩, by kernel_rfl⟩
/-- alum/alloc.Open -/
noncomputable def b46 : Code := Tryz.f46.body.getD .skip
theorem fn46 : FnOK 46 9 [] b46 [.tmp 4] := ⟨⟨_, Tryz.func46, rfl, Tryz.ntmps46, rfl, rfl⟩, by kernel_rfl⟩
/-- alum/alumref10.Over -/
noncomputable def b47 : Code := Tryz.f47.body.getD .skip
theorem fn47 : FnOK 47 6 [] b47 [.tmp 2] := ⟨⟨_, Tryz.func47, rfl, Tryz.ntmps47, rfl, rfl⟩, by kernel_rfl⟩
/-- alum/alumlaw15.give -/
noncomputable def b48 : Code := Tryz.f48.body.getD .skip
theorem fn48 : FnOK 48 19 [] b48 [.tmp 4] := ⟨⟨_, Tryz.func48, rfl, Tryz.ntmps48, rfl, rfl⟩, by kernel_rfl⟩
/-- slices.Clone[[]int,int] -/
noncomputable def b49 : Code := Tryz.f49.body.getD .skip
theorem fn49 : FnOK 49 8 [] b49 [.tmp 2] := ⟨⟨_, Tryz.func49, rfl, Tryz.ntmps49, rfl, rfl⟩, by kernel_rfl⟩
/-- alum/tree.store -/
noncomputable def b50 : Code := Tryz.f50.body.getD .skip
theorem fn50 : FnOK 50 102 [(9, [(0, []), (1, []), (2, []), (3, []), (4, []), (5, []), (7, []), (8, []), (9, []), (10, []), (11, []), (6, []), (12, []), (13, [])])] b50 [.tmp 8, .tmp 9] := ⟨⟨_, Tryz.func50, rfl, Tryz.ntmps50, rfl, rfl⟩, by kernel_rfl⟩
/-- alum/tree.pairs -/
noncomputable def b51 : Code := Tryz.f51.body.getD .skip
theorem fn51 : FnOK 51 14 [] b51 [.tmp 12] := ⟨⟨_, Tryz.func51, rfl, Tryz.ntmps51, rfl, rfl⟩, by kernel_rfl⟩
/-- alum/tree.way -/
noncomputable def b52 : Code := Tryz.f52.body.getD .skip
theorem fn52 : FnOK 52 70 [] b52 [.tmp 8, .tmp 9, .tmp 10] := ⟨⟨_, Tryz.func52, rfl, Tryz.ntmps52, rfl, rfl⟩, by kernel_rfl⟩
/-- slices.DeleteFunc[[]alum/alloc.owned,alum/alloc.owned] -/
noncomputable def b53 : Code := Tryz.f53.body.getD .skip
theorem fn53 : FnOK 53 42 [] b53 [.tmp 4] := ⟨⟨_, Tryz.func53, rfl, Tryz.ntmps53, rfl, rfl⟩, by kernel_rfl⟩
/-- (*alum/alloc.Heap).Release 1 -/
noncomputable def b54 : Code := Tryz.f54.body.getD .skip
theorem fn54 : FnOK 54 8 [] b54 [.tmp 3] := ⟨⟨_, Tryz.func54, rfl, Tryz.ntmps54, rfl, rfl⟩, by kernel_rfl⟩
/-- (*alum/alloc.Heap).Layout -/
noncomputable def b55 : Code := Tryz.f55.body.getD .skip
theorem fn55 : FnOK 55 7 [] b55 [.cell 2 37] := ⟨⟨_, Tryz.func55, rfl, Tryz.ntmps55, rfl, rfl⟩, by kernel_rfl⟩
/-- alum/tree.finish -/
noncomputable def b56 : Code := Tryz.f56.body.getD .skip
theorem fn56 : FnOK 56 65 [] b56 [.tmp 12, .tmp 13, .tmp 14] := ⟨⟨_, Tryz.func56, rfl, Tryz.ntmps56, rfl, rfl⟩, by kernel_rfl⟩
/-- slices.IndexFunc[[]alum/tree.step,alum/tree.step] -/
noncomputable def b57 : Code := Tryz.f57.body.getD .skip
theorem fn57 : FnOK 57 19 [] b57 [.tmp 4] := ⟨⟨_, Tryz.func57, rfl, Tryz.ntmps57, rfl, rfl⟩, by kernel_rfl⟩
/-- alum/tree.Put 1 -/
noncomputable def b58 : Code := Tryz.f58.body.getD .skip
theorem fn58 : FnOK 58 11 [(1, [(0, []), (1, []), (2, []), (3, []), (4, []), (5, []), (6, []), (7, [])])] b58 [.tmp 3] := ⟨⟨_, Tryz.func58, rfl, Tryz.ntmps58, rfl, rfl⟩, by kernel_rfl⟩
/-- slices.Backward[[]alum/tree.step,alum/tree.step] -/
noncomputable def b59 : Code := Tryz.f59.body.getD .skip
theorem fn59 : FnOK 59 4 [] b59 [.tmp 2] := ⟨⟨_, Tryz.func59, rfl, Tryz.ntmps59, rfl, rfl⟩, by kernel_rfl⟩
/-- slices.Reverse[[]int,int] -/
noncomputable def b60 : Code := Tryz.f60.body.getD .skip
theorem fn60 : FnOK 60 28 [(3, [(0, []), (1, []), (2, []), (3, []), (4, []), (5, []), (6, []), (7, []), (8, []), (9, []), (10, []), (11, []), (12, []), (13, []), (14, []), (15, [])])] b60 [] := ⟨⟨_, Tryz.func60, rfl, Tryz.ntmps60, rfl, rfl⟩, by kernel_rfl⟩
/-- alum/tree.join -/
noncomputable def b61 : Code := Tryz.f61.body.getD .skip
theorem fn61 : FnOK 61 128 [(9, [(0, []), (1, []), (2, []), (3, []), (4, []), (5, []), (6, []), (7, []), (8, [])]), (10, [(0, []), (1, []), (2, []), (3, []), (4, []), (5, []), (6, []), (7, []), (8, []), (9, []), (11, []), (10, [1, 6, 11]), (12, []), (13, []), (14, []), (15, []), (16, []), (17, []), (18, [])]), (12, [(0, []), (1, []), (2, []), (4, []), (5, []), (7, []), (8, []), (10, []), (3, []), (6, [8]), (9, []), (11, []), (12, [])]), (13, [(0, []), (1, []), (2, []), (3, []), (4, []), (5, []), (6, []), (7, []), (8, []), (9, []), (10, []), (11, [1, 7, 8]), (12, []), (13, []), (14, []), (15, []), (16, []), (17, []), (18, [])]), (15, [(0, []), (1, []), (2, []), (3, []), (4, []), (6, []), (7, []), (10, []), (5, []), (8, [3]), (9, []), (11, []), (12, [])])] b61 [.cell 12 125, .tmp 13] := ⟨⟨_, Tryz.func61, rfl, Tryz.ntmps61, rfl, rfl⟩, by kernel_rfl⟩
/-- (alum/tree.spot).under -/
noncomputable def b62 : Code := Tryz.f62.body.getD .skip
theorem fn62 : FnOK 62 30 [(2, [(0, []), (1, []), (2, []), (3, []), (4, []), (5, []), (6, []), (7, []), (8, []), (9, []), (10, []), (11, [])]), (3, [(0, []), (1, []), (2, []), (3, []), (4, []), (5, []), (6, []), (7, []), (8, []), (9, []), (10, []), (11, [])])] b62 [.cell 6 100] := ⟨⟨_, Tryz.func62, rfl, Tryz.ntmps62, rfl, rfl⟩, by kernel_rfl⟩
/-- slices.Concat[[]int,int] -/
noncomputable def b63 : Code := Tryz.f63.body.getD .skip
theorem fn63 : FnOK 63 36 [] b63 [.tmp 2] := ⟨⟨_, Tryz.func63, rfl, Tryz.ntmps63, rfl, rfl⟩, by kernel_rfl⟩
/-- alum/alumref15.has -/
noncomputable def b64 : Code := Tryz.f64.body.getD .skip
theorem fn64 : FnOK 64 18 [] b64 [.tmp 4] := ⟨⟨_, Tryz.func64, rfl, Tryz.ntmps64, rfl, rfl⟩, by kernel_rfl⟩
/-- alum/class.Follow -/
noncomputable def b65 : Code := Tryz.f65.body.getD .skip
theorem fn65 : FnOK 65 46 [(3, [(0, []), (1, []), (2, []), (3, []), (4, [2]), (5, []), (6, []), (7, []), (8, []), (9, []), (10, []), (11, [])]), (4, [(0, []), (1, []), (2, []), (3, []), (4, []), (5, []), (6, []), (7, []), (8, []), (9, []), (10, [8]), (11, []), (12, []), (13, [])])] b65 [.cell 6 132, .tmp 7] := ⟨⟨_, Tryz.func65, rfl, Tryz.ntmps65, rfl, rfl⟩, by kernel_rfl⟩
/-- alum/class.Room -/
noncomputable def b66 : Code := Tryz.f66.body.getD .skip
theorem fn66 : FnOK 66 11 [] b66 [.tmp 2] := ⟨⟨_, Tryz.func66, rfl, Tryz.ntmps66, rfl, rfl⟩, by kernel_rfl⟩
/-- (*alum/redo.View).Load -/
noncomputable def b67 : Code := Tryz.f67.body.getD .skip
theorem fn67 : FnOK 67 30 [(5, [(0, []), (1, []), (2, []), (3, []), (4, []), (5, []), (6, []), (7, []), (8, []), (9, []), (10, [])])] b67 [.cell 4 3, .cell 5 45] := ⟨⟨_, Tryz.func67, rfl, Tryz.ntmps67, rfl, rfl⟩, by kernel_rfl⟩
/-- slices.IndexFunc[[]int,int] -/
noncomputable def b68 : Code := Tryz.f68.body.getD .skip
theorem fn68 : FnOK 68 19 [] b68 [.tmp 4] := ⟨⟨_, Tryz.func68, rfl, Tryz.ntmps68, rfl, rfl⟩, by kernel_rfl⟩
/-- cmp.isNaN[int] -/
noncomputable def b69 : Code := Tryz.f69.body.getD .skip
theorem fn69 : FnOK 69 6 [] b69 [.tmp 2] := ⟨⟨_, Tryz.func69, rfl, Tryz.ntmps69, rfl, rfl⟩, by kernel_rfl⟩
/-- alum/hash.BeginCrc -/
noncomputable def b70 : Code := Tryz.f70.body.getD .skip
theorem fn70 : FnOK 70 2 [] b70 [.cell 0 140] := ⟨⟨_, Tryz.func70, rfl, Tryz.ntmps70, rfl, rfl⟩, by kernel_rfl⟩
/-- (alum/hash.Crc).nibble -/
noncomputable def b71 : Code := Tryz.f71.body.getD .skip
theorem fn71 : FnOK 71 22 [(2, [(0, []), (1, []), (2, []), (3, []), (4, []), (5, []), (6, []), (7, []), (8, []), (9, []), (10, [])])] b71 [.cell 4 140] := ⟨⟨_, Tryz.func71, rfl, Tryz.ntmps71, rfl, rfl⟩, by kernel_rfl⟩
/-- (alum/hash.Crc).Value -/
noncomputable def b72 : Code := Tryz.f72.body.getD .skip
theorem fn72 : FnOK 72 7 [] b72 [.tmp 2] := ⟨⟨_, Tryz.func72, rfl, Tryz.ntmps72, rfl, rfl⟩, by kernel_rfl⟩
/-- alum/alumref02.Crc40 -/
noncomputable def b73 : Code := Tryz.f73.body.getD .skip
theorem fn73 : FnOK 73 30 [] b73 [.tmp 2] := ⟨⟨_, Tryz.func73, rfl, Tryz.ntmps73, rfl, rfl⟩, by kernel_rfl⟩
/-- alum/alumref02.Bytes -/
noncomputable def b74 : Code := Tryz.f74.body.getD .skip
theorem fn74 : FnOK 74 19 [] b74 [.tmp 2] := ⟨⟨_, Tryz.func74, rfl, Tryz.ntmps74, rfl, rfl⟩, by kernel_rfl⟩
/-- alum/code.Encode -/
noncomputable def b75 : Code := Tryz.f75.body.getD .skip
theorem fn75 : FnOK 75 23 [] b75 [.tmp 2] := ⟨⟨_, Tryz.func75, rfl, Tryz.ntmps75, rfl, rfl⟩, by kernel_rfl⟩
/-- alum/alumref03.Encode -/
noncomputable def b76 : Code := Tryz.f76.body.getD .skip
theorem fn76 : FnOK 76 27 [] b76 [.tmp 2] := ⟨⟨_, Tryz.func76, rfl, Tryz.ntmps76, rfl, rfl⟩, by kernel_rfl⟩
/-- (*alum/alloc.Heap).Give -/
noncomputable def b77 : Code := Tryz.f77.body.getD .skip
theorem fn77 : FnOK 77 36 [(1, [(0, []), (1, []), (2, []), (3, []), (5, []), (6, []), (7, []), (8, []), (9, []), (4, [8, 9]), (10, []), (11, []), (12, []), (13, []), (14, []), (15, []), (16, [])])] b77 [.tmp 4] := ⟨⟨_, Tryz.func77, rfl, Tryz.ntmps77, rfl, rfl⟩, by kernel_rfl⟩
/-- alum/class.Fit -/
noncomputable def b78 : Code := Tryz.f78.body.getD .skip
theorem fn78 : FnOK 78 16 [] b78 [.tmp 2, .tmp 3] := ⟨⟨_, Tryz.func78, rfl, Tryz.ntmps78, rfl, rfl⟩, by kernel_rfl⟩
/-- (*alum/alloc.Heap).Take -/
noncomputable def b79 : Code := Tryz.f79.body.getD .skip
theorem fn79 : FnOK 79 86 [] b79 [.tmp 8, .tmp 9] := ⟨⟨_, Tryz.func79, rfl, Tryz.ntmps79, rfl, rfl⟩, by kernel_rfl⟩
/-- alum/class.Fill -/
noncomputable def b80 : Code := Tryz.f80.body.getD .skip
theorem fn80 : FnOK 80 89 [(8, [(0, []), (1, []), (2, []), (3, []), (5, []), (6, []), (7, []), (8, []), (9, []), (10, []), (4, [6]), (11, []), (12, [])])] b80 [.tmp 8] := ⟨⟨_, Tryz.func80, rfl, Tryz.ntmps80, rfl, rfl⟩, by kernel_rfl⟩
/-- alum/tree.pairs 1 -/
noncomputable def b81 : Code := Tryz.f81.body.getD .skip
theorem fn81 : FnOK 81 14 [] b81 [] := ⟨⟨_, Tryz.func81, rfl, Tryz.ntmps81, rfl, rfl⟩, by kernel_rfl⟩
/-- alum/tree.pairs 1 1 -/
noncomputable def b82 : Code := Tryz.f82.body.getD .skip
theorem fn82 : FnOK 82 123 [(8, [(0, []), (1, []), (2, []), (3, []), (4, []), (5, []), (6, []), (7, []), (8, []), (9, []), (10, []), (11, []), (12, []), (13, []), (14, []), (15, []), (16, []), (17, []), (18, []), (19, []), (20, []), (21, [])]), (11, [(0, []), (1, []), (2, []), (3, []), (4, []), (5, []), (6, []), (7, []), (8, []), (9, []), (10, []), (11, []), (12, []), (13, []), (14, []), (15, []), (16, []), (17, []), (18, []), (19, []), (20, []), (21, [13, 18]), (22, []), (23, []), (24, [])]), (15, [(0, []), (1, []), (2, []), (3, []), (4, []), (5, []), (6, []), (7, []), (8, []), (9, []), (10, []), (11, []), (12, []), (13, []), (14, []), (15, []), (16, []), (17, []), (18, []), (19, []), (20, []), (21, [13, 18]), (22, []), (23, []), (24, [])])] b82 [.tmp 11] := ⟨⟨_, Tryz.func82, rfl, Tryz.ntmps82, rfl, rfl⟩, by kernel_rfl⟩
/-- alum/tree.read -/
noncomputable def b83 : Code := Tryz.f83.body.getD .skip
theorem fn83 : FnOK 83 148 [(10, [(0, []), (1, []), (2, []), (3, []), (4, []), (5, []), (6, []), (7, []), (8, []), (9, []), (10, []), (11, []), (12, []), (13, []), (14, []), (15, []), (16, []), (17, []), (18, []), (19, []), (20, []), (21, [])]), (11, [(0, []), (1, []), (2, []), (3, []), (4, []), (5, []), (6, []), (7, []), (8, []), (9, []), (10, []), (11, []), (12, []), (13, []), (14, []), (15, []), (16, []), (17, []), (18, []), (19, []), (20, []), (21, []), (22, []), (23, []), (24, []), (25, []), (26, []), (27, []), (28, []), (29, []), (30, []), (31, []), (32, []), (33, []), (34, []), (35, []), (36, []), (37, []), (38, []), (39, []), (40, []), (41, []), (42, []), (43, [])])] b83 [.tmp 8, .tmp 9] := ⟨⟨_, Tryz.func83, rfl, Tryz.ntmps83, rfl, rfl⟩, by kernel_rfl⟩
/-- slices.IndexFunc[[]alum/alloc.owned,alum/alloc.owned] -/
noncomputable def b84 : Code := Tryz.f84.body.getD .skip
theorem fn84 : FnOK 84 19 [] b84 [.tmp 4] := ⟨⟨_, Tryz.func84, rfl, Tryz.ntmps84, rfl, rfl⟩, by kernel_rfl⟩
/-- slices.Backward[[]alum/tree.step,alum/tree.step] 1 -/
noncomputable def b85 : Code := Tryz.f85.body.getD .skip
theorem fn85 : FnOK 85 19 [] b85 [] := ⟨⟨_, Tryz.func85, rfl, Tryz.ntmps85, rfl, rfl⟩, by kernel_rfl⟩
/-- slices.Grow[[]int,int] -/
noncomputable def b86 : Code := Tryz.f86.body.getD .skip
theorem fn86 : FnOK 86 27 [] b86 [.tmp 4] := ⟨⟨_, Tryz.func86, rfl, Tryz.ntmps86, rfl, rfl⟩, by kernel_rfl⟩
/-- alum/pointer.Right -/
noncomputable def b87 : Code := Tryz.f87.body.getD .skip
theorem fn87 : FnOK 87 31 [] b87 [.tmp 2] := ⟨⟨_, Tryz.func87, rfl, Tryz.ntmps87, rfl, rfl⟩, by kernel_rfl⟩
/-- (alum/class.loader).block -/
noncomputable def b88 : Code := Tryz.f88.body.getD .skip
theorem fn88 : FnOK 88 63 [(1, [(0, []), (1, []), (2, []), (3, []), (4, [1]), (5, []), (6, []), (7, []), (8, []), (9, []), (10, [])]), (4, [(0, []), (1, []), (2, []), (3, []), (4, []), (5, []), (6, []), (7, []), (8, [5]), (9, []), (10, []), (11, [])])] b88 [.cell 6 132, .tmp 7] := ⟨⟨_, Tryz.func88, rfl, Tryz.ntmps88, rfl, rfl⟩, by kernel_rfl⟩
/-- alum/pointer.Line -/
noncomputable def b89 : Code := Tryz.f89.body.getD .skip
theorem fn89 : FnOK 89 11 [(3, [(0, []), (2, []), (3, []), (1, [3]), (4, []), (5, [])])] b89 [.tmp 2] := ⟨⟨_, Tryz.func89, rfl, Tryz.ntmps89, rfl, rfl⟩, by kernel_rfl⟩
/-- alum/pointer.Gen -/
noncomputable def b90 : Code := Tryz.f90.body.getD .skip
theorem fn90 : FnOK 90 11 [(3, [(0, []), (2, []), (3, []), (1, [3]), (4, []), (5, [])])] b90 [.tmp 2] := ⟨⟨_, Tryz.func90, rfl, Tryz.ntmps90, rfl, rfl⟩, by kernel_rfl⟩
/-- alum/pointer.Lines -/
noncomputable def b91 : Code := Tryz.f91.body.getD .skip
theorem fn91 : FnOK 91 11 [] b91 [.tmp 2] := ⟨⟨_, Tryz.func91, rfl, Tryz.ntmps91, rfl, rfl⟩, by kernel_rfl⟩
/-- slices.Backward[[]alum/api.Entry,alum/api.Entry] -/
noncomputable def b92 : Code := Tryz.f92.body.getD .skip
theorem fn92 : FnOK 92 4 [] b92 [.tmp 2] := ⟨⟨_, Tryz.func92, rfl, Tryz.ntmps92, rfl, rfl⟩, by kernel_rfl⟩
/-- (*alum/memory.Memory).Load -/
noncomputable def b93 : Code := Tryz.f93.body.getD .skip
theorem fn93 : FnOK 93 41 [] b93 [.tmp 4, .tmp 5] := ⟨⟨_, Tryz.func93, rfl, Tryz.ntmps93, rfl, rfl⟩, by kernel_rfl⟩
/-- alum/alumref02.step -/
noncomputable def b94 : Code := Tryz.f94.body.getD .skip
theorem fn94 : FnOK 94 20 [] b94 [.tmp 4] := ⟨⟨_, Tryz.func94, rfl, Tryz.ntmps94, rfl, rfl⟩, by kernel_rfl⟩
/-- alum/alumref02.Five -/
noncomputable def b95 : Code := Tryz.f95.body.getD .skip
theorem fn95 : FnOK 95 19 [] b95 [.tmp 2] := ⟨⟨_, Tryz.func95, rfl, Tryz.ntmps95, rfl, rfl⟩, by kernel_rfl⟩
/-- alum/code.valid -/
noncomputable def b96 : Code := Tryz.f96.body.getD .skip
theorem fn96 : FnOK 96 24 [] b96 [.tmp 4] := ⟨⟨_, Tryz.func96, rfl, Tryz.ntmps96, rfl, rfl⟩, by kernel_rfl⟩
/-- alum/code.sum -/
noncomputable def b97 : Code := Tryz.f97.body.getD .skip
theorem fn97 : FnOK 97 29 [] b97 [.tmp 2, .tmp 3] := ⟨⟨_, Tryz.func97, rfl, Tryz.ntmps97, rfl, rfl⟩, by kernel_rfl⟩
/-- math/bits.OnesCount -/
noncomputable def b98 : Code := Tryz.f98.body.getD .skip
theorem fn98 : FnOK 98 8 [] b98 [.tmp 2] := ⟨⟨_, Tryz.func98, rfl, Tryz.ntmps98, rfl, rfl⟩, by kernel_rfl⟩
/-- alum/alumref03.Valid -/
noncomputable def b99 : Code := Tryz.f99.body.getD .skip
theorem fn99 : FnOK 99 26 [] b99 [.tmp 4] := ⟨⟨_, Tryz.func99, rfl, Tryz.ntmps99, rfl, rfl⟩, by kernel_rfl⟩
/-- alum/alumref03.Syndrome -/
noncomputable def b100 : Code := Tryz.f100.body.getD .skip
theorem fn100 : FnOK 100 63 [] b100 [.tmp 4, .tmp 5] := ⟨⟨_, Tryz.func100, rfl, Tryz.ntmps100, rfl, rfl⟩, by kernel_rfl⟩
/-- (*alum/alloc.Heap).durable -/
noncomputable def b101 : Code := Tryz.f101.body.getD .skip
theorem fn101 : FnOK 101 28 [] b101 [] := ⟨⟨_, Tryz.func101, rfl, Tryz.ntmps101, rfl, rfl⟩, by kernel_rfl⟩
/-- (*alum/alloc.Heap).Give 1 -/
noncomputable def b102 : Code := Tryz.f102.body.getD .skip
theorem fn102 : FnOK 102 13 [(0, [(0, []), (1, []), (2, []), (3, []), (4, []), (5, []), (6, []), (7, []), (8, [2]), (9, [])])] b102 [] := ⟨⟨_, Tryz.func102, rfl, Tryz.ntmps102, rfl, rfl⟩, by kernel_rfl⟩
/-- alum/alloc.header -/
noncomputable def b103 : Code := Tryz.f103.body.getD .skip
theorem fn103 : FnOK 103 10 [] b103 [.tmp 4] := ⟨⟨_, Tryz.func103, rfl, Tryz.ntmps103, rfl, rfl⟩, by kernel_rfl⟩
/-- (*alum/alloc.Heap).Give 2 -/
noncomputable def b104 : Code := Tryz.f104.body.getD .skip
theorem fn104 : FnOK 104 8 [] b104 [.tmp 3] := ⟨⟨_, Tryz.func104, rfl, Tryz.ntmps104, rfl, rfl⟩, by kernel_rfl⟩
/-- (*alum/alloc.Heap).find -/
noncomputable def b105 : Code := Tryz.f105.body.getD .skip
theorem fn105 : FnOK 105 70 [(3, [(0, []), (1, []), (2, []), (3, []), (4, []), (5, []), (6, []), (7, []), (8, []), (9, []), (10, [])]), (6, [(0, []), (1, []), (2, []), (3, []), (4, []), (5, []), (6, []), (7, []), (8, []), (9, []), (10, [])])] b105 [.cell 4 202, .tmp 5] := ⟨⟨_, Tryz.func105, rfl, Tryz.ntmps105, rfl, rfl⟩, by kernel_rfl⟩
/-- alum/pointer.Next -/
noncomputable def b106 : Code := Tryz.f106.body.getD .skip
theorem fn106 : FnOK 106 11 [] b106 [.tmp 2] := ⟨⟨_, Tryz.func106, rfl, Tryz.ntmps106, rfl, rfl⟩, by kernel_rfl⟩
/-- alum/pointer.Make -/
noncomputable def b107 : Code := Tryz.f107.body.getD .skip
theorem fn107 : FnOK 107 26 [] b107 [.tmp 4] := ⟨⟨_, Tryz.func107, rfl, Tryz.ntmps107, rfl, rfl⟩, by kernel_rfl⟩
/-- (*alum/alloc.Heap).assign -/
noncomputable def b108 : Code := Tryz.f108.body.getD .skip
theorem fn108 : FnOK 108 16 [] b108 [] := ⟨⟨_, Tryz.func108, rfl, Tryz.ntmps108, rfl, rfl⟩, by kernel_rfl⟩
/-- (*alum/alloc.Heap).Take 1 -/
noncomputable def b109 : Code := Tryz.f109.body.getD .skip
theorem fn109 : FnOK 109 15 [(0, [(0, []), (1, []), (2, []), (3, []), (4, []), (5, []), (6, []), (7, [2]), (8, [])])] b109 [] := ⟨⟨_, Tryz.func109, rfl, Tryz.ntmps109, rfl, rfl⟩, by kernel_rfl⟩
/-- alum/pointer.Pack -/
noncomputable def b110 : Code := Tryz.f110.body.getD .skip
theorem fn110 : FnOK 110 41 [] b110 [.tmp 6] := ⟨⟨_, Tryz.func110, rfl, Tryz.ntmps110, rfl, rfl⟩, by kernel_rfl⟩
/-- alum/class.Fill 1 -/
noncomputable def b111 : Code := Tryz.f111.body.getD .skip
theorem fn111 : FnOK 111 9 [] b111 [.tmp 2] := ⟨⟨_, Tryz.func111, rfl, Tryz.ntmps111, rfl, rfl⟩, by kernel_rfl⟩
/-- (alum/redo.base).M -/
noncomputable def b112 : Code := Tryz.f112.body.getD .skip
theorem fn112 : FnOK 112 5 [] b112 [.tmp 2] := ⟨⟨_, Tryz.func112, rfl, Tryz.ntmps112, rfl, rfl⟩, by kernel_rfl⟩
/-- (*alum/memory.Memory).State -/
noncomputable def b113 : Code := Tryz.f113.body.getD .skip
theorem fn113 : FnOK 113 36 [(3, [(0, []), (1, []), (2, []), (3, []), (4, []), (5, []), (6, []), (7, []), (8, []), (9, []), (10, []), (11, []), (12, []), (13, []), (14, []), (15, []), (16, []), (17, []), (18, []), (19, []), (20, []), (21, []), (22, []), (23, []), (24, []), (25, [])])] b113 [.tmp 4] := ⟨⟨_, Tryz.func113, rfl, Tryz.ntmps113, rfl, rfl⟩, by kernel_rfl⟩
/-- (*alum/memory.Memory).Store -/
noncomputable def b114 : Code := Tryz.f114.body.getD .skip
theorem fn114 : FnOK 114 13 [] b114 [.tmp 6] := ⟨⟨_, Tryz.func114, rfl, Tryz.ntmps114, rfl, rfl⟩, by kernel_rfl⟩
/-- (*alum/memory.Memory).Flush -/
noncomputable def b115 : Code := Tryz.f115.body.getD .skip
theorem fn115 : FnOK 115 29 [(3, [(0, []), (1, []), (2, []), (3, []), (4, []), (5, []), (6, []), (7, []), (8, []), (9, []), (10, []), (11, []), (12, []), (13, []), (14, []), (15, []), (16, [])])] b115 [.tmp 4] := ⟨⟨_, Tryz.func115, rfl, Tryz.ntmps115, rfl, rfl⟩, by kernel_rfl⟩
/-- alum/pointer.of -/
noncomputable def b116 : Code := Tryz.f116.body.getD .skip
theorem fn116 : FnOK 116 4 [] b116 [.tmp 2] := ⟨⟨_, Tryz.func116, rfl, Tryz.ntmps116, rfl, rfl⟩, by kernel_rfl⟩
/-- alum/pointer.word -/
noncomputable def b117 : Code := Tryz.f117.body.getD .skip
theorem fn117 : FnOK 117 9 [] b117 [.tmp 2] := ⟨⟨_, Tryz.func117, rfl, Tryz.ntmps117, rfl, rfl⟩, by kernel_rfl⟩
/-- (alum/class.loader).assigned -/
noncomputable def b118 : Code := Tryz.f118.body.getD .skip
theorem fn118 : FnOK 118 39 [] b118 [.tmp 6, .tmp 7] := ⟨⟨_, Tryz.func118, rfl, Tryz.ntmps118, rfl, rfl⟩, by kernel_rfl⟩
/-- alum/pointer.Chunk -/
noncomputable def b119 : Code := Tryz.f119.body.getD .skip
theorem fn119 : FnOK 119 24 [] b119 [.tmp 4] := ⟨⟨_, Tryz.func119, rfl, Tryz.ntmps119, rfl, rfl⟩, by kernel_rfl⟩
/-- alum/class.proper -/
noncomputable def b120 : Code := Tryz.f120.body.getD .skip
theorem fn120 : FnOK 120 28 [] b120 [.tmp 4] := ⟨⟨_, Tryz.func120, rfl, Tryz.ntmps120, rfl, rfl⟩, by kernel_rfl⟩
/-- alum/pointer.Kind -/
noncomputable def b121 : Code := Tryz.f121.body.getD .skip
theorem fn121 : FnOK 121 5 [] b121 [.tmp 2] := ⟨⟨_, Tryz.func121, rfl, Tryz.ntmps121, rfl, rfl⟩, by kernel_rfl⟩
/-- alum/pointer.Generation -/
noncomputable def b122 : Code := Tryz.f122.body.getD .skip
theorem fn122 : FnOK 122 5 [] b122 [.tmp 2] := ⟨⟨_, Tryz.func122, rfl, Tryz.ntmps122, rfl, rfl⟩, by kernel_rfl⟩
/-- slices.Backward[[]alum/api.Entry,alum/api.Entry] 1 -/
noncomputable def b123 : Code := Tryz.f123.body.getD .skip
theorem fn123 : FnOK 123 19 [] b123 [] := ⟨⟨_, Tryz.func123, rfl, Tryz.ntmps123, rfl, rfl⟩, by kernel_rfl⟩
/-- (*alum/memory.Memory).has -/
noncomputable def b124 : Code := Tryz.f124.body.getD .skip
theorem fn124 : FnOK 124 16 [] b124 [.tmp 4] := ⟨⟨_, Tryz.func124, rfl, Tryz.ntmps124, rfl, rfl⟩, by kernel_rfl⟩
/-- (*alum/memory.line).shows -/
noncomputable def b125 : Code := Tryz.f125.body.getD .skip
theorem fn125 : FnOK 125 48 [(1, [(0, []), (1, []), (2, []), (3, []), (4, []), (5, []), (6, []), (7, []), (8, []), (9, []), (10, []), (11, []), (12, []), (13, []), (14, []), (15, []), (16, []), (17, []), (18, [])])] b125 [.cell 4 149, .tmp 5] := ⟨⟨_, Tryz.func125, rfl, Tryz.ntmps125, rfl, rfl⟩, by kernel_rfl⟩
/-- alum/code.position -/
noncomputable def b126 : Code := Tryz.f126.body.getD .skip
theorem fn126 : FnOK 126 27 [] b126 [.tmp 4] := ⟨⟨_, Tryz.func126, rfl, Tryz.ntmps126, rfl, rfl⟩, by kernel_rfl⟩
/-- math/bits.TrailingZeros -/
noncomputable def b127 : Code := Tryz.f127.body.getD .skip
theorem fn127 : FnOK 127 8 [] b127 [.tmp 2] := ⟨⟨_, Tryz.func127, rfl, Tryz.ntmps127, rfl, rfl⟩, by kernel_rfl⟩
/-- math/bits.OnesCount32 -/
noncomputable def b128 : Code := Tryz.f128.body.getD .skip
theorem fn128 : FnOK 128 21 [(1, [(0, []), (1, []), (2, []), (3, []), (4, []), (5, []), (6, []), (7, []), (8, []), (9, []), (10, []), (11, []), (12, []), (13, []), (14, []), (15, []), (16, []), (17, []), (18, [])])] b128 [.tmp 2] := ⟨⟨_, Tryz.func128, rfl, Tryz.ntmps128, rfl, rfl⟩, by kernel_rfl⟩
/-- math/bits.OnesCount64 -/
noncomputable def b129 : Code := Tryz.f129.body.getD .skip
theorem fn129 : FnOK 129 35 [] b129 [.tmp 2] := ⟨⟨_, Tryz.func129, rfl, Tryz.ntmps129, rfl, rfl⟩, by kernel_rfl⟩
/-- alum/alumref03.one -/
noncomputable def b130 : Code := Tryz.f130.body.getD .skip
theorem fn130 : FnOK 130 23 [] b130 [.tmp 8] := ⟨⟨_, Tryz.func130, rfl, Tryz.ntmps130, rfl, rfl⟩, by kernel_rfl⟩
/-- alum/alumref03.place -/
noncomputable def b131 : Code := Tryz.f131.body.getD .skip
theorem fn131 : FnOK 131 17 [] b131 [.tmp 2] := ⟨⟨_, Tryz.func131, rfl, Tryz.ntmps131, rfl, rfl⟩, by kernel_rfl⟩
/-- (*alum/alloc.Heap).durable 1 -/
noncomputable def b132 : Code := Tryz.f132.body.getD .skip
theorem fn132 : FnOK 132 18 [] b132 [] := ⟨⟨_, Tryz.func132, rfl, Tryz.ntmps132, rfl, rfl⟩, by kernel_rfl⟩
/-- (*alum/memory.Memory).Fence -/
noncomputable def b133 : Code := Tryz.f133.body.getD .skip
theorem fn133 : FnOK 133 26 [] b133 [] := ⟨⟨_, Tryz.func133, rfl, Tryz.ntmps133, rfl, rfl⟩, by kernel_rfl⟩
/-- alum/class.Scan -/
noncomputable def b134 : Code := Tryz.f134.body.getD .skip
theorem fn134 : FnOK 134 67 [] b134 [.cell 4 227] := ⟨⟨_, Tryz.func134, rfl, Tryz.ntmps134, rfl, rfl⟩, by kernel_rfl⟩
/-- alum/class.Free -/
noncomputable def b135 : Code := Tryz.f135.body.getD .skip
theorem fn135 : FnOK 135 14 [] b135 [.tmp 4] := ⟨⟨_, Tryz.func135, rfl, Tryz.ntmps135, rfl, rfl⟩, by kernel_rfl⟩
/-- (*alum/alloc.Heap).usable -/
noncomputable def b136 : Code := Tryz.f136.body.getD .skip
theorem fn136 : FnOK 136 52 [] b136 [.tmp 4, .tmp 5] := ⟨⟨_, Tryz.func136, rfl, Tryz.ntmps136, rfl, rfl⟩, by kernel_rfl⟩
/-- (*alum/alloc.Heap).first -/
noncomputable def b137 : Code := Tryz.f137.body.getD .skip
theorem fn137 : FnOK 137 13 [] b137 [.tmp 4] := ⟨⟨_, Tryz.func137, rfl, Tryz.ntmps137, rfl, rfl⟩, by kernel_rfl⟩
/-- (*alum/alloc.Heap).assign 1 -/
noncomputable def b138 : Code := Tryz.f138.body.getD .skip
theorem fn138 : FnOK 138 28 [(0, [(0, []), (1, []), (2, []), (3, []), (4, []), (5, []), (8, []), (6, []), (7, [])])] b138 [] := ⟨⟨_, Tryz.func138, rfl, Tryz.ntmps138, rfl, rfl⟩, by kernel_rfl⟩
/-- alum/class.Starts -/
noncomputable def b139 : Code := Tryz.f139.body.getD .skip
theorem fn139 : FnOK 139 43 [] b139 [.tmp 6] := ⟨⟨_, Tryz.func139, rfl, Tryz.ntmps139, rfl, rfl⟩, by kernel_rfl⟩
/-- (*alum/alloc.Heap).word -/
noncomputable def b140 : Code := Tryz.f140.body.getD .skip
theorem fn140 : FnOK 140 9 [] b140 [] := ⟨⟨_, Tryz.func140, rfl, Tryz.ntmps140, rfl, rfl⟩, by kernel_rfl⟩
/-- alum/code.Check -/
noncomputable def b141 : Code := Tryz.f141.body.getD .skip
theorem fn141 : FnOK 141 64 [(18, [(0, []), (1, []), (2, []), (3, []), (4, [1, 3]), (5, [3]), (6, [])])] b141 [.cell 4 3, .cell 5 3, .cell 6 3] := ⟨⟨_, Tryz.func141, rfl, Tryz.ntmps141, rfl, rfl⟩, by kernel_rfl⟩
/-- (*alum/memory.Memory).put -/
noncomputable def b142 : Code := Tryz.f142.body.getD .skip
theorem fn142 : FnOK 142 68 [(2, [(0, []), (1, []), (2, []), (3, []), (4, []), (5, []), (6, []), (7, []), (8, []), (9, []), (10, []), (11, []), (12, []), (13, []), (14, []), (15, []), (16, []), (17, []), (18, [3]), (19, []), (20, []), (21, [])])] b142 [.tmp 10] := ⟨⟨_, Tryz.func142, rfl, Tryz.ntmps142, rfl, rfl⟩, by kernel_rfl⟩
/-- (*alum/memory.Memory).note -/
noncomputable def b143 : Code := Tryz.f143.body.getD .skip
theorem fn143 : FnOK 143 14 [(1, [(0, []), (1, []), (2, []), (3, []), (4, []), (5, []), (6, []), (7, []), (8, []), (9, []), (10, [])])] b143 [] := ⟨⟨_, Tryz.func143, rfl, Tryz.ntmps143, rfl, rfl⟩, by kernel_rfl⟩
/-- alum/pointer.of 1 -/
noncomputable def b144 : Code := Tryz.f144.body.getD .skip
theorem fn144 : FnOK 144 13 [(1, [(0, []), (1, []), (2, []), (3, []), (4, []), (5, []), (6, []), (7, []), (8, []), (9, [])])] b144 [.tmp 3] := ⟨⟨_, Tryz.func144, rfl, Tryz.ntmps144, rfl, rfl⟩, by kernel_rfl⟩
/-- alum/pointer.Formed -/
noncomputable def b145 : Code := Tryz.f145.body.getD .skip
theorem fn145 : FnOK 145 18 [(1, [(0, []), (1, []), (2, []), (3, []), (4, []), (5, []), (6, []), (7, []), (8, []), (10, []), (11, []), (9, [11]), (12, []), (13, []), (14, []), (15, [])])] b145 [.tmp 2] := ⟨⟨_, Tryz.func145, rfl, Tryz.ntmps145, rfl, rfl⟩, by kernel_rfl⟩
/-- alum/pointer.Class -/
noncomputable def b146 : Code := Tryz.f146.body.getD .skip
theorem fn146 : FnOK 146 5 [] b146 [.tmp 2] := ⟨⟨_, Tryz.func146, rfl, Tryz.ntmps146, rfl, rfl⟩, by kernel_rfl⟩
/-- alum/pointer.header -/
noncomputable def b147 : Code := Tryz.f147.body.getD .skip
theorem fn147 : FnOK 147 14 [(3, [(0, []), (2, []), (3, []), (4, []), (1, [4]), (5, []), (6, [])])] b147 [.tmp 4] := ⟨⟨_, Tryz.func147, rfl, Tryz.ntmps147, rfl, rfl⟩, by kernel_rfl⟩
/-- alum/code.Fix -/
noncomputable def b148 : Code := Tryz.f148.body.getD .skip
theorem fn148 : FnOK 148 38 [] b148 [.cell 4 149, .tmp 5, .tmp 6] := ⟨⟨_, Tryz.func148, rfl, Tryz.ntmps148, rfl, rfl⟩, by kernel_rfl⟩
/-- math/bits.Len -/
noncomputable def b149 : Code := Tryz.f149.body.getD .skip
theorem fn149 : FnOK 149 8 [] b149 [.tmp 2] := ⟨⟨_, Tryz.func149, rfl, Tryz.ntmps149, rfl, rfl⟩, by kernel_rfl⟩
/-- math/bits.TrailingZeros32 -/
noncomputable def b150 : Code := Tryz.f150.body.getD .skip
theorem fn150 : FnOK 150 14 [] b150 [.tmp 2] := ⟨⟨_, Tryz.func150, rfl, Tryz.ntmps150, rfl, rfl⟩, by kernel_rfl⟩
/-- math/bits.TrailingZeros64 -/
noncomputable def b151 : Code := Tryz.f151.body.getD .skip
theorem fn151 : FnOK 151 14 [] b151 [.tmp 2] := ⟨⟨_, Tryz.func151, rfl, Tryz.ntmps151, rfl, rfl⟩, by kernel_rfl⟩
/-- (*alum/memory.Memory).settle -/
noncomputable def b152 : Code := Tryz.f152.body.getD .skip
theorem fn152 : FnOK 152 58 [] b152 [] := ⟨⟨_, Tryz.func152, rfl, Tryz.ntmps152, rfl, rfl⟩, by kernel_rfl⟩
/-- alum/class.Assigned -/
noncomputable def b153 : Code := Tryz.f153.body.getD .skip
theorem fn153 : FnOK 153 15 [] b153 [.tmp 6, .tmp 7] := ⟨⟨_, Tryz.func153, rfl, Tryz.ntmps153, rfl, rfl⟩, by kernel_rfl⟩
/-- alum/class.Block -/
noncomputable def b154 : Code := Tryz.f154.body.getD .skip
theorem fn154 : FnOK 154 15 [] b154 [.cell 6 132, .tmp 7] := ⟨⟨_, Tryz.func154, rfl, Tryz.ntmps154, rfl, rfl⟩, by kernel_rfl⟩
/-- slices.DeleteFunc[[]alum/api.Block,alum/api.Block] -/
noncomputable def b155 : Code := Tryz.f155.body.getD .skip
theorem fn155 : FnOK 155 42 [] b155 [.tmp 4] := ⟨⟨_, Tryz.func155, rfl, Tryz.ntmps155, rfl, rfl⟩, by kernel_rfl⟩
/-- slices.Clone[[]alum/api.Block,alum/api.Block] -/
noncomputable def b156 : Code := Tryz.f156.body.getD .skip
theorem fn156 : FnOK 156 8 [] b156 [.tmp 2] := ⟨⟨_, Tryz.func156, rfl, Tryz.ntmps156, rfl, rfl⟩, by kernel_rfl⟩
/-- alum/class.Free 1 -/
noncomputable def b157 : Code := Tryz.f157.body.getD .skip
theorem fn157 : FnOK 157 13 [] b157 [.tmp 3] := ⟨⟨_, Tryz.func157, rfl, Tryz.ntmps157, rfl, rfl⟩, by kernel_rfl⟩
/-- slices.SortStableFunc[[]alum/api.Block,alum/api.Block] -/
noncomputable def b158 : Code := Tryz.f158.body.getD .skip
theorem fn158 : FnOK 158 9 [] b158 [] := ⟨⟨_, Tryz.func158, rfl, Tryz.ntmps158, rfl, rfl⟩, by kernel_rfl⟩
/-- alum/class.Free 2 -/
noncomputable def b159 : Code := Tryz.f159.body.getD .skip
theorem fn159 : FnOK 159 17 [(1, [(0, []), (1, []), (2, []), (3, []), (5, []), (6, []), (7, []), (8, []), (4, [6, 8]), (9, []), (10, []), (11, []), (12, [])])] b159 [.tmp 4] := ⟨⟨_, Tryz.func159, rfl, Tryz.ntmps159, rfl, rfl⟩, by kernel_rfl⟩
/-- (*alum/alloc.Heap).word 1 -/
noncomputable def b160 : Code := Tryz.f160.body.getD .skip
theorem fn160 : FnOK 160 16 [(0, [(0, []), (1, []), (2, []), (3, []), (4, []), (5, []), (6, []), (7, []), (8, []), (9, []), (10, [])])] b160 [] := ⟨⟨_, Tryz.func160, rfl, Tryz.ntmps160, rfl, rfl⟩, by kernel_rfl⟩
/-- alum/code.positions -/
noncomputable def b161 : Code := Tryz.f161.body.getD .skip
theorem fn161 : FnOK 161 1 [] b161 [.tmp 0] := ⟨⟨_, Tryz.func161, rfl, Tryz.ntmps161, rfl, rfl⟩, by kernel_rfl⟩
/-- alum/memory.word -/
noncomputable def b162 : Code := Tryz.f162.body.getD .skip
theorem fn162 : FnOK 162 9 [] b162 [.tmp 2] := ⟨⟨_, Tryz.func162, rfl, Tryz.ntmps162, rfl, rfl⟩, by kernel_rfl⟩
/-- alum/code.Flip -/
noncomputable def b163 : Code := Tryz.f163.body.getD .skip
theorem fn163 : FnOK 163 31 [(1, [(0, []), (1, []), (2, []), (3, []), (4, []), (5, []), (6, []), (7, [])])] b163 [.cell 8 149, .tmp 9] := ⟨⟨_, Tryz.func163, rfl, Tryz.ntmps163, rfl, rfl⟩, by kernel_rfl⟩
/-- math/bits.Len32 -/
noncomputable def b164 : Code := Tryz.f164.body.getD .skip
theorem fn164 : FnOK 164 19 [] b164 [.tmp 2] := ⟨⟨_, Tryz.func164, rfl, Tryz.ntmps164, rfl, rfl⟩, by kernel_rfl⟩
/-- math/bits.Len64 -/
noncomputable def b165 : Code := Tryz.f165.body.getD .skip
theorem fn165 : FnOK 165 25 [] b165 [.tmp 2] := ⟨⟨_, Tryz.func165, rfl, Tryz.ntmps165, rfl, rfl⟩, by kernel_rfl⟩
/-- slices.Clone[[]alum/api.Store,alum/api.Store] -/
noncomputable def b166 : Code := Tryz.f166.body.getD .skip
theorem fn166 : FnOK 166 8 [] b166 [.tmp 2] := ⟨⟨_, Tryz.func166, rfl, Tryz.ntmps166, rfl, rfl⟩, by kernel_rfl⟩
/-- (*alum/memory.Memory).rest -/
noncomputable def b167 : Code := Tryz.f167.body.getD .skip
theorem fn167 : FnOK 167 24 [] b167 [] := ⟨⟨_, Tryz.func167, rfl, Tryz.ntmps167, rfl, rfl⟩, by kernel_rfl⟩
/-- slices.IndexFunc[[]alum/api.Block,alum/api.Block] -/
noncomputable def b168 : Code := Tryz.f168.body.getD .skip
theorem fn168 : FnOK 168 19 [] b168 [.tmp 4] := ⟨⟨_, Tryz.func168, rfl, Tryz.ntmps168, rfl, rfl⟩, by kernel_rfl⟩
/-- slices.stableCmpFunc[alum/api.Block] -/
noncomputable def b169 : Code := Tryz.f169.body.getD .skip
theorem fn169 : FnOK 169 63 [] b169 [] := ⟨⟨_, Tryz.func169, rfl, Tryz.ntmps169, rfl, rfl⟩, by kernel_rfl⟩
/-- alum/code.positions 1 -/
noncomputable def b170 : Code := Tryz.f170.body.getD .skip
theorem fn170 : FnOK 170 26 [] b170 [] := ⟨⟨_, Tryz.func170, rfl, Tryz.ntmps170, rfl, rfl⟩, by kernel_rfl⟩
/-- alum/code.exists -/
noncomputable def b171 : Code := Tryz.f171.body.getD .skip
theorem fn171 : FnOK 171 31 [] b171 [.tmp 4] := ⟨⟨_, Tryz.func171, rfl, Tryz.ntmps171, rfl, rfl⟩, by kernel_rfl⟩
/-- slices.insertionSortCmpFunc[alum/api.Block] -/
noncomputable def b172 : Code := Tryz.f172.body.getD .skip
theorem fn172 : FnOK 172 53 [(4, [(0, []), (1, []), (2, []), (3, []), (4, []), (5, []), (6, []), (7, []), (8, []), (9, []), (10, []), (11, []), (12, []), (13, []), (14, []), (15, []), (16, [])]), (6, [(0, []), (1, []), (2, []), (3, []), (4, []), (5, []), (6, []), (7, []), (8, []), (9, []), (10, []), (11, []), (12, []), (13, []), (14, []), (15, []), (16, []), (17, [])])] b172 [] := ⟨⟨_, Tryz.func172, rfl, Tryz.ntmps172, rfl, rfl⟩, by kernel_rfl⟩
/-- slices.symMergeCmpFunc[alum/api.Block] -/
noncomputable def b173 : Code := Tryz.f173.body.getD .skip
theorem fn173 : FnOK 173 220 [(5, [(0, []), (1, []), (2, []), (3, []), (4, []), (5, []), (6, []), (7, []), (8, []), (9, []), (10, [])]), (11, [(0, []), (1, []), (2, []), (3, []), (4, []), (5, []), (6, []), (7, []), (8, []), (9, []), (10, []), (11, []), (12, []), (13, []), (14, []), (15, []), (16, []), (17, [])]), (17, [(0, []), (1, []), (2, []), (3, []), (4, []), (5, []), (6, []), (7, []), (8, []), (9, []), (10, []), (11, [])]), (23, [(0, []), (1, []), (2, []), (3, []), (4, []), (5, []), (6, []), (7, []), (8, []), (9, []), (10, []), (11, []), (12, []), (13, []), (14, []), (15, []), (16, []), (17, [])]), (35, [(0, []), (1, []), (2, []), (3, []), (4, []), (5, []), (6, []), (7, []), (8, []), (9, []), (10, []), (11, []), (12, []), (13, [])])] b173 [] := ⟨⟨_, Tryz.func173, rfl, Tryz.ntmps173, rfl, rfl⟩, by kernel_rfl⟩
/-- slices.rotateCmpFunc[alum/api.Block] -/
noncomputable def b174 : Code := Tryz.f174.body.getD .skip
theorem fn174 : FnOK 174 58 [] b174 [] := ⟨⟨_, Tryz.func174, rfl, Tryz.ntmps174, rfl, rfl⟩, by kernel_rfl⟩
/-- slices.swapRangeCmpFunc[alum/api.Block] -/
noncomputable def b175 : Code := Tryz.f175.body.getD .skip
theorem fn175 : FnOK 175 38 [(3, [(0, []), (1, []), (2, []), (3, []), (4, []), (5, []), (6, []), (7, []), (8, []), (9, []), (10, []), (11, []), (12, []), (13, []), (14, []), (15, []), (16, []), (17, []), (18, []), (19, []), (20, []), (21, []), (22, []), (23, [])])] b175 [] := ⟨⟨_, Tryz.func175, rfl, Tryz.ntmps175, rfl, rfl⟩, by kernel_rfl⟩

end Go.Eng
