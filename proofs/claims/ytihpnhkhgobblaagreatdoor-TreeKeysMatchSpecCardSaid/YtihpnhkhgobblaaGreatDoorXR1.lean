/- From a world that the rows speak of to the view: lists of integers that are handed in, and the tables that the program lays. Conditions: in each. -/
import Derived.Test.YtihpnhkhgobblaaGreatDoorTie
import Derived.Test.YtihpnhkhgobblaaGreatDoorCards
import Derived.ProofKit
import Derived.OpenShut
import Derived.LaidMore
import Derived.Lay
import Derived.SevenTiedAt
import Derived.Stop.Joined
import Derived.ChangeSlices
import Derived.Below
import Derived.Test.YtihpnhkhgobblaaGreatDoorXK3
namespace Go.Eng
open Go Go.Proofs Go.ChangeShapes Go.WideShapes Go.ChangeAt Go.RowKit

/-- All rows of a world, none of them to be written. -/
def ofW (W : World) : Heap := fun r => match W.heap[r]? with
  | some (.cells c t _) => some (.cells 0 c.toList t c.size)
  | _ => none

theorem ofW_rel (W : World) : Rel (ofW W) W := fun r o h => by
  unfold ofW at h
  split at h
  · rename_i c t fz hc
    cases h
    exact ⟨_, hc, c, fz, rfl, rfl, List.prefix_refl _, fun h => absurd rfl h⟩
  · cases h

theorem ofW_tag {W : World} {r : Nat} {o : AObj} (h : ofW W r = some o) : o.tag = 0 := by
  unfold ofW at h
  split at h
  · cases h; rfl
  · cases h

theorem ofW_rd {W : World} {r i : Nat} {v : Value} (h : W.cell? ⟨r, i, none⟩ = some v) : (ofW W).rd r i = some v := by
  unfold World.cell? at h
  split at h
  · rename_i c t fz hc
    simp only [Option.isSome_none, Bool.false_eq_true, if_false] at h
    dsimp only at hc
    unfold Heap.rd ofW
    rw [hc]
    simpa using h
  · cases h

theorem ofW_rds {W : World} {r o : Nat} {l : List Value} (h : ∀ i v, l[i]? = some v → W.cell? ⟨r, o + i, none⟩ = some v) : (ofW W).rds r o l.length = some l :=
  rds_of fun i v hv => ofW_rd (h i v hv)

/-- A contract from the view of all rows: what was there before lies as it lay. -/
theorem calls_below {P : Program} {f : FuncId} {args : List Value} {W : World} {R : Value → Heap → Prop} (h : ACalls P f args (ofW W) R) :
    Calls P f args.toArray W fun e W' => ∃ v σ', e = .returned v ∧ R v σ' ∧ Rel σ' W' ∧ Below W.heap.size W W' := by
  refine Calls.mono (CallsIn.calls (h.2 W (ofW_rel W)) (fun _ => (by intro d hd; cases hd))) fun e W' ⟨v, σ', he, hI, hR⟩ => ⟨v, σ', he, hR, hI.rel, hI.os, hI.tape, hI.output, hI.size, fun k hk => ?_⟩
  cases ho : ofW W k with
  | none => exact (hI.old k hk ho).2
  | some o =>
    have ht := ofW_tag ho
    cases o with
    | cells g cs t n =>
      have : g = 0 := ht
      subst this
      exact (hI.ro k cs t n hk ho).1
    | other g ob =>
      unfold ofW at ho
      split at ho
      · cases ho
      · cases ho

/-! ### The tables -/
section
variable {P : Program} {W : World}

theorem laid_arr {n : String} {g : Nat} {t e : TypeId} {k : IntKind} {zs : List Int} (hg : P.globalNamed n = some g) (hgt : (P.globals[g]?).map (·.type) = some t) (ht : P.underlying t = some (.array zs.length e)) (he : P.underlying e = some (.int k)) (hc : P.cellsOf e = 1)
    {g' : Nat} {t' : TypeId} {cs : Array Value} {fuel : Nat} {p : List MemPlace} (h1 : P.globalNamed n = some g') (h2 : (P.globals[g']?).map (·.type) = some t') (h3 : W.var? P n = some cs)
    (h4 : DataW.trod (fun _ => ()) P W 0 (fun _ => true) false fuel t' cs.toList = some (.agg (zs.map fun z => .lit (.int k z)), p)) : (ofW W).rds g 0 zs.length = some (zs.map (.int k ·)) := by
  rw [hg] at h1
  cases h1
  rw [hgt] at h2
  cases h2
  obtain ⟨xs, m, _, ex, _, hl, hel⟩ := DataW.trod_array ht h4
  have hlen : (zs.map (Value.int k ·)).length = zs.length := List.length_map ..
  rw [← hlen]
  refine ofW_rds fun i v hv => ?_
  rw [List.getElem?_map] at hv
  cases hz : zs[i]? with
  | none => rw [hz] at hv; cases hv
  | some z =>
    rw [hz] at hv
    cases hv
    have hi : i < zs.length := (List.getElem?_eq_some_iff.1 hz).1
    have hE := hel i hi
    rw [hc, Nat.mul_one, List.getElem?_eq_getElem (by omega)] at hE
    obtain ⟨y, e1, e2, _⟩ := DataW.trod_int he hE
    have e3 : xs.map (·.1) = zs.map fun z => (.lit (.int k z) : DataW Unit) := (DataW.agg.inj (Prod.mk.inj ex).1).symm
    have e4 : (xs.map (·.1))[i]? = (zs.map fun z => (.lit (.int k z) : DataW Unit))[i]? := by rw [e3]
    rw [List.getElem?_map, List.getElem?_map, List.getElem?_eq_getElem (by omega : i < xs.length), hz, e2] at e4
    simp only [Option.map_some, Option.some.injEq, DataW.lit.injEq, Lit.int.injEq, true_and] at e4
    subst e4
    rw [Nat.zero_add, World.var?_cell hg h3 i]
    have h0 : ((cs.toList.drop i).take 1)[0]? = some (.int k y) := by rw [e1]; rfl
    simpa using h0

/-- An array of pairs. -/
theorem laid_pairs {n : String} {g : Nat} {t s e : TypeId} {k : IntKind} {fs : Array Field} {zs : List (Int × Int)} (hg : P.globalNamed n = some g) (hgt : (P.globals[g]?).map (·.type) = some t) (ht : P.underlying t = some (.array zs.length s)) (hs : P.underlying s = some (.struct fs))
    {f0 f1 : Field} (hf0 : fs[0]? = some f0) (hf1 : fs[1]? = some f1) (o0 : f0.offset = 0) (o1 : f1.offset = 1) (t0 : f0.type = e) (t1 : f1.type = e) (he : P.underlying e = some (.int k)) (hc : P.cellsOf e = 1) (hc2 : P.cellsOf s = 2)
    {g' : Nat} {t' : TypeId} {cs : Array Value} {fuel : Nat} {p : List MemPlace} (h1 : P.globalNamed n = some g') (h2 : (P.globals[g']?).map (·.type) = some t') (h3 : W.var? P n = some cs)
    (h4 : DataW.trod (fun _ => ()) P W 0 (fun _ => true) false fuel t' cs.toList = some (.agg (zs.map fun z => .agg [.lit (.int k z.1), .lit (.int k z.2)]), p)) :
    (ofW W).rds g 0 (zs.length * 2) = some (zs.flatMap fun z => [.int k z.1, .int k z.2]) := by
  rw [hg] at h1
  cases h1
  rw [hgt] at h2
  cases h2
  obtain ⟨xs, m, _, ex, _, hl, hel⟩ := DataW.trod_array ht h4
  have fl : ∀ zs : List (Int × Int), (zs.flatMap fun z => [Value.int k z.1, Value.int k z.2]).length = zs.length * 2 := fun zs => by
    induction zs with
    | nil => rfl
    | cons z zs ih => simp [ih]; omega
  have fg : ∀ (zs : List (Int × Int)) (i : Nat) (z : Int × Int), zs[i]? = some z → (zs.flatMap fun z => [Value.int k z.1, Value.int k z.2])[i * 2]? = some (.int k z.1) ∧ (zs.flatMap fun z => [Value.int k z.1, Value.int k z.2])[i * 2 + 1]? = some (.int k z.2) := fun zs => by
    induction zs with
    | nil => intro i z h; simp at h
    | cons y zs ih =>
      intro i z h
      cases i with
      | zero => simp at h; subst h; exact ⟨rfl, rfl⟩
      | succ i =>
        have := ih i z (by simpa using h)
        simp only [List.flatMap_cons]
        have e1 : (i + 1) * 2 = i * 2 + 1 + 1 := by omega
        rw [e1]
        simpa using this
  rw [← fl zs]
  refine ofW_rds fun j v hv => ?_
  have hj : j < zs.length * 2 := by
    rw [← fl zs]
    exact (List.getElem?_eq_some_iff.1 hv).1
  have hi : j / 2 < zs.length := by omega
  have hz : zs[j / 2]? = some (zs[j / 2]) := List.getElem?_eq_getElem hi
  have hE := hel (j / 2) hi
  rw [hc2, List.getElem?_eq_getElem (by omega)] at hE
  obtain ⟨ys, m2, _, ey, _, hly, hely⟩ := DataW.trod_struct hs hE
  have e3 : xs.map (·.1) = zs.map fun z => (.agg [.lit (.int k z.1), .lit (.int k z.2)] : DataW Unit) := (DataW.agg.inj (Prod.mk.inj ex).1).symm
  have e4 : (xs.map (·.1))[j / 2]? = (zs.map fun z => (.agg [.lit (.int k z.1), .lit (.int k z.2)] : DataW Unit))[j / 2]? := by rw [e3]
  rw [List.getElem?_map, List.getElem?_map, List.getElem?_eq_getElem (by omega : j / 2 < xs.length), hz] at e4
  have e5 : (xs[j / 2]'(by omega)).1 = .agg (ys.map (·.1)) := congrArg Prod.fst ey
  simp only [Option.map_some, Option.some.injEq, e5, DataW.agg.injEq] at e4
  have q0 := hely 0 f0 hf0
  have q1 := hely 1 f1 hf1
  have hy2 : ys.length = 2 := by
    have := congrArg List.length e4
    simpa using this
  rw [o0, t0, hc, List.getElem?_eq_getElem (by omega)] at q0
  rw [o1, t1, hc, List.getElem?_eq_getElem (by omega)] at q1
  obtain ⟨y0, a1, a2, _⟩ := DataW.trod_int he q0
  obtain ⟨y1, b1, b2, _⟩ := DataW.trod_int he q1
  have v0 : y0 = zs[j / 2].1 := by
    have : (ys.map (·.1))[0]? = some (.lit (.int k zs[j / 2].1)) := by rw [e4]; rfl
    rw [List.getElem?_map, List.getElem?_eq_getElem (by omega), a2] at this
    simpa using this
  have v1 : y1 = zs[j / 2].2 := by
    have : (ys.map (·.1))[1]? = some (.lit (.int k zs[j / 2].2)) := by rw [e4]; rfl
    rw [List.getElem?_map, List.getElem?_eq_getElem (by omega), b2] at this
    simpa using this
  have c0 : cs.toList[j / 2 * 2]? = some (.int k y0) := by
    have h0 : ((((cs.toList.drop (j / 2 * 2)).take 2).drop 0).take 1)[0]? = some (.int k y0) := by rw [a1]; rfl
    simpa using h0
  have c1 : cs.toList[j / 2 * 2 + 1]? = some (.int k y1) := by
    have h0 : ((((cs.toList.drop (j / 2 * 2)).take 2).drop 1).take 1)[0]? = some (.int k y1) := by rw [b1]; rfl
    simpa using h0
  obtain ⟨g0, g1⟩ := fg zs _ _ hz
  rw [Nat.zero_add, World.var?_cell hg h3 j, ← Array.getElem?_toList]
  by_cases hp : j % 2 = 0
  · have e : j = j / 2 * 2 := by omega
    rw [e] at hv ⊢
    rw [g0] at hv
    rw [c0, v0]
    exact hv
  · have e : j = j / 2 * 2 + 1 := by omega
    rw [e] at hv ⊢
    rw [g1] at hv
    rw [c1, v1]
    exact hv
end

open YtihpnhkhgobblaaGreatDoor in
/-- What the five tables hold. -/
theorem glob_of {W : World} (h : laidMetH Tryz.prog [("alum/pointer.pointers", Rows.laid_alum_pointer_pointers), ("alum/pointer.headers", Rows.laid_alum_pointer_headers), ("math/bits.deBruijn32tab", Rows.laid_math_bits_deBruijn32tab), ("math/bits.deBruijn64tab", Rows.laid_math_bits_deBruijn64tab), ("alum/hash.nibbles", Rows.laid_alum_hash_nibbles)] W) : Glob (ofW W) := by
  rw [MakeChecks.laidMetH_plain _ _ _ (by kernel_rfl)] at h
  obtain ⟨ps, ⟨g1, t1, cs1, fu1, p1, q1, a1, b1, c1, d1, ⟨g2, t2, cs2, fu2, p2, q2, a2, b2, c2, d2, ⟨g3, t3, cs3, fu3, p3, q3, a3, b3, c3, d3, ⟨g4, t4, cs4, fu4, p4, q4, a4, b4, c4, d4, ⟨g5, t5, cs5, fu5, p5, q5, a5, b5, c5, d5, _, _⟩, _⟩, _⟩, _⟩, _⟩, _, _⟩ := h
  refine ⟨?_, ?_, ?_, ?_, ?_, fun b _ o ho => by rw [ofW_tag ho]; decide⟩
  · exact laid_arr (zs := nibs) (g := 0) (t := 190) (e := 138) (k := .u64) (by kernel_rfl) (by kernel_rfl) Tryz.underlying190 Tryz.underlying138 (by kernel_rfl) a5 b5 c5 d5
  · exact laid_pairs (zs := [(0, 12), (12, 20)]) (g := 1) (t := 213) (k := .i64) (by kernel_rfl) (by kernel_rfl) Tryz.underlying213 Tryz.underlying212 rfl rfl rfl rfl rfl rfl Tryz.underlying3 (by kernel_rfl) (by kernel_rfl) a1 b1 c1 d1
  · exact laid_pairs (zs := [(0, 4), (4, 3), (7, 20)]) (g := 2) (t := 234) (k := .i64) (by kernel_rfl) (by kernel_rfl) Tryz.underlying234 Tryz.underlying212 rfl rfl rfl rfl rfl rfl Tryz.underlying3 (by kernel_rfl) (by kernel_rfl) a2 b2 c2 d2
  · exact laid_arr (zs := db32) (g := 3) (t := 259) (k := .u8) (by kernel_rfl) (by kernel_rfl) Tryz.underlying259 Tryz.underlying5 (by kernel_rfl) a3 b3 c3 d3
  · exact laid_arr (zs := db64) (g := 4) (t := 260) (k := .u8) (by kernel_rfl) (by kernel_rfl) Tryz.underlying260 Tryz.underlying5 (by kernel_rfl) a4 b4 c4 d4

end Go.Eng
