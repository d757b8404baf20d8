/- append, make, maps: what the view says is what the model does. Conditions: the table of types is the program's. -/
import Derived.Lib.AppendZeros
import Derived.IntWalk
import Derived.TacticsIn
import Derived.Test.YtihpnhkhgobblaaGreatDoorEa
namespace Go.Eng
open Go

section
variable {P : Program} {T : TT} {σ0 : Heap} {w0 : World} {ms : List Nat} {σ : Heap} {w : World}

theorem run_append_none (t ty el : TypeId) (i : TypeInfo) (ht : P.underlying t = some (.slice el)) (hi : P.info? el = some i) (p : Option Addr) (len cap : Nat) (hc : len ≤ cap) (q : Option Addr) (c : Nat) :
    (Builtin.append_ #[t, t] ty #[.slice p len cap, .slice q 0 c]).run P w = .ok (.slice p len cap) w := by
  have hf : (Builtin.firstCells i.size 0 (.slice q 0 c)).run P w = .ok #[] w := by
    cases q <;> simp [Builtin.firstCells, loadCells, loadCellsFrom]
  cases p <;> simp [Builtin.append_, run_underlying ht, sizeOf, typeInfo, hi, Builtin.lenOf, hc, hf, storeCells]

theorem run_append_room' (t ty e : TypeId) (i : TypeInfo) (ht : P.underlying t = some (.slice e)) (hi : P.info? e = some i)
    (g off sLen sCap : Nat) (cur : Array Value) (e' : TypeId) (hg : w.heap[g]? = some (.cells cur e' (0, 0)))
    (a : Addr) (m c : Nat) (news : List Value) (hl : news.length = m * i.size) (hnews : ∀ j u, news[j]? = some u → w.cell? (a.add j) = some u) (h1 : ∀ u ∈ news, u.oneCell' = true)
    (hroom : sLen + m ≤ sCap) (hfit : off + sLen * i.size + news.length ≤ cur.size) :
    (Builtin.append_ #[t, t] ty #[.slice (some ⟨g, off, none⟩) sLen sCap, .slice (some a) m c]).run P w =
      .ok (.slice (some ⟨g, off, none⟩) (sLen + m) sCap) (w.setRow g (cur.toList.take (off + sLen * i.size) ++ news ++ cur.toList.drop (off + sLen * i.size + news.length)).toArray) := by
  have hf := run_firstCells_some (P := P) w i.size m a m c news hl hnews
  have hst := run_storeCells_at P g (off + sLen * i.size) e' news 0 cur w hg (by simpa using hfit) h1
  simp only [Nat.add_zero] at hst
  simp [Builtin.append_, run_underlying ht, sizeOf, typeInfo, hi, Builtin.lenOf, hroom, hf, add_none, hst]

theorem Rel.row {p : Option Addr} {m : Nat} {l : List Value} (h : Rel σ w) (hr : σ.row p m l) :
    l.length = m ∧ (∀ ad, p = some ad → ∀ (j : Nat) (v : Value), l[j]? = some v → w.cell? (ad.add j) = some v) ∧ (0 < m → ∃ ad, p = some ad) := by
  unfold Heap.row at hr
  split at hr
  · rename_i r o
    obtain ⟨h1, h2⟩ := h.cells hr
    exact ⟨h1, fun ad had => by cases had; exact h2, fun _ => ⟨_, rfl⟩⟩
  · obtain ⟨rfl, rfl⟩ := hr
    exact ⟨rfl, fun _ h => (by cases h), fun h => absurd h (Nat.lt_irrefl _)⟩
  · exact hr.elim

/-- A new row behind a growing append: what the view takes in. -/
theorem Inv.grown {el : TypeId} {ie : TI} {z : Value} (hz : z.cells.size = ie.size) (hI : Inv σ0 w0 ms σ w) {l : List Value} {m old : Nat} (hl : l.length = m * ie.size) (g : Nat) {c : Array Value}
    (hc : c = l.toArray ++ Builtin.zeroCells z.cells (grownCap w m old el - m)) :
    Inv σ0 w0 ms (σ.ins w.heap.size (.cells g l el (grownCap w m old el * ie.size))) (w.drew.alloc (.cells c el)) := by
  have hge := grownCap_ge w m old el
  subst hc
  refine hI.drew.alloc (ao := .cells g l el (grownCap w m old el * ie.size)) ⟨_, (0, 0), rfl, ?_, ⟨_, by simp; rfl⟩, fun _ => rfl⟩
  simp only [Array.size_append, List.size_toArray, size_zeroCells, hl, hz]
  rw [← Nat.add_mul]
  congr 1
  omega

theorem Inv.append {t ty el : TypeId} {ie : TI} (ht : P.underlying t = some (.slice el)) (he : ie.ok P el) (hI : Inv σ0 w0 ms σ w) {p q : Option Addr} {len cap m c : Nat} {k : Value → Heap → Prop}
    (h : aappend el ie p len cap q m σ k) :
    ∃ v w' σ', (Builtin.append_ #[t, t] ty #[.slice p len cap, .slice q m c]).run P w = .ok v w' ∧ Inv σ0 w0 ms σ' w' ∧ k v σ' := by
  obtain ⟨news, hnews, h1, hb1, hb2, hsz, hzl, h⟩ := h
  obtain ⟨inf, z, hi1, hi2, hi3, hi4, hi5⟩ := he.info
  obtain ⟨hn1, hn2, hn3⟩ := hI.rel.row hnews
  have hz : z.cells.size = ie.size := by rw [← hzl, ← hi5]; simp
  have h63 : ((len + m : Nat) : Int) ≤ 9223372036854775807 := by omega
  -- a row without room, wherever it lies; the view may have forgotten something
  have grow : ∀ (σ1 : Heap) (olds : List Value), Inv σ0 w0 ms σ1 w → olds.length = len * ie.size → (∀ ad, p = some ad → ∀ (j : Nat) (v : Value), olds[j]? = some v → w.cell? (ad.add j) = some v) → 0 < m → cap < len + m →
      (p = none → len = 0 ∧ cap = 0) →
      ∃ v w', (Builtin.append_ #[t, t] ty #[.slice p len cap, .slice q m c]).run P w = .ok v w' ∧
        v = .slice (some ⟨w.heap.size, 0, none⟩) (len + m) (grownCap w (len + m) cap el) ∧ ∀ g, Inv σ0 w0 ms (σ1.ins w.heap.size (.cells g (olds ++ news) el (grownCap w (len + m) cap el * ie.size))) w' := by
    intro σ1 olds hI1 ho1 ho2 hm hcap hp0
    obtain ⟨ad, rfl⟩ := hn3 (Nat.mul_pos hm hsz)
    cases p with
    | none =>
      obtain ⟨rfl, rfl⟩ := hp0 rfl
      have hol : olds = [] := List.eq_nil_of_length_eq_zero (by rw [ho1]; simp)
      subst hol
      have hr := run_append_nil (P := P) w t ty el inf z ht hi1 hi4 ad m c news (by rw [hn1, hi2]) (hn2 ad rfl) hm (by omega) (by rw [hi3]; simp only [Nat.zero_add] at hb1; omega)
      simp only [Nat.zero_add, List.nil_append]
      exact ⟨_, _, hr, rfl, fun g => Inv.grown hz hI1 hn1 g rfl⟩
    | some b =>
      have hr := run_append_grow (P := P) w t ty el inf z ht hi1 hi4 b len cap olds (by rw [ho1, hi2]) (ho2 b rfl) ad m c news (by rw [hn1, hi2]) (hn2 ad rfl) hcap h63
        (by rw [hi3]; exact growslice_fits (by omega) hb1)
      exact ⟨_, _, hr, rfl, fun g => Inv.grown hz hI1 (l := olds ++ news) (by simp [ho1, hn1, Nat.add_mul]) g (by simp)⟩
  rcases h with ⟨rfl, hc, hk⟩ | ⟨hm, rfl, rfl, hk⟩ | ⟨hm, hcap, hps, olds, holds, hk⟩ | ⟨hm, r, g, cs, rfl, hr, hg, hcs, hk⟩ | ⟨hm, hroom, r, o, g, cs, n, rfl, hr, hg, hfit, hk⟩
  · exact ⟨_, _, _, run_append_none t ty el inf ht hi1 p len cap hc q c, hI, hk⟩
  · obtain ⟨v, w', hr, rfl, hI'⟩ := grow σ [] hI (by simp) (fun _ _ j v hv => by simp at hv) hm (by omega) (fun _ => ⟨rfl, rfl⟩)
    simp only [Nat.zero_add, List.nil_append] at hI' hr
    obtain ⟨g, hk⟩ := hk
    have hkk := hk w.heap.size (grownCap w m 0 el) hI.rel.fresh (grownCap_ge w m 0 el)
    exact ⟨_, _, _, hr, hI' g, hkk⟩
  · obtain ⟨ho1, ho2, ho3⟩ := hI.rel.row holds
    obtain ⟨v, w', hr, rfl, hI'⟩ := grow σ olds hI ho1 ho2 hm hcap (fun hp => by simp [hp] at hps)
    obtain ⟨g, hk⟩ := hk
    have hkk := hk w.heap.size (grownCap w (len + m) cap el) hI.rel.fresh (grownCap_ge w (len + m) cap el)
    exact ⟨_, _, _, hr, hI' g, hkk⟩
  · obtain ⟨cc, hcc, c', fz, rfl, hs', hpre, hfz⟩ := hI.rel r _ hr
    obtain rfl := hfz hg
    have hle : cs.length ≤ c'.size := by simpa using hpre.length_le
    rcases Nat.lt_or_ge cap (len + m) with hcap | hroom
    · have hcell : ∀ (j : Nat) (v : Value), cs[j]? = some v → w.cell? ((⟨r, 0, none⟩ : Addr).add j) = some v := fun j v hv => by
        rw [add_none]
        refine hI.rel.cell ?_
        rw [Heap.rd, hr]
        simpa using hv
      obtain ⟨v, w', hrun, rfl, hI'⟩ := grow (σ.del r) cs (hI.forget r) hcs (fun ad had => by cases had; exact hcell) hm hcap (fun hp => by cases hp)
      have hfr : σ w.heap.size = none := hI.rel.fresh
      exact ⟨_, _, _, hrun, hI' g, hk w.heap.size _ (.inr hfr) (grownCap_ge w (len + m) cap el)⟩
    · obtain ⟨ad, rfl⟩ := hn3 (Nat.mul_pos hm hsz)
      have hsz' : (len + m) * ie.size ≤ cap * ie.size := Nat.mul_le_mul_right _ hroom
      rw [Nat.add_mul] at hsz'
      have hrun := run_append_room' (P := P) (w := w) t ty el inf ht hi1 r 0 len cap c' el hcc ad m c news (by rw [hn1, hi2]) (hn2 ad rfl) h1 hroom (by rw [hi2, hn1]; omega)
      rw [hi2, Nat.zero_add] at hrun
      refine ⟨_, _, _, hrun, ?_, hk r cap (.inl rfl) hroom⟩
      have e : (σ.del r).ins r (.cells g (cs ++ news) el (cap * ie.size)) = σ.ins r (.cells g (cs ++ news) el (cap * ie.size)) := by
        funext x
        by_cases hx : x = r <;> simp [Heap.ins, Heap.del, hx]
      rw [e]
      refine hI.put hr (fun cs t n e => hg (AObj.cells.inj e).1) (ao' := .cells g (cs ++ news) el (cap * ie.size)) ⟨_, (0, 0), rfl, ?_, ?_, fun _ => rfl⟩ (setRow_heap_eq w r c' _ el (0, 0) hcc) rfl rfl rfl
      · simp; omega
      · obtain ⟨l, hl⟩ := hpre
        refine ⟨l.drop news.length, ?_⟩
        rw [← hl]
        simp [← hcs]
  · obtain ⟨cc, hcc, c', fz, rfl, hs', hpre, hfz⟩ := hI.rel r _ hr
    obtain rfl := hfz hg
    obtain ⟨ad, rfl⟩ := hn3 (Nat.mul_pos hm hsz)
    have hle : cs.length ≤ c'.size := by simpa using hpre.length_le
    have hrun := run_append_room' (P := P) (w := w) t ty el inf ht hi1 r o len cap c' el hcc ad m c news (by rw [hn1, hi2]) (hn2 ad rfl) h1 hroom (by rw [hi2, hn1]; omega)
    rw [hi2] at hrun
    refine ⟨_, _, _, hrun, ?_, hk⟩
    refine hI.put hr (fun cs t n e => hg (AObj.cells.inj e).1) (ao' := .cells g (lset cs (o + len * ie.size) news) el n) ⟨_, (0, 0), rfl, ?_, ?_, fun _ => rfl⟩ (setRow_heap_eq w r c' _ el (0, 0) hcc) rfl rfl rfl
    · simp; omega
    · rw [lset_eq cs _ news (by omega)]
      simpa using prefix_splice hpre (o + len * ie.size) news (by omega)

theorem Inv.agrow {t u ty el : TypeId} {ie : TI} {kn kv : IntKind} (ht : P.underlying t = some (.slice el)) (hu : P.underlying u = some (.int kn)) (he : ie.ok P el) (hI : Inv σ0 w0 ms σ w) {p : Option Addr} {len cap : Nat} {m : Int} {k : Value → Heap → Prop}
    (h : agrow el ie p len cap m σ k) :
    ∃ v w' σ', (Builtin.append_ #[t, u] ty #[.slice p len cap, .int kv m]).run P w = .ok v w' ∧ Inv σ0 w0 ms σ' w' ∧ k v σ' := by
  obtain ⟨rfl, rfl, rfl, hm, hb1, hb2, hsz, hzl, g, hk⟩ := h
  obtain ⟨inf, z, hi1, hi2, hi3, hi4, hi5⟩ := he.info
  obtain ⟨n, rfl⟩ : ∃ n : Nat, m = (n : Int) := ⟨m.toNat, by omega⟩
  simp only [Int.toNat_natCast] at hb1 hb2 hk
  have hz : z.cells.size = ie.size := by rw [← hzl, ← hi5]; simp
  have hr := Lib.run_append_nil_zeros (P := P) w t u ty el inf z kv kn ht hu hi1 hi4 n (by omega) (by omega) (by omega) (by rw [hi3]; omega)
  refine ⟨_, _, _, hr, ?_, hk w.heap.size (grownCap w n 0 el) hI.rel.fresh (grownCap_ge w n 0 el)⟩
  have e : (Builtin.zeroCells z.cells n).toList = zrep ie.zero n := by
    rw [← hi5]
    exact zrep_eq z.cells n
  refine Inv.grown (ie := ie) hz hI (l := zrep ie.zero n) (m := n) (old := 0) (by rw [length_zrep, hzl]) g ?_
  rw [← e]

end
end Go.Eng

/- Every operation does what the view says. Conditions: the table of types is the program's. -/
namespace Go.Eng
open Go

section
variable {P : Program} {T : TT} {σ0 : Heap} {w0 : World} {ms : List Nat} {σ : Heap} {w : World}

theorem wrap64_id {x : Int} (h0 : 0 ≤ x) (h1 : x ≤ 140737488355328) : IntKind.i64.wrap x = x := IntWalk.i64_in x ⟨by omega, by omega⟩

theorem Inv.amake {t el : TypeId} {ie : TI} (ht : P.underlying t = some (.slice el)) (he : ie.ok P el) (hI : Inv σ0 w0 ms σ w) {k1 k2 : IntKind} {l c : Int} {k : Value → Heap → Prop}
    (h : amake el ie l c σ k) : ∃ v w' σ', (Instr.makeSlice t (.int k1 l) (.int k2 c)).run P w = .ok v w' ∧ Inv σ0 w0 ms σ' w' ∧ k v σ' := by
  obtain ⟨h0, h1, h2, h3, hz, hk⟩ := h
  obtain ⟨inf, z, hi1, hi2, hi3, hi4, hi5⟩ := he.info
  have hzs : z.cells.size = ie.size := by rw [← hz, ← hi5]; simp
  have wl : IntKind.i64.wrap l = l := wrap64_id h0 (by omega)
  have wc : IntKind.i64.wrap c = c := wrap64_id (by omega) h2
  have b1 : ¬ (c < 0) := by omega
  have b2 : ¬ (281474976710656 < (inf.bytes : Int) * c) := by rw [hi3, Int.mul_comm]; omega
  have b3 : ¬ (l < 0) := by omega
  have b4 : ¬ (c < l) := by omega
  obtain ⟨n, rfl⟩ := Int.eq_ofNat_of_zero_le (show 0 ≤ c by omega)
  rw [Int.toNat_natCast] at hk
  have key : ∀ (cs : Array Value), cs.toList = zrep ie.zero n → ∃ σ', Inv σ0 w0 ms σ' (w.alloc (.cells cs el)) ∧ k (.slice (some ⟨w.heap.size, 0, none⟩) l.toNat n) σ' := fun cs hcs => by
    have hl : cs.size = n * ie.size := by rw [← Array.length_toList, hcs, length_zrep, hz]
    rw [← hl] at hk
    exact hI.anewg (cs := zrep ie.zero n) (by rw [hcs]; exact List.prefix_refl _) hk
  obtain ⟨σ', hI', hk'⟩ := key ((Array.range (n * ie.size)).map (z.cells[· % z.cells.size]!)) (by rw [← hzs, zrep_eq, hi5])
  refine ⟨.slice (some ⟨w.heap.size, 0, none⟩) l.toNat n, w.alloc (.cells ((Array.range (n * ie.size)).map (z.cells[· % z.cells.size]!)) el), σ', ?_, hI', hk'⟩
  have e0 : ∀ f : Nat → Value, (Array.range 0).map f = #[] := fun f => by simp
  by_cases hn : n * ie.size = 0
  · simp [Instr.makeSlice, run_underlying ht, asInt, asIntOf, typeInfo, hi1, wl, wc, b1, b2, b3, b4, sizeOf, hi2, newRow, hn]
    rw [e0, e0]
  · simp [Instr.makeSlice, run_underlying ht, asInt, asIntOf, typeInfo, hi1, wl, wc, b1, b2, b3, b4, sizeOf, hi2, newRow, zeroValue, hi4]
    intro h
    exact absurd h hn

theorem Rel.other {g : Nat} {ob : Obj} {r : Nat} (h : Rel σ w) (hr : σ r = some (.other g ob)) : w.heap[r]? = some ob ∧ Obj.isCells ob = false := by
  obtain ⟨c, hc, rfl, h2⟩ := h r _ hr
  exact ⟨hc, h2⟩

theorem run_getObj' {r : Nat} {ob : Obj} (h : w.heap[r]? = some ob) (hc : Obj.isCells ob = false) : (getObj r).run P w = .ok ob w := by
  cases ob <;> first | (simp [Obj.isCells] at hc; done) | simp [getObj, Sem.run, h]

theorem run_setObj' {r : Nat} {ob ob' : Obj} (h : w.heap[r]? = some ob) (hc : Obj.isCells ob = false) : (setObj r ob').run P w = .ok () { w with heap := w.heap.setIfInBounds r ob' } := by
  cases ob <;> first | (simp [Obj.isCells] at hc; done) | simp [setObj, Sem.run, h]

theorem Inv.setObj (hI : Inv σ0 w0 ms σ w) {r g : Nat} {ob ob' : Obj} (hr : σ r = some (.other g ob)) (hc : Obj.isCells ob' = false) :
    Inv σ0 w0 ms (σ.ins r (.other g ob')) { w with heap := w.heap.setIfInBounds r ob' } :=
  hI.put hr (fun cs t n e => by cases e) (ao' := .other g ob') ⟨rfl, hc⟩ rfl rfl rfl rfl

theorem run_checkKey_succ (b : Bool) (d : Nat) {kt : TypeId} {kk : IntKind} (h : P.underlying kt = some (.int kk)) (key : Value) : (Instr.checkKey b (d + 1) kt key).run P w = .ok () w := by
  cases key <;> simp [Instr.checkKey, run_underlying h]

theorem run_checkKey_int (b : Bool) {kt : TypeId} {kk : IntKind} (h : P.underlying kt = some (.int kk)) (key : Value) : (Instr.checkKey b 10000 kt key).run P w = .ok () w :=
  run_checkKey_succ b 9999 h key

theorem run_findKey_int {kt : TypeId} {kk : IntKind} (h : P.underlying kt = some (.int kk)) {key : Value} {es : List MapEntry} {x : Option (Nat × Value)} (hf : Instr.findNow (.int kk) key es 0 = some x) :
    (Instr.findKey kt key es).run P w = .ok x w := by
  simp only [Instr.findKey, Sem.run_bind, run_underlying h, Result.andThen_ok, hf, Sem.run_pure]

theorem Inv.aupdate {t kt et : TypeId} {kk : IntKind} (ht : P.underlying t = some (.map kt et)) (hk' : P.underlying kt = some (.int kk)) (hI : Inv σ0 w0 ms σ w) {m : Option Nat} {key val : Value} {k : Heap → Prop}
    (h : aupdate kk m key val σ k) : ∃ w' σ', (Instr.mapUpdate t (.map m) key val).run P w = .ok () w' ∧ Inv σ0 w0 ms σ' w' ∧ k σ' := by
  obtain ⟨r, g, es, clock, rfl, hr, hg, h⟩ := h
  obtain ⟨hw, hcl⟩ := hI.rel.other hr
  rcases h with ⟨i, v, hf, hs, hk⟩ | ⟨hf, hk⟩
  · refine ⟨_, _, ?_, hI.setObj hr rfl, hk⟩
    simp only [Instr.mapUpdate, Sem.run_bind, run_underlying ht, Result.andThen_ok, run_getObj' hw hcl, run_checkKey_int false hk' key, run_findKey_int hk' hf, Instr.keyThatStays, hs, if_true, Sem.run_pure,
      run_setObj' hw hcl]
  · refine ⟨_, _, ?_, hI.setObj hr rfl, hk⟩
    simp only [Instr.mapUpdate, Sem.run_bind, run_underlying ht, Result.andThen_ok, run_getObj' hw hcl, run_checkKey_int false hk' key, run_findKey_int hk' hf, run_setObj' hw hcl]

theorem setObj_self {r : Nat} {ob : Obj} (h : w.heap[r]? = some ob) : ({ w with heap := w.heap.setIfInBounds r ob } : World) = w := by
  have : w.heap.setIfInBounds r ob = w.heap := by
    apply Array.ext_getElem?
    intro i
    rw [Array.getElem?_setIfInBounds]
    by_cases e : r = i
    · subst e; rw [if_pos rfl, if_pos (lt_of_block h), h]
    · simp [e]
  rw [this]

theorem Inv.adelete {ts : Array TypeId} {t kt et ty : TypeId} {kk : IntKind} (hts : ts[0]? = some t) (ht : P.underlying t = some (.map kt et)) (hk' : P.underlying kt = some (.int kk)) (hI : Inv σ0 w0 ms σ w)
    {m : Option Nat} {key : Value} {k : Heap → Prop} (h : adelete kk m key σ k) :
    ∃ w' σ', (Builtin.delete_ ts ty #[.map m, key]).run P w = .ok (.tuple #[]) w' ∧ Inv σ0 w0 ms σ' w' ∧ k σ' := by
  obtain ⟨r, g, es, clock, rfl, hr, hg, h⟩ := h
  obtain ⟨hw, hcl⟩ := hI.rel.other hr
  rcases h with ⟨i, v, hf, hk⟩ | ⟨hf, hk⟩
  · refine ⟨_, _, ?_, hI.setObj hr rfl, hk⟩
    simp [Builtin.delete_, hts, run_underlying ht, run_getObj' hw hcl, run_checkKey_int _ hk' key, run_findKey_int hk' hf, run_setObj' hw hcl]
  · refine ⟨w, _, ?_, hI, hk⟩
    simp [Builtin.delete_, hts, run_underlying ht, run_getObj' hw hcl, run_checkKey_int _ hk' key, run_findKey_int hk' hf, run_setObj' hw hcl, setObj_self hw]

theorem mapLeft_pos (es : Array MapEntry) (since : Nat) (seen : Array Nat) : 0 < (mapLeft es since seen).size := by
  unfold mapLeft
  dsimp only
  generalize (es.filter fun e => !seen.contains e.born) = left
  cases h : (left.filter (fun x => decide (x.born < since))).isEmpty with
  | true => simp; omega
  | false =>
    have : 0 < (left.filter (fun x => decide (x.born < since))).size := by
      rcases Nat.eq_zero_or_pos (left.filter (fun x => decide (x.born < since))).size with h' | h'
      · rw [Array.isEmpty, h'] at h; simp at h
      · exact h'
    simp only [Bool.false_eq_true, if_false, Array.size_append, Array.size_map]
    omega

theorem Inv.anext {ty : TypeId} (hI : Inv σ0 w0 ms σ w) {it : Option Addr} {k : Value → Heap → Prop} (h : anext it σ k) :
    ∃ v w' σ', (Instr.next (.pointer it) false ty).run P w = .ok v w' ∧ Inv σ0 w0 ms σ' w' ∧ k v σ' := by
  obtain ⟨r, g, m, gm, since, seen, last, es, clock, rfl, hr, hg, hm, hst, hk⟩ := h
  obtain ⟨hw, hcl⟩ := hI.rel.other hr
  obtain ⟨hwm, hclm⟩ := hI.rel.other hm
  have hpos := mapLeft_pos es since seen
  -- the choice
  have hch : ∃ (j : Nat) (w1 : World), (choose (.mapNext (mapLeft es since seen).size)).run P w = .ok j w1 ∧ (w1 = w ∨ w1 = w.drew) ∧ j < (mapLeft es since seen).size := by
    simp only [run_choose, Question.forced, decide_eq_true_eq]
    split
    · exact ⟨0, w, rfl, .inl rfl, hpos⟩
    · exact ⟨_, _, rfl, .inr rfl, by simp only [Question.cut]; exact Nat.mod_lt _ hpos⟩
  obtain ⟨j, w1, hc, hw1, hj⟩ := hch
  have hI1 : Inv σ0 w0 ms σ w1 := by
    rcases hw1 with rfl | rfl
    · exact hI
    · exact hI.drew
  obtain ⟨hw', _⟩ := hI1.rel.other hr
  have hget : (mapLeft es since seen)[j]? = some (mapLeft es since seen)[j] := by simp [hj]
  have hkk := hk _ (Array.getElem_mem hj)
  generalize (mapLeft es since seen)[j] = x at hget hkk
  have hrun : (Instr.next (.pointer (some ⟨r, 0, none⟩)) false ty).run P w = (match (some x : Option (Option MapEntry)) with
      | some (some e) => (do Go.setObj r (.mapIter (some m) since (seen.push e.born) clock); pure (.tuple #[.bool true, e.key, e.val]) : Sem Value).run P w1
      | some none => .ok (.tuple #[.bool false]) w1
      | none => .ok undef w1) := by
    unfold Instr.next
    simp only [Sem.run_bind, run_getObj' hw hcl, Result.andThen_ok, run_getObj' hwm hclm]
    rw [if_neg (by rw [hst]; simp)]
    simp only [Sem.run_bind, Sem.run_pure]
    change ((choose (.mapNext (mapLeft es since seen).size)).run P w).andThen (fun a w' => (match (mapLeft es since seen)[a]? with
      | some (some e) => (do Go.setObj r (.mapIter (some m) since (seen.push e.born) clock); pure (.tuple #[.bool true, e.key, e.val]) : Sem Value)
      | some none => (pure (.tuple #[.bool false]) : Sem Value)
      | none => stuck "Next: no such candidate").run P w') = _
    rw [hc, Result.andThen_ok, hget]
    cases x <;> first | rfl | simp only [Sem.run_bind, Sem.run_pure]
  cases x with
  | none => exact ⟨_, _, _, hrun, hI1, hkk⟩
  | some e =>
    refine ⟨_, _, _, ?_, hI1.setObj hr rfl, hkk⟩
    rw [hrun]
    simp only [Sem.run_bind, run_setObj' hw' hcl, Result.andThen_ok, Sem.run_pure]

theorem Inv.aentry (hI : Inv σ0 w0 ms σ w) {ks es' : Sc} {it : Option Addr} {k : Value → Heap → Prop} (h : aentry ks es' it σ k) :
    ∃ v, (Instr.entry (.pointer it)).run P w = .ok v w ∧ k v σ := by
  obtain ⟨r, g, m, gm, since, seen, es, clock, stamp, e, rfl, hr, hm, hb, hf, x, y, hx, hy, hk⟩ := h
  obtain ⟨hw, hcl⟩ := hI.rel.other hr
  obtain ⟨hwm, hclm⟩ := hI.rel.other hm
  refine ⟨_, ?_, hk⟩
  simp [Instr.entry, run_getObj' hw hcl, run_getObj' hwm hclm, hb, hf, hx, hy]

theorem Inv.aclear {ts : Array TypeId} {t el ty : TypeId} {ie : TI} (hts : ts[0]? = some t) (ht : P.underlying t = some (.slice el)) (he : ie.ok P el) (hI : Inv σ0 w0 ms σ w) {p : Option Addr} {n c : Nat} {k : Heap → Prop}
    (h : aclear ie p n σ k) : ∃ w' σ', (Builtin.clear_ ts ty #[.slice p n c]).run P w = .ok (.tuple #[]) w' ∧ Inv σ0 w0 ms σ' w' ∧ k σ' := by
  obtain ⟨hz, h⟩ := h
  obtain ⟨z, hz1, hz2⟩ := zero_info he
  have hzs : z.cells.size = ie.size := by rw [← hz, ← hz2]; simp
  rcases h with ⟨rfl, hk⟩ | ⟨hn, h⟩
  · refine ⟨w, σ, ?_, hI, hk⟩
    cases p <;> simp [Builtin.clear_, hts, run_underlying ht]
  · obtain ⟨ad, w', σ', rfl, hst, hI', hk⟩ := hI.astore (P := P) h
    refine ⟨w', σ', ?_, hI', hk⟩
    have e : (Builtin.zeroCells z.cells n).toList = zrep ie.zero n := by rw [← hz2, ← zrep_eq]; rfl
    obtain ⟨n, rfl⟩ : ∃ j, n = j + 1 := ⟨n - 1, by omega⟩
    simp [Builtin.clear_, hts, run_underlying ht, hz1, e, hst]

end
end Go.Eng

/- The soundness of one step, and of a region that does not draw. Conditions: the table of types is the program's. -/
namespace Go.Eng
open Go

section
variable {P : Program} {T : TT} {n : Nat} {e : Env} {a : Act} {σ0 : Heap} {w0 : World} {ms : List Nat} {σ : Heap} {w : World} {o : Oper} {ro : Option Nat}
  {next : Act → World → Prop} {Q : Exit → Act → World → Prop}

theorem run_val {s : Sem Value} {v : Value} {w' : World} (h : s.run P w = .ok v w') : ((do pure (Next.value (← s)) : Sem Next)).run P w = .ok (.value v) w' := by
  rw [Sem.run_bind, h]; rfl

theorem run_skp {s : Sem Unit} {w' : World} (h : s.run P w = .ok () w') : ((do s; pure Next.skip : Sem Next)).run P w = .ok .skip w' := by
  rw [Sem.run_bind, h]; rfl

theorem run_call_builtin {c : Call} (ho : o.op = .call c) {b : Builtin} (hc : c.callee = .builtin b) {args : List Value} (ha : c.args.map a.eval = args.toArray) {nx : Next} {w' : World}
    (h : ∀ cs, (builtin b c.argTypes o.type cs args.toArray).run P w = .ok nx w') : (execOp a.eval o).run P w = .ok nx w' := by
  simp only [execOp, ho, resolve, hc, ha, Sem.run_bind, Sem.run_pure, Result.andThen_ok, invoke]
  exact h _

theorem astep_sound (hT : TTok P T) (he : EnvRel n e a) (hI : Inv σ0 w0 ms σ w) {k : Value → Heap → Prop} (h : astep P T e o σ k)
    (hk : ∀ v σ' w', k v σ' → Inv σ0 w0 ms σ' w' → next (a.put o.dst v) w') : o.wpIn (FW ro) 0 P a w next Q := by
  have pure_case : ∀ {ps : List Prop} {v : Value}, apv T e o.op = some (ps, v) → conj ps (k v σ) → (∀ c, o.op ≠ .defer c) → o.wpIn (FW ro) 0 P a w next Q := by
    intro ps v hv hc hd
    obtain ⟨hps, hkv⟩ := conj_iff.1 hc
    exact wp_value hd (apv_sound hT he hv hps w) (hk _ _ _ hkv hI)
  unfold astep at h
  split at h
  · -- load
    rename_i t x ho
    split at h
    · rename_i i p hi hx
      cases hno : nonOther i.k with
      | false => rw [hno, cond_false] at h; exact h.elim
      | true =>
        rw [hno, cond_true] at h
        obtain ⟨s, hs, hks⟩ := h
        refine wp_value (by rw [ho]; intro c hc; cases hc) ?_ (hk _ _ _ hks hI)
        simp only [execOp, ho]
        rw [he.eval hx]
        exact run_val (hI.rel.ldT (hT _ _ hi) hno hs)
    · exact h.elim
  · -- store
    rename_i t x y ho
    split at h
    · rename_i i p v hi hx hy
      cases hs : ((vcells v).length == i.size) with
      | false => rw [hs, cond_false] at h; exact h.elim
      | true =>
        rw [hs, cond_true] at h
        obtain ⟨ad, w', σ', rfl, hst, hI', hkk⟩ := hI.astore (P := P) h
        refine wp_skipped (by rw [ho]; intro c hc; cases hc) ?_ (hk _ _ _ hkk hI')
        simp only [execOp, ho]
        rw [he.eval hx, he.eval hy]
        exact run_skp (run_storeAt (hT _ _ hi) (by simpa using hs) hst)
    · exact h.elim
  · -- alloc
    rename_i t ho
    split at h
    · rename_i i hi
      obtain ⟨z, hz1, hz2⟩ := zero_info (hT _ _ hi)
      rw [← hz2, Array.length_toList] at h
      obtain ⟨σ', hI', hkk⟩ := hI.anew (List.prefix_refl _) h
      refine wp_value (by rw [ho]; intro c hc; cases hc) ?_ (hk _ _ _ hkk hI')
      simp only [execOp, ho]
      refine run_val ?_
      simp [Instr.alloc, hz1, newVar, newRow]
    · exact h.elim
  · -- box
    rename_i t x ho
    split at h
    · rename_i v hx
      rw [vcells_eq, Array.length_toList] at h
      obtain ⟨σ', hI', hkk⟩ := hI.anew (List.prefix_refl _) h
      refine wp_value (by rw [ho]; intro c hc; cases hc) ?_ (hk _ _ _ hkk hI')
      simp only [execOp, ho]
      rw [he.eval hx]
      refine run_val ?_
      simp [Instr.box, newVar, newRow]
    · exact h.elim
  · -- buildSlice
    rename_i t len parts ho
    split at h
    · rename_i i l hi hl
      split at h
      · rename_i el hik
        split at h
        · rename_i ie hie
          cases hb : (Nat.ble (len * ie.size) 16777216 && ie.zero.length == ie.size) with
          | false => rw [hb, cond_false] at h; exact h.elim
          | true =>
            rw [hb, cond_true] at h
            simp only [Bool.and_eq_true, Nat.ble_eq, beq_iff_eq] at hb
            obtain ⟨hb1, hb2⟩ := hb
            split at h
            · rename_i cs hcs
              have hk' := (hT _ _ hi).k
              rw [hik] at hk'
              obtain ⟨z, hz1, hz2⟩ := zero_info (hT _ _ hie)
              have hzs : z.cells.size = ie.size := by rw [← hb2, ← hz2]; simp
              have e1 : (parts.map fun (j, x) => (j, a.eval x)).toList = l := by simpa using he.evalp hl
              have key : ∀ C : Array Value, C.toList = zrep ie.zero len → Instr.fill (fun i => some (i * ie.size, ie.size)) C (parts.map fun (j, x) => (j, a.eval x)).toList = some cs.toArray := fun C hC =>
                bfill_sound (fun j => rfl) (by rw [hC, e1]; exact hcs)
              obtain ⟨σ', hI', hkk⟩ := hI.anew (c := cs.toArray) (cs := cs) (t := el) (List.prefix_refl _) (by simpa using h)
              refine wp_value (by rw [ho]; intro c hc; cases hc) ?_ (hk _ _ _ hkk hI')
              simp only [execOp, ho]
              refine run_val ?_
              have hle : ¬ (len * ie.size > 2 ^ 24) := by
                rw [show (2 ^ 24 : Nat) = 16777216 from rfl]; omega
              by_cases h0 : len * ie.size = 0
              · have hf := key ((Array.range (len * ie.size)).map ((#[] : Array Value)[· % (#[] : Array Value).size]!)) (by
                  have : zrep ie.zero len = [] := List.eq_nil_of_length_eq_zero (by rw [length_zrep, hb2, h0])
                  rw [this, h0]
                  simp)
                simp only [Instr.buildSlice, Sem.run_bind, run_underlying hk', Result.andThen_ok, (hT _ _ hie).sizeOf, Sem.run_ite, if_neg hle, if_pos h0, Sem.run_pure, hf, newRow, run_newObj]
                rfl
              · have hf := key ((Array.range (len * ie.size)).map (z.cells[· % z.cells.size]!)) (by rw [← hzs, zrep_eq, hz2])
                simp only [Instr.buildSlice, Sem.run_bind, run_underlying hk', Result.andThen_ok, (hT _ _ hie).sizeOf, Sem.run_ite, if_neg hle, if_neg h0, Sem.run_pure, hz1, hf, newRow, run_newObj]
                rfl
            · exact h.elim
        · exact h.elim
      · exact h.elim
    · exact h.elim
  · -- makeSlice
    rename_i t l c ho
    split at h
    · rename_i i k1 lv k2 cv hi hl hc
      split at h
      · rename_i el hik
        split at h
        · rename_i ie hie
          have hk' := (hT _ _ hi).k
          rw [hik] at hk'
          obtain ⟨v, w', σ', hr, hI', hkk⟩ := hI.amake (P := P) (k1 := k1) (k2 := k2) hk' (hT _ _ hie) h
          refine wp_value (by rw [ho]; intro c hc; cases hc) ?_ (hk _ _ _ hkk hI')
          simp only [execOp, ho]
          rw [he.eval hl, he.eval hc]
          exact run_val hr
        · exact h.elim
      · exact h.elim
    · exact h.elim
  · -- makeMap
    rename_i t ho
    obtain ⟨σ', hI', hkk⟩ := hI.anewo rfl h
    refine wp_value (by rw [ho]; intro c hc; cases hc) ?_ (hk _ _ _ hkk hI')
    simp only [execOp, ho]
    refine run_val ?_
    simp [Instr.makeMap]
  · -- mapUpdate
    rename_i t m x y ho
    split at h
    · rename_i i r key val hi hm hx hy
      split at h
      · rename_i kt et hik
        split at h
        · rename_i ik hik2
          split at h
          · rename_i kk hkk
            have hk1 := (hT _ _ hi).k
            rw [hik] at hk1
            have hk2 := (hT _ _ hik2).k
            rw [hkk] at hk2
            obtain ⟨w', σ', hr, hI', hkk'⟩ := hI.aupdate (P := P) hk1 hk2 h
            refine wp_skipped (by rw [ho]; intro c hc; cases hc) ?_ (hk _ _ _ hkk' hI')
            simp only [execOp, ho]
            rw [he.eval hm, he.eval hx, he.eval hy]
            exact run_skp hr
          · exact h.elim
        · exact h.elim
      · exact h.elim
    · exact h.elim
  · -- range
    rename_i t x ho
    split at h
    · rename_i i m hi hx
      split at h
      · rename_i kt et hik
        obtain ⟨r, g, es, clock, rfl, hr, hg, h⟩ := h
        have hk1 := (hT _ _ hi).k
        rw [hik] at hk1
        obtain ⟨hw, hcl⟩ := hI.rel.other hr
        obtain ⟨σ', hI', hkk⟩ := hI.anewo rfl h
        refine wp_value (by rw [ho]; intro c hc; cases hc) ?_ (hk _ _ _ hkk hI')
        simp only [execOp, ho]
        rw [he.eval hx]
        refine run_val ?_
        simp only [TK.ok] at hk1
        simp [Instr.range, run_underlying hk1, run_getObj' hw hcl]
      · exact h.elim
    · exact h.elim
  · -- next
    rename_i x ho
    split at h
    · rename_i p hx
      obtain ⟨v, w', σ', hr, hI', hkk⟩ := hI.anext (P := P) (ty := o.type) h
      refine wp_value (by rw [ho]; intro c hc; cases hc) ?_ (hk _ _ _ hkk hI')
      simp only [execOp, ho]
      rw [he.eval hx]
      exact run_val hr
    · exact h.elim
  · -- entry
    rename_i x ho
    split at h
    · rename_i p hx
      obtain ⟨v, hr, hkk⟩ := hI.aentry (P := P) h
      refine wp_value (by rw [ho]; intro c hc; cases hc) ?_ (hk _ _ _ hkk hI)
      simp only [execOp, ho]
      rw [he.eval hx]
      exact run_val hr
    · exact h.elim
  · -- call
    rename_i c ho
    have hnd : ∀ c', o.op ≠ .defer c' := by rw [ho]; intro c' hc'; cases hc'
    split at h
    · rename_i p len cap q m c' hc hargs
      split at h
      · rename_i t u hts
        cases htu : t == u with
        | false => rw [htu, cond_false] at h; exact h.elim
        | true =>
          rw [htu, cond_true] at h
          obtain rfl : t = u := by simpa using htu
          split at h
          · rename_i i hi
            split at h
            · rename_i el hik
              split at h
              · rename_i ie hie
                have hk1 := (hT _ _ hi).k
                rw [hik] at hk1
                obtain ⟨v, w', σ', hr, hI', hkk⟩ := hI.append (P := P) (ty := o.type) (c := c') hk1 (hT _ _ hie) h
                refine wp_value hnd (run_call_builtin ho hc (map_args he hargs) fun cs => ?_) (hk _ _ _ hkk hI')
                have e1 : c.argTypes = #[t, t] := Array.ext' hts
                rw [e1]
                exact run_val hr
              · exact h.elim
            · exact h.elim
          · exact h.elim
      · exact h.elim
    · rename_i p len cap kv m hc hargs
      split at h
      · rename_i t u hts
        split at h
        · rename_i i iu hi hiu
          split at h
          · rename_i el kn hik hiuk
            split at h
            · rename_i ie hie
              have hk1 := (hT _ _ hi).k
              rw [hik] at hk1
              have hk2 := (hT _ _ hiu).k
              rw [hiuk] at hk2
              obtain ⟨v, w', σ', hr, hI', hkk⟩ := hI.agrow (P := P) (ty := o.type) (kv := kv) hk1 hk2 (hT _ _ hie) h
              refine wp_value hnd (run_call_builtin ho hc (map_args he hargs) fun cs => ?_) (hk _ _ _ hkk hI')
              have e1 : c.argTypes = #[t, u] := Array.ext' hts
              rw [e1]
              exact run_val hr
            · exact h.elim
          · exact h.elim
        · exact h.elim
      · exact h.elim
    · rename_i p m c' hc hargs
      split at h
      · rename_i t hts
        split at h
        · rename_i i hi
          split at h
          · rename_i el hik
            split at h
            · rename_i ie hie
              have hk1 := (hT _ _ hi).k
              rw [hik] at hk1
              have e1 : c.argTypes[0]? = some t := by rw [← Array.getElem?_toList, hts]; rfl
              obtain ⟨w', σ', hr, hI', hkk⟩ := hI.aclear (P := P) (ty := o.type) (c := c') e1 hk1 (hT _ _ hie) h
              refine wp_value hnd (run_call_builtin ho hc (map_args he hargs) fun cs => ?_) (hk _ _ _ hkk hI')
              exact run_val hr
            · exact h.elim
          · exact h.elim
        · exact h.elim
      · exact h.elim
    · rename_i r key hc hargs
      split at h
      · rename_i t ts hts
        split at h
        · rename_i i hi
          split at h
          · rename_i kt et hik
            split at h
            · rename_i ik hik2
              split at h
              · rename_i kk hkk
                have hk1 := (hT _ _ hi).k
                rw [hik] at hk1
                have hk2 := (hT _ _ hik2).k
                rw [hkk] at hk2
                have e1 : c.argTypes[0]? = some t := by rw [← Array.getElem?_toList, hts]; rfl
                obtain ⟨w', σ', hr, hI', hkk'⟩ := hI.adelete (P := P) (ty := o.type) e1 hk1 hk2 h
                refine wp_value hnd (run_call_builtin ho hc (map_args he hargs) fun cs => ?_) (hk _ _ _ hkk' hI')
                exact run_val hr
              · exact h.elim
            · exact h.elim
          · exact h.elim
        · exact h.elim
      · exact h.elim
    · rename_i b args _ _ _ hc hargs
      split at h
      · rename_i ps v hv
        obtain ⟨hps, hkv⟩ := conj_iff.1 h
        refine wp_value hnd (run_call_builtin ho hc (map_args he hargs) fun cs => ?_) (hk _ _ _ hkv hI)
        exact abuiltin_sound hT hv o.type cs w
      · exact h.elim
    · rename_i f args hc hargs
      split at h
      · rename_i fv i hf hi
        rw [calleeV, hc] at hf
        exact wp_call ho hc hI (he.eval hf) (map_args he hargs) h hk
      · exact h.elim
    · exact h.elim
  · -- the others
    split at h
    · rename_i ps v hv
      refine pure_case hv h ?_
      intro c hc
      rw [hc] at hv
      simp [apv] at hv
    · exact h.elim

end
end Go.Eng

/- The code of a function over the view: what each statement asks. Definitions alone. -/
namespace Go.Eng
open Go

/-- How a piece of code is left. -/
inductive Ex where
  | normal
  | exit (id : Nat)
  | ret

/-- Of each region that draws its order: the order in which it is walked, and of each operation the earlier loads that a run may come to behind it. -/
abbrev Plan := List (Nat × List (Nat × List Nat))

def Plan.get : Plan → Nat → Option (List (Nat × List Nat))
  | [], _ => none
  | (j, l) :: r, i => bif j == i then some l else Plan.get r i

def nth : List Oper → Nat → Option Oper
  | [], _ => none
  | o :: _, 0 => some o
  | _ :: l, i + 1 => nth l i

theorem nth_eq : ∀ (l : List Oper) (i : Nat), nth l i = l[i]?
  | [], i => by simp [nth]
  | o :: l, 0 => rfl
  | o :: l, i + 1 => by simpa [nth] using nth_eq l i

/-- Is the operation done (true), passed over (false)? -/
def gv (ops : List Oper) (e : Env) (o : Oper) : Option Bool :=
  match o.guard with
  | none => some true
  | some (j, want) => match nth ops j with
    | some oj => match oj.dst with
      | some d => match e.get d with
        | some (.bool b) => some (b == want)
        | some _ => some false
        | none => none
      | none => none
    | none => none

/-- The load reads in the view what the environment holds of it, if it was done. -/
def keepOf (T : TT) (ops : List Oper) (e : Env) (σ : Heap) (j : Nat) : List Prop :=
  match nth ops j with
  | some o => match o.op with
    | .load t x => match gv ops e o with
      | some false => []
      | some true => match o.dst with
        | some d => match T t, e.eval x, e.get d with
          | some i, some (.pointer p), some v => [σ.ldT i p = some v]
          | _, _, _ => [False]
        | none => [False]
      | none => [False]
    | _ => []
  | none => [False]

def keeps (T : TT) (ops : List Oper) (e : Env) (σ : Heap) : List Nat → List Prop
  | [] => []
  | j :: l => keepOf T ops e σ j ++ keeps T ops e σ l

/-- The operations of a region that draws its order, in the order of the plan. -/
def alin (P : Program) (T : TT) (n : Nat) (ops : Array Oper) : List (Nat × List Nat) → Env → Heap → (Env → Heap → Prop) → Prop
  | [], e, σ, k => k e σ
  | (i, pend) :: l, e, σ, k => match nth ops.toList i with
    | some o => agop P T n ops o e σ fun e' σ' => conj (keeps T ops.toList e' σ' pend) (alin P T n ops l e' σ' k)
    | none => False

def opDsts : List Oper → List Nat
  | [] => []
  | o :: l => match o.dst with
    | some d => d :: opDsts l
    | none => opDsts l

/-- The slots that a piece of code may write. -/
def cwrites : Code → List Nat
  | .region _ ops _ => opDsts ops.toList
  | .seq a b => cwrites a ++ cwrites b
  | .cond _ a b => cwrites a ++ cwrites b
  | .block _ b => cwrites b
  | .loop b => cwrites b
  | _ => []

def Env.gets (e : Env) : List (Nat × S1) → Option (List Value)
  | [] => some []
  | (t, _) :: l => match e.get t with
    | some v => match e.gets l with
      | some vs => some (v :: vs)
      | none => none
    | none => none

/-- The environment holds what the list says. -/
def Env.has (e : Env) : Env → Prop
  | [] => True
  | (t, v) :: l => e.get t = some v ∧ e.has l

def Env.news : List (Nat × S1) → List Value → Env → Env
  | (t, _) :: l, v :: vs, e => (t, v) :: Env.news l vs e
  | _, _, e => e

def shs : List (Nat × S1) → List S1
  | [] => []
  | (_, s) :: l => s :: shs l

/-- One view says no more than another. -/
def Weak (σ σ' : Heap) : Prop := ∀ r o', σ' r = some o' → ∃ o, σ r = some o ∧ ∀ c, o.fits c → o'.fits c

/-- A way arrives at a meeting: the fixed slots hold what they held; the others, and a view that says no more, are in the relation. -/
def arrive (fx : Env) (ks : List (Nat × S1)) (J : S1.Ts (shs ks) → Heap → Prop) (e : Env) (σ : Heap) : Prop :=
  e.has fx ∧ ∃ s σ', e.gets ks = some (S1.encs (shs ks) s) ∧ Weak σ σ' ∧ J s σ'

/-- Ways that may meet: behind the meeting nothing is known but a relation J of one's own, on slots of one's own choice, and on the view. -/
def acut (m : (Env → Heap → Prop) → Prop) (k : Env → Heap → Prop) : Prop :=
  m k ∨ ∃ fx ks J, m (arrive fx ks J) ∧ ∀ s σ, J s σ → k (Env.news ks (S1.encs (shs ks) s) fx) σ

/-- The least relation that a loop's round carries back. -/
def lfp {S : Type} (F : (S → Heap → Prop) → S → Heap → Prop) (s : S) (σ : Heap) : Prop :=
  ∀ X : S → Heap → Prop, (∀ s σ (Y : S → Heap → Prop), (∀ s σ, Y s σ → X s σ) → F Y s σ → X s σ) → X s σ

/-- The call of a closure whose result has no shape. -/
def acallR (P : Program) (fv : Value) (args : List Value) (σ : Heap) (R : Value → Heap → Prop) : Prop :=
  match fv with
  | .func (.func f) first cap => ACalls P f (first.toList ++ args ++ cap.toList) σ R
  | _ => False

def jumpOf : Ex → Option Code
  | .normal => none
  | .exit id => some (.exit id)
  | .ret => some .ret

/-- What yield comes to: the round, begun on the arguments, the record 'ready'; at its end the record says how it was left. -/
def YieldOK (P : Program) (l : Nat) (L : LoopState → Option Code → Obj) (body : List Value → Heap → (Ex → Heap → Prop) → Prop) : Prop :=
  ∀ (args : List Value) (σ : Heap) (R : Value → Heap → Prop), σ l = some (.other 1 (L .ready none)) →
    body args σ (fun x σ' => match x with
      | .normal => R (.bool true) (σ'.ins l (.other 1 (L .ready none)))
      | .exit id => R (.bool false) (σ'.ins l (.other 1 (L .done (some (.exit id)))))
      | .ret => R (.bool false) (σ'.ins l (.other 1 (L .done (some .ret))))) →
    ACallV P (.func (.yield l) #[] #[]) args σ R

/-- A range over a function: the function is called with a yield of which no more is known than what a round does. -/
def arange (P : Program) (fv : Value) (body : (l : Nat) → (L : LoopState → Option Code → Obj) → List Value → Heap → (Ex → Heap → Prop) → Prop) (σ : Heap) (k : Ex → Heap → Prop) : Prop :=
  ∀ (l : Nat) (L : LoopState → Option Code → Obj), σ l = none → YieldOK P l L (body l L) →
    acallR P fv [.func (.yield l) #[] #[]] (σ.ins l (.other 1 (L .ready none))) fun _ σ' =>
      (σ' l = some (.other 1 (L .ready none)) ∧ k .normal (σ'.del l)) ∨
      (∃ id, σ' l = some (.other 1 (L .done (some (.exit id)))) ∧ k (.exit id) (σ'.del l)) ∨
      (σ' l = some (.other 1 (L .done (some .ret))) ∧ k .ret (σ'.del l))

def psets (e : Env) : List Nat → List Value → Env
  | t :: ts, v :: vs => psets (e.set t v) ts vs
  | _, _ => e

def allBlt (n : Nat) : List Nat → Bool
  | [] => true
  | t :: l => Nat.blt t n && allBlt n l

/-- Behind the normal end j, behind the others k. -/
def exN (j : Env → Heap → Prop) (k : Ex → Env → Heap → Prop) : Ex → Env → Heap → Prop
  | .normal, e, σ => j e σ
  | x, e, σ => k x e σ

/-- The same where an exit of the block is a normal end. -/
def exB (id : Nat) (j : Env → Heap → Prop) (k : Ex → Env → Heap → Prop) : Ex → Env → Heap → Prop
  | .normal, e, σ => j e σ
  | .exit i, e, σ => bif Nat.beq i id then j e σ else k (.exit i) e σ
  | .ret, e, σ => k .ret e σ

/-- What a piece of code asks of the environment and the view so that k holds of the way in which it is left. 'top': not within a round of a range over a function. -/
def acode (P : Program) (T : TT) (n : Nat) (pl : Plan) : (top : Bool) → Code → Env → Heap → (Ex → Env → Heap → Prop) → Prop
  | _, .skip, e, σ, k => k .normal e σ
  | _, .region id ops draw, e, σ, k => bif draw then match pl.get id with
      | some l => acut (alin P T n ops l e σ) (k .normal)
      | none => False
    else acut (aops P T n ops ops.toList e σ) (k .normal)
  | top, .seq a b, e, σ, k => acode P T n pl top a e σ (exN (fun e' σ' => acode P T n pl top b e' σ' k) k)
  | top, .cond c a b, e, σ, k => match e.eval c with
    | some (.bool t) => acut (fun j => bcond t (acode P T n pl top a e σ (exN j k)) (acode P T n pl top b e σ (exN j k))) (k .normal)
    | _ => False
  | top, .block id b, e, σ, k => acut (fun j => acode P T n pl top b e σ (exB id j k)) (k .normal)
  | top, .loop b, e, σ, k =>
    ∃ fx ks s0, e.has fx ∧ e.gets ks = some (S1.encs (shs ks) s0) ∧
      lfp (fun X s σ => acode P T n pl top b (Env.news ks (S1.encs (shs ks) s) fx) σ (exN (arrive fx ks X) k)) s0 σ
  | true, .rangeFunc f params as b, e, σ, k => match e.eval f with
    | some fv => bif allBlt n params.toList then
        arange P fv (fun l L args σ1 R => args.length = params.toList.length ∧
          acode P T n pl false as (psets e params.toList args) σ1 fun x e1 σ2 => match x with
            | .normal => σ2 l = some (.other 1 (L .ready none)) ∧
              acode P T n pl false b e1 (σ2.ins l (.other 1 (L .busy none))) fun x _ σ3 => σ3 l = some (.other 1 (L .busy none)) ∧ R x σ3
            | _ => False)
          σ fun x σ' => k x e σ'
      else False
    | none => False
  | _, .exit id, e, σ, k => k (.exit id) e σ
  | _, .ret, e, σ, k => k .ret e σ
  | _, _, _, _, _ => False

end Go.Eng

/- The soundness of a region that does not draw its order. Conditions: the table of types is the program's. -/
namespace Go.Eng
open Go

section
variable {P : Program} {T : TT} {n : Nat} {σ0 : Heap} {w0 : World} {ro : Option Nat}

/-- All that is carried along the walk of a piece of code: the environment, the view, the deferred marks. -/
structure St (n : Nat) (σ0 : Heap) (w0 : World) (ms : List Nat) (e : Env) (σ : Heap) (a : Act) (w : World) : Prop where
  env : EnvRel n e a
  inv : Inv σ0 w0 ms σ w
  defers : a.defers = ms.map markOf
  nodup : ms.Nodup

/-- Outside the slots of the list the temporaries are the same. -/
def Same (ws : List Nat) (a a' : Act) : Prop := ∀ t, t ∉ ws → a'.tmps.getD t undef = a.tmps.getD t undef

theorem Same.refl (ws : List Nat) (a : Act) : Same ws a a := fun _ _ => rfl
theorem Same.trans {ws : List Nat} {a b c : Act} (h : Same ws a b) (h' : Same ws b c) : Same ws a c := fun t ht => (h' t ht).trans (h t ht)
theorem Same.mono {ws ws' : List Nat} {a b : Act} (h : Same ws a b) (hs : ∀ t, t ∈ ws → t ∈ ws') : Same ws' a b := fun t ht => h t fun h' => ht (hs t h')
theorem Same.put {ws : List Nat} {a : Act} {d : Option Tmp} (hd : ∀ t, d = some t → t ∈ ws) (v : Value) : Same ws a (a.put d v) := by
  intro t ht
  cases d with
  | none => rfl
  | some d =>
    have hne : d ≠ t := fun e => ht (e ▸ hd d rfl)
    simp [Act.put, Array.getElem?_setIfInBounds_ne hne]

theorem put_defers' (a : Act) (d : Option Tmp) (v : Value) : (a.put d v).defers = a.defers := by cases d <;> rfl

theorem put_sound {e : Env} {a : Act} {ms : List Nat} {σ : Heap} {w : World} (h : St n σ0 w0 ms e σ a w) {σ' : Heap} {w' : World} (hI : Inv σ0 w0 ms σ' w') {d : Option Tmp} {v : Value} {k : Env → Prop}
    (hp : put n e d v k) : ∃ e', k e' ∧ St n σ0 w0 ms e' σ' (a.put d v) w' := by
  unfold put at hp
  cases d with
  | none => exact ⟨e, hp, h.env, hI, h.defers, h.nodup⟩
  | some d =>
    simp only at hp
    cases hb : Nat.blt d n with
    | false => rw [hb, cond_false] at hp; exact hp.elim
    | true =>
      rw [hb, cond_true] at hp
      have hlt : d < n := by simpa [Nat.blt_eq] using hb
      exact ⟨_, hp, h.env.put hlt v, hI, h.defers, h.nodup⟩

theorem EnvRel.same {e : Env} {a : Act} (h : EnvRel n e a) {d : Nat} {v : Value} (hd : e.get d = some v) : EnvRel n (e.set d v) a := by
  refine ⟨h.size, fun t u ht => ?_⟩
  rw [Env.get_set] at ht
  by_cases hh : d = t
  · subst hh
    simp only [if_true, Option.some.injEq] at ht
    subst ht
    exact h.get _ _ hd
  · rw [if_neg hh] at ht
    exact h.get _ _ ht

theorem St.same {e : Env} {a : Act} {ms : List Nat} {σ : Heap} {w : World} (h : St n σ0 w0 ms e σ a w) {d : Nat} {v : Value} (hd : e.get d = some v) : St n σ0 w0 ms (e.set d v) σ a w :=
  ⟨h.env.same hd, h.inv, h.defers, h.nodup⟩

/-- The truth that a value is. -/
def boolOf : Value → Option Bool
  | .bool b => some b
  | _ => none

theorem EnvRel.yielded {e : Env} {a : Act} (h : EnvRel n e a) {ops : Array Oper} {j : Nat} {oj : Oper} (hj : ops[j]? = some oj) {d : Nat} (hd : oj.dst = some d) {v : Value} (hv : e.get d = some v) :
    yielded ops a.tmps j = boolOf v := by
  obtain ⟨h1, h2⟩ := h.get d v hv
  have h3 : a.tmps[d]? = some v := by
    have hlt : d < a.tmps.size := by rw [h.size]; exact h1
    rw [Array.getElem?_eq_getElem hlt]
    congr 1
    simpa [hlt] using h2
  unfold Go.yielded
  simp only [hj, Option.bind_some, hd, h3]
  cases v <;> rfl

theorem agop_sound (hT : TTok P T) {ops : Array Oper} {o : Oper} {e : Env} {a : Act} {ms : List Nat} {σ : Heap} {w : World} (h : St n σ0 w0 ms e σ a w) {k : Env → Heap → Prop} {K : Act → World → Prop}
    {Q : Exit → Act → World → Prop} (hg : agop P T n ops o e σ k)
    (hk : ∀ e' σ' v w', k e' σ' → St n σ0 w0 ms e' σ' (a.put o.dst v) w' → K (a.put o.dst v) w') :
    if Region.wanted o (yielded ops a.tmps) then o.wpIn (FW ro) 0 P a w K Q else (∀ f, o.about P w a.eval = some f → (FW ro).fn f) ∧ K (a.put o.dst undef) w := by
  -- the operation is done
  have done : ∀ {e : Env}, St n σ0 w0 ms e σ a w → astep P T e o σ (fun v σ' => put n e o.dst v fun e' => k e' σ') → o.wpIn (FW ro) 0 P a w K Q := fun h' hs =>
    astep_sound hT h'.env h'.inv hs fun v σ' w' hp hI' => by
      obtain ⟨e', hk', hst⟩ := put_sound h' hI' hp
      exact hk _ _ _ _ hk' hst
  -- the operation is passed over
  have skip : ∀ {e : Env}, St n σ0 w0 ms e σ a w → put n e o.dst undef (fun e' => k e' σ) → (∀ f, o.about P w a.eval = some f → (FW ro).fn f) ∧ K (a.put o.dst undef) w := fun h' hs => by
    obtain ⟨e', hk', hst⟩ := put_sound h' h'.inv hs
    exact ⟨fun _ _ => trivial, hk _ _ _ _ hk' hst⟩
  unfold agop at hg
  unfold Region.wanted
  split at hg
  · rename_i hgd
    simp only [hgd, if_true]
    exact done h hg
  · rename_i j want hgd
    simp only [hgd]
    split at hg
    · rename_i oj hj
      split at hg
      · rename_i d hd
        split at hg
        · rename_i b hb
          have hy := h.env.yielded hj hd hb
          rw [hy, boolOf]
          obtain ⟨ht, hf⟩ := hg
          cases b with
          | true =>
            have ht := ht rfl
            cases want with
            | true => simp only [cond_true] at ht; simpa using done (h.same hb) ht
            | false => simp only [cond_false] at ht; simpa using skip (h.same hb) ht
          | false =>
            have hf := hf rfl
            cases want with
            | true => simp only [cond_true] at hf; simpa using skip (h.same hb) hf
            | false => simp only [cond_false] at hf; simpa using done (h.same hb) hf
        · rename_i v hne hb
          have hy := h.env.yielded hj hd hb
          have hn : boolOf v = none := by
            cases v <;> first | rfl | exact absurd rfl (hne _)
          rw [hn] at hy
          rw [hy]
          simpa using skip h hg
        · exact hg.elim
      · exact hg.elim
    · exact hg.elim

theorem aops_sound (hT : TTok P T) {ops : Array Oper} {Q : Exit → Act → World → Prop} {ws : List Nat} {a0 : Act} : ∀ {l : List Oper} {e : Env} {a : Act} {ms : List Nat} {σ : Heap} {w : World},
    (∀ t, t ∈ opDsts l → t ∈ ws) → St n σ0 w0 ms e σ a w → Same ws a0 a → ∀ {k : Env → Heap → Prop}, aops P T n ops l e σ k →
    (∀ e' σ' a' w', k e' σ' → St n σ0 w0 ms e' σ' a' w' → Same ws a0 a' → Q .normal a' w') → wpListIn (FW ro) 0 P ops Q l a w
  | [], e, a, ms, σ, w, _, h, hs, k, hk, hQ => hQ _ _ _ _ hk h hs
  | o :: l, e, a, ms, σ, w, hw, h, hs, k, hk, hQ => by
    have hw' : ∀ t, t ∈ opDsts l → t ∈ ws := fun t ht => hw t (by
      unfold opDsts
      split
      · exact List.mem_cons_of_mem _ ht
      · exact ht)
    have hd : ∀ t, o.dst = some t → t ∈ ws := fun t ht => hw t (by
      unfold opDsts
      rw [ht]
      exact List.mem_cons_self ..)
    exact agop_sound hT h hk fun e' σ' v w' hk' hst =>
      aops_sound hT hw' hst (hs.trans (.put hd v)) hk' hQ

end
end Go.Eng

/- What an operation asks depends on its operands alone, is monotone, and leaves realizable views. Conditions: none. -/
namespace Go.Eng
open Go

/-! ### Congruence in the environment -/
section
variable {P : Program} {T : TT} {e e' : Env}

/-- The two environments hold the same of every operand of the list. -/
def Agree (e e' : Env) (l : List Operand) : Prop := ∀ x ∈ l, e.eval x = e'.eval x

theorem Agree.evals : ∀ {l : List Operand}, Agree e e' l → e.evals l = e'.evals l
  | [], _ => rfl
  | x :: l, h => by
    simp only [Env.evals]
    rw [h x (by simp), Agree.evals fun y hy => h y (by simp [hy])]

theorem Agree.evalo {x : Option Operand} (h : Agree e e' x.toList) : e.evalo x = e'.evalo x := by
  cases x with
  | none => rfl
  | some x => simp only [Env.evalo]; rw [h x (by simp)]

theorem Agree.evalp : ∀ {l : List (Nat × Operand)}, Agree e e' (l.map (·.2)) → e.evalp l = e'.evalp l
  | [], _ => rfl
  | (j, x) :: l, h => by
    simp only [Env.evalp]
    rw [h x (by simp), Agree.evalp fun y hy => h y (by simp at hy ⊢; exact .inr hy)]

theorem apv_congr {op : Op} (h : Agree e e' op.operands.toList) : apv T e op = apv T e' op := by
  cases op with
  | move x | assign x | nilCheck x => simp only [apv]; rw [h x (by simp [Op.operands])]
  | pick c a b => simp only [apv]; rw [h c (by simp [Op.operands]), h a (by simp [Op.operands]), h b (by simp [Op.operands])]
  | binOp op t x y ty2 => simp only [apv]; rw [h x (by simp [Op.operands]), h y (by simp [Op.operands])]
  | unOp op t x => simp only [apv]; rw [h x (by simp [Op.operands])]
  | convert s d x => simp only [apv]; rw [h x (by simp [Op.operands])]
  | makeFunc fn first cap =>
    simp only [apv]
    rw [Agree.evals (l := first.toList) fun x hx => h x (by simp [Op.operands] at hx ⊢; exact .inl hx), Agree.evals (l := cap.toList) fun x hx => h x (by simp [Op.operands] at hx ⊢; exact .inr hx)]
  | slice t x lo hi mx =>
    simp only [apv]
    rw [h x (by simp [Op.operands]), Agree.evalo (x := lo) fun y hy => h y (by simp [Op.operands] at hy ⊢; simp [hy]), Agree.evalo (x := hi) fun y hy => h y (by simp [Op.operands] at hy ⊢; simp [hy]),
      Agree.evalo (x := mx) fun y hy => h y (by simp [Op.operands] at hy ⊢; simp [hy])]
  | fieldAddr s x f => simp only [apv]; rw [h x (by simp [Op.operands])]
  | field s x f => simp only [apv]; rw [h x (by simp [Op.operands])]
  | indexAddr t x ix => simp only [apv]; rw [h x (by simp [Op.operands]), h ix (by simp [Op.operands])]
  | index t x ix => simp only [apv]; rw [h x (by simp [Op.operands]), h ix (by simp [Op.operands])]
  | extract x j => simp only [apv]; rw [h x (by simp [Op.operands])]
  | build t parts => simp only [apv]; rw [Agree.evalp (l := parts.toList) fun x hx => h x (by simpa [Op.operands] using hx)]
  | call c =>
    simp only [apv]
    rw [Agree.evals (l := c.args.toList) fun x hx => h x (by simp [Op.operands, Call.operands] at hx ⊢; exact .inr hx)]
  | _ => simp only [apv]

theorem astep_congr {o : Oper} {σ : Heap} {k : Value → Heap → Prop} (h : Agree e e' o.op.operands.toList) : astep P T e o σ k = astep P T e' o σ k := by
  have hp := apv_congr (T := T) h
  obtain ⟨dst, op, ty, pos, after, guard⟩ := o
  dsimp only at h hp
  unfold astep
  cases op with
  | load t x => dsimp only; rw [h x (by simp [Op.operands])]
  | store t x y => dsimp only; rw [h x (by simp [Op.operands]), h y (by simp [Op.operands])]
  | alloc t => rfl
  | box t x => dsimp only; rw [h x (by simp [Op.operands])]
  | buildSlice t len parts => dsimp only; rw [Agree.evalp (l := parts.toList) fun x hx => h x (by simpa [Op.operands] using hx)]
  | makeSlice t l c => dsimp only; rw [h l (by simp [Op.operands]), h c (by simp [Op.operands])]
  | makeMap t r => cases r <;> rfl
  | mapUpdate t m x y => dsimp only; rw [h m (by simp [Op.operands]), h x (by simp [Op.operands]), h y (by simp [Op.operands])]
  | range t x => dsimp only; rw [h x (by simp [Op.operands])]
  | next x b =>
    cases b
    · dsimp only; rw [h x (by simp [Op.operands])]
    · dsimp only; rfl
  | entry x => dsimp only; rw [h x (by simp [Op.operands])]
  | call c =>
    dsimp only
    have ha : e.evals c.args.toList = e'.evals c.args.toList := Agree.evals fun x hx => h x (by simp [Op.operands, Call.operands] at hx ⊢; exact .inr hx)
    have hv : calleeV e c = calleeV e' c := by
      unfold calleeV
      cases hc : c.callee with
      | value f => exact h f (by simp [Op.operands, Call.operands, hc])
      | _ => rfl
    rw [ha, hv]
  | _ => dsimp only; rw [hp]

end

/-! ### Realizable views -/

/-- A view that some world fits: finitely many blocks, each of which some object fits. -/
def Real (σ : Heap) : Prop := (∃ b, ∀ r, b ≤ r → σ r = none) ∧ ∀ r o, σ r = some o → ∃ c, o.fits c

theorem Rel.real {σ : Heap} {w : World} (h : Rel σ w) : Real σ := by
  refine ⟨⟨w.heap.size, fun r hr => ?_⟩, fun r o ho => ?_⟩
  · cases hs : σ r with
    | none => rfl
    | some o => exact absurd (h.lt hs) (by omega)
  · obtain ⟨c, _, hc⟩ := h r o ho
    exact ⟨c, hc⟩

theorem Real.rel {σ : Heap} (h : Real σ) : ∃ w, Rel σ w := by
  obtain ⟨⟨b, hb⟩, hf⟩ := h
  have key : ∀ r, ∃ c : Obj, ∀ o, σ r = some o → o.fits c := fun r => by
    cases hr : σ r with
    | none => exact ⟨default, fun o ho => by cases ho⟩
    | some o =>
      obtain ⟨c, hc⟩ := hf r o hr
      exact ⟨c, fun o' ho => by cases ho; exact hc⟩
  refine ⟨{ (default : World) with heap := Array.ofFn (n := b) fun r => Classical.choose (key r.val) }, fun r o ho => ?_⟩
  have hr : r < b := by
    rcases Nat.lt_or_ge r b with h | h
    · exact h
    · rw [hb r h] at ho; cases ho
  refine ⟨Classical.choose (key r), ?_, Classical.choose_spec (key r) o ho⟩
  simp [hr]

theorem Real.fresh {σ : Heap} (h : Real σ) : ∃ r, σ r = none := by
  obtain ⟨⟨b, hb⟩, _⟩ := h
  exact ⟨b, hb b (Nat.le_refl _)⟩

theorem Real.fresh2 {σ : Heap} (h : Real σ) (r0 : Nat) : ∃ r, σ r = none ∧ r ≠ r0 := by
  obtain ⟨⟨b, hb⟩, _⟩ := h
  exact ⟨b + r0 + 1, hb _ (by omega), by omega⟩

theorem Real.ins {σ : Heap} (h : Real σ) (r : Nat) {o : AObj} (ho : ∃ c, o.fits c) : Real (σ.ins r o) := by
  obtain ⟨⟨b, hb⟩, hf⟩ := h
  refine ⟨⟨b + r + 1, fun x hx => ?_⟩, fun x y hy => ?_⟩
  · rw [Heap.ins_ne _ _ (by omega)]; exact hb x (by omega)
  · by_cases e : x = r
    · subst e; rw [Heap.ins_same] at hy; cases hy; exact ho
    · rw [Heap.ins_ne _ _ e] at hy; exact hf x y hy

theorem Real.del {σ : Heap} (h : Real σ) (r : Nat) : Real (σ.del r) := by
  obtain ⟨⟨b, hb⟩, hf⟩ := h
  refine ⟨⟨b, fun x hx => ?_⟩, fun x y hy => ?_⟩
  · by_cases e : x = r
    · subst e; exact Heap.del_same _ _
    · rw [Heap.del_ne _ e]; exact hb x hx
  · by_cases e : x = r
    · subst e; rw [Heap.del_same] at hy; cases hy
    · rw [Heap.del_ne _ e] at hy; exact hf x y hy

theorem fits_cells {g : Nat} {cs : List Value} {t : TypeId} {n : Nat} (h : cs.length ≤ n) : ∃ c, (AObj.cells g cs t n).fits c := by
  refine ⟨.cells (cs ++ List.replicate (n - cs.length) undef).toArray t (0, 0), _, _, rfl, ?_, ⟨_, rfl⟩, fun _ => rfl⟩
  simp; omega

theorem fits_other {g : Nat} {o : Obj} (h : Obj.isCells o = false) : ∃ c, (AObj.other g o).fits c := ⟨o, rfl, h⟩

theorem fits_len {g : Nat} {cs : List Value} {t : TypeId} {n : Nat} (h : ∃ c, (AObj.cells g cs t n).fits c) : cs.length ≤ n := by
  obtain ⟨c, c', fz, rfl, hs, hp, _⟩ := h
  rw [← hs]
  simpa using hp.length_le

/-! ### Monotone -/
section
variable {P : Program} {T : TT} {e : Env}

/-- k implies k' wherever the view can be. -/
def Imp (k k' : Value → Heap → Prop) : Prop := ∀ v σ, Real σ → k v σ → k' v σ

theorem Post.mono {σ : Heap} {w : World} {R R' : Value → Heap → Prop} (h : Imp R R') {x : Ending} {w' : World} (hp : Post σ w R x w') : Post σ w R' x w' := by
  obtain ⟨v, σ', hx, hI, hR⟩ := hp
  exact ⟨v, σ', hx, hI, h v σ' hI.rel.real hR⟩

theorem ACalls.mono' {f : FuncId} {args : List Value} {σ : Heap} {R R' : Value → Heap → Prop} (hi : Imp R R') (h : ACalls P f args σ R) : ACalls P f args σ R' :=
  ⟨h.1, fun w hw => (h.2 w hw).mono fun _ _ hp => hp.mono hi⟩

theorem ACallV.mono' {fv : Value} {args : List Value} {σ : Heap} {R R' : Value → Heap → Prop} (hi : Imp R R') (h : ACallV P fv args σ R) : ACallV P fv args σ R' := fun w hw => by
  obtain ⟨nx, h1, h2⟩ := h w hw
  refine ⟨nx, h1, ?_⟩
  cases nx with
  | enter f as => exact CallsIn.mono h2 fun _ _ hp => hp.mono hi
  | round l g tmps x y => exact RoundIn.mono h2 fun _ _ hp => hp.mono hi
  | _ => exact h2

theorem shK_imp {sh : Sh} {k k' : Value → Heap → Prop} (hi : Imp k k') : Imp (shK sh k) (shK sh k') := fun _ _ hr ⟨s, hs, hk⟩ => ⟨s, hs, hi _ _ hr hk⟩

theorem acall_mono {sh : Sh} {fv : Value} {args : List Value} {σ : Heap} {k k' : Value → Heap → Prop} (hi : Imp k k') (h : acall P sh fv args σ k) : acall P sh fv args σ k' := by
  unfold acall at h ⊢
  split
  · exact ACalls.mono' (shK_imp hi) h
  · rename_i hne
    split at h
    · exact absurd rfl (hne _ _ _)
    · exact ACallV.mono' (shK_imp hi) h

/-- A contract is met by some result. -/
theorem ACalls.inh {f : FuncId} {args : List Value} {σ : Heap} {R : Value → Heap → Prop} (hr : Real σ) (h : ACalls P f args σ R) : ∃ v σ', Real σ' ∧ R v σ' := by
  obtain ⟨w, hw⟩ := hr.rel
  obtain ⟨e', w', fr, ⟨v, σ', _, hI, hR⟩, _⟩ := (h.2 w hw).2 [] (fun d hd => by cases hd)
  exact ⟨v, σ', hI.rel.real, hR⟩

theorem ACallV.inh {fv : Value} {args : List Value} {σ : Heap} {R : Value → Heap → Prop} (hr : Real σ) (h : ACallV P fv args σ R) : ∃ v σ', Real σ' ∧ R v σ' := by
  obtain ⟨w, hw⟩ := hr.rel
  obtain ⟨nx, h1, h2⟩ := h w hw
  cases nx with
  | enter f as =>
    obtain ⟨e', w', fr, ⟨v, σ', _, hI, hR⟩, _⟩ := h2.2 [] (fun d hd => by cases hd)
    exact ⟨v, σ', hI.rel.real, hR⟩
  | round l g tmps x y =>
    obtain ⟨e', w', ⟨v, σ', _, hI, hR⟩, _⟩ := h2.2 default [] (fun d hd => by cases hd)
    exact ⟨v, σ', hI.rel.real, hR⟩
  | _ => exact h2.elim

theorem acall_inh {sh : Sh} {fv : Value} {args : List Value} {σ : Heap} {k : Value → Heap → Prop} (hr : Real σ) (h : acall P sh fv args σ k) : ∃ v σ', Real σ' ∧ k v σ' := by
  unfold acall at h
  split at h
  · obtain ⟨v, σ', h1, s, _, h2⟩ := ACalls.inh hr h
    exact ⟨_, σ', h1, h2⟩
  · obtain ⟨v, σ', h1, s, _, h2⟩ := ACallV.inh hr h
    exact ⟨_, σ', h1, h2⟩

theorem Inv.extend {σ : Heap} {w : World} {σ' : Heap} {w' : World} {r : Nat} {o : AObj} (hr : σ r = none) (hw : Rel (σ.ins r o) w) (hI : Inv σ w [] σ' w') :
    Inv (σ.ins r o) w [] (σ'.ins r o) w' ∧ σ' r = none := by
  obtain ⟨c, hc, hf⟩ := hw r o (Heap.ins_same _ _ _)
  have hlt := lt_of_block hc
  obtain ⟨h1, h2⟩ := hI.old r hlt hr
  refine ⟨⟨fun x y hy => ?_, hI.size, fun x hx h0 => ?_, hI.os, hI.tape, hI.output, fun _ h => (by cases h), fun x cs t n hx h0 => ?_⟩, h1⟩
  · by_cases e : x = r
    · subst e
      rw [Heap.ins_same] at hy
      cases hy
      exact ⟨c, by rw [h2]; exact hc, hf⟩
    · rw [Heap.ins_ne _ _ e] at hy
      exact hI.rel x y hy
  · have e : x ≠ r := fun e => by rw [e, Heap.ins_same] at h0; cases h0
    rw [Heap.ins_ne _ _ e] at h0 ⊢
    exact hI.old x hx h0
  · by_cases e : x = r
    · subst e
      rw [Heap.ins_same] at h0
      cases h0
      refine ⟨h2, fun o' ho => ?_⟩
      rw [Heap.ins_same] at ho
      cases ho
      exact ⟨_, _, _, rfl⟩
    · rw [Heap.ins_ne _ _ e] at h0
      obtain ⟨h3, h4⟩ := hI.ro x cs t n hx h0
      refine ⟨h3, fun o' ho => ?_⟩
      rw [Heap.ins_ne _ _ e] at ho
      exact h4 o' ho

theorem Rel.without {σ : Heap} {w : World} {r : Nat} {o : AObj} (hr : σ r = none) (h : Rel (σ.ins r o) w) : Rel σ w := fun x y hy => h x y (by
  have e : x ≠ r := fun e => by rw [e, hr] at hy; cases hy
  rw [Heap.ins_ne _ _ e]; exact hy)

/-- What a contract says of a block beside the view: the frame. -/
theorem ACalls.frame {f : FuncId} {args : List Value} {σ : Heap} {R : Value → Heap → Prop} {r : Nat} {o : AObj} (hr : σ r = none) (h : ACalls P f args σ R) :
    ACalls P f args (σ.ins r o) fun v τ => ∃ σ', τ = σ'.ins r o ∧ σ' r = none ∧ R v σ' :=
  ⟨h.1, fun w hw => (h.2 w (hw.without hr)).mono fun _ _ ⟨v, σ', hx, hI, hR⟩ => by
    obtain ⟨h1, h2⟩ := hI.extend hr hw
    exact ⟨v, _, hx, h1, σ', rfl, h2, hR⟩⟩

theorem ACallV.frame {fv : Value} {args : List Value} {σ : Heap} {R : Value → Heap → Prop} {r : Nat} {o : AObj} (hr : σ r = none) (h : ACallV P fv args σ R) :
    ACallV P fv args (σ.ins r o) fun v τ => ∃ σ', τ = σ'.ins r o ∧ σ' r = none ∧ R v σ' := fun w hw => by
  obtain ⟨nx, h1, h2⟩ := h w (hw.without hr)
  refine ⟨nx, h1, ?_⟩
  have key : ∀ (x : Ending) (w' : World), Post σ w R x w' → Post (σ.ins r o) w (fun v τ => ∃ σ', τ = σ'.ins r o ∧ σ' r = none ∧ R v σ') x w' := fun _ _ ⟨v, σ', hx, hI, hR⟩ => by
    obtain ⟨h1, h2⟩ := hI.extend hr hw
    exact ⟨v, _, hx, h1, σ', rfl, h2, hR⟩
  cases nx with
  | enter f as => exact CallsIn.mono h2 key
  | round l g tmps x y => exact RoundIn.mono h2 key
  | _ => exact h2

theorem acall_frame {sh : Sh} {fv : Value} {args : List Value} {σ : Heap} {k : Value → Heap → Prop} {r : Nat} {o : AObj} (hr : σ r = none) (h : acall P sh fv args σ k) :
    acall P sh fv args (σ.ins r o) fun v τ => ∃ σ', τ = σ'.ins r o ∧ σ' r = none ∧ k v σ' := by
  have key : ∀ (v : Value) (τ : Heap), Real τ → (∃ σ', τ = σ'.ins r o ∧ σ' r = none ∧ shK sh k v σ') → shK sh (fun v τ => ∃ σ', τ = σ'.ins r o ∧ σ' r = none ∧ k v σ') v τ :=
    fun _ _ _ ⟨σ', h1, h2, s, h3, h4⟩ => ⟨s, h3, σ', h1, h2, h4⟩
  unfold acall at h ⊢
  split
  · exact ACalls.mono' key (ACalls.frame hr h)
  · rename_i hne
    split at h
    · exact absurd rfl (hne _ _ _)
    · exact ACallV.mono' key (ACallV.frame hr h)

end
end Go.Eng

/- One step is monotone; the forms of the steps. Conditions: none. -/
namespace Go.Eng
open Go

section
variable {P : Program} {T : TT} {e : Env} {σ : Heap}

theorem conj_mono {ps : List Prop} {X Y : Prop} (h : X → Y) (hc : conj ps X) : conj ps Y := conj_iff.2 ⟨(conj_iff.1 hc).1, h (conj_iff.1 hc).2⟩

theorem astore_mono {p : Option Addr} {vs : List Value} (hr : Real σ) {k k' : Heap → Prop} (hi : ∀ σ', Real σ' → k σ' → k' σ') (h : astore p vs σ k) : astore p vs σ k' := by
  obtain ⟨r, o, g, cs, t, n, h1, h2, h3, h4, h5, h6⟩ := h
  exact ⟨r, o, g, cs, t, n, h1, h2, h3, h4, h5, hi _ (hr.ins r (fits_cells (by rw [length_lset]; exact fits_len (hr.2 _ _ h2)))) h6⟩

theorem anew_mono {cs : List Value} {t : TypeId} (hr : Real σ) {k k' : Nat → Heap → Prop} (hi : ∀ r σ', Real σ' → k r σ' → k' r σ') (h : anew cs t cs.length σ k) : anew cs t cs.length σ k' :=
  fun r h0 => hi _ _ (hr.ins r (fits_cells (Nat.le_refl _))) (h r h0)

theorem anewo_mono {o : Obj} (ho : Obj.isCells o = false) (hr : Real σ) {k k' : Nat → Heap → Prop} (hi : ∀ r σ', Real σ' → k r σ' → k' r σ') (h : anewo o σ k) : anewo o σ k' := by
  obtain ⟨g, h⟩ := h
  exact ⟨g, fun r h0 => hi _ _ (hr.ins r (fits_other ho)) (h r h0)⟩

theorem aappend_mono {el : TypeId} {ie : TI} {p : Option Addr} {len cap : Nat} {q : Option Addr} {m : Nat} (hr : Real σ) {k k' : Value → Heap → Prop} (hi : Imp k k') (h : aappend el ie p len cap q m σ k) :
    aappend el ie p len cap q m σ k' := by
  obtain ⟨news, h1, h2, h3, h4, h5, h6, h⟩ := h
  have hnl : news.length = m * ie.size := by
    obtain ⟨w, hw⟩ := hr.rel
    exact (hw.row h1).1
  refine ⟨news, h1, h2, h3, h4, h5, h6, ?_⟩
  rcases h with ⟨a1, a2, hk⟩ | ⟨a1, a2, a3, g, hk⟩ | ⟨a1, a2, a3, olds, a4, g, hk⟩ | ⟨a1, r, g, cs, a2, a3, a4, a5, hk⟩ | ⟨a1, a2, r, o, g, cs, n, a3, a4, a5, a6, hk⟩
  · exact .inl ⟨a1, a2, hi _ _ hr hk⟩
  · exact .inr (.inl ⟨a1, a2, a3, g, fun r c b1 b2 => hi _ _ (hr.ins r (fits_cells (by rw [hnl]; exact Nat.mul_le_mul_right _ b2))) (hk r c b1 b2)⟩)
  · refine .inr (.inr (.inl ⟨a1, a2, a3, olds, a4, g, fun r c b1 b2 => hi _ _ (hr.ins r (fits_cells ?_)) (hk r c b1 b2)⟩))
    have hol : olds.length = len * ie.size := by
      obtain ⟨w, hw⟩ := hr.rel
      exact (hw.row a4).1
    rw [List.length_append, hnl, hol, ← Nat.add_mul]
    exact Nat.mul_le_mul_right _ b2
  · refine .inr (.inr (.inr (.inl ⟨a1, r, g, cs, a2, a3, a4, a5, fun r' c b1 b2 => hi _ _ ((hr.del r).ins r' (fits_cells ?_)) (hk r' c b1 b2)⟩)))
    rw [List.length_append, hnl, a5, ← Nat.add_mul]
    exact Nat.mul_le_mul_right _ b2
  · exact .inr (.inr (.inr (.inr ⟨a1, a2, r, o, g, cs, n, a3, a4, a5, a6, hi _ _ (hr.ins r (fits_cells (by rw [length_lset]; exact fits_len (hr.2 _ _ a4)))) hk⟩)))

theorem agrow_mono {el : TypeId} {ie : TI} {p : Option Addr} {len cap : Nat} {m : Int} (hr : Real σ) {k k' : Value → Heap → Prop} (hi : Imp k k') (h : agrow el ie p len cap m σ k) : agrow el ie p len cap m σ k' := by
  obtain ⟨h1, h2, h3, h4, h5, h6, h7, h8, g, hk⟩ := h
  refine ⟨h1, h2, h3, h4, h5, h6, h7, h8, g, fun r c b1 b2 => hi _ _ (hr.ins r (fits_cells ?_)) (hk r c b1 b2)⟩
  rw [length_zrep, h8]
  exact Nat.mul_le_mul_right _ b2

theorem mapAt_mono {m : Option Nat} {k k' : (r g : Nat) → Array MapEntry → Nat → Prop} (hi : ∀ r g es c, k r g es c → k' r g es c) (h : mapAt σ m k) : mapAt σ m k' := by
  obtain ⟨r, g, es, c, h1, h2, h3, h4⟩ := h
  exact ⟨r, g, es, c, h1, h2, h3, hi _ _ _ _ h4⟩

theorem astep_mono (hr : Real σ) {o : Oper} {k k' : Value → Heap → Prop} (hi : Imp k k') (h : astep P T e o σ k) : astep P T e o σ k' := by
  obtain ⟨dst, op, ty, pos, after, guard⟩ := o
  have dflt : ∀ {op : Op}, (match apv T e op with | some (ps, v) => conj ps (k v σ) | none => False) → (match apv T e op with | some (ps, v) => conj ps (k' v σ) | none => False) := by
    intro op h
    cases hv : apv T e op with
    | none => rw [hv] at h; exact h
    | some x =>
      obtain ⟨ps, v⟩ := x
      rw [hv] at h
      exact conj_mono (hi _ _ hr) h
  unfold astep at h ⊢
  cases op with
  | load t x =>
    dsimp only at h ⊢
    split
    · rename_i i p hi' hx
      simp only [hi', hx] at h
      cases hno : nonOther i.k with
      | false => rw [hno] at h; exact h
      | true =>
        rw [hno, cond_true] at h
        obtain ⟨s, h1, h2⟩ := h
        exact ⟨s, h1, hi _ _ hr h2⟩
    · rename_i hne
      split at h
      · rename_i i p hi' hx
        exact absurd hx (hne _ _ hi')
      · exact h
  | store t x y =>
    dsimp only at h ⊢
    cases h1 : T t with
    | none => rw [h1] at h; exact h
    | some i =>
      cases h2 : e.eval x with
      | none => simp only [h1, h2] at h
      | some xv =>
        cases h3 : e.eval y with
        | none => simp only [h1, h2, h3] at h
        | some yv =>
          cases xv with
          | pointer p =>
            simp only [h1, h2, h3] at h ⊢
            cases hs : ((vcells yv).length == i.size) with
            | false => rw [hs] at h; exact h
            | true => rw [hs, cond_true] at h; exact astore_mono hr (fun σ' => hi _ σ') h
          | _ => simp only [h1, h2, h3] at h
  | alloc t =>
    dsimp only at h ⊢
    split at h
    · exact anew_mono hr (fun r σ' => hi _ σ') h
    · exact h
  | box t x =>
    dsimp only at h ⊢
    split at h
    · exact anew_mono hr (fun r σ' => hi _ σ') h
    · exact h
  | buildSlice t len parts =>
    dsimp only at h ⊢
    split at h
    · split at h
      · split at h
        · rename_i ie _
          cases hb : (Nat.ble (len * ie.size) 16777216 && ie.zero.length == ie.size) with
          | false => rw [hb] at h; exact h
          | true =>
            rw [hb, cond_true] at h
            split at h
            · exact anew_mono hr (fun r σ' => hi _ σ') h
            · exact h
        · exact h
      · exact h
    · exact h
  | makeSlice t l c =>
    dsimp only at h ⊢
    split at h
    · split at h
      · split at h
        · obtain ⟨h1, h2, h3, h4, h5, g, h6⟩ := h
          exact ⟨h1, h2, h3, h4, h5, g, fun r h0 => hi _ _ (hr.ins r (fits_cells (by rw [length_zrep, h5]; exact Nat.le_refl _))) (h6 r h0)⟩
        · exact h
      · exact h
    · exact h
  | makeMap t r =>
    cases r with
    | none => exact anewo_mono rfl hr (fun r σ' => hi _ σ') h
    | some x => simp [apv] at h
  | mapUpdate t m x y =>
    dsimp only at h ⊢
    split at h
    · split at h
      · split at h
        · split at h
          · refine mapAt_mono (fun r g es c h => ?_) h
            rcases h with ⟨i, v, h1, h2, h3⟩ | ⟨h1, h2⟩
            · exact .inl ⟨i, v, h1, h2, hi _ _ (hr.ins r (fits_other rfl)) h3⟩
            · exact .inr ⟨h1, hi _ _ (hr.ins r (fits_other rfl)) h2⟩
          · exact h
        · exact h
      · exact h
    · exact h
  | range t x =>
    dsimp only at h ⊢
    split at h
    · split at h
      · exact mapAt_mono (fun r g es c h => anewo_mono rfl hr (fun r σ' => hi _ σ') h) h
      · exact h
    · exact h
  | next x b =>
    cases b
    · dsimp only at h ⊢
      split at h
      · obtain ⟨r, g, m, gm, since, seen, last, es, clock, h1, h2, h3, h4, h5, h6⟩ := h
        refine ⟨r, g, m, gm, since, seen, last, es, clock, h1, h2, h3, h4, h5, fun c hc => ?_⟩
        have := h6 c hc
        cases c with
        | none => exact hi _ _ hr this
        | some en => exact hi _ _ (hr.ins r (fits_other rfl)) this
      · exact h
    · simp [apv] at h
  | entry x =>
    dsimp only at h ⊢
    split at h
    · obtain ⟨r, g, m, gm, since, seen, es, clock, stamp, en, h1, h2, h3, h4, h5, x', y', h6, h7, h8⟩ := h
      exact ⟨r, g, m, gm, since, seen, es, clock, stamp, en, h1, h2, h3, h4, h5, x', y', h6, h7, hi _ _ hr h8⟩
    · exact h
  | call c =>
    dsimp only at h ⊢
    split at h
    · split at h
      · rename_i t u _
        cases htu : t == u with
        | false => rw [htu] at h; exact h
        | true =>
          rw [htu, cond_true] at h
          split at h
          · split at h
            · split at h
              · exact aappend_mono hr hi h
              · exact h
            · exact h
          · exact h
      · exact h
    · split at h
      · split at h
        · split at h
          · split at h
            · exact agrow_mono hr hi h
            · exact h
          · exact h
        · exact h
      · exact h
    · split at h
      · split at h
        · split at h
          · split at h
            · obtain ⟨h1, h⟩ := h
              rcases h with ⟨h2, h3⟩ | ⟨h2, h3⟩
              · exact ⟨h1, .inl ⟨h2, hi _ _ hr h3⟩⟩
              · exact ⟨h1, .inr ⟨h2, astore_mono hr (fun σ' => hi _ σ') h3⟩⟩
            · exact h
          · exact h
        · exact h
      · exact h
    · split at h
      · split at h
        · split at h
          · split at h
            · split at h
              · refine mapAt_mono (fun r g es c h => ?_) h
                rcases h with ⟨i, v, h1, h2⟩ | ⟨h1, h2⟩
                · exact .inl ⟨i, v, h1, hi _ _ (hr.ins r (fits_other rfl)) h2⟩
                · exact .inr ⟨h1, hi _ _ hr h2⟩
              · exact h
            · exact h
          · exact h
        · exact h
      · exact h
    · split at h
      · exact conj_mono (hi _ _ hr) h
      · exact h
    · split at h
      · exact acall_mono hi h
      · exact h
    · exact h
  | _ => dsimp only at h ⊢; first | exact dflt h | simp [apv] at h

end
end Go.Eng
