/- Rows of cells in the view: reading. Conditions: none. -/
import Derived.Test.YtihpnhkhgobblaaGreatDoorEd
namespace Go.Eng
open Go

def ints (l : List Int) : List Value := l.map (.int .i64 ·)

theorem ints_length (l : List Int) : (ints l).length = l.length := by simp [ints]
theorem ints_get (l : List Int) (i : Nat) : (ints l)[i]? = l[i]?.map (.int .i64 ·) := by simp [ints]

theorem rds_get {σ : Heap} {r : Nat} : ∀ {n o : Nat} {l : List Value}, σ.rds r o n = some l → l.length = n ∧ ∀ {i v}, l[i]? = some v → σ.rd r (o + i) = some v
  | 0, o, l, h => by
    simp only [Heap.rds, Option.some.injEq] at h
    subst h
    exact ⟨rfl, fun h => by simp at h⟩
  | n + 1, o, l, h => by
    simp only [Heap.rds] at h
    cases hv : σ.rd r o with
    | none => simp [hv] at h
    | some v =>
      rw [hv] at h
      cases hr : σ.rds r (o + 1) n with
      | none => simp [hr] at h
      | some us =>
        simp only [hr, Option.some.injEq] at h
        subst h
        obtain ⟨h1, h2⟩ := rds_get hr
        refine ⟨by simp [h1], fun {i v} hi => ?_⟩
        cases i with
        | zero =>
          simp only [List.getElem?_cons_zero, Option.some.injEq] at hi
          subst hi
          simpa using hv
        | succ i =>
          simp only [List.getElem?_cons_succ] at hi
          have := h2 hi
          rw [Nat.add_assoc, Nat.add_comm 1 i] at this
          exact this

theorem row_len {σ : Heap} {p : Option Addr} {n : Nat} {l : List Value} (h : σ.row p n l) : l.length = n := by
  unfold Heap.row at h
  split at h
  · exact (rds_get h).1
  · simp [h.1, h.2]
  · exact h.elim

/-- The cell of a row. -/
theorem row_get {σ : Heap} {p : Option Addr} {n : Nat} {l : List Value} (h : σ.row p n l) {i : Nat} {v : Value} (hi : l[i]? = some v) : ∃ r o, p = some ⟨r, o, none⟩ ∧ σ.rd r (o + i) = some v := by
  unfold Heap.row at h
  split at h
  · exact ⟨_, _, rfl, (rds_get h).2 hi⟩
  · simp [h.2] at hi
  · exact h.elim

theorem row_ld {σ : Heap} {p : Option Addr} {n : Nat} {l : List Value} (h : σ.row p n l) {i : Nat} {v : Value} (hi : l[i]? = some v) {t : TI} (ht : t.isAgg = false) {j : Nat} (hj : j = i) : p.isSome = true ∧ σ.ldT t (padd p j) = some v := by
  subst hj
  obtain ⟨r, o, rfl, hr⟩ := row_get h hi
  refine ⟨rfl, ?_⟩
  rw [padd_some]
  unfold Heap.ldT
  rw [ht]
  exact hr


section
variable {P : Program} {T : TT} {n : Nat} {pl : Plan} {top : Bool} {cf cf' : Cf} {st : List Fr} {e : Env} {σ : Heap} {k : Ex → Env → Heap → Prop} {ops : Array Oper} {o : Oper} {pend : List Nat}

theorem shK_mk {sh : Sh} {k : Value → Heap → Prop} {v : Value} {σ : Heap} (hs : ∃ s, v = sh.enc s) (hk : k v σ) : shK sh k v σ := by
  obtain ⟨s, rfl⟩ := hs
  exact ⟨s, rfl, hk⟩

/-- A call of a function whose contract is at hand. -/
theorem opc {d : Nat} {c : Call} {f : Operand} {g : FuncId} {first cap : Array Value} {args as : List Value} {i : TI} (h : cur cf = some (ops, o, [], cf')) (hg : o.guard = none) (hdd : o.dst = some d) (hd : Nat.blt d n = true)
    (ho : o.op = .call c) (hc : c.callee = .value f) (hf : e.eval f = some (.func (.func g) first cap)) (ha : e.evals c.args.toList = some args) (hi : T o.type = some i) (has : first.toList ++ args ++ cap.toList = as)
    (hk : ACalls P g as σ (shK i.sh fun v σ' => den P T n pl top cf' st ((d, v) :: e) σ' k)) : den P T n pl top cf st e σ k :=
  op h hg hdd hd (as_call ho hc hf ha hi has hk)

/-- The same where earlier loads must still read what they read. -/
theorem opck {d : Nat} {c : Call} {f : Operand} {g : FuncId} {first cap : Array Value} {args as : List Value} {i : TI} (h : cur cf = some (ops, o, pend, cf')) (hg : o.guard = none) (hdd : o.dst = some d) (hd : Nat.blt d n = true)
    (ho : o.op = .call c) (hc : c.callee = .value f) (hf : e.eval f = some (.func (.func g) first cap)) (ha : e.evals c.args.toList = some args) (hi : T o.type = some i) (has : first.toList ++ args ++ cap.toList = as)
    (hk : ACalls P g as σ (shK i.sh fun v σ' => conj (keeps T ops.toList ((d, v) :: e) σ' pend) (den P T n pl top cf' st ((d, v) :: e) σ' k))) : den P T n pl top cf st e σ k :=
  opk h hg hdd hd (as_call ho hc hf ha hi has hk)

/-- A way that comes to the meeting behind a block. -/
theorem meetB {id : Nat} {fx : Env} {ks : List (Nat × S1)} {J : S1.Ts (shs ks) → Heap → Prop} {K : Ex → Env → Heap → Prop} (s : S1.Ts (shs ks)) (hf : e.has fx) (hg : e.gets ks = some (S1.encs (shs ks) s)) (hJ : J s σ) :
    den P T n pl top (.ex (.exit id)) [] e σ (exB id (arrive fx ks J) K) := by
  show bif Nat.beq id id then _ else _
  rw [Nat.beq_refl]
  exact ⟨hf, s, σ, hg, Weak.refl _, hJ⟩

theorem meetBn {id : Nat} {fx : Env} {ks : List (Nat × S1)} {J : S1.Ts (shs ks) → Heap → Prop} {K : Ex → Env → Heap → Prop} (s : S1.Ts (shs ks)) (hf : e.has fx) (hg : e.gets ks = some (S1.encs (shs ks) s)) (hJ : J s σ) :
    den P T n pl top (.ex .normal) [] e σ (exB id (arrive fx ks J) K) := ⟨hf, s, σ, hg, Weak.refl _, hJ⟩

theorem byB_ret {id : Nat} {j : Env → Heap → Prop} (h : den P T n pl top (.ex .ret) st e σ k) : den P T n pl top (.ex .ret) [] e σ (exB id j (kont P T n pl top st k)) := h

/-- A load. -/
theorem opl {d : Nat} {t : TypeId} {x : Operand} {i : TI} {p : Option Addr} {v : Value} (h : cur cf = some (ops, o, [], cf')) (hg : o.guard = none) (hdd : o.dst = some d) (hd : Nat.blt d n = true)
    (ho : o.op = .load t x) (hi : T t = some i) (hx : e.eval x = some (.pointer p)) (hno : nonOther i.k = true)
    (hl : σ.ldT i p = some v) (hs : ∃ s, v = i.sh.enc s) (hk : den P T n pl top cf' st ((d, v) :: e) σ k) : den P T n pl top cf st e σ k :=
  op h hg hdd hd (as_load ho hi hx hno hl hs hk)

end

theorem wrap_i64 {x : Int} (h0 : -9223372036854775808 ≤ x) (h1 : x < 9223372036854775808) : IntKind.wrap .i64 x = x := by
  simp only [IntKind.wrap, IntKind.bits, IntKind.signed]
  simp
  omega

theorem wrap_u64 {x : Int} (h0 : 0 ≤ x) (h1 : x < 18446744073709551616) : IntKind.wrap .u64 x = x := by
  simp only [IntKind.wrap, IntKind.bits, IntKind.signed]
  simp; omega

end Go.Eng

/- The view behind writes: cells of one's own, rows that grow. Conditions: none. -/
namespace Go.Eng
open Go

theorem ins_ins (σ : Heap) (r : Nat) (a b : AObj) : (σ.ins r a).ins r b = σ.ins r b := by
  funext x
  by_cases h : x = r <;> simp [Heap.ins, h]

theorem ins_comm (σ : Heap) {r s : Nat} (h : r ≠ s) (a b : AObj) : (σ.ins r a).ins s b = (σ.ins s b).ins r a := by
  funext x
  by_cases h1 : x = r
  · subst h1; simp [Heap.ins, h]
  · by_cases h2 : x = s
    · subst h2; simp [Heap.ins, Ne.symm h]
    · simp [Heap.ins, h1, h2]

theorem del_ins (σ : Heap) {r : Nat} (h : σ r = none) (a : AObj) : (σ.ins r a).del r = σ := by
  funext x
  by_cases h1 : x = r
  · subst h1; simp [Heap.del, h]
  · simp [Heap.del, Heap.ins, h1]

theorem ins_none {σ : Heap} {r x : Nat} {a : AObj} (h : (σ.ins r a) x = none) : x ≠ r ∧ σ x = none := by
  by_cases h1 : x = r
  · subst h1; simp [Heap.ins] at h
  · exact ⟨h1, by simpa [Heap.ins, h1] using h⟩

theorem ins_at (σ : Heap) {r x : Nat} {a : AObj} (h : x ≠ r) : (σ.ins r a) x = σ x := Heap.ins_ne σ a h

theorem ne_of_some {σ : Heap} {r x : Nat} {a : AObj} (h : σ x = none) (h' : σ r = some a) : x ≠ r := by
  rintro rfl
  rw [h] at h'; cases h'

theorem weak_ins {σ : Heap} {r : Nat} (h : σ r = none) (a : AObj) : Weak (σ.ins r a) σ := by
  intro x o ho
  have hne : x ≠ r := ne_of_some h ho |>.symm
  exact ⟨o, by rw [ins_at σ hne]; exact ho, fun _ h => h⟩

theorem weak_ins2 {σ τ : Heap} (r : Nat) (a : AObj) (h : Weak σ τ) : Weak (σ.ins r a) (τ.ins r a) := by
  intro x o ho
  by_cases h1 : x = r
  · subst h1
    exact ⟨o, by rw [Heap.ins_same] at ho ⊢; exact ho, fun _ h => h⟩
  · rw [ins_at _ h1] at ho
    obtain ⟨o', h2, h3⟩ := h x o ho
    exact ⟨o', by rw [ins_at _ h1]; exact h2, h3⟩

/-- Another tag for cells whose tag is not 0. -/
theorem weak_tag {σ : Heap} {r g : Nat} {cs : List Value} {t : TypeId} {n : Nat} (h : σ r = some (.cells g cs t n)) (hg : g ≠ 0) (g' : Nat) : Weak σ (σ.ins r (.cells g' cs t n)) := by
  intro x o ho
  by_cases h1 : x = r
  · subst h1
    rw [Heap.ins_same] at ho
    cases ho
    exact ⟨_, h, fun c ⟨c', fz, h1, h2, h3, h4⟩ => ⟨c', fz, h1, h2, h3, fun _ => h4 hg⟩⟩
  · rw [ins_at _ h1] at ho
    exact ⟨o, ho, fun _ h => h⟩

theorem weak_otag {σ : Heap} {r g : Nat} {ob : Obj} (h : σ r = some (.other g ob)) (g' : Nat) : Weak σ (σ.ins r (.other g' ob)) := by
  intro x o ho
  by_cases h1 : x = r
  · subst h1
    rw [Heap.ins_same] at ho
    cases ho
    exact ⟨_, h, fun c hc => hc⟩
  · rw [ins_at _ h1] at ho
    exact ⟨o, ho, fun _ h => h⟩

/-! ### Reading -/
theorem rd_same (σ : Heap) (r g : Nat) (cs : List Value) (t : TypeId) (n i : Nat) : (σ.ins r (.cells g cs t n)).rd r i = cs[i]? := by simp [Heap.rd, Heap.ins]

theorem rd_ne (σ : Heap) {r x : Nat} {a : AObj} (h : x ≠ r) (i : Nat) : (σ.ins r a).rd x i = σ.rd x i := by simp [Heap.rd, Heap.ins, h]

theorem rds_ne (σ : Heap) {r x : Nat} {a : AObj} (h : x ≠ r) : ∀ (n i : Nat), (σ.ins r a).rds x i n = σ.rds x i n
  | 0, i => rfl
  | n + 1, i => by simp only [Heap.rds, rd_ne σ h, rds_ne σ h n]

theorem rds_of {σ : Heap} {r : Nat} : ∀ {l : List Value} {o : Nat}, (∀ i v, l[i]? = some v → σ.rd r (o + i) = some v) → σ.rds r o l.length = some l
  | [], o, h => rfl
  | v :: l, o, h => by
    have h1 := rds_of (l := l) (o := o + 1) (fun i v hi => by
      have := h (i + 1) v (by simpa using hi)
      rw [Nat.add_assoc, Nat.add_comm 1 i]; exact this)
    have h0 : σ.rd r o = some v := h 0 v (by simp)
    simp only [List.length_cons, Heap.rds, h0, h1]

theorem rds_at {σ : Heap} {r g n o : Nat} {cs : List Value} {t : TypeId} (h : σ r = some (.cells g cs t n)) {l : List Value} (hl : (cs.drop o).take l.length = l) : σ.rds r o l.length = some l := by
  refine rds_of fun i v hi => ?_
  unfold Heap.rd
  rw [h]
  dsimp only
  rw [← hl, List.getElem?_take] at hi
  split at hi
  · simpa using hi
  · cases hi

theorem ldT_agg {σ : Heap} {i : TI} {r o : Nat} {l : List Value} (ha : i.isAgg = true) (h : σ.rds r o i.size = some l) : σ.ldT i (some ⟨r, o, none⟩) = some (.agg l.toArray) := by
  unfold Heap.ldT
  dsimp only
  rw [ha, cond_true, h]

theorem ldT_one {σ : Heap} {i : TI} {r o : Nat} {v : Value} (ha : i.isAgg = false) (h : σ.rd r o = some v) : σ.ldT i (some ⟨r, o, none⟩) = some v := by
  unfold Heap.ldT
  dsimp only
  rw [ha, cond_false, h]

theorem rd_at {σ : Heap} {r g n o : Nat} {cs : List Value} {t : TypeId} {v : Value} (h : σ r = some (.cells g cs t n)) (hv : cs[o]? = some v) : σ.rd r o = some v := by
  unfold Heap.rd
  rw [h]
  exact hv

/-- A load of one cell of a block. -/
theorem ld1 {σ : Heap} {i : TI} {r g n o : Nat} {cs : List Value} {t : TypeId} {v : Value} (h : σ r = some (.cells g cs t n)) (ha : i.isAgg = false) (hv : cs[o]? = some v) : σ.ldT i (some ⟨r, o, none⟩) = some v :=
  ldT_one ha (rd_at h hv)

/-- A load of some cells of a block. -/
theorem ldn {σ : Heap} {i : TI} {r g n o : Nat} {cs : List Value} {t : TypeId} {l : List Value} (h : σ r = some (.cells g cs t n)) (ha : i.isAgg = true) (hn : l.length = i.size) (hl : (cs.drop o).take l.length = l) :
    σ.ldT i (some ⟨r, o, none⟩) = some (.agg l.toArray) :=
  ldT_agg ha (by rw [← hn]; exact rds_at h hl)

theorem row_ne {σ : Heap} {r : Nat} {a : AObj} (h : σ r = none) {p : Option Addr} {n : Nat} {l : List Value} (hr : σ.row p n l) : (σ.ins r a).row p n l := by
  unfold Heap.row at hr ⊢
  split at hr
  · rename_i x o
    cases n with
    | zero => exact hr
    | succ n =>
      have hne : x ≠ r := by
        rintro rfl
        simp [Heap.rds, Heap.rd, h] at hr
      rw [rds_ne σ hne]
      exact hr
  · exact hr
  · exact hr

/-- The row of a block. -/
theorem row_block {σ : Heap} {r g n : Nat} {cs : List Value} {t : TypeId} (h : σ r = some (.cells g cs t n)) {m : Nat} (hm : cs.length = m) : σ.row (some ⟨r, 0, none⟩) m cs := by
  subst hm
  exact rds_at h (by simp)

section
variable {P : Program} {T : TT} {e : Env} {o : Oper} {σ : Heap} {k : Value → Heap → Prop}

theorem astore_at {r off g n : Nat} {cs vs : List Value} {t : TypeId} {k : Heap → Prop} (h : σ r = some (.cells g cs t n)) (hg : g ≠ 0) (hl : Nat.ble (off + vs.length) cs.length = true) (h1 : oneCells vs)
    (hk : k (σ.ins r (.cells g (lset cs off vs) t n))) : astore (some ⟨r, off, none⟩) vs σ k := ⟨r, off, g, cs, t, n, rfl, h, hg, Nat.le_of_ble_eq_true hl, h1, hk⟩

theorem one_nil : oneCells [] := fun _ h => by cases h
theorem one_cons {v : Value} {l : List Value} (h : v.oneCell' = true) (hl : oneCells l) : oneCells (v :: l) := fun x hx => by
  rcases List.mem_cons.1 hx with rfl | hx
  · exact h
  · exact hl x hx

/-- A store into a block of one's own. -/
theorem as_store_at {t : TypeId} {x y : Operand} {i : TI} {r off g n : Nat} {cs : List Value} {t' : TypeId} {v : Value} (cs' : List Value) (ho : o.op = .store t x y) (hi : T t = some i) (hx : e.eval x = some (.pointer (some ⟨r, off, none⟩))) (hy : e.eval y = some v)
    (hs : Nat.beq (vcells v).length i.size = true) (h : σ r = some (.cells g cs t' n)) (hg : Nat.beq g 0 = false) (hl : Nat.ble (off + (vcells v).length) cs.length = true) (h1 : (vcells v).all (·.oneCell') = true) (hcs : lset cs off (vcells v) = cs')
    (hk : k undef (σ.ins r (.cells g cs' t' n))) : astep P T e o σ k :=
  as_store ho hi hx hy hs (astore_at h (fun h => by rw [h] at hg; cases hg) hl (fun v hv => List.all_eq_true.1 h1 v hv) (by rw [hcs]; exact hk))

theorem as_buildSlice {t el : TypeId} {i ie : TI} {len : Nat} {parts : Array (Nat × Operand)} {l : List (Nat × Value)} {cs : List Value} (ho : o.op = .buildSlice t len parts) (hi : T t = some i) (hl : e.evalp parts.toList = some l) (hk : i.k = .slice el)
    (he : T el = some ie) (hz : Nat.ble (len * ie.size) 16777216 = true) (hz2 : Nat.beq ie.zero.length ie.size = true) (hb : bfill (fun j => some (j * ie.size, ie.size)) (zrep ie.zero len) l = some cs)
    (hn : ∀ r, σ r = none → k (.slice (some ⟨r, 0, none⟩) len len) (σ.ins r (.cells 1 cs el cs.length))) : astep P T e o σ k := by
  unfold astep
  rw [ho]
  have : (ie.zero.length == ie.size) = true := by
    have := Nat.eq_of_beq_eq_true hz2
    simpa using this
  simp only [hi, hl, hk, he, hz, this, Bool.and_self, cond_true, hb]
  exact hn

theorem as_append {c : Call} {t el : TypeId} {i ie : TI} {p q : Option Addr} {len cap m cap' : Nat} (ho : o.op = .call c) (hc : c.callee = .builtin .append) (ha : e.evals c.args.toList = some [.slice p len cap, .slice q m cap'])
    (ht : c.argTypes.toList = [t, t]) (hi : T t = some i) (hk : i.k = .slice el) (he : T el = some ie) (hn : aappend el ie p len cap q m σ k) : astep P T e o σ k := by
  unfold astep
  rw [ho]
  simp only [hc, ha, ht, beq_self_eq_true, cond_true, hi, hk, he]
  exact hn

end

/-! ### Rows that grow -/
/-- A slice of one's own that holds the cells cs: nil, or a block of its own behind the rest of the view. -/
def Acc (el : TypeId) (size : Nat) (σ0 : Heap) (s : Sl) (cs : List Value) (σ : Heap) : Prop :=
  cs.length = s.len * size ∧ ((s.p = none ∧ s.len = 0 ∧ s.cap = 0 ∧ σ = σ0) ∨ (∃ r, s.p = some ⟨r, 0, none⟩ ∧ s.len ≤ s.cap ∧ σ0 r = none ∧ σ = σ0.ins r (.cells 1 cs el (s.cap * size))))

theorem acc_nil {el : TypeId} {size : Nat} {σ : Heap} : Acc el size σ ⟨none, 0, 0⟩ [] σ := ⟨by simp, .inl ⟨rfl, rfl, rfl, rfl⟩⟩

theorem acc_ins {el : TypeId} {size : Nat} {σ0 : Heap} {s : Sl} {cs : List Value} {σ : Heap} (h : Acc el size σ0 s cs σ) {r : Nat} (hr : σ r = none) (a : AObj) : σ0 r = none ∧ Acc el size (σ0.ins r a) s cs (σ.ins r a) := by
  obtain ⟨h0, ⟨h1, h2, h3, rfl⟩ | ⟨x, h1, hle, h2, rfl⟩⟩ := h
  · exact ⟨hr, h0, .inl ⟨h1, h2, h3, rfl⟩⟩
  · obtain ⟨h3, h4⟩ := ins_none hr
    exact ⟨h4, h0, .inr ⟨x, h1, hle, by rw [ins_at _ (Ne.symm h3)]; exact h2, ins_comm _ (Ne.symm h3) _ _⟩⟩

theorem acc_forget {el : TypeId} {size : Nat} {σ0 : Heap} {s : Sl} {cs : List Value} {σ : Heap} {r : Nat} {a : AObj} (hr : σ0 r = none) (h : Acc el size (σ0.ins r a) s cs σ) : ∃ τ, Weak σ τ ∧ Acc el size σ0 s cs τ := by
  obtain ⟨h0, ⟨h1, h2, h3, rfl⟩ | ⟨x, h1, hle, h2, rfl⟩⟩ := h
  · exact ⟨σ0, weak_ins hr a, h0, .inl ⟨h1, h2, h3, rfl⟩⟩
  · obtain ⟨h3, h4⟩ := ins_none h2
    exact ⟨_, weak_ins2 x _ (weak_ins hr a), h0, .inr ⟨x, h1, hle, h4, rfl⟩⟩

theorem acc_row {el : TypeId} {size : Nat} {σ0 : Heap} {s : Sl} {cs : List Value} {σ : Heap} (h : Acc el size σ0 s cs σ) : σ.row s.p (s.len * size) cs := by
  obtain ⟨h0, ⟨h1, h2, h3, rfl⟩ | ⟨x, h1, hle, h2, rfl⟩⟩ := h
  · rw [h2] at h0 ⊢
    rw [h1]
    exact ⟨by simp, by simpa using h0⟩
  · rw [h1]
    exact row_block (Heap.ins_same ..) h0

theorem acc_old {el : TypeId} {size : Nat} {σ0 : Heap} {s : Sl} {cs : List Value} {σ : Heap} (h : Acc el size σ0 s cs σ) {x : Nat} {a : AObj} (hx : σ0 x = some a) : σ x = some a := by
  obtain ⟨h0, ⟨h1, h2, h3, rfl⟩ | ⟨y, h1, hle, h2, rfl⟩⟩ := h
  · exact hx
  · rw [ins_at]
    · exact hx
    · rintro rfl; rw [h2] at hx; cases hx

theorem acc_oldrow {el : TypeId} {size : Nat} {σ0 : Heap} {s : Sl} {cs : List Value} {σ : Heap} (h : Acc el size σ0 s cs σ) {p : Option Addr} {n : Nat} {l : List Value} (hx : σ0.row p n l) : σ.row p n l := by
  obtain ⟨h0, ⟨h1, h2, h3, rfl⟩ | ⟨y, h1, hle, h2, rfl⟩⟩ := h
  · exact hx
  · exact row_ne h2 hx

theorem acc_weak {el : TypeId} {size : Nat} {σ0 : Heap} {s : Sl} {cs : List Value} {σ : Heap} (h : Acc el size σ0 s cs σ) : Weak σ σ0 := by
  obtain ⟨h0, ⟨h1, h2, h3, rfl⟩ | ⟨x, h1, hle, h2, rfl⟩⟩ := h
  · exact Weak.refl _
  · exact weak_ins h2 _

/-- One slice of one's own behind another. -/
theorem acc_acc {el el' : TypeId} {size size' : Nat} {σ0 σ1 σ2 : Heap} {s s' : Sl} {cs cs' : List Value} (h : Acc el size σ0 s cs σ1) (h' : Acc el' size' σ1 s' cs' σ2) :
    ∃ b, Acc el size b s cs σ2 ∧ ∀ {s'' : Sl} {cs'' : List Value} {σ3 : Heap}, Acc el size b s'' cs'' σ3 → ∃ τ, Weak σ3 τ ∧ Acc el size σ0 s'' cs'' τ := by
  obtain ⟨h0, ⟨h1, h2, h3, rfl⟩ | ⟨x, h1, hle, h2, rfl⟩⟩ := h'
  · exact ⟨σ0, h, fun h => ⟨_, Weak.refl _, h⟩⟩
  · obtain ⟨h3, h4⟩ := acc_ins h h2 (.cells 1 cs' el' (s'.cap * size'))
    exact ⟨_, h4, fun h => acc_forget h3 h⟩

/-- What is appended to a slice of one's own. -/
theorem acc_append {el : TypeId} {ie : TI} {σ0 : Heap} {s : Sl} {cs : List Value} {σ : Heap} (h : Acc el ie.size σ0 s cs σ) {q : Option Addr} {m : Nat} {news : List Value} (hq : σ.row q (m * ie.size) news) (h1 : oneCells news)
    (hb : (s.len + m) * ie.bytes ≤ 140737488355328) (hb2 : s.len + m ≤ 140737488355328) (hs : 0 < ie.size) (hz : ie.zero.length = ie.size) {k : Value → Heap → Prop}
    (hk : ∀ s' σ', Acc el ie.size σ0 s' (cs ++ news) σ' → s'.len = s.len + m → k (.slice s'.p s'.len s'.cap) σ') : aappend el ie s.p s.len s.cap q m σ k := by
  refine ⟨news, hq, h1, hb, hb2, hs, hz, ?_⟩
  have hn := row_len hq
  rcases Nat.eq_zero_or_pos m with rfl | hm
  · have hnil : news = [] := by simpa using hn
    subst hnil
    rw [List.append_nil] at hk
    obtain ⟨h0, ⟨h1, h2, h3, rfl⟩ | ⟨x, h1, hle, h2, rfl⟩⟩ := h
    · refine .inl ⟨rfl, by omega, hk s σ ⟨h0, .inl ⟨h1, h2, h3, rfl⟩⟩ rfl⟩
    · exact .inl ⟨rfl, hle, hk s _ ⟨h0, .inr ⟨x, h1, hle, h2, rfl⟩⟩ rfl⟩
  · obtain ⟨h0, ⟨h1, h2, h3, rfl⟩ | ⟨x, h1, hle, h2, rfl⟩⟩ := h
    · refine .inr (.inl ⟨hm, h2, h3, 1, fun r c hr hc => ?_⟩)
      have hcs : cs = [] := by rw [h2] at h0; simpa using h0
      subst hcs
      refine hk ⟨some ⟨r, 0, none⟩, m, c⟩ _ ⟨by simpa using hn, .inr ⟨r, rfl, hc, hr, rfl⟩⟩ (by simp [h2])
    · refine .inr (.inr (.inr (.inl ⟨hm, x, 1, cs, h1, Heap.ins_same .., by simp, h0, fun r' c hr hc => ?_⟩)))
      rw [del_ins _ h2]
      have hr' : σ0 r' = none := by
        rcases hr with rfl | hr
        · exact h2
        · exact (ins_none hr).2
      refine hk ⟨some ⟨r', 0, none⟩, s.len + m, c⟩ _ ⟨by simp [h0, hn, Nat.add_mul], .inr ⟨r', rfl, hc, hr', rfl⟩⟩ rfl

section
variable {T : TT} {e : Env} {σ : Heap}
theorem ares_nil : ares T e σ [] = some [] := rfl
theorem ares_tmp {t : Tmp} {l : List ResultVar} {v : Value} {vs : List Value} (h : e.get t = some v) (hl : ares T e σ l = some vs) : ares T e σ (.tmp t :: l) = some (v :: vs) := by
  simp only [ares, h, hl]
theorem ares_cell {a : Tmp} {t : TypeId} {l : List ResultVar} {i : TI} {p : Option Addr} {v : Value} {vs : List Value} (hi : T t = some i) (h : e.get a = some (.pointer p)) (hv : σ.ldT i p = some v) (hn : nonOther i.k = true)
    (hl : ares T e σ l = some vs) : ares T e σ (.cell a t :: l) = some (v :: vs) := by
  simp only [ares, hi, h, hv, hl, hn, cond_true]
end

section
variable {P : Program} {T : TT} {n : Nat} {pl : Plan} {top : Bool} {e : Env} {σ : Heap}
/-- A way that comes to a meeting, where the view forgets. -/
theorem meetW {fx : Env} {ks : List (Nat × S1)} {J : S1.Ts (shs ks) → Heap → Prop} {K : Ex → Env → Heap → Prop} (s : S1.Ts (shs ks)) {σ' : Heap} (hf : e.has fx) (hg : e.gets ks = some (S1.encs (shs ks) s)) (hw : Weak σ σ') (hJ : J s σ') :
    den P T n pl top (.ex .normal) [] e σ (exN (arrive fx ks J) K) := ⟨hf, s, σ', hg, hw, hJ⟩
end

end Go.Eng

/- Operations behind which earlier loads must still read what they read. Conditions: none. -/
namespace Go.Eng
open Go

section
variable {P : Program} {T : TT} {n : Nat} {pl : Plan} {top : Bool} {cf cf' : Cf} {st : List Fr} {e : Env} {σ : Heap} {k : Ex → Env → Heap → Prop} {ops : Array Oper} {o : Oper} {pend : List Nat}

theorem doTk {j d d' : Nat} (h : cur cf = some (ops, o, pend, cf')) (hg : o.guard = some (j, true)) (hs : gslot ops j e = some (d', .bool true)) (hdd : o.dst = some d) (hd : Nat.blt d n = true)
    (h1 : astep P T ((d', .bool true) :: e) o σ fun v σ' => conj (keeps T ops.toList ((d, v) :: (d', .bool true) :: e) σ' pend) (den P T n pl top cf' st ((d, v) :: (d', .bool true) :: e) σ' k)) : den P T n pl top cf st e σ k :=
  go_guard h hg hs hdd hd (fun _ => h1) (fun h => by cases h)

theorem doFk {j d d' : Nat} (h : cur cf = some (ops, o, pend, cf')) (hg : o.guard = some (j, false)) (hs : gslot ops j e = some (d', .bool false)) (hdd : o.dst = some d) (hd : Nat.blt d n = true)
    (h1 : astep P T ((d', .bool false) :: e) o σ fun v σ' => conj (keeps T ops.toList ((d, v) :: (d', .bool false) :: e) σ' pend) (den P T n pl top cf' st ((d, v) :: (d', .bool false) :: e) σ' k)) : den P T n pl top cf st e σ k :=
  go_guard h hg hs hdd hd (fun _ => h1) (fun h => by cases h)

theorem noTk {j d d' : Nat} (h : cur cf = some (ops, o, pend, cf')) (hg : o.guard = some (j, true)) (hs : gslot ops j e = some (d', .bool false)) (hdd : o.dst = some d) (hd : Nat.blt d n = true)
    (h2 : conj (keeps T ops.toList ((d, undef) :: (d', .bool false) :: e) σ pend) (den P T n pl top cf' st ((d, undef) :: (d', .bool false) :: e) σ k)) : den P T n pl top cf st e σ k :=
  go_guard h hg hs hdd hd (fun h => by cases h) (fun _ => h2)

theorem noFk {j d d' : Nat} (h : cur cf = some (ops, o, pend, cf')) (hg : o.guard = some (j, false)) (hs : gslot ops j e = some (d', .bool true)) (hdd : o.dst = some d) (hd : Nat.blt d n = true)
    (h2 : conj (keeps T ops.toList ((d, undef) :: (d', .bool true) :: e) σ pend) (den P T n pl top cf' st ((d, undef) :: (d', .bool true) :: e) σ k)) : den P T n pl top cf st e σ k :=
  go_guard h hg hs hdd hd (fun h => by cases h) (fun _ => h2)

theorem conj_app {l m : List Prop} {X : Prop} (h : conj l (conj m X)) : conj (l ++ m) X := by
  rw [conj_iff] at h ⊢
  obtain ⟨h1, h2⟩ := h
  rw [conj_iff] at h2
  exact ⟨fun p hp => (List.mem_append.1 hp).elim (h1 p) (h2.1 p), h2.2⟩

theorem keep_nil {l : List Oper} {X : Prop} (h : X) : conj (keeps T l e σ []) X := h

/-- A load that was done. -/
theorem keep1 {l : List Oper} {j d : Nat} {js : List Nat} {o : Oper} {t : TypeId} {x : Operand} {i : TI} {p : Option Addr} {v : Value} {X : Prop} (hj : nth l j = some o) (ho : o.op = .load t x) (hg : gv l e o = some true) (hd : o.dst = some d)
    (hi : T t = some i) (hx : e.eval x = some (.pointer p)) (hv : e.get d = some v) (hl : σ.ldT i p = some v) (h : conj (keeps T l e σ js) X) : conj (keeps T l e σ (j :: js)) X := by
  refine conj_app ?_
  unfold keepOf
  simp only [hj, ho, hg, hd, hi, hx, hv]
  exact ⟨hl, h⟩

/-- A load that was passed over. -/
theorem keep0 {l : List Oper} {j : Nat} {js : List Nat} {o : Oper} {t : TypeId} {x : Operand} {X : Prop} (hj : nth l j = some o) (ho : o.op = .load t x) (hg : gv l e o = some false) (h : conj (keeps T l e σ js) X) : conj (keeps T l e σ (j :: js)) X := by
  refine conj_app ?_
  unfold keepOf
  simp only [hj, ho, hg]
  exact h

end

section
variable {P : Program} {T : TT} {e : Env} {o : Oper} {σ : Heap} {k : Value → Heap → Prop}

/-- A new block of zeros, spelled out. -/
theorem as_new {t : TypeId} {i : TI} (cs : List Value) (n : Nat) (ho : o.op = .alloc t) (hi : T t = some i) (hc : i.zero = cs) (hn : cs.length = n) (hk : ∀ r, σ r = none → k (.pointer (some ⟨r, 0, none⟩)) (σ.ins r (.cells 1 cs t n))) : astep P T e o σ k := by
  subst hc
  subst hn
  exact as_alloc ho hi hk

/-- A new block that holds a value, spelled out. -/
theorem as_put {t : TypeId} {x : Operand} {v : Value} (cs : List Value) (n : Nat) (ho : o.op = .box t x) (hx : e.eval x = some v) (hc : vcells v = cs) (hn : cs.length = n) (hk : ∀ r, σ r = none → k (.pointer (some ⟨r, 0, none⟩)) (σ.ins r (.cells 1 cs t n))) : astep P T e o σ k := by
  subst hc
  subst hn
  exact as_box ho hx hk

end

/-- The first view's blocks lie in the second as they lay. -/
def Ext (σ σ' : Heap) : Prop := ∀ x o, σ x = some o → σ' x = some o

theorem Ext.refl (σ : Heap) : Ext σ σ := fun _ _ h => h
theorem Ext.trans {a b c : Heap} (h : Ext a b) (h' : Ext b c) : Ext a c := fun x o hx => h' x o (h x o hx)
theorem Ext.ins {σ σ' : Heap} (h : Ext σ σ') {r : Nat} (hr : σ r = none) (a : AObj) : Ext σ (σ'.ins r a) := fun x o hx => by
  rw [ins_at _ (Ne.symm (ne_of_some hr hx))]
  exact h x o hx
theorem Ext.weak {σ σ' : Heap} (h : Ext σ σ') : Weak σ' σ := fun x o hx => ⟨o, h x o hx, fun _ h => h⟩
theorem Ext.none {σ σ' : Heap} (h : Ext σ σ') {r : Nat} (hr : σ' r = none) : σ r = none := by
  cases ho : σ r with
  | none => rfl
  | some o => rw [h r o ho] at hr; cases hr
theorem Ext.rd {σ σ' : Heap} (h : Ext σ σ') {r i : Nat} {v : Value} (hv : σ.rd r i = some v) : σ'.rd r i = some v := by
  unfold Heap.rd at hv ⊢
  split at hv
  · rename_i ho
    rw [h _ _ ho]
    exact hv
  · cases hv
theorem Ext.rds {σ σ' : Heap} (h : Ext σ σ') {r : Nat} : ∀ {n i : Nat} {l : List Value}, σ.rds r i n = some l → σ'.rds r i n = some l
  | 0, i, l, hl => hl
  | n + 1, i, l, hl => by
    simp only [Heap.rds] at hl ⊢
    cases hv : σ.rd r i with
    | none => simp [hv] at hl
    | some v =>
      rw [hv] at hl
      rw [h.rd hv]
      cases hr : σ.rds r (i + 1) n with
      | none => simp [hr] at hl
      | some us =>
        rw [hr] at hl
        rw [h.rds hr]
        exact hl
theorem Ext.row {σ σ' : Heap} (h : Ext σ σ') {p : Option Addr} {n : Nat} {l : List Value} (hl : σ.row p n l) : σ'.row p n l := by
  unfold Heap.row at hl ⊢
  split at hl
  · exact h.rds hl
  · exact hl
  · exact hl.elim
theorem Ext.ldT {σ σ' : Heap} (h : Ext σ σ') {i : TI} {p : Option Addr} {v : Value} (hv : σ.ldT i p = some v) : σ'.ldT i p = some v := by
  unfold Heap.ldT at hv ⊢
  split at hv
  · cases hg : i.isAgg with
    | true =>
      rw [hg, cond_true] at hv
      rw [cond_true]
      split at hv
      · rename_i l hl
        rw [h.rds hl]
        exact hv
      · cases hv
    | false =>
      rw [hg, cond_false] at hv
      rw [cond_false]
      exact h.rd hv
  · cases hv

theorem ins_id {σ : Heap} {r : Nat} {a : AObj} (h : σ r = some a) : σ.ins r a = σ := by
  funext x
  by_cases h1 : x = r
  · subst h1; rw [Heap.ins_same, h]
  · rw [ins_at _ h1]

theorem hit (σ : Heap) (r : Nat) (a : AObj) : (σ.ins r a) r = some a := Heap.ins_same ..
theorem miss {σ : Heap} {r x : Nat} {a o : AObj} (h : x ≠ r) (hx : σ x = some o) : (σ.ins r a) x = some o := by
  rw [ins_at _ h]
  exact hx

end Go.Eng
