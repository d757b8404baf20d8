/- What a change of a memory leaves alone; the state of a line; noting an event. Conditions: in each. -/
import Derived.Test.YtihpnhkhgobblaaGreatDoorCf
namespace Go.Eng
open Go Go.Proofs

set_option maxRecDepth 10000

/-- A tag of the object number g. -/
def ofM (g t : Nat) : Prop := ∃ x, x < 8192 ∧ t = tagM g x

/-- All that is not of the object number g lies as it lay. -/
def Keep (g : Nat) (σ σ' : Heap) : Prop := ∀ r o, σ r = some o → ¬ ofM g o.tag → σ' r = some o

theorem Keep.refl (g : Nat) (σ : Heap) : Keep g σ σ := fun _ _ h _ => h
theorem Keep.trans {g : Nat} {a b c : Heap} (h : Keep g a b) (h' : Keep g b c) : Keep g a c := fun r o hr ht => h' r o (h r o hr ht) ht
theorem Ext.keep {g : Nat} {σ σ' : Heap} (h : Ext σ σ') : Keep g σ σ' := fun r o hr _ => h r o hr

theorem low_not {t g : Nat} (h : t < 8192) : ¬ ofM g t := by
  rintro ⟨x, hx, rfl⟩
  rw [tagM_eq] at h
  omega

theorem tag_other {g g' x : Nat} (hx : x < 8192) (h : g ≠ g') : ¬ ofM g (tagM g' x) := by
  rintro ⟨y, hy, he⟩
  rw [tagM_eq, tagM_eq] at he
  omega

theorem tag_of {g x : Nat} (hx : x < 8192) : ofM g (tagM g x) := ⟨x, hx, rfl⟩

theorem tag_inj {g x y : Nat} (h : tagM g x = tagM g y) : x = y := by rw [tagM_eq, tagM_eq] at h; omega

/-- The same for a block of the object. -/
theorem Keep.ins {g : Nat} {σ σ' : Heap} (h : Keep g σ σ') {r : Nat} (hr : σ r = none ∨ ∃ o, σ r = some o ∧ ofM g o.tag) (a : AObj) : Keep g σ (σ'.ins r a) := fun x o hx ht => by
  rw [ins_at]
  · exact h x o hx ht
  · rintro rfl
    rcases hr with hr | ⟨o', hr, ho⟩
    · rw [hr] at hx; cases hx
    · rw [hr] at hx; cases hx; exact ht ho

theorem Keep.glob {g : Nat} {σ σ' : Heap} (h : Keep g σ σ') (hG : Glob σ) : Glob σ' := by
  have one : ∀ b, b < 5 → ∀ {n i : Nat} {l : List Value}, σ.rds b i n = some l → σ'.rds b i n = some l := by
    intro b hb n
    induction n with
    | zero => exact fun h => h
    | succ n ih =>
      intro i l hl
      simp only [Heap.rds] at hl ⊢
      cases hv : σ.rd b i with
      | none => simp [hv] at hl
      | some v =>
        rw [hv] at hl
        have hv' : σ'.rd b i = some v := by
          unfold Heap.rd at hv ⊢
          split at hv
          · rename_i ho
            rw [h b _ ho (low_not (hG.low b hb _ ho))]
            exact hv
          · cases hv
        rw [hv']
        cases hr : σ.rds b (i + 1) n with
        | none => simp [hr] at hl
        | some us =>
          rw [hr] at hl
          rw [ih hr]
          exact hl
  have ex : ∀ b, b < 5 → ∀ {n : Nat} {l : List Value}, σ.rds b 0 (n + 1) = some l → ∀ o, σ' b = some o → o.tag < 8192 := by
    intro b hb n l hl o ho
    cases hσ : σ b with
    | none => simp [Heap.rds, Heap.rd, hσ] at hl
    | some o' =>
      have hlow := hG.low b hb o' hσ
      rw [h b o' hσ (low_not hlow)] at ho
      cases ho
      exact hlow
  refine ⟨one 0 (by omega) hG.nib, one 1 (by omega) hG.ptr, one 2 (by omega) hG.hdr, one 3 (by omega) hG.d32, one 4 (by omega) hG.d64, fun b hb o ho => ?_⟩
  match b, hb with
  | 0, _ => exact ex 0 (by omega) hG.nib o ho
  | 1, _ => exact ex 1 (by omega) hG.ptr o ho
  | 2, _ => exact ex 2 (by omega) hG.hdr o ho
  | 3, _ => exact ex 3 (by omega) hG.d32 o ho
  | 4, _ => exact ex 4 (by omega) hG.d64 o ho

theorem c162 {w : Int} {σ : Heap} {R : Value → Heap → Prop} (h : R (.bool (wordB w)) σ) : ACalls Tryz.prog 162 [.int .i64 w] σ R := by
  unfold wordB at h
  refine ACalls_fn fn162 rfl ?_
  repeat' first
    | refine go rfl ?_
    | refine ifT rfl ?_
    | refine ifF rfl ?_
    | refine doT rfl rfl rfl rfl rfl (as0 rfl ?_)
    | refine doF rfl rfl rfl rfl rfl (as0 rfl ?_)
    | refine noT rfl rfl rfl rfl rfl ?_
    | refine noF rfl rfl rfl rfl rfl ?_
    | refine noU rfl rfl rfl rfl rfl rfl ?_
    | refine go_block ?_
  cases h1 : decide (0 ≤ w) <;> rw [h1] at h
  · repeat' first
      | refine go rfl ?_
      | refine ifT rfl ?_
      | refine ifF rfl ?_
      | refine doT rfl rfl rfl rfl rfl (as0 rfl ?_)
      | refine doF rfl rfl rfl rfl rfl (as0 rfl ?_)
      | refine noT rfl rfl rfl rfl rfl ?_
      | refine noF rfl rfl rfl rfl rfl ?_
      | refine noU rfl rfl rfl rfl rfl rfl ?_
      | refine go_block ?_
    refine go_ret rfl ?_
    exact h
  · repeat' first
      | refine go rfl ?_
      | refine ifT rfl ?_
      | refine ifF rfl ?_
      | refine doT rfl rfl rfl rfl rfl (as0 rfl ?_)
      | refine doF rfl rfl rfl rfl rfl (as0 rfl ?_)
      | refine noT rfl rfl rfl rfl rfl ?_
      | refine noF rfl rfl rfl rfl rfl ?_
      | refine noU rfl rfl rfl rfl rfl rfl ?_
      | refine go_block ?_
    refine go_ret rfl ?_
    exact h

/-- The state of a line of a memory whose lines have their own codes. -/
def stateM (ls : List MLine) (i : Int) : Int := if 0 ≤ i ∧ i < (ls.length : Int) then 0 else -1

theorem c113 {g : Nat} {σ : Heap} {rm : Nat} {ls : List MLine} {ev : Nat} {i : Int} {R : Value → Heap → Prop} (hG : Glob σ) (hM : MemAt g σ rm ls ev) (h : R (.int .i64 (stateM ls i)) σ) :
    ACalls Tryz.prog 113 [.pointer (some ⟨rm, 0, none⟩), .int .i64 i] σ R := by
  obtain ⟨rl, hm, hl⟩ := hM.lines
  unfold stateM at h
  refine ACalls_fn fn113 rfl ?_
  repeat' first
    | refine go rfl ?_
    | refine ifT rfl ?_
    | refine ifF rfl ?_
    | refine doT rfl rfl rfl rfl rfl (as0 rfl ?_)
    | refine doF rfl rfl rfl rfl rfl (as0 rfl ?_)
    | refine noT rfl rfl rfl rfl rfl ?_
    | refine noF rfl rfl rfl rfl rfl ?_
    | refine noU rfl rfl rfl rfl rfl rfl ?_
    | refine go_block ?_
  refine opc rfl rfl rfl rfl rfl rfl rfl rfl rfl rfl (c124 hm (shK_mk ⟨_, rfl⟩ ?_))
  repeat' first
    | refine go rfl ?_
    | refine ifT rfl ?_
    | refine ifF rfl ?_
    | refine doT rfl rfl rfl rfl rfl (as0 rfl ?_)
    | refine doF rfl rfl rfl rfl rfl (as0 rfl ?_)
    | refine noT rfl rfl rfl rfl rfl ?_
    | refine noF rfl rfl rfl rfl rfl ?_
    | refine noU rfl rfl rfl rfl rfl rfl ?_
    | refine go_block ?_
  cases hb : (decide (0 ≤ i) && decide (i < (ls.length : Int)))
  · have : ¬ (0 ≤ i ∧ i < (ls.length : Int)) := by
      intro hh
      simp [hh.1, hh.2] at hb
    rw [if_neg this] at h
    repeat' first
      | refine go rfl ?_
      | refine ifT rfl ?_
      | refine ifF rfl ?_
      | refine doT rfl rfl rfl rfl rfl (as0 rfl ?_)
      | refine doF rfl rfl rfl rfl rfl (as0 rfl ?_)
      | refine noT rfl rfl rfl rfl rfl ?_
      | refine noF rfl rfl rfl rfl rfl ?_
      | refine noU rfl rfl rfl rfl rfl rfl ?_
      | refine go_block ?_
    refine go_ret rfl ?_
    exact h
  · have hh : 0 ≤ i ∧ i < (ls.length : Int) := by simpa using hb
    rw [if_pos hh] at h
    have hlt : i.toNat < ls.length := by omega
    obtain ⟨L, hL⟩ : ∃ L, ls[i.toNat]? = some L := ⟨_, List.getElem?_eq_getElem hlt⟩
    obtain ⟨hok, l1, l2, l3, l4⟩ := hM.line hl hL
    have ea : padd (some ⟨rl, 0, none⟩) (i.toNat * ti154.size) = some ⟨rl, i.toNat * 11, none⟩ := by
      rw [padd_some]
      simp [ti154]
    obtain ⟨a, b, c, d, e, f, g', i', hW⟩ := eight hok.ok.len
    repeat' first
      | refine go rfl ?_
      | refine ifT rfl ?_
      | refine ifF rfl ?_
      | refine doT rfl rfl rfl rfl rfl (as0 rfl ?_)
      | refine doF rfl rfl rfl rfl rfl (as0 rfl ?_)
      | refine noT rfl rfl rfl rfl rfl ?_
      | refine noF rfl rfl rfl rfl rfl ?_
      | refine noU rfl rfl rfl rfl rfl rfl ?_
      | refine go_block ?_
    refine op rfl rfl rfl rfl (as1 rfl rfl ?_)
    refine op rfl rfl rfl rfl (as1 rfl rfl ?_)
    refine opl (i := ti147) rfl rfl rfl rfl rfl rfl rfl rfl hm ⟨((⟨some ⟨rl, 0, none⟩, ls.length, ls.length⟩) : Sl), rfl⟩ ?_
    repeat' first
      | refine go rfl ?_
      | refine ifT rfl ?_
      | refine ifF rfl ?_
      | refine doT rfl rfl rfl rfl rfl (as0 rfl ?_)
      | refine doF rfl rfl rfl rfl rfl (as0 rfl ?_)
      | refine noT rfl rfl rfl rfl rfl ?_
      | refine noF rfl rfl rfl rfl rfl ?_
      | refine noU rfl rfl rfl rfl rfl rfl ?_
      | refine go_block ?_
    refine op rfl rfl rfl rfl (as3 rfl hh.1 hh.2 rfl ?_)
    rw [ea]
    refine op rfl rfl rfl rfl (as1 rfl rfl ?_)
    refine op rfl rfl rfl rfl (as1 rfl rfl ?_)
    refine opl (i := ti149) rfl rfl rfl rfl rfl rfl rfl rfl l1 (by rw [hW]; exact ⟨((_ : Int), (_ : Int), (_ : Int), (_ : Int), (_ : Int), (_ : Int), (_ : Int), (_ : Int)), rfl⟩) ?_
    repeat' first
      | refine go rfl ?_
      | refine ifT rfl ?_
      | refine ifF rfl ?_
      | refine doT rfl rfl rfl rfl rfl (as0 rfl ?_)
      | refine doF rfl rfl rfl rfl rfl (as0 rfl ?_)
      | refine noT rfl rfl rfl rfl rfl ?_
      | refine noF rfl rfl rfl rfl rfl ?_
      | refine noU rfl rfl rfl rfl rfl rfl ?_
      | refine go_block ?_
    refine op rfl rfl rfl rfl (as1 rfl rfl ?_)
    refine op rfl rfl rfl rfl (as1 rfl rfl ?_)
    refine opl (i := ti147) rfl rfl rfl rfl rfl rfl rfl rfl hm ⟨((⟨some ⟨rl, 0, none⟩, ls.length, ls.length⟩) : Sl), rfl⟩ ?_
    repeat' first
      | refine go rfl ?_
      | refine ifT rfl ?_
      | refine ifF rfl ?_
      | refine doT rfl rfl rfl rfl rfl (as0 rfl ?_)
      | refine doF rfl rfl rfl rfl rfl (as0 rfl ?_)
      | refine noT rfl rfl rfl rfl rfl ?_
      | refine noF rfl rfl rfl rfl rfl ?_
      | refine noU rfl rfl rfl rfl rfl rfl ?_
      | refine go_block ?_
    refine op rfl rfl rfl rfl (as3 rfl hh.1 hh.2 rfl ?_)
    rw [ea]
    refine op rfl rfl rfl rfl (as1 rfl rfl ?_)
    refine op rfl rfl rfl rfl (as1 rfl rfl ?_)
    refine opl (i := ti3) rfl rfl rfl rfl rfl rfl rfl rfl l2 ⟨(_ : Int), rfl⟩ ?_
    refine opc rfl rfl rfl rfl rfl rfl rfl rfl rfl rfl (c141 hG hok.ok (shK_mk ⟨((_ : Int), (_ : Int), (_ : Int)), rfl⟩ ?_))
    repeat' first
      | refine go rfl ?_
      | refine ifT rfl ?_
      | refine ifF rfl ?_
      | refine doT rfl rfl rfl rfl rfl (as0 rfl ?_)
      | refine doF rfl rfl rfl rfl rfl (as0 rfl ?_)
      | refine noT rfl rfl rfl rfl rfl ?_
      | refine noF rfl rfl rfl rfl rfl ?_
      | refine noU rfl rfl rfl rfl rfl rfl ?_
      | refine go_block ?_
    refine go_ret rfl ?_
    exact h

end Go.Eng

/- A slice of an object's own grows; noting an event. Conditions: in each. -/
namespace Go.Eng
open Go Go.Proofs

set_option maxRecDepth 10000

theorem row_nil {σ σ' : Heap} {p : Option Addr} (h : σ.row p 0 []) : σ'.row p 0 [] := by
  unfold Heap.row at h ⊢
  split at h
  · rfl
  · exact ⟨rfl, rfl⟩
  · exact h.elim

theorem OwnP.frame {σ σ' : Heap} {t el size : Nat} {s : Sl} {cs : List Value} (h : OwnP σ t el size s cs) (hf : ∀ r o, σ r = some o → o.tag = t → σ' r = some o) : OwnP σ' t el size s cs := by
  obtain ⟨h0, ⟨h1, h2, h3⟩ | ⟨r, h1, h2, h3⟩⟩ := h
  · exact ⟨h0, .inl ⟨h1, h2, row_nil h3⟩⟩
  · exact ⟨h0, .inr ⟨r, h1, h2, hf _ _ h3 rfl⟩⟩

theorem LineOK.frame {σ σ' : Heap} {t : Nat} {L : MLine} (h : LineOK σ t L) (hf : ∀ r o, σ r = some o → o.tag = t → σ' r = some o) : LineOK σ' t L := ⟨h.ok, h.pend, h.own.frame hf, h.few, h.mark⟩

/-- What is appended to a slice of an object's own. -/
theorem own_append {t el : Nat} {ie : TI} {σ : Heap} {s : Sl} {cs : List Value} (h : OwnP σ t el ie.size s cs) (ht : t ≠ 0) {q : Option Addr} {m : Nat} {news : List Value} (hq : σ.row q (m * ie.size) news) (h1 : oneCells news) (hm : 0 < m)
    (hb : (s.len + m) * ie.bytes ≤ 140737488355328) (hb2 : s.len + m ≤ 140737488355328) (hs : 0 < ie.size) (hz : ie.zero.length = ie.size) {k : Value → Heap → Prop}
    (hk : ∀ s' σ', OwnP σ' t el ie.size s' (cs ++ news) → s'.len = s.len + m → (∀ r o, σ r = some o → o.tag ≠ t → σ' r = some o) → k (.slice s'.p s'.len s'.cap) σ') : aappend el ie s.p s.len s.cap q m σ k := by
  refine ⟨news, hq, h1, hb, hb2, hs, hz, ?_⟩
  have hn := row_len hq
  obtain ⟨h0, ⟨h2, h3, h4⟩ | ⟨r, h2, h3, h4⟩⟩ := h
  · refine .inr (.inl ⟨hm, h2, h3, t, fun r c hr hc => ?_⟩)
    have hcs : cs = [] := by rw [h2] at h0; simpa using h0
    subst hcs
    exact hk ⟨some ⟨r, 0, none⟩, m, c⟩ _ ⟨by simpa using hn, .inr ⟨r, rfl, hc, hit ..⟩⟩ (by simp [h2]) (fun x o hx _ => miss (Ne.symm (ne_of_some hr hx)) hx)
  · refine .inr (.inr (.inr (.inl ⟨hm, r, t, cs, h2, h4, ht, h0, fun r' c hr hc => ?_⟩)))
    refine hk ⟨some ⟨r', 0, none⟩, s.len + m, c⟩ _ ⟨by simp [h0, hn, Nat.add_mul], .inr ⟨r', rfl, hc, hit ..⟩⟩ rfl (fun x o hx htag => ?_)
    have hxr : x ≠ r := by
      rintro rfl
      rw [h4] at hx
      cases hx
      exact htag rfl
    have hxr' : x ≠ r' := by
      rcases hr with rfl | hr
      · exact hxr
      · exact Ne.symm (ne_of_some hr hx)
    refine miss hxr' ?_
    rw [Heap.del_ne _ hxr]
    exact hx

theorem tagM_pos (g x : Nat) : tagM g x ≠ 0 := by rw [tagM_eq]; omega
theorem tagM_ne {g x y : Nat} (h : x ≠ y) : tagM g x ≠ tagM g y := fun e => h (tag_inj e)

/-- An event as cells. -/
def evCells (a b c d : Int) : List Value := ints [a, b, c, d, 0, 0, 0, 0, 0, 0, 0, 0]

theorem c143 {g : Nat} {σ : Heap} {rm : Nat} {ls : List MLine} {ev : Nat} {a b c d : Int} {R : Value → Heap → Prop} (hM : MemAt g σ rm ls ev) (hev : ev ≤ 1000000000)
    (h : ∀ σ', MemAt g σ' rm ls (ev + 1) → Keep g σ σ' → R (.tuple #[]) σ') : ACalls Tryz.prog 143 [.pointer (some ⟨rm, 0, none⟩), .agg (evCells a b c d).toArray] σ R := by
  obtain ⟨rl, rb, span, es, clock, B, e, cs, h1, h2, h3, h4, h5, h6, h7, h8⟩ := hM
  refine ACalls_fn fn143 rfl ?_
  repeat' first
    | refine go rfl ?_
    | refine ifT rfl ?_
    | refine ifF rfl ?_
    | refine doT rfl rfl rfl rfl rfl (as0 rfl ?_)
    | refine doF rfl rfl rfl rfl rfl (as0 rfl ?_)
    | refine noT rfl rfl rfl rfl rfl ?_
    | refine noF rfl rfl rfl rfl rfl ?_
    | refine noU rfl rfl rfl rfl rfl rfl ?_
    | refine go_block ?_
  refine op rfl rfl rfl rfl (as_put (evCells a b c d) 12 rfl rfl rfl rfl fun b3 hb3 => ?_)
  have E1 := (Ext.refl σ).ins hb3 (.cells 1 (evCells a b c d) 240 12)
  repeat' first
    | refine go rfl ?_
    | refine ifT rfl ?_
    | refine ifF rfl ?_
    | refine doT rfl rfl rfl rfl rfl (as0 rfl ?_)
    | refine doF rfl rfl rfl rfl rfl (as0 rfl ?_)
    | refine noT rfl rfl rfl rfl rfl ?_
    | refine noF rfl rfl rfl rfl rfl ?_
    | refine noU rfl rfl rfl rfl rfl rfl ?_
    | refine go_block ?_
  refine op rfl rfl rfl rfl (as1 rfl rfl ?_)
  refine op rfl rfl rfl rfl (as1 rfl rfl ?_)
  refine opl (i := ti156) rfl rfl rfl rfl rfl rfl rfl rfl (E1.ldT (ld1 (o := 3) h1 rfl rfl)) ⟨(e : Sl), rfl⟩ ?_
  refine opl (i := ti240) rfl rfl rfl rfl rfl rfl rfl rfl (ldn (o := 0) (l := evCells a b c d) (hit ..) rfl rfl rfl) ⟨((_ : Int), (_ : Int), (_ : Int), (_ : Int), (_ : Int), (_ : Int), (_ : Int), (_ : Int), (_ : Int), (_ : Int), (_ : Int), (_ : Int)), rfl⟩ ?_
  refine op rfl rfl rfl rfl (as_buildSlice (cs := evCells a b c d) rfl rfl rfl rfl rfl rfl rfl rfl fun b10 hb10 => ?_)
  have E2 := E1.ins (E1.none hb10) (.cells 1 (evCells a b c d) 240 12)
  have own2 := h4.frame (σ' := (σ.ins b3 (.cells 1 (evCells a b c d) 240 12)).ins b10 (.cells 1 (evCells a b c d) 240 12)) (fun r o hr _ => E2 r o hr)
  have hrow : ((σ.ins b3 (.cells 1 (evCells a b c d) 240 12)).ins b10 (.cells 1 (evCells a b c d) 240 12)).row (some ⟨b10, 0, none⟩) (1 * ti240.size) (evCells a b c d) := row_block (hit ..) rfl
  refine op rfl rfl rfl rfl (as_append (ie := ti240) rfl rfl rfl rfl rfl rfl rfl (own_append (m := 1) (ie := ti240) (news := evCells a b c d) own2 (tagM_pos g 3) hrow (fun v hv => List.all_eq_true.1 (show (evCells a b c d).all (fun v => v.oneCell') = true from rfl) v hv) (by decide) (by show (e.len + 1) * 96 ≤ _; omega) (by omega) (by decide) rfl fun s' σ2 ho hlen hf => ?_))
  have f2 : ∀ r o, σ r = some o → o.tag ≠ tagM g 3 → σ2 r = some o := fun r o hr ht => hf r o (E2 r o hr) ht
  have hrm := f2 _ _ h1 (tagM_ne (by decide))
  have hg0 := tagM_ne0 g 0
  repeat' first
    | refine go rfl ?_
    | refine ifT rfl ?_
    | refine ifF rfl ?_
    | refine doT rfl rfl rfl rfl rfl (as0 rfl ?_)
    | refine doF rfl rfl rfl rfl rfl (as0 rfl ?_)
    | refine noT rfl rfl rfl rfl rfl ?_
    | refine noF rfl rfl rfl rfl rfl ?_
    | refine noU rfl rfl rfl rfl rfl rfl ?_
    | refine go_block ?_
  refine op rfl rfl rfl rfl (as1 rfl rfl ?_)
  refine op rfl rfl rfl rfl (as1 rfl rfl ?_)
  refine opn rfl rfl rfl (as_store_at [.slice (some ⟨rl, 0, none⟩) ls.length ls.length, .map (some rb), .int .i64 span, .slice s'.p s'.len s'.cap] rfl rfl rfl rfl rfl hrm hg0 rfl rfl rfl ?_)
  repeat' first
    | refine go rfl ?_
    | refine ifT rfl ?_
    | refine ifF rfl ?_
    | refine doT rfl rfl rfl rfl rfl (as0 rfl ?_)
    | refine doF rfl rfl rfl rfl rfl (as0 rfl ?_)
    | refine noT rfl rfl rfl rfl rfl ?_
    | refine noF rfl rfl rfl rfl rfl ?_
    | refine noU rfl rfl rfl rfl rfl rfl ?_
    | refine go_block ?_
  refine go_end rfl ?_
  have f3 : ∀ X r o, σ r = some o → o.tag ≠ tagM g 3 → o.tag ≠ tagM g 0 → (σ2.ins rm X) r = some o := fun X r o hr ht ht0 => by
    refine miss ?_ (f2 r o hr ht)
    rintro rfl
    rw [h1] at hr
    cases hr
    exact ht0 rfl
  refine h _ ⟨rl, rb, span, es, clock, B, s', cs ++ evCells a b c d, hit .., f3 _ _ _ h2 (tagM_ne (by decide)) (tagM_ne (by decide)), f3 _ _ _ h3 (tagM_ne (by decide)) (tagM_ne (by decide)), ho.frame (fun r o hr ht => miss ?_ hr), by omega, h6, fun i L hi => (h7 i L hi).frame (fun r o hr ht => f3 _ _ _ hr ?_ ?_), h8⟩ (fun r o hr ht => f3 _ _ _ hr ?_ ?_)
  · rintro rfl
    rw [f2 _ _ h1 (tagM_ne (by decide))] at hr
    cases hr
    exact tagM_ne (g := g) (x := 0) (y := 3) (by decide) ht
  · rw [ht]; exact tagM_ne (by omega)
  · rw [ht]; exact tagM_ne (by omega)
  · intro e3; rw [e3] at ht; exact ht (tag_of (by decide))
  · intro e0; rw [e0] at ht; exact ht (tag_of (by decide))

end Go.Eng

/- The map of the busy lines: one key set. Conditions: in each. -/
namespace Go.Eng
open Go Go.Proofs

set_option maxRecDepth 10000

theorem findNow_in {i : Int} : ∀ {es : List MapEntry} {B : List Nat} {n : Nat}, es.map (fun e => (e.key, e.val)) = B.map (fun i => (.int .i64 (i : Int), .bool true)) →
    (∀ b ∈ B, (b : Int) ≠ i) → Instr.findNow (.int .i64) (.int .i64 i) es n = some none
  | [], B, n, _, _ => rfl
  | e :: es, [], n, h, _ => by simp at h
  | e :: es, b :: B, n, h, hb => by
    simp only [List.map_cons, List.cons.injEq, Prod.mk.injEq] at h
    unfold Instr.findNow
    rw [h.1.1]
    have hne : (i == (b : Int)) = false := by
      have := hb b (List.mem_cons_self ..)
      simpa using Ne.symm this
    have hs : Instr.sameNow (.int .i64) (.int .i64 i) (.int .i64 (b : Int)) = some false := by
      simp [Instr.sameNow, hne]
    rw [hs]
    exact findNow_in h.2 fun c hc => hb c (List.mem_cons_of_mem _ hc)

theorem findNow_at {i : Int} : ∀ {es : List MapEntry} {B : List Nat} {n : Nat}, es.map (fun e => (e.key, e.val)) = B.map (fun i => (.int .i64 (i : Int), .bool true)) →
    (∃ b ∈ B, (b : Int) = i) → ∃ j e, Instr.findNow (.int .i64) (.int .i64 i) es n = some (some (n + j, .bool true)) ∧ es[j]? = some e ∧ e.key = .int .i64 i ∧ e.val = .bool true
  | [], [], n, _, h => by obtain ⟨b, hb, _⟩ := h; cases hb
  | [], b :: B, n, h, _ => by simp at h
  | e :: es, [], n, h, _ => by simp at h
  | e :: es, b :: B, n, h, hb => by
    simp only [List.map_cons, List.cons.injEq, Prod.mk.injEq] at h
    unfold Instr.findNow
    rw [h.1.1]
    by_cases hbi : (b : Int) = i
    · refine ⟨0, e, ?_, rfl, by rw [h.1.1, hbi], h.1.2⟩
      have hs : Instr.sameNow (.int .i64) (.int .i64 i) (.int .i64 (b : Int)) = some true := by
        simp [Instr.sameNow, hbi]
      rw [hs]
      simp [h.1.2]
    · have hs : Instr.sameNow (.int .i64) (.int .i64 i) (.int .i64 (b : Int)) = some false := by
        simp [Instr.sameNow]
        exact fun h => hbi h.symm
      rw [hs]
      obtain ⟨c, hc, hci⟩ := hb
      have hc' : c ∈ B := by
        rcases List.mem_cons.1 hc with rfl | hc
        · exact absurd hci hbi
        · exact hc
      obtain ⟨j, e', h1, h2, h3, h4⟩ := findNow_at (n := n + 1) h.2 ⟨c, hc', hci⟩
      exact ⟨j + 1, e', by rw [h1]; simp only [Nat.add_assoc, Nat.add_comm 1 j], h2, h3, h4⟩

theorem set_get {α : Type} {l : List α} {i : Nat} {x y : α} (hi : l[i]? = some y) (j : Nat) : (l.set i x)[j]? = if j = i then some x else l[j]? := by
  rw [List.getElem?_set]
  by_cases h : i = j
  · subst h
    have := (List.getElem?_eq_some_iff.1 hi).1
    simp [this]
  · rw [if_neg h, if_neg (Ne.symm h)]

/-- A line gets busy, or is busy still. -/
theorem busy_set {g : Nat} {σ : Heap} {rb : Nat} {es : Array MapEntry} {clock : Nat} {ls : List MLine} {B : List Nat} (h : BusyOK es clock ls B) (hr : σ rb = some (.other g (.map es clock))) (hg : g ≠ 0) {i : Nat} {L L' : MLine} (hi : ls[i]? = some L)
    (hp : L'.p ≠ []) {k : Heap → Prop} (hk : ∀ es' clock' B', BusyOK es' clock' (ls.set i L') B' → k (σ.ins rb (.other g (.map es' clock')))) : aupdate .i64 (some rb) (.int .i64 i) (.bool true) σ k := by
  refine ⟨rb, g, es, clock, rfl, hr, hg, ?_⟩
  have iff' : ∀ j, (∃ M, (ls.set i L')[j]? = some M ∧ M.p ≠ []) ↔ j = i ∨ ∃ M, ls[j]? = some M ∧ M.p ≠ [] := by
    intro j
    rw [set_get hi]
    by_cases hj : j = i
    · simp [hj, hp]
    · simp [hj]
  by_cases hB : i ∈ B
  · obtain ⟨j, e, f1, f2, f3, f4⟩ := findNow_at (n := 0) h.ents ⟨i, hB, rfl⟩
    have he : es[j]? = some e := by rw [← Array.getElem?_toList]; exact f2
    have heq : (es.modify j fun e => { e with key := .int .i64 i, val := .bool true }) = es := by
      apply Array.ext_getElem?
      intro x
      rw [Array.getElem?_modify]
      split
      · rename_i hx
        subst hx
        rw [he]
        simp only [Option.map_some, Option.some.injEq]
        rw [← f3, ← f4]
      · rfl
    refine .inl ⟨j, .bool true, by rw [f1, Nat.zero_add], ?_, ?_⟩
    · rw [he]
      simp [f3, Instr.sameBits]
    · rw [heq]
      refine hk _ _ B ⟨h.ents, h.nodup, h.born, h.stamps, fun j' => ?_⟩
      rw [iff', h.iff]
      constructor
      · exact .inr
      · rintro (rfl | h')
        · exact (h.iff _).1 hB
        · exact h'
  · have f1 := findNow_in (i := (i : Int)) (n := 0) h.ents (fun b hb hbi => hB ((show b = i by omega) ▸ hb))
    refine .inr ⟨f1, hk _ _ (B ++ [i]) ⟨?_, ?_, ?_, ?_, fun j' => ?_⟩⟩
    · simp [h.ents]
    · rw [List.nodup_append]
      refine ⟨h.nodup, by simp, ?_⟩
      intro a ha b hb hab
      simp at hb
      subst hb
      exact hB (hab ▸ ha)
    · intro e he
      simp at he
      rcases he with he | rfl
      · have := h.born e (by simpa using he)
        omega
      · exact Nat.lt_succ_self _
    · simp only [Array.toList_push, List.map_append, List.map_cons, List.map_nil]
      rw [List.nodup_append]
      refine ⟨h.stamps, by simp, ?_⟩
      intro a ha b hb hab
      simp only [List.mem_singleton] at hb
      obtain ⟨e, he, rfl⟩ := List.mem_map.1 ha
      have := h.born e he
      omega
    · rw [iff', List.mem_append, h.iff]
      simp only [List.mem_singleton]
      exact or_comm

end Go.Eng

/- Contracts: storing a word. Conditions: in each. -/
namespace Go.Eng
open Go Go.Proofs

set_option maxRecDepth 10000

theorem flat_set {ls : List MLine} (h : ∀ L ∈ ls, L.w.length = 8) {i : Nat} {L L' : MLine} (hi : ls[i]? = some L) {j : Nat} (hj : j < 11) {v : Value} (hv : L.cells.set j v = L'.cells) (h' : L'.w.length = 8) :
    (ls.flatMap MLine.cells).set (i * 11 + j) v = (ls.set i L').flatMap MLine.cells := by
  have hls : ∀ M ∈ ls.set i L', M.w.length = 8 := fun M hM => by
    obtain ⟨k, hk⟩ := List.mem_iff_getElem?.1 hM
    rw [set_get hi] at hk
    split at hk
    · cases hk; exact h'
    · exact h M (List.mem_of_getElem? hk)
  have hlen := lines_len h
  have hlen' := lines_len hls
  rw [List.length_set] at hlen'
  have hlt : i < ls.length := (List.getElem?_eq_some_iff.1 hi).1
  apply List.ext_getElem?
  intro x
  by_cases hx : x < ls.length * 11
  · have e : x = (x / 11) * 11 + x % 11 := by omega
    obtain ⟨M, hM⟩ : ∃ M, ls[x / 11]? = some M := ⟨_, List.getElem?_eq_getElem (by omega)⟩
    have hm : x % 11 < 11 := by omega
    rw [List.getElem?_set]
    by_cases hxi : x / 11 = i
    · have hs : (ls.set i L')[x / 11]? = some L' := by rw [set_get hi, if_pos hxi]
      have r1 : (ls.set i L').flatMap MLine.cells = (ls.set i L').flatMap MLine.cells := rfl
      have r2 := flat_get hls hs hm
      rw [← e] at r2
      rw [r2, ← hv, List.getElem?_set]
      have hM' : M = L := by rw [hxi, hi] at hM; exact (Option.some.inj hM).symm
      have hc := lineCells_length (h L (List.mem_of_getElem? hi))
      by_cases hj' : i * 11 + j = x
      · have : j = x % 11 := by omega
        rw [if_pos hj', if_pos this, if_pos (by omega), if_pos (by omega)]
      · have : ¬ j = x % 11 := by omega
        rw [if_neg hj', if_neg this]
        have r3 := flat_get h hM hm
        rw [← e] at r3
        rw [r3, hM']
    · have hs : (ls.set i L')[x / 11]? = some M := by rw [set_get hi, if_neg hxi]; exact hM
      have r2 := flat_get hls hs hm
      rw [← e] at r2
      have r3 := flat_get h hM hm
      rw [← e] at r3
      rw [if_neg (by omega), r2, r3]
  · rw [List.getElem?_eq_none (by rw [List.length_set]; omega), List.getElem?_eq_none (by omega)]

theorem as_mapUpd {P : Program} {T : TT} {e : Env} {o : Oper} {σ : Heap} {k : Value → Heap → Prop} {t kt et : TypeId} {m x y : Operand} {i ik : TI} {r : Option Nat} {key val : Value} {kk : IntKind} (ho : o.op = .mapUpdate t m x y) (hi : T t = some i) (hm : e.eval m = some (.map r))
    (hx : e.eval x = some key) (hy : e.eval y = some val) (hk : i.k = .map kt et) (hik : T kt = some ik) (hkk : ik.k = .int kk) (h : aupdate kk r key val σ (k undef)) : astep P T e o σ k := by
  unfold astep
  rw [ho]
  simp only [hi, hm, hx, hy, hk, hik, hkk]
  exact h

/-- A line with one more pending store. -/
def MLine.push (L : MLine) (x : Int × Int) (s : Sl) : MLine := { L with p := L.p ++ [x], s := s }

theorem pcells_push (P : List (Int × Int)) (x : Int × Int) : pcells (P ++ [x]) = pcells P ++ [.int .i64 x.1, .int .i64 x.2] := by simp [pcells]

theorem push_cells {L : MLine} (h : L.w.length = 8) (x : Int × Int) (s : Sl) : L.cells.set 9 (.slice s.p s.len s.cap) = (L.push x s).cells := by
  obtain ⟨a, b, c, d, e, f, g, i, hW⟩ := eight h
  unfold MLine.cells MLine.push
  simp [hW, ints]

theorem c142 {g : Nat} {σ : Heap} {rm : Nat} {ls : List MLine} {ev : Nat} {kind at_ val : Int} {R : Value → Heap → Prop} (hG : Glob σ) (hM : MemAt g σ rm ls ev) (hev : ev ≤ 1000000000) (hat : at_ < 9223372036854775808)
    (hfew : ∀ L ∈ ls, L.p.length < 1000000) (hbad : at_ < 0 ∨ (0 ≤ at_ ∧ ls[(at_ / 8).toNat]? = none) → R (.int .i64 40) σ) (hword : ∀ L, 0 ≤ at_ → ls[(at_ / 8).toNat]? = some L → wordB val = false → R (.int .i64 1) σ)
    (hok : ∀ L s σ', 0 ≤ at_ → ls[(at_ / 8).toNat]? = some L → wordB val = true → MemAt g σ' rm (ls.set (at_ / 8).toNat (L.push (at_ % 8, val) s)) (ev + 1) → Keep g σ σ' → R (.int .i64 0) σ') :
    ACalls Tryz.prog 142 [.pointer (some ⟨rm, 0, none⟩), .int .i64 kind, .int .i64 at_, .int .i64 val, .func (.func 143) #[.pointer (some ⟨rm, 0, none⟩)] #[]] σ R := by
  obtain ⟨rl, rb, span, es, clock, B, e, cs, g1, g2, g3, g4, g5, g6, g7, g8⟩ := id hM
  have hm : σ.ldT ti147 (some ⟨rm, 0, none⟩) = some (.slice (some ⟨rl, 0, none⟩) ls.length ls.length) := ld1 (o := 0) g1 rfl rfl
  have hl := g2
  refine ACalls_fn fn142 rfl ?_
  repeat' first
    | refine go rfl ?_
    | refine ifT rfl ?_
    | refine ifF rfl ?_
    | refine doT rfl rfl rfl rfl rfl (as0 rfl ?_)
    | refine doF rfl rfl rfl rfl rfl (as0 rfl ?_)
    | refine noT rfl rfl rfl rfl rfl ?_
    | refine noF rfl rfl rfl rfl rfl ?_
    | refine noU rfl rfl rfl rfl rfl rfl ?_
    | refine go_block ?_
  refine op rfl rfl rfl rfl (as1 rfl (by decide) ?_)
  repeat' first
    | refine go rfl ?_
    | refine ifT rfl ?_
    | refine ifF rfl ?_
    | refine doT rfl rfl rfl rfl rfl (as0 rfl ?_)
    | refine doF rfl rfl rfl rfl rfl (as0 rfl ?_)
    | refine noT rfl rfl rfl rfl rfl ?_
    | refine noF rfl rfl rfl rfl rfl ?_
    | refine noU rfl rfl rfl rfl rfl rfl ?_
    | refine go_block ?_
  cases h1 : decide (at_ < 0)
  · have hx0 : ¬ at_ < 0 := of_decide_eq_false h1
    have hq : quoI .i64 at_ 8 = at_ / 8 := quo_eq (by omega) hat (by decide) (by decide)
    have hi0 : 0 ≤ at_ / 8 := by omega
    rw [hq]
    repeat' first
      | refine go rfl ?_
      | refine ifT rfl ?_
      | refine ifF rfl ?_
      | refine doT rfl rfl rfl rfl rfl (as0 rfl ?_)
      | refine doF rfl rfl rfl rfl rfl (as0 rfl ?_)
      | refine noT rfl rfl rfl rfl rfl ?_
      | refine noF rfl rfl rfl rfl rfl ?_
      | refine noU rfl rfl rfl rfl rfl rfl ?_
      | refine go_block ?_
    refine doF rfl rfl rfl rfl rfl ?_
    refine as_call rfl rfl rfl rfl rfl rfl ?_
    refine c124 hm (shK_mk ⟨_, rfl⟩ ?_)
    have hd : decide (0 ≤ at_ / 8) = true := decide_eq_true hi0
    rw [hd]
    cases hL : ls[(at_ / 8).toNat]? with
    | none =>
      have hge : ls.length ≤ (at_ / 8).toNat := List.getElem?_eq_none_iff.1 hL
      have : decide (at_ / 8 < (ls.length : Int)) = false := decide_eq_false (by omega)
      rw [this]
      repeat' first
        | refine go rfl ?_
        | refine ifT rfl ?_
        | refine ifF rfl ?_
        | refine doT rfl rfl rfl rfl rfl (as0 rfl ?_)
        | refine doF rfl rfl rfl rfl rfl (as0 rfl ?_)
        | refine noT rfl rfl rfl rfl rfl ?_
        | refine noF rfl rfl rfl rfl rfl ?_
        | refine noU rfl rfl rfl rfl rfl rfl ?_
        | refine go_block ?_
      refine go_ret rfl ?_
      exact hbad (.inr ⟨by omega, hL⟩)
    | some L =>
      have hlt : (at_ / 8).toNat < ls.length := (List.getElem?_eq_some_iff.1 hL).1
      have hlt' : at_ / 8 < (ls.length : Int) := by omega
      have : decide (at_ / 8 < (ls.length : Int)) = true := decide_eq_true hlt'
      rw [this]
      obtain ⟨hLok, l1, l2, l3, l4⟩ := hM.line hl hL
      repeat' first
        | refine go rfl ?_
        | refine ifT rfl ?_
        | refine ifF rfl ?_
        | refine doT rfl rfl rfl rfl rfl (as0 rfl ?_)
        | refine doF rfl rfl rfl rfl rfl (as0 rfl ?_)
        | refine noT rfl rfl rfl rfl rfl ?_
        | refine noF rfl rfl rfl rfl rfl ?_
        | refine noU rfl rfl rfl rfl rfl rfl ?_
        | refine go_block ?_
      refine opc rfl rfl rfl rfl rfl rfl rfl rfl rfl rfl (c162 (shK_mk ⟨_, rfl⟩ ?_))
      repeat' first
        | refine go rfl ?_
        | refine ifT rfl ?_
        | refine ifF rfl ?_
        | refine doT rfl rfl rfl rfl rfl (as0 rfl ?_)
        | refine doF rfl rfl rfl rfl rfl (as0 rfl ?_)
        | refine noT rfl rfl rfl rfl rfl ?_
        | refine noF rfl rfl rfl rfl rfl ?_
        | refine noU rfl rfl rfl rfl rfl rfl ?_
        | refine go_block ?_
      cases hwd : wordB val
      · repeat' first
          | refine go rfl ?_
          | refine ifT rfl ?_
          | refine ifF rfl ?_
          | refine doT rfl rfl rfl rfl rfl (as0 rfl ?_)
          | refine doF rfl rfl rfl rfl rfl (as0 rfl ?_)
          | refine noT rfl rfl rfl rfl rfl ?_
          | refine noF rfl rfl rfl rfl rfl ?_
          | refine noU rfl rfl rfl rfl rfl rfl ?_
          | refine go_block ?_
        refine go_ret rfl ?_
        exact hword L (by omega) hL hwd
      · repeat' first
          | refine go rfl ?_
          | refine ifT rfl ?_
          | refine ifF rfl ?_
          | refine doT rfl rfl rfl rfl rfl (as0 rfl ?_)
          | refine doF rfl rfl rfl rfl rfl (as0 rfl ?_)
          | refine noT rfl rfl rfl rfl rfl ?_
          | refine noF rfl rfl rfl rfl rfl ?_
          | refine noU rfl rfl rfl rfl rfl rfl ?_
          | refine go_block ?_
        refine opc rfl rfl rfl rfl rfl rfl rfl rfl rfl rfl (c113 hG hM (shK_mk ⟨_, rfl⟩ ?_))
        have hst : stateM ls (at_ / 8) = 0 := if_pos ⟨hi0, hlt'⟩
        rw [hst]
        repeat' first
          | refine go rfl ?_
          | refine ifT rfl ?_
          | refine ifF rfl ?_
          | refine doT rfl rfl rfl rfl rfl (as0 rfl ?_)
          | refine doF rfl rfl rfl rfl rfl (as0 rfl ?_)
          | refine noT rfl rfl rfl rfl rfl ?_
          | refine noF rfl rfl rfl rfl rfl ?_
          | refine noU rfl rfl rfl rfl rfl rfl ?_
          | refine go_block ?_
        have hrem : Int.tmod at_ 8 = at_ % 8 := rem_eq (by omega) 8
        have ea : padd (some ⟨rl, 0, none⟩) ((at_ / 8).toNat * ti154.size) = some ⟨rl, (at_ / 8).toNat * 11, none⟩ := by
          rw [padd_some]
          simp [ti154]
        refine op rfl rfl rfl rfl (as1 rfl rfl ?_)
        refine op rfl rfl rfl rfl (as1 rfl rfl ?_)
        refine opl (i := ti147) rfl rfl rfl rfl rfl rfl rfl rfl hm ⟨((⟨some ⟨rl, 0, none⟩, ls.length, ls.length⟩) : Sl), rfl⟩ ?_
        repeat' first
          | refine go rfl ?_
          | refine ifT rfl ?_
          | refine ifF rfl ?_
          | refine doT rfl rfl rfl rfl rfl (as0 rfl ?_)
          | refine doF rfl rfl rfl rfl rfl (as0 rfl ?_)
          | refine noT rfl rfl rfl rfl rfl ?_
          | refine noF rfl rfl rfl rfl rfl ?_
          | refine noU rfl rfl rfl rfl rfl rfl ?_
          | refine go_block ?_
        refine op rfl rfl rfl rfl (as1 rfl rfl ?_)
        refine op rfl rfl rfl rfl (as1 rfl rfl ?_)
        refine opl (i := ti147) rfl rfl rfl rfl rfl rfl rfl rfl hm ⟨((⟨some ⟨rl, 0, none⟩, ls.length, ls.length⟩) : Sl), rfl⟩ ?_
        repeat' first
          | refine go rfl ?_
          | refine ifT rfl ?_
          | refine ifF rfl ?_
          | refine doT rfl rfl rfl rfl rfl (as0 rfl ?_)
          | refine doF rfl rfl rfl rfl rfl (as0 rfl ?_)
          | refine noT rfl rfl rfl rfl rfl ?_
          | refine noF rfl rfl rfl rfl rfl ?_
          | refine noU rfl rfl rfl rfl rfl rfl ?_
          | refine go_block ?_
        refine op rfl rfl rfl rfl (as3 rfl hi0 hlt' rfl ?_)
        rw [ea]
        refine op rfl rfl rfl rfl (as1 rfl rfl ?_)
        refine opl (i := ti152) rfl rfl rfl rfl rfl rfl rfl rfl l3 ⟨(L.s : Sl), rfl⟩ ?_
        repeat' first
          | refine go rfl ?_
          | refine ifT rfl ?_
          | refine ifF rfl ?_
          | refine doT rfl rfl rfl rfl rfl (as0 rfl ?_)
          | refine doF rfl rfl rfl rfl rfl (as0 rfl ?_)
          | refine noT rfl rfl rfl rfl rfl ?_
          | refine noF rfl rfl rfl rfl rfl ?_
          | refine noU rfl rfl rfl rfl rfl rfl ?_
          | refine go_block ?_
        refine op rfl rfl rfl rfl (as1 rfl (by decide) ?_)
        rw [hrem]
        repeat' first
          | refine go rfl ?_
          | refine ifT rfl ?_
          | refine ifF rfl ?_
          | refine doT rfl rfl rfl rfl rfl (as0 rfl ?_)
          | refine doF rfl rfl rfl rfl rfl (as0 rfl ?_)
          | refine noT rfl rfl rfl rfl rfl ?_
          | refine noF rfl rfl rfl rfl rfl ?_
          | refine noU rfl rfl rfl rfl rfl rfl ?_
          | refine go_block ?_
        refine op rfl rfl rfl rfl (as_buildSlice (cs := [.int .i64 (at_ % 8), .int .i64 val]) rfl rfl rfl rfl rfl rfl rfl rfl fun b17 hb17 => ?_)
        have E1 := (Ext.refl σ).ins hb17 (.cells 1 [.int .i64 (at_ % 8), .int .i64 val] 244 2)
        have own2 := hLok.own.frame (σ' := σ.ins b17 (.cells 1 [.int .i64 (at_ % 8), .int .i64 val] 244 2)) (fun r o hr _ => E1 r o hr)
        have hrow : (σ.ins b17 (.cells 1 [.int .i64 (at_ % 8), .int .i64 val] 244 2)).row (some ⟨b17, 0, none⟩) (1 * ti244.size) [.int .i64 (at_ % 8), .int .i64 val] := row_block (hit ..) rfl
        have hpl : L.s.len < 1000000 := by
          have h1 := hLok.own.1
          rw [pcells_length] at h1
          have h2 := hfew L (List.mem_of_getElem? hL)
          omega
        refine opk rfl rfl rfl rfl (as_append (ie := ti244) rfl rfl rfl rfl rfl rfl rfl (own_append (m := 1) (ie := ti244) (news := [.int .i64 (at_ % 8), .int .i64 val]) own2 (tagM_pos _ _) hrow (one_cons rfl (one_cons rfl one_nil)) (by decide) (by show (L.s.len + 1) * 16 ≤ _; omega) (by omega) (by decide) rfl fun s' σ2 ho hlen hf => ?_))
        have f2 : ∀ r o, σ r = some o → o.tag ≠ tagM g (4 + (at_ / 8).toNat) → σ2 r = some o := fun r o hr ht => hf r o (E1 r o hr) ht
        have hi4 : (at_ / 8).toNat < 4096 := by omega
        have m0 := f2 _ _ g1 (tagM_ne (by omega))
        have m1 := f2 _ _ g2 (tagM_ne (by omega))
        have m2 := f2 _ _ g3 (tagM_ne (by omega))
        refine keep1 rfl rfl rfl rfl rfl rfl rfl (ld1 (o := 0) m0 rfl rfl) (keep_nil ?_)
        refine op rfl rfl rfl rfl (as3 rfl hi0 hlt' rfl ?_)
        rw [ea]
        refine op rfl rfl rfl rfl (as1 rfl rfl ?_)
        have hw8 := hM.w8
        refine opn rfl rfl rfl (as_store_at (off := (at_ / 8).toNat * 11 + 9) ((ls.set (at_ / 8).toNat (L.push (at_ % 8, val) s')).flatMap MLine.cells) rfl rfl rfl rfl rfl m1 (tagM_ne0 ..) ?_ rfl ?_ ?_)
        · rw [lines_len hw8]
          exact Nat.ble_eq_true_of_le (by show (at_ / 8).toNat * 11 + 9 + 1 ≤ _; omega)
        · show lset _ _ [.slice s'.p s'.len s'.cap] = _
          rw [lset_one _ _ _ (by rw [lines_len hw8]; omega)]
          exact flat_set hw8 hL (by decide) (push_cells hLok.ok.len _ _) hLok.ok.len
        have n01 : rm ≠ rl := by
          rintro rfl
          rw [m0] at m1
          have := (AObj.cells.inj (Option.some.inj m1)).1
          exact tagM_ne (g := g) (x := 0) (y := 1) (by decide) this
        have n21 : rb ≠ rl := by
          rintro rfl
          rw [m2] at m1
          cases m1
        have n02 : rm ≠ rb := by
          rintro rfl
          rw [m0] at m2
          cases m2
        repeat' first
          | refine go rfl ?_
          | refine ifT rfl ?_
          | refine ifF rfl ?_
          | refine doT rfl rfl rfl rfl rfl (as0 rfl ?_)
          | refine doF rfl rfl rfl rfl rfl (as0 rfl ?_)
          | refine noT rfl rfl rfl rfl rfl ?_
          | refine noF rfl rfl rfl rfl rfl ?_
          | refine noU rfl rfl rfl rfl rfl rfl ?_
          | refine go_block ?_
        refine op rfl rfl rfl rfl (as1 rfl rfl ?_)
        refine op rfl rfl rfl rfl (as1 rfl rfl ?_)
        refine opl (i := ti155) rfl rfl rfl rfl rfl rfl rfl rfl (ld1 (o := 1) (miss n01 m0) rfl rfl) ⟨(some rb : Option Nat), rfl⟩ ?_
        repeat' first
          | refine go rfl ?_
          | refine ifT rfl ?_
          | refine ifF rfl ?_
          | refine doT rfl rfl rfl rfl rfl (as0 rfl ?_)
          | refine doF rfl rfl rfl rfl rfl (as0 rfl ?_)
          | refine noT rfl rfl rfl rfl rfl ?_
          | refine noF rfl rfl rfl rfl rfl ?_
          | refine noU rfl rfl rfl rfl rfl rfl ?_
          | refine go_block ?_
        rw [show (Value.int .i64 (at_ / 8)) = .int .i64 (((at_ / 8).toNat : Nat) : Int) from by rw [show (((at_ / 8).toNat : Nat) : Int) = at_ / 8 by omega]]
        refine opn rfl rfl rfl (as_mapUpd rfl rfl rfl rfl rfl rfl rfl rfl (busy_set (L' := L.push (at_ % 8, val) s') g6 (miss n21 m2) (tagM_pos _ _) hL (by simp [MLine.push]) fun es' clock' B' hB' => ?_))
        have f4 : ∀ X Y r o, σ r = some o → o.tag ≠ tagM g (4 + (at_ / 8).toNat) → o.tag ≠ tagM g 1 → o.tag ≠ tagM g 2 → ((σ2.ins rl X).ins rb Y) r = some o := fun X Y r o hr ht h1' h2' => by
          refine miss ?_ (miss ?_ (f2 r o hr ht))
          · rintro rfl
            rw [g3] at hr
            cases hr
            exact h2' rfl
          · rintro rfl
            rw [g2] at hr
            cases hr
            exact h1' rfl
        have hwv : okW val := by
          unfold wordB at hwd
          simpa [okW] using hwd
        have hM4 : MemAt g ((σ2.ins rl (.cells (tagM g 1) ((ls.set (at_ / 8).toNat (L.push (at_ % 8, val) s')).flatMap MLine.cells) 154 (ls.length * 11))).ins rb (.other (tagM g 2) (.map es' clock'))) rm (ls.set (at_ / 8).toNat (L.push (at_ % 8, val) s')) ev := by
          refine ⟨rl, rb, span, es', clock', B', e, cs, ?_, ?_, hit .., ?_, g5, hB', fun j M hj => ?_, by rw [List.length_set]; exact g8⟩
          · rw [List.length_set]
            exact f4 _ _ _ _ g1 (tagM_ne (by omega)) (tagM_ne (by decide)) (tagM_ne (by decide))
          · rw [List.length_set]
            exact miss (Ne.symm n21) (hit ..)
          · exact g4.frame fun r o hr ht => f4 _ _ _ _ hr (by rw [ht]; exact tagM_ne (by omega)) (by rw [ht]; exact tagM_ne (by decide)) (by rw [ht]; exact tagM_ne (by decide))
          · rw [set_get hL] at hj
            split at hj
            · rename_i hji
              cases hj
              subst hji
              refine ⟨hLok.ok, fun x hx => ?_, ?_, ?_, ?_⟩
              · rcases List.mem_append.1 hx with hx | hx
                · exact hLok.pend x hx
                · obtain rfl := List.mem_singleton.1 hx
                  exact ⟨⟨by show (0 : Int) ≤ at_ % 8; omega, by show at_ % 8 < 8; omega⟩, hwv⟩
              · show OwnP _ _ 244 2 s' (pcells (L.p ++ [(at_ % 8, val)]))
                rw [pcells_push]
                refine ho.frame fun r o hr ht => miss ?_ (miss ?_ hr)
                · rintro rfl
                  rw [m2] at hr
                  cases hr
                  exact tagM_ne (g := g) (x := 2) (y := 4 + (at_ / 8).toNat) (by omega) ht
                · rintro rfl
                  rw [m1] at hr
                  cases hr
                  exact tagM_ne (g := g) (x := 1) (y := 4 + (at_ / 8).toNat) (by omega) ht
              · show (L.p ++ [(at_ % 8, val)]).length ≤ _
                have := hfew L (List.mem_of_getElem? hL)
                simp
                omega
              · show L.mark ≤ (L.p ++ [(at_ % 8, val)]).length
                have := hLok.mark
                simp
                omega
            · rename_i hji
              exact (g7 j M hj).frame fun r o hr ht => f4 _ _ _ _ hr (by rw [ht]; exact tagM_ne (by omega)) (by rw [ht]; exact tagM_ne (by omega)) (by rw [ht]; exact tagM_ne (by omega))
        have hK4 : Keep g σ ((σ2.ins rl (.cells (tagM g 1) ((ls.set (at_ / 8).toNat (L.push (at_ % 8, val) s')).flatMap MLine.cells) 154 (ls.length * 11))).ins rb (.other (tagM g 2) (.map es' clock'))) := fun r o hr ht =>
          f4 _ _ _ _ hr (fun h => ht (by rw [h]; exact tag_of (by omega))) (fun h => ht (by rw [h]; exact tag_of (by omega))) (fun h => ht (by rw [h]; exact tag_of (by omega)))
        repeat' first
          | refine go rfl ?_
          | refine ifT rfl ?_
          | refine ifF rfl ?_
          | refine doT rfl rfl rfl rfl rfl (as0 rfl ?_)
          | refine doF rfl rfl rfl rfl rfl (as0 rfl ?_)
          | refine noT rfl rfl rfl rfl rfl ?_
          | refine noF rfl rfl rfl rfl rfl ?_
          | refine noU rfl rfl rfl rfl rfl rfl ?_
          | refine go_block ?_
        refine op rfl rfl rfl rfl (as1 rfl rfl ?_)
        refine op rfl rfl rfl rfl (as1 rfl rfl ?_)
        refine opl (i := ti3) rfl rfl rfl rfl rfl rfl rfl rfl (ld1 (o := 2) (f4 _ _ _ _ g1 (tagM_ne (by omega)) (tagM_ne (by decide)) (tagM_ne (by decide))) rfl rfl) ⟨(span : Int), rfl⟩ ?_
        repeat' first
          | refine go rfl ?_
          | refine ifT rfl ?_
          | refine ifF rfl ?_
          | refine doT rfl rfl rfl rfl rfl (as0 rfl ?_)
          | refine doF rfl rfl rfl rfl rfl (as0 rfl ?_)
          | refine noT rfl rfl rfl rfl rfl ?_
          | refine noF rfl rfl rfl rfl rfl ?_
          | refine noU rfl rfl rfl rfl rfl rfl ?_
          | refine go_block ?_
        refine opc rfl rfl rfl rfl rfl rfl rfl rfl rfl rfl (c143 hM4 hev fun σ5 hM5 hK5 => shK_mk ⟨(), rfl⟩ ?_)
        repeat' first
          | refine go rfl ?_
          | refine ifT rfl ?_
          | refine ifF rfl ?_
          | refine doT rfl rfl rfl rfl rfl (as0 rfl ?_)
          | refine doF rfl rfl rfl rfl rfl (as0 rfl ?_)
          | refine noT rfl rfl rfl rfl rfl ?_
          | refine noF rfl rfl rfl rfl rfl ?_
          | refine noU rfl rfl rfl rfl rfl rfl ?_
          | refine go_block ?_
        refine go_ret rfl ?_
        exact hok L s' σ5 (by omega) hL hwd hM5 (hK4.trans hK5)
  · repeat' first
      | refine go rfl ?_
      | refine ifT rfl ?_
      | refine ifF rfl ?_
      | refine doT rfl rfl rfl rfl rfl (as0 rfl ?_)
      | refine doF rfl rfl rfl rfl rfl (as0 rfl ?_)
      | refine noT rfl rfl rfl rfl rfl ?_
      | refine noF rfl rfl rfl rfl rfl ?_
      | refine noU rfl rfl rfl rfl rfl rfl ?_
      | refine go_block ?_
    refine go_ret rfl ?_
    exact hbad (.inl (of_decide_eq_true h1))

end Go.Eng
