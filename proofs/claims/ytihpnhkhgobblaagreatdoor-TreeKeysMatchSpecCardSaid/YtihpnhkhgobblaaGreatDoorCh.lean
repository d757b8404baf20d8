/- Contracts: storing a word; flushing a line. Conditions: in each. -/
import Derived.Test.YtihpnhkhgobblaaGreatDoorCg
namespace Go.Eng
open Go Go.Proofs

set_option maxRecDepth 10000

theorem c114 {g : Nat} {σ : Heap} {rm : Nat} {ls : List MLine} {ev : Nat} {at_ val : Int} {R : Value → Heap → Prop} (hG : Glob σ) (hM : MemAt g σ rm ls ev) (hev : ev ≤ 1000000000) (hat : at_ < 9223372036854775808)
    (hfew : ∀ L ∈ ls, L.p.length < 1000000) (hbad : at_ < 0 ∨ (0 ≤ at_ ∧ ls[(at_ / 8).toNat]? = none) → R (.int .i64 40) σ) (hword : ∀ L, 0 ≤ at_ → ls[(at_ / 8).toNat]? = some L → wordB val = false → R (.int .i64 1) σ)
    (hok : ∀ L s σ', 0 ≤ at_ → ls[(at_ / 8).toNat]? = some L → wordB val = true → MemAt g σ' rm (ls.set (at_ / 8).toNat (L.push (at_ % 8, val) s)) (ev + 1) → Keep g σ σ' → R (.int .i64 0) σ') :
    ACalls Tryz.prog 114 [.pointer (some ⟨rm, 0, none⟩), .int .i64 at_, .int .i64 val] σ R := by
  refine ACalls_fn fn114 rfl ?_
  repeat' first
    | refine go rfl ?_
    | refine ifT rfl ?_
    | refine ifF rfl ?_
    | refine doT rfl rfl rfl rfl rfl (as0 rfl ?_)
    | refine doF rfl rfl rfl rfl rfl (as0 rfl ?_)
    | refine noT rfl rfl rfl rfl rfl ?_
    | refine noF rfl rfl rfl rfl rfl ?_
    | refine noU rfl rfl rfl rfl rfl rfl ?_
    | refine go_block ?_
  refine opc rfl rfl rfl rfl rfl rfl rfl rfl rfl rfl (c142 hG hM hev hat hfew (fun hb => shK_mk ⟨(_ : Int), rfl⟩ ?_) (fun L h0 hL hw => shK_mk ⟨(_ : Int), rfl⟩ ?_) (fun L s σ' h0 hL hw hM' hK => shK_mk ⟨(_ : Int), rfl⟩ ?_))
  · repeat' first
      | refine go rfl ?_
      | refine ifT rfl ?_
      | refine ifF rfl ?_
      | refine doT rfl rfl rfl rfl rfl (as0 rfl ?_)
      | refine doF rfl rfl rfl rfl rfl (as0 rfl ?_)
      | refine noT rfl rfl rfl rfl rfl ?_
      | refine noF rfl rfl rfl rfl rfl ?_
      | refine noU rfl rfl rfl rfl rfl rfl ?_
      | refine go_block ?_
    refine go_ret rfl ?_
    exact hbad hb
  · repeat' first
      | refine go rfl ?_
      | refine ifT rfl ?_
      | refine ifF rfl ?_
      | refine doT rfl rfl rfl rfl rfl (as0 rfl ?_)
      | refine doF rfl rfl rfl rfl rfl (as0 rfl ?_)
      | refine noT rfl rfl rfl rfl rfl ?_
      | refine noF rfl rfl rfl rfl rfl ?_
      | refine noU rfl rfl rfl rfl rfl rfl ?_
      | refine go_block ?_
    refine go_ret rfl ?_
    exact hword L h0 hL hw
  · repeat' first
      | refine go rfl ?_
      | refine ifT rfl ?_
      | refine ifF rfl ?_
      | refine doT rfl rfl rfl rfl rfl (as0 rfl ?_)
      | refine doF rfl rfl rfl rfl rfl (as0 rfl ?_)
      | refine noT rfl rfl rfl rfl rfl ?_
      | refine noF rfl rfl rfl rfl rfl ?_
      | refine noU rfl rfl rfl rfl rfl rfl ?_
      | refine go_block ?_
    refine go_ret rfl ?_
    exact hok L s σ' h0 hL hw hM' hK

theorem busy_same {es : Array MapEntry} {clock : Nat} {ls : List MLine} {B : List Nat} (h : BusyOK es clock ls B) {i : Nat} {L L' : MLine} (hi : ls[i]? = some L) (hp : L'.p = [] ↔ L.p = []) : BusyOK es clock (ls.set i L') B :=
  ⟨h.ents, h.nodup, h.born, h.stamps, fun j => by
    rw [h.iff, set_get hi]
    by_cases hj : j = i
    · subst hj
      simp [hi, hp]
    · simp [hj]⟩

def MLine.flushed (L : MLine) : MLine := { L with mark := L.p.length }

theorem flush_cells {L : MLine} (h : L.w.length = 8) : L.cells.set 10 (.int .i64 (L.p.length : Nat)) = L.flushed.cells := by
  obtain ⟨a, b, c, d, e, f, g, i, hW⟩ := eight h
  unfold MLine.cells MLine.flushed
  simp [hW, ints]

theorem c115 {g : Nat} {σ : Heap} {rm : Nat} {ls : List MLine} {ev : Nat} {n : Int} {R : Value → Heap → Prop} (hM : MemAt g σ rm ls ev) (hev : ev ≤ 1000000000) (hbad : ¬ (0 ≤ n ∧ n < (ls.length : Int)) → R (.int .i64 40) σ)
    (hok : ∀ L σ', 0 ≤ n → ls[n.toNat]? = some L → MemAt g σ' rm (ls.set n.toNat L.flushed) (ev + 1) → Keep g σ σ' → R (.int .i64 0) σ') : ACalls Tryz.prog 115 [.pointer (some ⟨rm, 0, none⟩), .int .i64 n] σ R := by
  obtain ⟨rl, rb, span, es, clock, B, e, cs, g1, g2, g3, g4, g5, g6, g7, g8⟩ := id hM
  have hm : σ.ldT ti147 (some ⟨rm, 0, none⟩) = some (.slice (some ⟨rl, 0, none⟩) ls.length ls.length) := ld1 (o := 0) g1 rfl rfl
  have hl := g2
  refine ACalls_fn fn115 rfl ?_
  repeat' first
    | refine go rfl ?_
    | refine ifT rfl ?_
    | refine ifF rfl ?_
    | refine doT rfl rfl rfl rfl rfl (as0 rfl ?_)
    | refine doF rfl rfl rfl rfl rfl (as0 rfl ?_)
    | refine noT rfl rfl rfl rfl rfl ?_
    | refine noF rfl rfl rfl rfl rfl ?_
    | refine noU rfl rfl rfl rfl rfl rfl ?_
    | refine go_block ?_
  refine opc rfl rfl rfl rfl rfl rfl rfl rfl rfl rfl (c124 hm (shK_mk ⟨_, rfl⟩ ?_))
  repeat' first
    | refine go rfl ?_
    | refine ifT rfl ?_
    | refine ifF rfl ?_
    | refine doT rfl rfl rfl rfl rfl (as0 rfl ?_)
    | refine doF rfl rfl rfl rfl rfl (as0 rfl ?_)
    | refine noT rfl rfl rfl rfl rfl ?_
    | refine noF rfl rfl rfl rfl rfl ?_
    | refine noU rfl rfl rfl rfl rfl rfl ?_
    | refine go_block ?_
  cases hb : (decide (0 ≤ n) && decide (n < (ls.length : Int)))
  · repeat' first
      | refine go rfl ?_
      | refine ifT rfl ?_
      | refine ifF rfl ?_
      | refine doT rfl rfl rfl rfl rfl (as0 rfl ?_)
      | refine doF rfl rfl rfl rfl rfl (as0 rfl ?_)
      | refine noT rfl rfl rfl rfl rfl ?_
      | refine noF rfl rfl rfl rfl rfl ?_
      | refine noU rfl rfl rfl rfl rfl rfl ?_
      | refine go_block ?_
    refine go_ret rfl ?_
    refine hbad fun hh => ?_
    simp [hh.1, hh.2] at hb
  · have hh : 0 ≤ n ∧ n < (ls.length : Int) := by simpa using hb
    obtain ⟨hi0, hlt'⟩ := hh
    have hlt : n.toNat < ls.length := by omega
    obtain ⟨L, hL⟩ : ∃ L, ls[n.toNat]? = some L := ⟨_, List.getElem?_eq_getElem hlt⟩
    obtain ⟨hLok, l1, l2, l3, l4⟩ := hM.line hl hL
    have ea : padd (some ⟨rl, 0, none⟩) (n.toNat * ti154.size) = some ⟨rl, n.toNat * 11, none⟩ := by
      rw [padd_some]
      simp [ti154]
    have hpl : L.s.len = L.p.length := by
      have h1 := hLok.own.1
      rw [pcells_length] at h1
      omega
    have hw8 := hM.w8
    repeat' first
      | refine go rfl ?_
      | refine ifT rfl ?_
      | refine ifF rfl ?_
      | refine doT rfl rfl rfl rfl rfl (as0 rfl ?_)
      | refine doF rfl rfl rfl rfl rfl (as0 rfl ?_)
      | refine noT rfl rfl rfl rfl rfl ?_
      | refine noF rfl rfl rfl rfl rfl ?_
      | refine noU rfl rfl rfl rfl rfl rfl ?_
      | refine go_block ?_
    refine op rfl rfl rfl rfl (as1 rfl rfl ?_)
    refine op rfl rfl rfl rfl (as1 rfl rfl ?_)
    refine opl (i := ti147) rfl rfl rfl rfl rfl rfl rfl rfl hm ⟨((⟨some ⟨rl, 0, none⟩, ls.length, ls.length⟩) : Sl), rfl⟩ ?_
    repeat' first
      | refine go rfl ?_
      | refine ifT rfl ?_
      | refine ifF rfl ?_
      | refine doT rfl rfl rfl rfl rfl (as0 rfl ?_)
      | refine doF rfl rfl rfl rfl rfl (as0 rfl ?_)
      | refine noT rfl rfl rfl rfl rfl ?_
      | refine noF rfl rfl rfl rfl rfl ?_
      | refine noU rfl rfl rfl rfl rfl rfl ?_
      | refine go_block ?_
    refine op rfl rfl rfl rfl (as1 rfl rfl ?_)
    refine op rfl rfl rfl rfl (as1 rfl rfl ?_)
    refine opl (i := ti147) rfl rfl rfl rfl rfl rfl rfl rfl hm ⟨((⟨some ⟨rl, 0, none⟩, ls.length, ls.length⟩) : Sl), rfl⟩ ?_
    repeat' first
      | refine go rfl ?_
      | refine ifT rfl ?_
      | refine ifF rfl ?_
      | refine doT rfl rfl rfl rfl rfl (as0 rfl ?_)
      | refine doF rfl rfl rfl rfl rfl (as0 rfl ?_)
      | refine noT rfl rfl rfl rfl rfl ?_
      | refine noF rfl rfl rfl rfl rfl ?_
      | refine noU rfl rfl rfl rfl rfl rfl ?_
      | refine go_block ?_
    refine op rfl rfl rfl rfl (as3 rfl hi0 hlt' rfl ?_)
    rw [ea]
    refine op rfl rfl rfl rfl (as1 rfl rfl ?_)
    refine opl (i := ti152) rfl rfl rfl rfl rfl rfl rfl rfl l3 ⟨(L.s : Sl), rfl⟩ ?_
    repeat' first
      | refine go rfl ?_
      | refine ifT rfl ?_
      | refine ifF rfl ?_
      | refine doT rfl rfl rfl rfl rfl (as0 rfl ?_)
      | refine doF rfl rfl rfl rfl rfl (as0 rfl ?_)
      | refine noT rfl rfl rfl rfl rfl ?_
      | refine noF rfl rfl rfl rfl rfl ?_
      | refine noU rfl rfl rfl rfl rfl rfl ?_
      | refine go_block ?_
    refine op rfl rfl rfl rfl (as3 rfl hi0 hlt' rfl ?_)
    rw [ea]
    refine op rfl rfl rfl rfl (as1 rfl rfl ?_)
    refine opn rfl rfl rfl (as_store_at (off := n.toNat * 11 + 10) ((ls.set n.toNat L.flushed).flatMap MLine.cells) rfl rfl rfl rfl rfl g2 (tagM_ne0 ..) ?_ rfl ?_ ?_)
    · rw [lines_len hw8]
      exact Nat.ble_eq_true_of_le (by show n.toNat * 11 + 10 + 1 ≤ _; omega)
    · show lset _ _ [.int .i64 (L.s.len : Nat)] = _
      rw [hpl, lset_one _ _ _ (by rw [lines_len hw8]; omega)]
      exact flat_set hw8 hL (by decide) (flush_cells hLok.ok.len) hLok.ok.len
    have f1 : ∀ X r o, σ r = some o → o.tag ≠ tagM g 1 → (σ.ins rl X) r = some o := fun X r o hr ht => by
      refine miss ?_ hr
      rintro rfl
      rw [g2] at hr
      cases hr
      exact ht rfl
    have hM4 : MemAt g (σ.ins rl (.cells (tagM g 1) ((ls.set n.toNat L.flushed).flatMap MLine.cells) 154 (ls.length * 11))) rm (ls.set n.toNat L.flushed) ev := by
      refine ⟨rl, rb, span, es, clock, B, e, cs, ?_, ?_, f1 _ _ _ g3 (tagM_ne (by decide)), ?_, g5, busy_same g6 hL Iff.rfl, fun j M hj => ?_, by rw [List.length_set]; exact g8⟩
      · rw [List.length_set]
        exact f1 _ _ _ g1 (tagM_ne (by decide))
      · rw [List.length_set]
        exact hit ..
      · exact g4.frame fun r o hr ht => f1 _ _ _ hr (by rw [ht]; exact tagM_ne (by decide))
      · rw [set_get hL] at hj
        split at hj
        · rename_i hji
          cases hj
          subst hji
          have hf := hLok.frame (σ' := σ.ins rl (.cells (tagM g 1) ((ls.set n.toNat L.flushed).flatMap MLine.cells) 154 (ls.length * 11))) fun r o hr ht => f1 _ _ _ hr (by rw [ht]; exact tagM_ne (by omega))
          exact ⟨hf.ok, hf.pend, hf.own, hf.few, Nat.le_refl _⟩
        · exact (g7 j M hj).frame fun r o hr ht => f1 _ _ _ hr (by rw [ht]; exact tagM_ne (by omega))
    have hK4 : Keep g σ (σ.ins rl (.cells (tagM g 1) ((ls.set n.toNat L.flushed).flatMap MLine.cells) 154 (ls.length * 11))) := fun r o hr ht => f1 _ _ _ hr (fun h => ht (by rw [h]; exact tag_of (by omega)))
    repeat' first
      | refine go rfl ?_
      | refine ifT rfl ?_
      | refine ifF rfl ?_
      | refine doT rfl rfl rfl rfl rfl (as0 rfl ?_)
      | refine doF rfl rfl rfl rfl rfl (as0 rfl ?_)
      | refine noT rfl rfl rfl rfl rfl ?_
      | refine noF rfl rfl rfl rfl rfl ?_
      | refine noU rfl rfl rfl rfl rfl rfl ?_
      | refine go_block ?_
    refine opc rfl rfl rfl rfl rfl rfl rfl rfl rfl rfl (c143 hM4 hev fun σ5 hM5 hK5 => shK_mk ⟨(), rfl⟩ ?_)
    repeat' first
      | refine go rfl ?_
      | refine ifT rfl ?_
      | refine ifF rfl ?_
      | refine doT rfl rfl rfl rfl rfl (as0 rfl ?_)
      | refine doF rfl rfl rfl rfl rfl (as0 rfl ?_)
      | refine noT rfl rfl rfl rfl rfl ?_
      | refine noF rfl rfl rfl rfl rfl ?_
      | refine noU rfl rfl rfl rfl rfl rfl ?_
      | refine go_block ?_
    refine go_ret rfl ?_
    exact hok L σ5 hi0 hL hM5 (hK4.trans hK5)

end Go.Eng

/- Contracts: cloning pending stores. Conditions: in each. -/
namespace Go.Eng
open Go Go.Proofs

set_option maxRecDepth 10000

theorem c166 {σ : Heap} {p : Option Addr} {n cap t : Nat} {cs : List Value} {R : Value → Heap → Prop} (ht : t ≠ 0) (hr : σ.row p (n * 2) cs) (h1 : oneCells cs) (hn : n ≤ 1000000)
    (h : ∀ s' σ', OwnP σ' t 244 2 s' cs → s'.len = n → Ext σ σ' → R (.slice s'.p s'.len s'.cap) σ') : ACalls Tryz.prog 166 [.slice p n cap] σ R := by
  have hl := row_len hr
  refine ACalls_fn fn166 rfl ?_
  repeat' first
    | refine go rfl ?_
    | refine ifT rfl ?_
    | refine ifF rfl ?_
    | refine doT rfl rfl rfl rfl rfl (as0 rfl ?_)
    | refine doF rfl rfl rfl rfl rfl (as0 rfl ?_)
    | refine noT rfl rfl rfl rfl rfl ?_
    | refine noF rfl rfl rfl rfl rfl ?_
    | refine noU rfl rfl rfl rfl rfl rfl ?_
    | refine go_block ?_
  cases p with
  | none =>
    have hn0 : n = 0 := by
      have := hr.1
      omega
    subst hn0
    have hcs : cs = [] := by simpa using hl
    subst hcs
    repeat' first
      | refine go rfl ?_
      | refine ifT rfl ?_
      | refine ifF rfl ?_
      | refine doT rfl rfl rfl rfl rfl (as0 rfl ?_)
      | refine doF rfl rfl rfl rfl rfl (as0 rfl ?_)
      | refine noT rfl rfl rfl rfl rfl ?_
      | refine noF rfl rfl rfl rfl rfl ?_
      | refine noU rfl rfl rfl rfl rfl rfl ?_
      | refine go_block ?_
    refine go_ret rfl ?_
    exact h ⟨none, 0, 0⟩ σ ⟨by simp, .inl ⟨rfl, rfl, ⟨rfl, rfl⟩⟩⟩ rfl (Ext.refl σ)
  | some a =>
    repeat' first
      | refine go rfl ?_
      | refine ifT rfl ?_
      | refine ifF rfl ?_
      | refine doT rfl rfl rfl rfl rfl (as0 rfl ?_)
      | refine doF rfl rfl rfl rfl rfl (as0 rfl ?_)
      | refine noT rfl rfl rfl rfl rfl ?_
      | refine noF rfl rfl rfl rfl rfl ?_
      | refine noU rfl rfl rfl rfl rfl rfl ?_
      | refine go_block ?_
    refine op rfl rfl rfl rfl (as_buildSlice (cs := []) rfl rfl rfl rfl rfl rfl rfl rfl fun r hr0 => ?_)
    have E1 := (Ext.refl σ).ins hr0 (.cells 1 [] 244 0)
    repeat' first
      | refine go rfl ?_
      | refine ifT rfl ?_
      | refine ifF rfl ?_
      | refine doT rfl rfl rfl rfl rfl (as0 rfl ?_)
      | refine doF rfl rfl rfl rfl rfl (as0 rfl ?_)
      | refine noT rfl rfl rfl rfl rfl ?_
      | refine noF rfl rfl rfl rfl rfl ?_
      | refine noU rfl rfl rfl rfl rfl rfl ?_
      | refine go_block ?_
    by_cases hn0 : n = 0
    · subst hn0
      have hcs : cs = [] := by simpa using hl
      subst hcs
      refine op rfl rfl rfl rfl (as_append (ie := ti244) rfl rfl rfl rfl rfl rfl rfl ⟨[], E1.row hr, one_nil, by decide, by decide, by decide, rfl, .inl ⟨rfl, Nat.le_refl _, ?_⟩⟩)
      repeat' first
        | refine go rfl ?_
        | refine ifT rfl ?_
        | refine ifF rfl ?_
        | refine doT rfl rfl rfl rfl rfl (as0 rfl ?_)
        | refine doF rfl rfl rfl rfl rfl (as0 rfl ?_)
        | refine noT rfl rfl rfl rfl rfl ?_
        | refine noF rfl rfl rfl rfl rfl ?_
        | refine noU rfl rfl rfl rfl rfl rfl ?_
        | refine go_block ?_
      refine go_ret rfl ?_
      exact h ⟨some ⟨r, 0, none⟩, 0, 0⟩ _ ⟨by simp, .inl ⟨rfl, rfl, rfl⟩⟩ rfl E1
    · refine op rfl rfl rfl rfl (as_append (ie := ti244) rfl rfl rfl rfl rfl rfl rfl ⟨cs, E1.row hr, h1, by show (0 + n) * 16 ≤ _; omega, by omega, by decide, rfl, .inr (.inl ⟨by omega, rfl, rfl, t, fun r' c hr' hc => ?_⟩)⟩)
      repeat' first
        | refine go rfl ?_
        | refine ifT rfl ?_
        | refine ifF rfl ?_
        | refine doT rfl rfl rfl rfl rfl (as0 rfl ?_)
        | refine doF rfl rfl rfl rfl rfl (as0 rfl ?_)
        | refine noT rfl rfl rfl rfl rfl ?_
        | refine noF rfl rfl rfl rfl rfl ?_
        | refine noU rfl rfl rfl rfl rfl rfl ?_
        | refine go_block ?_
      refine go_ret rfl ?_
      exact h ⟨some ⟨r', 0, none⟩, n, c⟩ _ ⟨hl, .inr ⟨r', rfl, hc, hit ..⟩⟩ rfl (E1.ins (E1.none hr') _)

end Go.Eng

/- The map of the busy lines: one key deleted; the parts of a memory. Conditions: in each. -/
namespace Go.Eng
open Go Go.Proofs

set_option maxRecDepth 10000

theorem erase_map {α β : Type} (f : α → β) : ∀ (l : List α) (j : Nat), (l.eraseIdx j).map f = (l.map f).eraseIdx j
  | [], j => by simp
  | x :: l, 0 => by simp
  | x :: l, j + 1 => by simp [erase_map f l j]

theorem erase_mem {α : Type} : ∀ {l : List α} {j : Nat} {x : α}, x ∈ l.eraseIdx j → x ∈ l
  | [], j, x, h => by simp at h
  | y :: l, 0, x, h => by
    simp at h
    exact List.mem_cons_of_mem _ h
  | y :: l, j + 1, x, h => by
    simp only [List.eraseIdx_cons_succ] at h
    rcases List.mem_cons.1 h with rfl | h
    · exact List.mem_cons_self ..
    · exact List.mem_cons_of_mem _ (erase_mem h)

theorem erase_other {α : Type} : ∀ {l : List α} {j : Nat} {x y : α}, x ∈ l → l[j]? = some y → x ≠ y → x ∈ l.eraseIdx j
  | [], j, x, y, h, _, _ => by cases h
  | z :: l, 0, x, y, h, hj, hne => by
    simp at hj
    subst hj
    simp
    rcases List.mem_cons.1 h with rfl | h
    · exact absurd rfl hne
    · exact h
  | z :: l, j + 1, x, y, h, hj, hne => by
    simp only [List.eraseIdx_cons_succ]
    rcases List.mem_cons.1 h with rfl | h
    · exact List.mem_cons_self ..
    · exact List.mem_cons_of_mem _ (erase_other h (by simpa using hj) hne)

theorem erase_nodup {α : Type} {l : List α} (h : l.Nodup) (j : Nat) : (l.eraseIdx j).Nodup := h.sublist (List.eraseIdx_sublist l j)

theorem erase_not {α : Type} : ∀ {l : List α} {j : Nat} {x : α}, l.Nodup → l[j]? = some x → x ∉ l.eraseIdx j
  | [], j, x, _, h => by simp at h
  | y :: l, 0, x, hn, h => by
    simp at h
    subst h
    simp
    exact (List.nodup_cons.1 hn).1
  | y :: l, j + 1, x, hn, h => by
    simp only [List.eraseIdx_cons_succ]
    intro hm
    have h' : l[j]? = some x := by simpa using h
    rcases List.mem_cons.1 hm with rfl | hm
    · exact (List.nodup_cons.1 hn).1 (List.mem_of_getElem? h')
    · exact erase_not (List.nodup_cons.1 hn).2 h' hm

/-- A line is busy no more. -/
theorem busy_del {g : Nat} {σ : Heap} {rb : Nat} {es : Array MapEntry} {clock : Nat} {ls : List MLine} {B : List Nat} (h : BusyOK es clock ls B) (hr : σ rb = some (.other g (.map es clock))) (hg : g ≠ 0) {i : Nat} {L L' : MLine} (hi : ls[i]? = some L)
    (hp : L'.p = []) (hp0 : L.p ≠ []) {k : Heap → Prop} (hk : ∀ es' B', BusyOK es' clock (ls.set i L') B' → (∀ e ∈ es'.toList, e ∈ es.toList) → (∀ e ∈ es.toList, e.key ≠ .int .i64 i → e ∈ es'.toList) → k (σ.ins rb (.other g (.map es' clock)))) :
    adelete .i64 (some rb) (.int .i64 i) σ k := by
  refine ⟨rb, g, es, clock, rfl, hr, hg, ?_⟩
  have hB : i ∈ B := (h.iff i).2 ⟨L, hi, hp0⟩
  obtain ⟨j, e, f1, f2, f3, f4⟩ := findNow_at (n := 0) h.ents ⟨i, hB, rfl⟩
  rw [Nat.zero_add] at f1
  have hlt : j < es.size := by
    have := (List.getElem?_eq_some_iff.1 f2).1
    simpa using this
  have htl : (es.eraseIdxIfInBounds j).toList = es.toList.eraseIdx j := by
    simp [Array.eraseIdxIfInBounds, hlt]
  have hBj : B[j]? = some i := by
    have h1 : (es.toList.map fun e => (e.key, e.val))[j]? = some (e.key, e.val) := by rw [List.getElem?_map, f2]; rfl
    rw [h.ents, List.getElem?_map] at h1
    cases hb : B[j]? with
    | none => rw [hb] at h1; cases h1
    | some b =>
      rw [hb] at h1
      simp only [Option.map_some, Option.some.injEq, Prod.mk.injEq, f3] at h1
      have := h1.1
      simp only [Value.int.injEq, true_and] at this
      rw [show b = i by omega]
  refine .inl ⟨j, .bool true, f1, hk _ (B.eraseIdx j) ⟨?_, erase_nodup h.nodup j, ?_, ?_, fun x => ?_⟩ ?_ ?_⟩
  · rw [htl, erase_map, h.ents, erase_map]
  · intro e he
    rw [htl] at he
    exact h.born e (erase_mem he)
  · rw [htl, erase_map]
    exact erase_nodup h.stamps j
  · rw [set_get hi]
    constructor
    · intro hx
      have hne : x ≠ i := by
        rintro rfl
        exact erase_not h.nodup hBj hx
      rw [if_neg hne]
      exact (h.iff x).1 (erase_mem hx)
    · rintro ⟨M, hM, hMp⟩
      by_cases hx : x = i
      · rw [if_pos hx] at hM
        cases hM
        exact absurd hp hMp
      · rw [if_neg hx] at hM
        exact erase_other ((h.iff x).2 ⟨M, hM, hMp⟩) hBj hx
  · intro e he
    rw [htl] at he
    exact erase_mem he
  · intro e' he' hne
    rw [htl]
    refine erase_other he' f2 ?_
    rintro rfl
    exact hne f3

/-- A busy line stays busy. -/
theorem busy_keep {g : Nat} {σ : Heap} {rb : Nat} {es : Array MapEntry} {clock : Nat} {ls : List MLine} {B : List Nat} (h : BusyOK es clock ls B) (hr : σ rb = some (.other g (.map es clock))) (hg : g ≠ 0) {i : Nat} {L : MLine} (hi : ls[i]? = some L)
    (hp : L.p ≠ []) {k : Heap → Prop} (hk : k σ) : aupdate .i64 (some rb) (.int .i64 i) (.bool true) σ k := by
  refine ⟨rb, g, es, clock, rfl, hr, hg, ?_⟩
  obtain ⟨j, e, f1, f2, f3, f4⟩ := findNow_at (n := 0) h.ents ⟨i, (h.iff i).2 ⟨L, hi, hp⟩, rfl⟩
  have he : es[j]? = some e := by rw [← Array.getElem?_toList]; exact f2
  have heq : (es.modify j fun e => { e with key := .int .i64 i, val := .bool true }) = es := by
    apply Array.ext_getElem?
    intro x
    rw [Array.getElem?_modify]
    split
    · rename_i hx
      subst hx
      rw [he]
      simp only [Option.map_some, Option.some.injEq]
      rw [← f3, ← f4]
    · rfl
  refine .inl ⟨j, .bool true, by rw [f1, Nat.zero_add], ?_, ?_⟩
  · rw [he]
    simp [f3, Instr.sameBits]
  · rw [heq, ins_id hr]
    exact hk

theorem as_del {P : Program} {T : TT} {e : Env} {o : Oper} {σ : Heap} {k : Value → Heap → Prop} {c : Call} {t kt et : TypeId} {ts : List TypeId} {i ik : TI} {r : Option Nat} {key : Value} {kk : IntKind} (ho : o.op = .call c) (hc : c.callee = .builtin .delete)
    (ha : e.evals c.args.toList = some [.map r, key]) (hts : c.argTypes.toList = t :: ts) (hi : T t = some i) (hk : i.k = .map kt et) (hik : T kt = some ik) (hkk : ik.k = .int kk) (h : adelete kk r key σ (k (.tuple #[]))) : astep P T e o σ k := by
  unfold astep
  rw [ho]
  simp only [hc, ha, hts, hi, hk, hik, hkk]
  exact h

/-- The parts of a memory. -/
structure MemX (g : Nat) (σ : Heap) (rm : Nat) (ls : List MLine) (ev : Nat) (rl rb : Nat) (es : Array MapEntry) (clock : Nat) (B : List Nat) : Prop where
  st : ∃ (span : Int) (e : Sl) (cs : List Value), σ rm = some (.cells (tagM g 0) [.slice (some ⟨rl, 0, none⟩) ls.length ls.length, .map (some rb), .int .i64 span, .slice e.p e.len e.cap] 158 4) ∧ OwnP σ (tagM g 3) 240 12 e cs ∧ e.len ≤ ev
  li : σ rl = some (.cells (tagM g 1) (ls.flatMap MLine.cells) 154 (ls.length * 11))
  bu : σ rb = some (.other (tagM g 2) (.map es clock))
  busy : BusyOK es clock ls B
  line : ∀ (i : Nat) (L : MLine), ls[i]? = some L → LineOK σ (tagM g (4 + i)) L
  few : ls.length ≤ 4096

theorem MemX.mem {g : Nat} {σ : Heap} {rm : Nat} {ls : List MLine} {ev : Nat} {rl rb : Nat} {es : Array MapEntry} {clock : Nat} {B : List Nat} (h : MemX g σ rm ls ev rl rb es clock B) : MemAt g σ rm ls ev := by
  obtain ⟨span, e, cs, h1, h2, h3⟩ := h.st
  exact ⟨rl, rb, span, es, clock, B, e, cs, h1, h.li, h.bu, h2, h3, h.busy, h.line, h.few⟩

theorem MemAt.x {g : Nat} {σ : Heap} {rm : Nat} {ls : List MLine} {ev : Nat} (h : MemAt g σ rm ls ev) : ∃ rl rb es clock B, MemX g σ rm ls ev rl rb es clock B := by
  obtain ⟨rl, rb, span, es, clock, B, e, cs, h1, h2, h3, h4, h5, h6, h7, h8⟩ := h
  exact ⟨rl, rb, es, clock, B, ⟨span, e, cs, h1, h4, h5⟩, h2, h3, h6, h7, h8⟩

theorem c167 {rm rl rb i n len cap : Nat} {p : Option Addr} {σ : Heap} {R : Value → Heap → Prop} (hm : σ.ldT ti147 (some ⟨rm, 0, none⟩) = some (.slice (some ⟨rl, 0, none⟩) n n)) (hm1 : σ.ldT ti155 (some ⟨rm, 1, none⟩) = some (.map (some rb)))
    (hl : σ.ldT ti152 (some ⟨rl, i * 11 + 9, none⟩) = some (.slice p len cap)) (hi : i < n) (hdel : len = 0 → adelete .i64 (some rb) (.int .i64 i) σ fun σ' => R (.tuple #[]) σ')
    (hupd : len ≠ 0 → aupdate .i64 (some rb) (.int .i64 i) (.bool true) σ fun σ' => R (.tuple #[]) σ') : ACalls Tryz.prog 167 [.pointer (some ⟨rm, 0, none⟩), .int .i64 i] σ R := by
  have ea : padd (some ⟨rl, 0, none⟩) ((i : Int).toNat * ti154.size) = some ⟨rl, i * 11, none⟩ := by
    rw [padd_some]
    simp [ti154]
  refine ACalls_fn fn167 rfl ?_
  repeat' first
    | refine go rfl ?_
    | refine ifT rfl ?_
    | refine ifF rfl ?_
    | refine doT rfl rfl rfl rfl rfl (as0 rfl ?_)
    | refine doF rfl rfl rfl rfl rfl (as0 rfl ?_)
    | refine noT rfl rfl rfl rfl rfl ?_
    | refine noF rfl rfl rfl rfl rfl ?_
    | refine noU rfl rfl rfl rfl rfl rfl ?_
    | refine go_block ?_
  refine op rfl rfl rfl rfl (as1 rfl rfl ?_)
  refine op rfl rfl rfl rfl (as1 rfl rfl ?_)
  refine opl (i := ti147) rfl rfl rfl rfl rfl rfl rfl rfl hm ⟨((⟨some ⟨rl, 0, none⟩, n, n⟩) : Sl), rfl⟩ ?_
  repeat' first
    | refine go rfl ?_
    | refine ifT rfl ?_
    | refine ifF rfl ?_
    | refine doT rfl rfl rfl rfl rfl (as0 rfl ?_)
    | refine doF rfl rfl rfl rfl rfl (as0 rfl ?_)
    | refine noT rfl rfl rfl rfl rfl ?_
    | refine noF rfl rfl rfl rfl rfl ?_
    | refine noU rfl rfl rfl rfl rfl rfl ?_
    | refine go_block ?_
  refine op rfl rfl rfl rfl (as3 rfl (by omega) (by omega) rfl ?_)
  rw [ea]
  refine op rfl rfl rfl rfl (as1 rfl rfl ?_)
  refine opl (i := ti152) rfl rfl rfl rfl rfl rfl rfl rfl hl ⟨((⟨p, len, cap⟩) : Sl), rfl⟩ ?_
  repeat' first
    | refine go rfl ?_
    | refine ifT rfl ?_
    | refine ifF rfl ?_
    | refine doT rfl rfl rfl rfl rfl (as0 rfl ?_)
    | refine doF rfl rfl rfl rfl rfl (as0 rfl ?_)
    | refine noT rfl rfl rfl rfl rfl ?_
    | refine noF rfl rfl rfl rfl rfl ?_
    | refine noU rfl rfl rfl rfl rfl rfl ?_
    | refine go_block ?_
  cases h1 : decide (((len : Nat) : Int) = 0)
  · have h0 : len ≠ 0 := by
      have := of_decide_eq_false h1
      omega
    repeat' first
      | refine go rfl ?_
      | refine ifT rfl ?_
      | refine ifF rfl ?_
      | refine doT rfl rfl rfl rfl rfl (as0 rfl ?_)
      | refine doF rfl rfl rfl rfl rfl (as0 rfl ?_)
      | refine noT rfl rfl rfl rfl rfl ?_
      | refine noF rfl rfl rfl rfl rfl ?_
      | refine noU rfl rfl rfl rfl rfl rfl ?_
      | refine go_block ?_
    refine op rfl rfl rfl rfl (as1 rfl rfl ?_)
    refine op rfl rfl rfl rfl (as1 rfl rfl ?_)
    refine opl (i := ti155) rfl rfl rfl rfl rfl rfl rfl rfl hm1 ⟨(some rb : Option Nat), rfl⟩ ?_
    repeat' first
      | refine go rfl ?_
      | refine ifT rfl ?_
      | refine ifF rfl ?_
      | refine doT rfl rfl rfl rfl rfl (as0 rfl ?_)
      | refine doF rfl rfl rfl rfl rfl (as0 rfl ?_)
      | refine noT rfl rfl rfl rfl rfl ?_
      | refine noF rfl rfl rfl rfl rfl ?_
      | refine noU rfl rfl rfl rfl rfl rfl ?_
      | refine go_block ?_
    refine opn rfl rfl rfl (as_mapUpd rfl rfl rfl rfl rfl rfl rfl rfl ?_)
    have := hupd h0
    obtain ⟨r, g, es, clock, u1, u2, u3, u4⟩ := this
    refine ⟨r, g, es, clock, u1, u2, u3, ?_⟩
    rcases u4 with ⟨j, v, u5, u6, u7⟩ | ⟨u5, u6⟩
    · refine .inl ⟨j, v, u5, u6, ?_⟩
      repeat' first
        | refine go rfl ?_
        | refine ifT rfl ?_
        | refine ifF rfl ?_
        | refine doT rfl rfl rfl rfl rfl (as0 rfl ?_)
        | refine doF rfl rfl rfl rfl rfl (as0 rfl ?_)
        | refine noT rfl rfl rfl rfl rfl ?_
        | refine noF rfl rfl rfl rfl rfl ?_
        | refine noU rfl rfl rfl rfl rfl rfl ?_
        | refine go_block ?_
      refine go_end rfl ?_
      exact u7
    · refine .inr ⟨u5, ?_⟩
      repeat' first
        | refine go rfl ?_
        | refine ifT rfl ?_
        | refine ifF rfl ?_
        | refine doT rfl rfl rfl rfl rfl (as0 rfl ?_)
        | refine doF rfl rfl rfl rfl rfl (as0 rfl ?_)
        | refine noT rfl rfl rfl rfl rfl ?_
        | refine noF rfl rfl rfl rfl rfl ?_
        | refine noU rfl rfl rfl rfl rfl rfl ?_
        | refine go_block ?_
      refine go_end rfl ?_
      exact u6
  · have h0 : len = 0 := by
      have := of_decide_eq_true h1
      omega
    repeat' first
      | refine go rfl ?_
      | refine ifT rfl ?_
      | refine ifF rfl ?_
      | refine doT rfl rfl rfl rfl rfl (as0 rfl ?_)
      | refine doF rfl rfl rfl rfl rfl (as0 rfl ?_)
      | refine noT rfl rfl rfl rfl rfl ?_
      | refine noF rfl rfl rfl rfl rfl ?_
      | refine noU rfl rfl rfl rfl rfl rfl ?_
      | refine go_block ?_
    refine op rfl rfl rfl rfl (as1 rfl rfl ?_)
    refine op rfl rfl rfl rfl (as1 rfl rfl ?_)
    refine opl (i := ti155) rfl rfl rfl rfl rfl rfl rfl rfl hm1 ⟨(some rb : Option Nat), rfl⟩ ?_
    repeat' first
      | refine go rfl ?_
      | refine ifT rfl ?_
      | refine ifF rfl ?_
      | refine doT rfl rfl rfl rfl rfl (as0 rfl ?_)
      | refine doF rfl rfl rfl rfl rfl (as0 rfl ?_)
      | refine noT rfl rfl rfl rfl rfl ?_
      | refine noF rfl rfl rfl rfl rfl ?_
      | refine noU rfl rfl rfl rfl rfl rfl ?_
      | refine go_block ?_
    refine opn rfl rfl rfl (as_del rfl rfl rfl rfl rfl rfl rfl rfl ?_)
    have := hdel h0
    obtain ⟨r, g, es, clock, u1, u2, u3, u4⟩ := this
    refine ⟨r, g, es, clock, u1, u2, u3, ?_⟩
    rcases u4 with ⟨j, v, u5, u7⟩ | ⟨u5, u6⟩
    · refine .inl ⟨j, v, u5, ?_⟩
      repeat' first
        | refine go rfl ?_
        | refine ifT rfl ?_
        | refine ifF rfl ?_
        | refine doT rfl rfl rfl rfl rfl (as0 rfl ?_)
        | refine doF rfl rfl rfl rfl rfl (as0 rfl ?_)
        | refine noT rfl rfl rfl rfl rfl ?_
        | refine noF rfl rfl rfl rfl rfl ?_
        | refine noU rfl rfl rfl rfl rfl rfl ?_
        | refine go_block ?_
      refine go_end rfl ?_
      exact u7
    · refine .inr ⟨u5, ?_⟩
      repeat' first
        | refine go rfl ?_
        | refine ifT rfl ?_
        | refine ifF rfl ?_
        | refine doT rfl rfl rfl rfl rfl (as0 rfl ?_)
        | refine doF rfl rfl rfl rfl rfl (as0 rfl ?_)
        | refine noT rfl rfl rfl rfl rfl ?_
        | refine noF rfl rfl rfl rfl rfl ?_
        | refine noU rfl rfl rfl rfl rfl rfl ?_
        | refine go_block ?_
      refine go_end rfl ?_
      exact u6

end Go.Eng

/- Contracts: the first pending stores of a line made durable. Conditions: in each. -/
namespace Go.Eng
open Go Go.Proofs

set_option maxRecDepth 10000

theorem lset_app : ∀ (X C : List Value) (o : Nat) (vs : List Value), o + vs.length ≤ X.length → lset (X ++ C) o vs = lset X o vs ++ C
  | [], C, 0, [], _ => by cases C <;> simp [lset]
  | [], C, 0, v :: vs, h => by simp at h
  | [], C, o + 1, vs, h => by simp at h
  | _ :: X, C, 0, [], _ => by simp [lset]
  | x :: X, C, 0, v :: vs, h => by
    simp only [List.cons_append, lset]
    rw [lset_app X C 0 vs (by simp at h ⊢; omega)]
  | x :: X, C, o + 1, vs, h => by
    simp only [List.cons_append, lset]
    rw [lset_app X C o vs (by simp at h ⊢; omega)]

theorem lset_mid : ∀ (A X C : List Value) (o : Nat) (vs : List Value), o + vs.length ≤ X.length → lset (A ++ X ++ C) (A.length + o) vs = A ++ lset X o vs ++ C
  | [], X, C, o, vs, h => by
    simp only [List.nil_append, List.length_nil, Nat.zero_add]
    exact lset_app X C o vs h
  | a :: A, X, C, o, vs, h => by
    have e : (a :: A).length + o = (A.length + o) + 1 := by simp; omega
    rw [e]
    simp only [List.cons_append, lset]
    rw [lset_mid A X C o vs h]

theorem get_mid (A X C : List Value) {o : Nat} (h : o < X.length) : (A ++ X ++ C)[A.length + o]? = X[o]? := by
  rw [List.append_assoc, List.getElem?_append_right (by omega), Nat.add_sub_cancel_left, List.getElem?_append_left h]

theorem seg_mid (A X C : List Value) {o n : Nat} (h : o + n ≤ X.length) : ((A ++ X ++ C).drop (A.length + o)).take n = (X.drop o).take n := by
  rw [List.append_assoc, List.drop_append, List.drop_eq_nil_of_le (by omega), Nat.add_sub_cancel_left, List.nil_append, List.drop_append_of_le_length (by omega), List.take_append_of_le_length (by simp; omega)]

theorem flat_split {ls : List MLine} (hw : ∀ L ∈ ls, L.w.length = 8) {i : Nat} {L : MLine} (hi : ls[i]? = some L) : ∃ A C : List Value, A.length = i * 11 ∧ ls.flatMap MLine.cells = A ++ L.cells ++ C ∧ ∀ L' : MLine, (ls.set i L').flatMap MLine.cells = A ++ L'.cells ++ C := by
  have hlt : i < ls.length := (List.getElem?_eq_some_iff.1 hi).1
  have hL : ls[i] = L := (List.getElem?_eq_some_iff.1 hi).2
  refine ⟨(ls.take i).flatMap MLine.cells, (ls.drop (i + 1)).flatMap MLine.cells, ?_, ?_, fun L' => ?_⟩
  · rw [lines_len (fun M hM => hw M (List.mem_of_mem_take hM)), List.length_take]
    omega
  · have e : ls = ls.take i ++ L :: ls.drop (i + 1) := by
      rw [← hL, List.getElem_cons_drop, List.take_append_drop]
    have e2 : ls.flatMap MLine.cells = (ls.take i ++ L :: ls.drop (i + 1)).flatMap MLine.cells := by rw [← e]
    rw [e2, List.flatMap_append, List.flatMap_cons, List.append_assoc]
  · rw [List.set_eq_take_append_cons_drop, if_pos hlt, List.flatMap_append, List.flatMap_cons, List.append_assoc]

theorem pcells_drop : ∀ (P : List (Int × Int)) (k : Nat), (pcells P).drop (k * 2) = pcells (P.drop k)
  | [], k => by simp [pcells]
  | x :: P, 0 => by simp
  | x :: P, k + 1 => by
    have e : (k + 1) * 2 = k * 2 + 1 + 1 := by omega
    rw [e]
    show ((Value.int .i64 x.1 :: Value.int .i64 x.2 :: pcells P)).drop (k * 2 + 1 + 1) = _
    simp only [List.drop_succ_cons]
    exact pcells_drop P k

theorem one_pcells : ∀ (P : List (Int × Int)), oneCells (pcells P)
  | [] => one_nil
  | x :: P => one_cons rfl (one_cons rfl (one_pcells P))

theorem showM_ok {W : List Int} (hW : OkL W) : ∀ {P : List (Int × Int)}, (∀ x ∈ P, okW x.2) → OkL (showM W P)
  | [], _ => hW
  | x :: P, h => by
    show OkL (showM (W.set x.1.toNat x.2) P)
    refine showM_ok ⟨by rw [List.length_set]; exact hW.len, fun y hy => ?_⟩ fun y hy => h y (List.mem_cons_of_mem _ hy)
    rcases List.mem_or_eq_of_mem_set hy with hy | rfl
    · exact hW.ok y hy
    · exact h x (List.mem_cons_self ..)

/-- The cells of a line. -/
def clM (W : List Int) (c : Int) (s : Sl) (m : Nat) : List Value := ints W ++ [.int .i64 c, .slice s.p s.len s.cap, .int .i64 m]

/-- The first pending stores of a line made durable; the rest in a slice. -/
def MLine.settle (L : MLine) (k : Nat) (s : Sl) : MLine := { w := showM L.w (L.p.take k), p := L.p.drop k, s := s, mark := L.mark - k }

theorem c152 {g : Nat} {σ : Heap} {rm : Nat} {ls : List MLine} {ev rl rb : Nat} {es : Array MapEntry} {clock : Nat} {B : List Nat} {i k : Nat} {L : MLine} {R : Value → Heap → Prop} (hG : Glob σ) (hX : MemX g σ rm ls ev rl rb es clock B) (hi : ls[i]? = some L) (hk : k ≤ L.p.length)
    (h0 : k = 0 → R (.tuple #[]) σ) (h : ∀ s σ' es' B', 0 < k → MemX g σ' rm (ls.set i (L.settle k s)) ev rl rb es' clock B' → Keep g σ σ' → (∀ e ∈ es'.toList, e ∈ es.toList) → (∀ e ∈ es.toList, e.key ≠ .int .i64 i → e ∈ es'.toList) → R (.tuple #[]) σ') :
    ACalls Tryz.prog 152 [.pointer (some ⟨rm, 0, none⟩), .int .i64 i, .int .i64 k] σ R := by
  obtain ⟨span, e, ecs, hst, hown, hev⟩ := hX.st
  have hMem := hX.mem
  have hw8 := hMem.w8
  have hlt : i < ls.length := (List.getElem?_eq_some_iff.1 hi).1
  have hm : σ.ldT ti147 (some ⟨rm, 0, none⟩) = some (.slice (some ⟨rl, 0, none⟩) ls.length ls.length) := ld1 (o := 0) hst rfl rfl
  have hLok := hX.line i L hi
  have hfew := hX.few
  obtain ⟨A, C, hA, hAC, hAC'⟩ := flat_split hw8 hi
  have ea : padd (some ⟨rl, 0, none⟩) ((i : Int).toNat * ti154.size) = some ⟨rl, i * 11, none⟩ := by
    rw [padd_some]
    simp [ti154]
  have hli := hX.li
  rw [hAC] at hli
  have hpl : L.s.len = L.p.length := by
    have h1 := hLok.own.1
    rw [pcells_length] at h1
    omega
  refine ACalls_fn fn152 rfl ?_
  repeat' first
    | refine go rfl ?_
    | refine ifT rfl ?_
    | refine ifF rfl ?_
    | refine doT rfl rfl rfl rfl rfl (as0 rfl ?_)
    | refine doF rfl rfl rfl rfl rfl (as0 rfl ?_)
    | refine noT rfl rfl rfl rfl rfl ?_
    | refine noF rfl rfl rfl rfl rfl ?_
    | refine noU rfl rfl rfl rfl rfl rfl ?_
    | refine go_block ?_
  refine op rfl rfl rfl rfl (as1 rfl rfl ?_)
  refine op rfl rfl rfl rfl (as1 rfl rfl ?_)
  refine opl (i := ti147) rfl rfl rfl rfl rfl rfl rfl rfl hm ⟨((⟨some ⟨rl, 0, none⟩, ls.length, ls.length⟩) : Sl), rfl⟩ ?_
  repeat' first
    | refine go rfl ?_
    | refine ifT rfl ?_
    | refine ifF rfl ?_
    | refine doT rfl rfl rfl rfl rfl (as0 rfl ?_)
    | refine doF rfl rfl rfl rfl rfl (as0 rfl ?_)
    | refine noT rfl rfl rfl rfl rfl ?_
    | refine noF rfl rfl rfl rfl rfl ?_
    | refine noU rfl rfl rfl rfl rfl rfl ?_
    | refine go_block ?_
  refine op rfl rfl rfl rfl (as3 rfl (by omega) (by omega) rfl ?_)
  rw [ea]
  repeat' first
    | refine go rfl ?_
    | refine ifT rfl ?_
    | refine ifF rfl ?_
    | refine doT rfl rfl rfl rfl rfl (as0 rfl ?_)
    | refine doF rfl rfl rfl rfl rfl (as0 rfl ?_)
    | refine noT rfl rfl rfl rfl rfl ?_
    | refine noF rfl rfl rfl rfl rfl ?_
    | refine noU rfl rfl rfl rfl rfl rfl ?_
    | refine go_block ?_
  cases hk0 : decide (((k : Nat) : Int) = 0)
  · have hk0' : 0 < k := by
      have := of_decide_eq_false hk0
      omega
    have hpne : L.p ≠ [] := by
      intro hh
      rw [hh] at hk
      simp at hk
      omega
    repeat' first
      | refine go rfl ?_
      | refine ifT rfl ?_
      | refine ifF rfl ?_
      | refine doT rfl rfl rfl rfl rfl (as0 rfl ?_)
      | refine doF rfl rfl rfl rfl rfl (as0 rfl ?_)
      | refine noT rfl rfl rfl rfl rfl ?_
      | refine noF rfl rfl rfl rfl rfl ?_
      | refine noU rfl rfl rfl rfl rfl rfl ?_
      | refine go_block ?_
    obtain ⟨l1, l2, l3, l4⟩ := (hMem.line hX.li hi).2
    obtain ⟨a, b, c, d, e', f, g', i', hW⟩ := eight hLok.ok.len
    have hW2 : OkL (showM L.w (L.p.take k)) := showM_ok hLok.ok fun x hx => (hLok.pend x (List.mem_of_mem_take hx)).2
    obtain ⟨a2, b2, c2, d2, e2, f2, g2, i2, hS⟩ := eight hW2.len
    refine opc rfl rfl rfl rfl rfl rfl rfl rfl rfl rfl (c125 (k := k) hG hLok.ok l1 l2 l3 hLok.own.row hk (by have := hLok.own.cap; omega) (by have := hLok.few; omega) (fun y hy => (hLok.pend y hy).1) (shK_mk (by rw [hS]; exact ⟨(((_ : Int), (_ : Int), (_ : Int), (_ : Int), (_ : Int), (_ : Int), (_ : Int), (_ : Int)), (_ : Int)), rfl⟩) ?_))
    rw [hS] at hW2 ⊢
    have hX0 : L.cells = ints [a, b, c, d, e', f, g', i'] ++ [.int .i64 (encM L.w), .slice L.s.p L.s.len L.s.cap, .int .i64 L.mark] := by
      unfold MLine.cells
      rw [hW]
    have hlen11 : L.cells.length = 11 := lineCells_length hLok.ok.len
    have n01 : rm ≠ rl := by
      rintro rfl
      rw [hst] at hli
      have := (AObj.cells.inj (Option.some.inj hli)).1
      exact tagM_ne (g := g) (x := 0) (y := 1) (by decide) this
    have n21 : rb ≠ rl := by
      rintro rfl
      rw [hX.bu] at hli
      cases hli
    repeat' first
      | refine go rfl ?_
      | refine ifT rfl ?_
      | refine ifF rfl ?_
      | refine doT rfl rfl rfl rfl rfl (as0 rfl ?_)
      | refine doF rfl rfl rfl rfl rfl (as0 rfl ?_)
      | refine noT rfl rfl rfl rfl rfl ?_
      | refine noF rfl rfl rfl rfl rfl ?_
      | refine noU rfl rfl rfl rfl rfl rfl ?_
      | refine go_block ?_
    refine op rfl rfl rfl rfl (as1 rfl rfl ?_)
    refine op rfl rfl rfl rfl (as1 rfl rfl ?_)
    refine op rfl rfl rfl rfl (as1 rfl rfl ?_)
    have st1 : lset (A ++ L.cells ++ C) (i * 11) (ints [a2, b2, c2, d2, e2, f2, g2, i2]) = A ++ clM [a2, b2, c2, d2, e2, f2, g2, i2] (encM L.w) L.s L.mark ++ C := by
      have := lset_mid A L.cells C 0 (ints [a2, b2, c2, d2, e2, f2, g2, i2]) (by rw [hlen11]; show 0 + 8 ≤ 11; decide)
      rw [Nat.add_zero, hA] at this
      rw [this, hX0]
      rfl
    have blen : (A ++ L.cells ++ C).length = ls.length * 11 := by rw [← hAC]; exact lines_len hw8
    have ble : ∀ {X : List Value} (o m : Nat), X.length = 11 → o + m ≤ 11 → Nat.ble (i * 11 + o + m) (A ++ X ++ C).length = true := fun {X} o m hx hom => by
      refine Nat.ble_eq_true_of_le ?_
      have : (A ++ X ++ C).length = ls.length * 11 := by
        rw [← blen]
        simp only [List.length_append, hx, hlen11]
      rw [this]
      omega
    refine opn rfl rfl rfl (as_store_at (r := rl) (off := i * 11) (A ++ clM [a2, b2, c2, d2, e2, f2, g2, i2] (encM L.w) L.s L.mark ++ C) rfl rfl rfl rfl rfl hli (tagM_ne0 ..) (ble 0 8 hlen11 (by decide)) rfl st1 ?_)
    repeat' first
      | refine go rfl ?_
      | refine ifT rfl ?_
      | refine ifF rfl ?_
      | refine doT rfl rfl rfl rfl rfl (as0 rfl ?_)
      | refine doF rfl rfl rfl rfl rfl (as0 rfl ?_)
      | refine noT rfl rfl rfl rfl rfl ?_
      | refine noF rfl rfl rfl rfl rfl ?_
      | refine noU rfl rfl rfl rfl rfl rfl ?_
      | refine go_block ?_
    refine op rfl rfl rfl rfl (as1 rfl rfl ?_)
    refine op rfl rfl rfl rfl (as1 rfl rfl ?_)
    refine op rfl rfl rfl rfl (as1 rfl rfl ?_)
    have sg1 : ((A ++ clM [a2, b2, c2, d2, e2, f2, g2, i2] (encM L.w) L.s L.mark ++ C).drop (i * 11)).take (ints [a2, b2, c2, d2, e2, f2, g2, i2]).length = ints [a2, b2, c2, d2, e2, f2, g2, i2] := by
      have := seg_mid A (clM [a2, b2, c2, d2, e2, f2, g2, i2] (encM L.w) L.s L.mark) C (o := 0) (n := (ints [a2, b2, c2, d2, e2, f2, g2, i2]).length) (Nat.le_of_ble_eq_true rfl)
      rw [Nat.add_zero, hA] at this
      rw [this]
      rfl
    refine opl (i := ti149) rfl rfl rfl rfl rfl rfl rfl rfl (ldn (o := i * 11) (l := ints [a2, b2, c2, d2, e2, f2, g2, i2]) (hit ..) rfl rfl sg1) ⟨((_ : Int), (_ : Int), (_ : Int), (_ : Int), (_ : Int), (_ : Int), (_ : Int), (_ : Int)), rfl⟩ ?_
    have f1 : ∀ X r o, σ r = some o → o.tag ≠ tagM g 1 → (σ.ins rl X) r = some o := fun X r o hr ht => by
      refine miss ?_ hr
      rintro rfl
      rw [hX.li] at hr
      cases hr
      exact ht rfl
    have K1 : ∀ X : List Value, Keep g σ (σ.ins rl (.cells (tagM g 1) X 154 (ls.length * 11))) := fun X r o hr ht => f1 _ _ _ hr (fun h => ht (by rw [h]; exact tag_of (by omega)))
    refine opc rfl rfl rfl rfl rfl rfl rfl rfl rfl rfl (c75 ((K1 _).glob hG) hW2 (shK_mk ⟨_, rfl⟩ ?_))
    repeat' first
      | refine go rfl ?_
      | refine ifT rfl ?_
      | refine ifF rfl ?_
      | refine doT rfl rfl rfl rfl rfl (as0 rfl ?_)
      | refine doF rfl rfl rfl rfl rfl (as0 rfl ?_)
      | refine noT rfl rfl rfl rfl rfl ?_
      | refine noF rfl rfl rfl rfl rfl ?_
      | refine noU rfl rfl rfl rfl rfl rfl ?_
      | refine go_block ?_
    refine op rfl rfl rfl rfl (as1 rfl rfl ?_)
    refine op rfl rfl rfl rfl (as1 rfl rfl ?_)
    refine op rfl rfl rfl rfl (as1 rfl rfl ?_)
    have st2 : lset (A ++ clM [a2, b2, c2, d2, e2, f2, g2, i2] (encM L.w) L.s L.mark ++ C) (i * 11 + 8) [.int .i64 (encM [a2, b2, c2, d2, e2, f2, g2, i2])] =
        A ++ clM [a2, b2, c2, d2, e2, f2, g2, i2] (encM [a2, b2, c2, d2, e2, f2, g2, i2]) L.s L.mark ++ C := by
      rw [← hA, lset_mid A _ C 8 _ (Nat.le_of_ble_eq_true rfl)]
      rfl
    refine opn rfl rfl rfl (as_store_at (r := rl) (off := i * 11 + 8) (A ++ clM [a2, b2, c2, d2, e2, f2, g2, i2] (encM [a2, b2, c2, d2, e2, f2, g2, i2]) L.s L.mark ++ C) rfl rfl rfl rfl rfl (hit ..) (tagM_ne0 ..) (ble 8 1 rfl (by decide)) rfl st2 ?_)
    rw [ins_ins]
    repeat' first
      | refine go rfl ?_
      | refine ifT rfl ?_
      | refine ifF rfl ?_
      | refine doT rfl rfl rfl rfl rfl (as0 rfl ?_)
      | refine doF rfl rfl rfl rfl rfl (as0 rfl ?_)
      | refine noT rfl rfl rfl rfl rfl ?_
      | refine noF rfl rfl rfl rfl rfl ?_
      | refine noU rfl rfl rfl rfl rfl rfl ?_
      | refine go_block ?_
    refine op rfl rfl rfl rfl (as1 rfl rfl ?_)
    refine op rfl rfl rfl rfl (as1 rfl rfl ?_)
    have g9 : (A ++ clM [a2, b2, c2, d2, e2, f2, g2, i2] (encM [a2, b2, c2, d2, e2, f2, g2, i2]) L.s L.mark ++ C)[i * 11 + 9]? = some (.slice L.s.p L.s.len L.s.cap) := by
      rw [← hA, get_mid A _ C (by show _ < 11; decide)]
      rfl
    refine opl (i := ti152) rfl rfl rfl rfl rfl rfl rfl rfl (ld1 (o := i * 11 + 9) (hit ..) rfl g9) ⟨(L.s : Sl), rfl⟩ ?_
    repeat' first
      | refine go rfl ?_
      | refine ifT rfl ?_
      | refine ifF rfl ?_
      | refine doT rfl rfl rfl rfl rfl (as0 rfl ?_)
      | refine doF rfl rfl rfl rfl rfl (as0 rfl ?_)
      | refine noT rfl rfl rfl rfl rfl ?_
      | refine noF rfl rfl rfl rfl rfl ?_
      | refine noU rfl rfl rfl rfl rfl rfl ?_
      | refine go_block ?_
    refine op rfl rfl rfl rfl (as2 rfl (by omega) (by omega) ?_)
    have own1 := hLok.own.frame (σ' := σ.ins rl (.cells (tagM g 1) (A ++ clM [a2, b2, c2, d2, e2, f2, g2, i2] (encM [a2, b2, c2, d2, e2, f2, g2, i2]) L.s L.mark ++ C) 154 (ls.length * 11))) (fun r o hr ht => f1 _ _ _ hr (by rw [ht]; exact tagM_ne (by omega)))
    have hrow : (σ.ins rl (.cells (tagM g 1) (A ++ clM [a2, b2, c2, d2, e2, f2, g2, i2] (encM [a2, b2, c2, d2, e2, f2, g2, i2]) L.s L.mark ++ C) 154 (ls.length * 11))).row (slp L.s.p ((k : Int).toNat) L.s.cap ti244.size) ((L.s.len - (k : Int).toNat) * 2) (pcells (L.p.drop k)) := by
      have hkn : ((k : Int)).toNat = k := by omega
      rw [hkn]
      obtain ⟨o0, ⟨o1, o2, o3⟩ | ⟨r, o1, o2, o3⟩⟩ := own1
      · omega
      · have hl2 : (pcells (L.p.drop k)).length = (L.s.len - k) * 2 := by
          rw [pcells_length, List.length_drop, hpl]
        unfold slp
        by_cases hc : L.s.cap = k
        · rw [if_pos hc]
          have hz : L.s.len - k = 0 := by omega
          have hd : L.p.drop k = [] := by
            rw [List.drop_eq_nil_iff]
            omega
          rw [hz, hd, o1]
          rfl
        · rw [if_neg hc, o1, padd_some]
          show Heap.rds _ r (0 + k * 2) ((L.s.len - k) * 2) = some _
          rw [← hl2, Nat.zero_add]
          refine rds_at o3 ?_
          rw [pcells_drop, List.take_length]
    refine opc rfl rfl rfl rfl rfl rfl rfl rfl rfl rfl (c166 (t := tagM g (4 + i)) (tagM_pos _ _) hrow (one_pcells _) (by have := hLok.few; omega) fun s' σ3 own3 hlen3 E3 => shK_mk ⟨(s' : Sl), rfl⟩ ?_)
    repeat' first
      | refine go rfl ?_
      | refine ifT rfl ?_
      | refine ifF rfl ?_
      | refine doT rfl rfl rfl rfl rfl (as0 rfl ?_)
      | refine doF rfl rfl rfl rfl rfl (as0 rfl ?_)
      | refine noT rfl rfl rfl rfl rfl ?_
      | refine noF rfl rfl rfl rfl rfl ?_
      | refine noU rfl rfl rfl rfl rfl rfl ?_
      | refine go_block ?_
    refine op rfl rfl rfl rfl (as1 rfl rfl ?_)
    refine op rfl rfl rfl rfl (as1 rfl rfl ?_)
    have hb3 := E3 _ _ (hit σ rl (.cells (tagM g 1) (A ++ clM [a2, b2, c2, d2, e2, f2, g2, i2] (encM [a2, b2, c2, d2, e2, f2, g2, i2]) L.s L.mark ++ C) 154 (ls.length * 11)))
    have st3 : lset (A ++ clM [a2, b2, c2, d2, e2, f2, g2, i2] (encM [a2, b2, c2, d2, e2, f2, g2, i2]) L.s L.mark ++ C) (i * 11 + 9) [.slice s'.p s'.len s'.cap] =
        A ++ clM [a2, b2, c2, d2, e2, f2, g2, i2] (encM [a2, b2, c2, d2, e2, f2, g2, i2]) s' L.mark ++ C := by
      rw [← hA, lset_mid A _ C 9 _ (Nat.le_of_ble_eq_true rfl)]
      rfl
    refine opn rfl rfl rfl (as_store_at (r := rl) (off := i * 11 + 9) (A ++ clM [a2, b2, c2, d2, e2, f2, g2, i2] (encM [a2, b2, c2, d2, e2, f2, g2, i2]) s' L.mark ++ C) rfl rfl rfl rfl rfl hb3 (tagM_ne0 ..) (ble 9 1 rfl (by decide)) rfl st3 ?_)
    repeat' first
      | refine go rfl ?_
      | refine ifT rfl ?_
      | refine ifF rfl ?_
      | refine doT rfl rfl rfl rfl rfl (as0 rfl ?_)
      | refine doF rfl rfl rfl rfl rfl (as0 rfl ?_)
      | refine noT rfl rfl rfl rfl rfl ?_
      | refine noF rfl rfl rfl rfl rfl ?_
      | refine noU rfl rfl rfl rfl rfl rfl ?_
      | refine go_block ?_
    refine op rfl rfl rfl rfl (as1 rfl rfl ?_)
    refine op rfl rfl rfl rfl (as1 rfl rfl ?_)
    have g10 : (A ++ clM [a2, b2, c2, d2, e2, f2, g2, i2] (encM [a2, b2, c2, d2, e2, f2, g2, i2]) s' L.mark ++ C)[i * 11 + 10]? = some (.int .i64 L.mark) := by
      rw [← hA, get_mid A _ C (by show _ < 11; decide)]
      rfl
    refine opl (i := ti3) rfl rfl rfl rfl rfl rfl rfl rfl (ld1 (o := i * 11 + 10) (hit ..) rfl g10) ⟨((L.mark : Nat) : Int), rfl⟩ ?_
    repeat' first
      | refine go rfl ?_
      | refine ifT rfl ?_
      | refine ifF rfl ?_
      | refine doT rfl rfl rfl rfl rfl (as0 rfl ?_)
      | refine doF rfl rfl rfl rfl rfl (as0 rfl ?_)
      | refine noT rfl rfl rfl rfl rfl ?_
      | refine noF rfl rfl rfl rfl rfl ?_
      | refine noU rfl rfl rfl rfl rfl rfl ?_
      | refine go_block ?_
    have hmk := hLok.mark
    have hfw := hLok.few
    have emax : (if (0 : Int) < IntKind.wrap .i64 ((L.mark : Int) - (k : Int)) then IntKind.wrap .i64 ((L.mark : Int) - (k : Int)) else 0) = ((L.mark - k : Nat) : Int) := by
      rw [wrap_i64 (by omega) (by omega)]
      split <;> omega
    refine op rfl rfl rfl rfl (as1 rfl rfl ?_)
    refine op rfl rfl rfl rfl (as1 rfl rfl ?_)
    have st4 : lset (A ++ clM [a2, b2, c2, d2, e2, f2, g2, i2] (encM [a2, b2, c2, d2, e2, f2, g2, i2]) s' L.mark ++ C) (i * 11 + 10) [.int .i64 (if (0 : Int) < IntKind.wrap .i64 ((L.mark : Int) - (k : Int)) then IntKind.wrap .i64 ((L.mark : Int) - (k : Int)) else 0)] =
        (ls.set i (L.settle k s')).flatMap MLine.cells := by
      rw [hAC', ← hA, lset_mid A _ C 10 _ (Nat.le_of_ble_eq_true rfl), emax]
      unfold MLine.settle MLine.cells
      dsimp only
      rw [hS]
      rfl
    refine opn rfl rfl rfl (as_store_at (r := rl) (off := i * 11 + 10) ((ls.set i (L.settle k s')).flatMap MLine.cells) rfl rfl rfl rfl rfl (hit ..) (tagM_ne0 ..) (ble 10 1 rfl (by decide)) rfl st4 ?_)
    rw [ins_ins]
    have f3 : ∀ X r o, σ r = some o → o.tag ≠ tagM g 1 → (σ3.ins rl X) r = some o := fun X r o hr ht => by
      refine miss ?_ (E3 _ _ (f1 _ _ _ hr ht))
      rintro rfl
      rw [hX.li] at hr
      cases hr
      exact ht rfl
    repeat' first
      | refine go rfl ?_
      | refine ifT rfl ?_
      | refine ifF rfl ?_
      | refine doT rfl rfl rfl rfl rfl (as0 rfl ?_)
      | refine doF rfl rfl rfl rfl rfl (as0 rfl ?_)
      | refine noT rfl rfl rfl rfl rfl ?_
      | refine noF rfl rfl rfl rfl rfl ?_
      | refine noU rfl rfl rfl rfl rfl rfl ?_
      | refine go_block ?_
    have hset_get : ∀ j M, (ls.set i (L.settle k s'))[j]? = some M → (j = i ∧ M = L.settle k s') ∨ (j ≠ i ∧ ls[j]? = some M) := fun j M hj => by
      rw [set_get hi] at hj
      by_cases hji : j = i
      · rw [if_pos hji] at hj
        cases hj
        exact .inl ⟨hji, rfl⟩
      · rw [if_neg hji] at hj
        exact .inr ⟨hji, hj⟩
    have hlines : ∀ (Y : Heap), (∀ r o, (σ3.ins rl (.cells (tagM g 1) ((ls.set i (L.settle k s')).flatMap MLine.cells) 154 (ls.length * 11))) r = some o → o.tag ≠ tagM g 2 → Y r = some o) → ∀ (j : Nat) (M : MLine), (ls.set i (L.settle k s'))[j]? = some M → LineOK Y (tagM g (4 + j)) M := fun Y hY j M hj => by
      rcases hset_get j M hj with ⟨rfl, rfl⟩ | ⟨hji, hM⟩
      · refine ⟨by show OkL (showM L.w (L.p.take k)); rw [hS]; exact hW2, fun x hx => hLok.pend x (List.mem_of_mem_drop hx), ?_, by show (L.p.drop k).length ≤ _; rw [List.length_drop]; omega, by show L.mark - k ≤ (L.p.drop k).length; rw [List.length_drop]; omega⟩
        refine own3.frame fun r o hr ht => hY _ _ (miss ?_ hr) (by rw [ht]; exact tagM_ne (by omega))
        rintro rfl
        rw [hb3] at hr
        cases hr
        exact tagM_ne (g := g) (x := 1) (y := 4 + j) (by omega) ht
      · have hj4 : j < 4096 := by
          have := (List.getElem?_eq_some_iff.1 hM).1
          omega
        exact (hX.line j M hM).frame fun r o hr ht => hY _ _ (f3 _ _ _ hr (by rw [ht]; exact tagM_ne (by omega))) (by rw [ht]; exact tagM_ne (by omega))
    have hK : ∀ (Y : Heap), (∀ r o, (σ3.ins rl (.cells (tagM g 1) ((ls.set i (L.settle k s')).flatMap MLine.cells) 154 (ls.length * 11))) r = some o → o.tag ≠ tagM g 2 → Y r = some o) → Keep g σ Y := fun Y hY r o hr ht =>
      hY _ _ (f3 _ _ _ hr (fun h => ht (by rw [h]; exact tag_of (by decide)))) (fun h => ht (by rw [h]; exact tag_of (by decide)))
    have lenset : (ls.set i (L.settle k s')).length = ls.length := List.length_set ..
    have fin : ∀ (Y : Heap) es' B', (∀ r o, (σ3.ins rl (.cells (tagM g 1) ((ls.set i (L.settle k s')).flatMap MLine.cells) 154 (ls.length * 11))) r = some o → o.tag ≠ tagM g 2 → Y r = some o) → Y rb = some (.other (tagM g 2) (.map es' clock)) → BusyOK es' clock (ls.set i (L.settle k s')) B' →
        MemX g Y rm (ls.set i (L.settle k s')) ev rl rb es' clock B' := fun Y es' B' hY hb hB => by
      refine ⟨⟨span, e, ecs, ?_, hown.frame fun r o hr ht => hY _ _ (f3 _ _ _ hr (by rw [ht]; exact tagM_ne (by decide))) (by rw [ht]; exact tagM_ne (by decide)), hev⟩, ?_, hb, hB, hlines Y hY, by rw [lenset]; exact hfew⟩
      · rw [lenset]
        exact hY _ _ (f3 _ _ _ hst (tagM_ne (by decide))) (tagM_ne (by decide))
      · rw [lenset]
        exact hY _ _ (hit ..) (tagM_ne (by decide))
    have hb5 := f3 (.cells (tagM g 1) ((ls.set i (L.settle k s')).flatMap MLine.cells) 154 (ls.length * 11)) _ _ hX.bu (tagM_ne (by decide))
    have hst5 := f3 (.cells (tagM g 1) ((ls.set i (L.settle k s')).flatMap MLine.cells) 154 (ls.length * 11)) _ _ hst (tagM_ne (by decide))
    have g95 : ((ls.set i (L.settle k s')).flatMap MLine.cells)[i * 11 + 9]? = some (.slice s'.p s'.len s'.cap) := by
      rw [hAC', ← hA, get_mid A _ C (by rw [lineCells_length (by show (showM L.w (L.p.take k)).length = 8; rw [hS]; rfl)]; decide)]
      unfold MLine.settle MLine.cells
      dsimp only
      rw [hS]
      rfl
    have hs'l : s'.len = (L.p.drop k).length := by
      have := own3.1
      rw [pcells_length] at this
      omega
    refine opc rfl rfl rfl rfl rfl rfl rfl rfl rfl rfl (c167 (n := ls.length) (i := i) (ld1 (o := 0) hst5 rfl rfl) (ld1 (o := 1) hst5 rfl rfl) (ld1 (o := i * 11 + 9) (hit ..) rfl g95) hlt (fun hz => ?_) (fun hz => ?_))
    · have hdz : (L.settle k s').p = [] := by
        show L.p.drop k = []
        exact List.eq_nil_of_length_eq_zero (by omega)
      refine busy_del hX.busy hb5 (tagM_pos _ _) hi hdz hpne fun es' B' hB hsub hsup => shK_mk ⟨(), rfl⟩ ?_
      repeat' first
        | refine go rfl ?_
        | refine ifT rfl ?_
        | refine ifF rfl ?_
        | refine doT rfl rfl rfl rfl rfl (as0 rfl ?_)
        | refine doF rfl rfl rfl rfl rfl (as0 rfl ?_)
        | refine noT rfl rfl rfl rfl rfl ?_
        | refine noF rfl rfl rfl rfl rfl ?_
        | refine noU rfl rfl rfl rfl rfl rfl ?_
        | refine go_block ?_
      refine go_end rfl ?_
      have hY : ∀ r o, (σ3.ins rl (.cells (tagM g 1) ((ls.set i (L.settle k s')).flatMap MLine.cells) 154 (ls.length * 11))) r = some o → o.tag ≠ tagM g 2 → ((σ3.ins rl (.cells (tagM g 1) ((ls.set i (L.settle k s')).flatMap MLine.cells) 154 (ls.length * 11))).ins rb (.other (tagM g 2) (.map es' clock))) r = some o := fun r o hr ht => by
        refine miss ?_ hr
        rintro rfl
        rw [hb5] at hr
        cases hr
        exact ht rfl
      exact h s' _ es' B' hk0' (fin _ es' B' hY (hit ..) hB) (hK _ hY) hsub hsup
    · refine busy_keep hX.busy hb5 (tagM_pos _ _) hi hpne (shK_mk ⟨(), rfl⟩ ?_)
      repeat' first
        | refine go rfl ?_
        | refine ifT rfl ?_
        | refine ifF rfl ?_
        | refine doT rfl rfl rfl rfl rfl (as0 rfl ?_)
        | refine doF rfl rfl rfl rfl rfl (as0 rfl ?_)
        | refine noT rfl rfl rfl rfl rfl ?_
        | refine noF rfl rfl rfl rfl rfl ?_
        | refine noU rfl rfl rfl rfl rfl rfl ?_
        | refine go_block ?_
      refine go_end rfl ?_
      have hY : ∀ r o, (σ3.ins rl (.cells (tagM g 1) ((ls.set i (L.settle k s')).flatMap MLine.cells) 154 (ls.length * 11))) r = some o → o.tag ≠ tagM g 2 → (σ3.ins rl (.cells (tagM g 1) ((ls.set i (L.settle k s')).flatMap MLine.cells) 154 (ls.length * 11))) r = some o := fun r o hr _ => hr
      have hiff : (L.settle k s').p = [] ↔ L.p = [] := by
        constructor
        · intro hh
          exact absurd (show s'.len = 0 by rw [hs'l]; exact congrArg List.length hh) hz
        · intro hh
          exact absurd hh hpne
      exact h s' _ es B hk0' (fin _ es B hY hb5 (busy_same hX.busy hi hiff)) (hK _ hY) (fun _ h => h) (fun _ h _ => h)
  · repeat' first
      | refine go rfl ?_
      | refine ifT rfl ?_
      | refine ifF rfl ?_
      | refine doT rfl rfl rfl rfl rfl (as0 rfl ?_)
      | refine doF rfl rfl rfl rfl rfl (as0 rfl ?_)
      | refine noT rfl rfl rfl rfl rfl ?_
      | refine noF rfl rfl rfl rfl rfl ?_
      | refine noU rfl rfl rfl rfl rfl rfl ?_
      | refine go_block ?_
    refine go_ret rfl ?_
    have := of_decide_eq_true hk0
    exact h0 (by omega)

end Go.Eng
