/- Contracts: a fence. Conditions: in each. -/
import Derived.Test.YtihpnhkhgobblaaGreatDoorCh
import Derived.Test.YtihpnhkhgobblaaGreatDoorXV12
namespace Go.Eng
open Go Go.Proofs

set_option maxRecDepth 10000

section
variable {P : Program} {T : TT} {e : Env} {o : Oper} {σ : Heap} {k : Value → Heap → Prop}
theorem as_range {t kt et : TypeId} {x : Operand} {i : TI} {rb g : Nat} {es : Array MapEntry} {clock : Nat} (ho : o.op = .range t x) (hi : T t = some i) (hx : e.eval x = some (.map (some rb))) (hk : i.k = .map kt et)
    (hb : σ rb = some (.other g (.map es clock))) (hg : g ≠ 0) (h : ∀ r, σ r = none → k (.pointer (some ⟨r, 0, none⟩)) (σ.ins r (.other 1 (.mapIter (some rb) clock #[] clock)))) : astep P T e o σ k := by
  unfold astep
  rw [ho]
  simp only [hi, hx, hk]
  exact ⟨rb, g, es, clock, rfl, hb, hg, 1, h⟩
theorem as_next {x : Operand} {p : Option Addr} (ho : o.op = .next x false) (hx : e.eval x = some (.pointer p)) (h : anext p σ k) : astep P T e o σ k := by
  unfold astep
  rw [ho]
  simp only [hx]
  exact h
theorem as_entry {x : Operand} {p : Option Addr} (ho : o.op = .entry x) (hx : e.eval x = some (.pointer p)) (h : aentry .any .any p σ k) : astep P T e o σ k := by
  unfold astep
  rw [ho]
  simp only [hx]
  exact h
end

theorem inj_of_nodup {α β : Type} {f : α → β} : ∀ {l : List α} {a b : α}, (l.map f).Nodup → a ∈ l → b ∈ l → f a = f b → a = b
  | [], _, _, _, h, _, _ => by cases h
  | x :: l, a, b, hn, ha, hb, hab => by
    rw [List.map_cons, List.nodup_cons] at hn
    rcases List.mem_cons.1 ha with ha1 | ha1
    · rcases List.mem_cons.1 hb with hb1 | hb1
      · rw [ha1, hb1]
      · refine absurd (List.mem_map.2 ⟨b, hb1, ?_⟩) hn.1
        rw [← hab, ha1]
    · rcases List.mem_cons.1 hb with hb1 | hb1
      · refine absurd (List.mem_map.2 ⟨a, ha1, ?_⟩) hn.1
        rw [hab, hb1]
      · exact inj_of_nodup hn.2 ha1 hb1 hab

theorem find_stamp : ∀ {l : List MapEntry} {e : MapEntry}, (l.map (·.born)).Nodup → e ∈ l → l.find? (·.born == e.born) = some e
  | [], _, _, h => by cases h
  | x :: l, e, hn, h => by
    rw [List.find?_cons]
    by_cases hx : x.born = e.born
    · have : (x.born == e.born) = true := by simp [hx]
      rw [this]
      rw [inj_of_nodup hn (List.mem_cons_self ..) h hx]
    · have : (x.born == e.born) = false := by simp [hx]
      rw [this]
      rw [List.map_cons, List.nodup_cons] at hn
      refine find_stamp hn.2 ?_
      rcases List.mem_cons.1 h with rfl | h
      · exact absurd rfl hx
      · exact h

theorem filter_lt {α : Type} {p q : α → Bool} : ∀ {l : List α} {a : α}, (∀ x, q x = true → p x = true) → a ∈ l → p a = true → q a = false → (l.filter q).length < (l.filter p).length
  | [], _, _, h, _, _ => by cases h
  | x :: l, a, hpq, h, hp, hq => by
    have le : ∀ m : List α, (m.filter q).length ≤ (m.filter p).length := fun m => by
      induction m with
      | nil => simp
      | cons y m ih =>
        simp only [List.filter_cons]
        by_cases hy : q y = true
        · rw [if_pos hy, if_pos (hpq y hy)]
          simp [ih]
        · rw [if_neg hy]
          split
          · simp; omega
          · exact ih
    simp only [List.filter_cons]
    rcases List.mem_cons.1 h with rfl | h
    · rw [if_neg (by rw [hq]; decide), if_pos hp]
      have := le l
      simp
      omega
    · have ih := filter_lt hpq h hp hq
      by_cases hx : q x = true
      · rw [if_pos hx, if_pos (hpq x hx)]
        simp [ih]
      · rw [if_neg hx]
        split
        · simp; omega
        · exact ih

theorem busy_key {es : Array MapEntry} {clock : Nat} {ls : List MLine} {B : List Nat} (h : BusyOK es clock ls B) {e : MapEntry} (he : e ∈ es.toList) : ∃ i ∈ B, e.key = .int .i64 (i : Int) := by
  have h1 : (e.key, e.val) ∈ es.toList.map fun e => (e.key, e.val) := List.mem_map.2 ⟨e, he, rfl⟩
  rw [h.ents] at h1
  obtain ⟨i, hi, hie⟩ := List.mem_map.1 h1
  exact ⟨i, hi, (Prod.mk.inj hie).1.symm⟩

theorem busy_ent {es : Array MapEntry} {clock : Nat} {ls : List MLine} {B : List Nat} (h : BusyOK es clock ls B) {i : Nat} (hi : i ∈ B) : ∃ e ∈ es.toList, e.key = .int .i64 (i : Int) := by
  have h1 : ((.int .i64 (i : Int), .bool true) : Value × Value) ∈ B.map fun i => (.int .i64 (i : Int), .bool true) := List.mem_map.2 ⟨i, hi, rfl⟩
  rw [← h.ents] at h1
  obtain ⟨e, he, hee⟩ := List.mem_map.1 h1
  exact ⟨e, he, (Prod.mk.inj hee).1⟩

theorem int_inj {i j : Nat} (h : (Value.int .i64 (i : Int)) = .int .i64 (j : Int)) : i = j := by
  simp only [Value.int.injEq, true_and] at h
  omega

theorem busy_keys {es : Array MapEntry} {clock : Nat} {ls : List MLine} {B : List Nat} (h : BusyOK es clock ls B) : (es.toList.map (·.key)).Nodup := by
  have e1 : es.toList.map (·.key) = (es.toList.map fun e => (e.key, e.val)).map (·.1) := by rw [List.map_map]; rfl
  rw [e1, h.ents, List.map_map]
  have : ∀ B : List Nat, B.Nodup → (B.map ((fun p : Value × Value => p.1) ∘ fun i : Nat => (.int .i64 (i : Int), .bool true))).Nodup := fun B hB => by
    induction B with
    | nil => simp
    | cons x B ih =>
      rw [List.nodup_cons] at hB
      rw [List.map_cons, List.nodup_cons]
      refine ⟨fun hm => ?_, ih hB.2⟩
      obtain ⟨y, hy, hxy⟩ := List.mem_map.1 hm
      exact hB.1 (int_inj hxy ▸ hy)
  exact this B h.nodup

def seenOf (σ : Heap) (it : Nat) : Array Nat :=
  match σ it with
  | some (.other _ (.mapIter _ _ seen _)) => seen
  | _ => #[]

structure FenceI (g : Nat) (σ0 : Heap) (rm : Nat) (ls : List MLine) (ev rl rb : Nat) (es : Array MapEntry) (clock : Nat) (B : List Nat) (it : Nat) (σ : Heap) (Pr : List Nat) (seen : Array Nat) (ls' : List MLine) (es' : Array MapEntry) (B' : List Nat) : Prop where
  mem : MemX g σ rm ls' ev rl rb es' clock B'
  keep : Keep g σ0 σ
  iter : σ it = some (.other 1 (.mapIter (some rb) clock seen clock))
  len : ls'.length = ls.length
  line : ∀ i L, ls[i]? = some L → ∃ L', ls'[i]? = some L' ∧ L'.bare = if i ∈ Pr then (L.settled L.mark).bare else L.bare
  sub : ∀ e ∈ es'.toList, e ∈ es.toList
  seen : ∀ e ∈ es.toList, (e.born ∈ seen.toList ↔ ∃ i ∈ Pr, e.key = .int .i64 (i : Int))
  left : ∀ i ∈ B, i ∉ Pr → ∃ e ∈ es'.toList, e.key = .int .i64 (i : Int)

theorem settled_bare {L L' : MLine} (h : L'.bare = L.bare) {k : Nat} (hk : 0 < k) (s : Sl) : (L'.settle k s).bare = (L.settled k).bare := by
  obtain ⟨w, p, s1, m⟩ := L
  obtain ⟨w', p', s2, m'⟩ := L'
  unfold MLine.bare at h
  simp only [MLine.mk.injEq] at h
  obtain ⟨rfl, rfl, _, rfl⟩ := h
  unfold MLine.settled
  have : Nat.beq k 0 = false := by
    cases hb : Nat.beq k 0 with
    | false => rfl
    | true => have := Nat.eq_of_beq_eq_true hb; omega
  rw [this]
  rfl

theorem c133 {g : Nat} {σ : Heap} {rm : Nat} {ls : List MLine} {ev : Nat} {R : Value → Heap → Prop} (hG : Glob σ) (hM : MemAt g σ rm ls ev) (hev : ev ≤ 1000000000)
    (h : ∀ ls' σ', ls'.map MLine.bare = (fenceM ls).map MLine.bare → MemAt g σ' rm ls' (ev + 1) → Keep g σ σ' → R (.tuple #[]) σ') : ACalls Tryz.prog 133 [.pointer (some ⟨rm, 0, none⟩)] σ R := by
  obtain ⟨rl, rb, es, clock, B, hX⟩ := hM.x
  obtain ⟨span, e0, ecs, hst, hown, hev0⟩ := hX.st
  refine ACalls_fn fn133 rfl ?_
  repeat' first
    | refine go rfl ?_
    | refine ifT rfl ?_
    | refine ifF rfl ?_
    | refine doT rfl rfl rfl rfl rfl (as0 rfl ?_)
    | refine doF rfl rfl rfl rfl rfl (as0 rfl ?_)
    | refine noT rfl rfl rfl rfl rfl ?_
    | refine noF rfl rfl rfl rfl rfl ?_
    | refine noU rfl rfl rfl rfl rfl rfl ?_
    | refine go_block ?_
  refine op rfl rfl rfl rfl (as1 rfl rfl ?_)
  refine op rfl rfl rfl rfl (as1 rfl rfl ?_)
  refine opl (i := ti155) rfl rfl rfl rfl rfl rfl rfl rfl (ld1 (o := 1) hst rfl rfl) ⟨(some rb : Option Nat), rfl⟩ ?_
  repeat' first
    | refine go rfl ?_
    | refine ifT rfl ?_
    | refine ifF rfl ?_
    | refine doT rfl rfl rfl rfl rfl (as0 rfl ?_)
    | refine doF rfl rfl rfl rfl rfl (as0 rfl ?_)
    | refine noT rfl rfl rfl rfl rfl ?_
    | refine noF rfl rfl rfl rfl rfl ?_
    | refine noU rfl rfl rfl rfl rfl rfl ?_
    | refine go_block ?_
  refine op rfl rfl rfl rfl (as_range rfl rfl rfl rfl hX.bu (tagM_pos _ _) fun it hit0 => ?_)
  have E1 : Ext σ (σ.ins it (.other 1 (.mapIter (some rb) clock #[] clock))) := (Ext.refl σ).ins hit0 _
  have hX1 : MemX g (σ.ins it (.other 1 (.mapIter (some rb) clock #[] clock))) rm ls ev rl rb es clock B :=
    ⟨⟨span, e0, ecs, E1 _ _ hst, hown.frame fun r o hr _ => E1 _ _ hr, hev0⟩, E1 _ _ hX.li, E1 _ _ hX.bu, hX.busy, fun i L hi => (hX.line i L hi).frame fun r o hr _ => E1 _ _ hr, hX.few⟩
  repeat' first
    | refine go rfl ?_
    | refine ifT rfl ?_
    | refine ifF rfl ?_
    | refine doT rfl rfl rfl rfl rfl (as0 rfl ?_)
    | refine doF rfl rfl rfl rfl rfl (as0 rfl ?_)
    | refine noT rfl rfl rfl rfl rfl ?_
    | refine noF rfl rfl rfl rfl rfl ?_
    | refine noU rfl rfl rfl rfl rfl rfl ?_
    | refine go_block ?_
  refine go_loop [(0, .pointer (some ⟨rm, 0, none⟩)), (7, .pointer (some ⟨it, 0, none⟩))] []
    (fun (_ : Unit) σ' => ∃ Pr seen ls' es' B', FenceI g σ rm ls ev rl rb es clock B it σ' Pr seen ls' es' B')
    (fun (_ : Unit) σ' => (es.toList.filter fun e => !(seenOf σ' it).contains e.born).length) () ⟨rfl, rfl, trivial⟩ rfl
    ⟨[], #[], ls, es, B, hX1, E1.keep, hit .., rfl, fun i L hi => ⟨L, hi, by simp⟩, fun _ h => h, fun e he => by simp, fun i hi _ => busy_ent hX.busy hi⟩ ?_
  rintro (u : Unit) σ' ⟨Pr, seen, ls', es', B', I⟩
  have hseen : seenOf σ' it = seen := by
    unfold seenOf
    rw [I.iter]
  repeat' first
    | refine go rfl ?_
    | refine ifT rfl ?_
    | refine ifF rfl ?_
    | refine doT rfl rfl rfl rfl rfl (as0 rfl ?_)
    | refine doF rfl rfl rfl rfl rfl (as0 rfl ?_)
    | refine noT rfl rfl rfl rfl rfl ?_
    | refine noF rfl rfl rfl rfl rfl ?_
    | refine noU rfl rfl rfl rfl rfl rfl ?_
    | refine go_block ?_
  refine op rfl rfl rfl rfl (as_next rfl rfl ⟨it, 1, rb, tagM g 2, clock, seen, clock, es', clock, rfl, I.iter, by decide, I.mem.bu, ?_, ?_⟩)
  · cases hes : es'.toList with
    | nil =>
      have : es' = #[] := Array.toList_inj.1 (by rw [hes])
      rw [this]
      simp
    | cons e l =>
      have hb : e.born < clock := I.mem.busy.born e (by rw [hes]; exact List.mem_cons_self ..)
      have : es'.all (fun x => decide (x.born ≥ clock)) = false := by
        rw [← Array.all_toList, hes, List.all_cons]
        have : decide (e.born ≥ clock) = false := decide_eq_false (by omega)
        rw [this, Bool.false_and]
      rw [this, Bool.and_false]
  · intro c hc
    cases c with
    | some e =>
      have he : e ∈ es'.toList ∧ seen.contains e.born = false := by
        unfold mapLeft at hc
        dsimp only at hc
        rw [Array.mem_append] at hc
        rcases hc with hc | hc
        · split at hc <;> simp at hc
        · rw [Array.mem_map] at hc
          obtain ⟨e', he', hee⟩ := hc
          cases hee
          rw [Array.mem_append] at he'
          rcases he' with he' | he' <;>
          · rw [Array.mem_filter, Array.mem_filter] at he'
            exact ⟨Array.mem_toList_iff.2 he'.1.1, by simpa using he'.1.2⟩
      obtain ⟨he1, he2⟩ := he
      obtain ⟨i, hiB, hikey⟩ := busy_key I.mem.busy he1
      obtain ⟨L', hL', hpne⟩ := (I.mem.busy.iff i).1 hiB
      have hlt : i < ls'.length := (List.getElem?_eq_some_iff.1 hL').1
      obtain ⟨L, hL⟩ : ∃ L, ls[i]? = some L := ⟨_, List.getElem?_eq_getElem (by rw [← I.len]; exact hlt)⟩
      have heo := I.sub e he1
      have hnot : i ∉ Pr := by
        intro hi
        have := (I.seen e heo).2 ⟨i, hi, hikey⟩
        have h2 : seen.contains e.born = true := by simpa using Array.mem_toList_iff.1 this
        rw [he2] at h2
        cases h2
      have hbare : L'.bare = L.bare := by
        obtain ⟨L2, hL2, hb⟩ := I.line i L hL
        rw [hL'] at hL2
        cases hL2
        rw [hb, if_neg hnot]
      have hmark : L'.mark = L.mark := by
        show L'.bare.mark = L.bare.mark
        rw [hbare]
      dsimp only
      rw [hikey]
      have hX2 : MemX g (σ'.ins it (.other 1 (.mapIter (some rb) clock (seen.push e.born) clock))) rm ls' ev rl rb es' clock B' := by
        have fr : ∀ r o, σ' r = some o → ofM g o.tag → (σ'.ins it (.other 1 (.mapIter (some rb) clock (seen.push e.born) clock))) r = some o := fun r o hr ht => by
          refine miss ?_ hr
          rintro rfl
          rw [I.iter] at hr
          cases hr
          exact low_not (show 1 < 8192 by decide) ht
        obtain ⟨span', e0', ecs', hst', hown', hev0'⟩ := I.mem.st
        refine ⟨⟨span', e0', ecs', fr _ _ hst' (tag_of (by decide)), hown'.frame fun r o hr ht => fr _ _ hr (by rw [ht]; exact tag_of (by decide)), hev0'⟩, fr _ _ I.mem.li (tag_of (by decide)), fr _ _ I.mem.bu (tag_of (by decide)), I.mem.busy, fun j M hj => (I.mem.line j M hj).frame fun r o hr ht => fr _ _ hr (by rw [ht]; exact tag_of (by have := (List.getElem?_eq_some_iff.1 hj).1; have := I.mem.few; omega)), I.mem.few⟩
      have hit2 := hit σ' it (.other 1 (.mapIter (some rb) clock (seen.push e.born) clock))
      have hKit : Keep g σ (σ'.ins it (.other 1 (.mapIter (some rb) clock (seen.push e.born) clock))) := fun r o hr ht => by
        refine miss ?_ (I.keep r o hr ht)
        rintro rfl
        rw [hit0] at hr
        cases hr
      repeat' first
        | refine go rfl ?_
        | refine ifT rfl ?_
        | refine ifF rfl ?_
        | refine doT rfl rfl rfl rfl rfl (as0 rfl ?_)
        | refine doF rfl rfl rfl rfl rfl (as0 rfl ?_)
        | refine noT rfl rfl rfl rfl rfl ?_
        | refine noF rfl rfl rfl rfl rfl ?_
        | refine noU rfl rfl rfl rfl rfl rfl ?_
        | refine go_block ?_
      refine op rfl rfl rfl rfl (as_entry rfl rfl ⟨it, 1, rb, tagM g 2, clock, seen.push e.born, es', clock, e.born, e, rfl, hit2, hX2.bu, by simp, ?_, .int .i64 (i : Int), e.val, hikey, rfl, ?_⟩)
      · rw [← Array.find?_toList]
        exact find_stamp I.mem.busy.stamps he1
      repeat' first
        | refine go rfl ?_
        | refine ifT rfl ?_
        | refine ifF rfl ?_
        | refine doT rfl rfl rfl rfl rfl (as0 rfl ?_)
        | refine doF rfl rfl rfl rfl rfl (as0 rfl ?_)
        | refine noT rfl rfl rfl rfl rfl ?_
        | refine noF rfl rfl rfl rfl rfl ?_
        | refine noU rfl rfl rfl rfl rfl rfl ?_
        | refine go_block ?_
      obtain ⟨span', e0', ecs', hst', hown', hev0'⟩ := hX2.st
      have ea : padd (some ⟨rl, 0, none⟩) ((i : Int).toNat * ti154.size) = some ⟨rl, i * 11, none⟩ := by
        rw [padd_some]
        simp [ti154]
      obtain ⟨hLok, l1, l2, l3, l4⟩ := hX2.mem.line hX2.li hL'
      refine op rfl rfl rfl rfl (as1 rfl rfl ?_)
      refine op rfl rfl rfl rfl (as1 rfl rfl ?_)
      refine opl (i := ti147) rfl rfl rfl rfl rfl rfl rfl rfl (ld1 (o := 0) hst' rfl rfl) ⟨((⟨some ⟨rl, 0, none⟩, ls'.length, ls'.length⟩) : Sl), rfl⟩ ?_
      repeat' first
        | refine go rfl ?_
        | refine ifT rfl ?_
        | refine ifF rfl ?_
        | refine doT rfl rfl rfl rfl rfl (as0 rfl ?_)
        | refine doF rfl rfl rfl rfl rfl (as0 rfl ?_)
        | refine noT rfl rfl rfl rfl rfl ?_
        | refine noF rfl rfl rfl rfl rfl ?_
        | refine noU rfl rfl rfl rfl rfl rfl ?_
        | refine go_block ?_
      refine op rfl rfl rfl rfl (as3 rfl (by omega) (by omega) rfl ?_)
      rw [ea]
      refine op rfl rfl rfl rfl (as1 rfl rfl ?_)
      refine opl (i := ti3) rfl rfl rfl rfl rfl rfl rfl rfl l4 ⟨((L'.mark : Nat) : Int), rfl⟩ ?_
      have hfil : ∀ σ2, σ2 it = some (.other 1 (.mapIter (some rb) clock (seen.push e.born) clock)) → (es.toList.filter fun e => !(seenOf σ2 it).contains e.born).length < (es.toList.filter fun e => !(seenOf σ' it).contains e.born).length := fun σ2 h2 => by
        have hs2 : seenOf σ2 it = seen.push e.born := by
          unfold seenOf
          rw [h2]
        rw [hs2, hseen]
        refine filter_lt (a := e) (fun x hx => ?_) heo (by simpa using he2) ?_
        · simp only [Bool.not_eq_true', Array.contains_eq_any_beq, Array.any_push, Bool.or_eq_false_iff] at hx ⊢
          exact hx.1
        · simp
      have hseen2 : ∀ x ∈ es.toList, (x.born ∈ (seen.push e.born).toList ↔ ∃ j ∈ i :: Pr, x.key = .int .i64 (j : Int)) := fun x hx => by
        rw [Array.toList_push, List.mem_append, List.mem_singleton, I.seen x hx]
        constructor
        · rintro (⟨j, hj, hk⟩ | hb)
          · exact ⟨j, List.mem_cons_of_mem _ hj, hk⟩
          · have := inj_of_nodup hX.busy.stamps hx heo hb
            exact ⟨i, List.mem_cons_self .., by rw [this]; exact hikey⟩
        · rintro ⟨j, hj, hk⟩
          rcases List.mem_cons.1 hj with rfl | hj
          · have := inj_of_nodup (busy_keys hX.busy) hx heo (by rw [hk, hikey])
            exact .inr (by rw [this])
          · exact .inl ⟨j, hj, hk⟩
      have hline2 : ∀ (ls2 : List MLine), (∀ j, j ≠ i → ls2[j]? = ls'[j]?) → (∃ L2, ls2[i]? = some L2 ∧ L2.bare = (L.settled L.mark).bare) → ∀ j M, ls[j]? = some M → ∃ M', ls2[j]? = some M' ∧ M'.bare = if j ∈ i :: Pr then (M.settled M.mark).bare else M.bare := fun ls2 h1 h2 j M hj => by
        by_cases hji : j = i
        · subst hji
          rw [hL] at hj
          cases hj
          rw [if_pos (List.mem_cons_self ..)]
          exact h2
        · obtain ⟨M', hM', hb⟩ := I.line j M hj
          refine ⟨M', by rw [h1 j hji]; exact hM', ?_⟩
          rw [hb]
          have : (j ∈ i :: Pr) ↔ j ∈ Pr := by simp [hji]
          by_cases hp : j ∈ Pr
          · rw [if_pos hp, if_pos (this.2 hp)]
          · rw [if_neg hp, if_neg (fun h => hp (this.1 h))]
      refine opc rfl rfl rfl rfl rfl rfl rfl rfl rfl rfl (c152 (k := L'.mark) (hKit.glob hG) hX2 hL' hLok.mark (fun hk0 => shK_mk ⟨(), rfl⟩ ?_) (fun s σ2 es2 B2 hk0 hX3 hK3 hsub hsup => shK_mk ⟨(), rfl⟩ ?_))
      · repeat' first
          | refine go rfl ?_
          | refine ifT rfl ?_
          | refine ifF rfl ?_
          | refine doT rfl rfl rfl rfl rfl (as0 rfl ?_)
          | refine doF rfl rfl rfl rfl rfl (as0 rfl ?_)
          | refine noT rfl rfl rfl rfl rfl ?_
          | refine noF rfl rfl rfl rfl rfl ?_
          | refine noU rfl rfl rfl rfl rfl rfl ?_
          | refine go_block ?_
        refine go_meet () ⟨rfl, rfl, trivial⟩ rfl ⟨⟨i :: Pr, seen.push e.born, ls', es', B', hX2, hKit, hit2, I.len, hline2 ls' (fun _ _ => rfl) ⟨L', hL', ?_⟩, I.sub, hseen2, fun j hj hjn => I.left j hj fun h => hjn (List.mem_cons_of_mem _ h)⟩, hfil _ hit2⟩
        rw [hbare]
        unfold MLine.settled
        rw [← hmark, hk0]
        rfl
      · repeat' first
          | refine go rfl ?_
          | refine ifT rfl ?_
          | refine ifF rfl ?_
          | refine doT rfl rfl rfl rfl rfl (as0 rfl ?_)
          | refine doF rfl rfl rfl rfl rfl (as0 rfl ?_)
          | refine noT rfl rfl rfl rfl rfl ?_
          | refine noF rfl rfl rfl rfl rfl ?_
          | refine noU rfl rfl rfl rfl rfl rfl ?_
          | refine go_block ?_
        have hit3 := hK3 _ _ hit2 (low_not (show 1 < 8192 by decide))
        refine go_meet () ⟨rfl, rfl, trivial⟩ rfl ⟨⟨i :: Pr, seen.push e.born, ls'.set i (L'.settle L'.mark s), es2, B2, hX3, hKit.trans hK3, hit3, by rw [List.length_set]; exact I.len, hline2 _ (fun j hj => ?_) ⟨L'.settle L'.mark s, ?_, ?_⟩, fun x hx => I.sub x (hsub x hx), hseen2, fun j hj hjn => ?_⟩, hfil _ hit3⟩
        · rw [set_get hL', if_neg hj]
        · rw [set_get hL', if_pos rfl]
        · rw [settled_bare hbare hk0 s, hmark]
        · obtain ⟨x, hx, hxk⟩ := I.left j hj fun h => hjn (List.mem_cons_of_mem _ h)
          refine ⟨x, hsup x hx fun hc => hjn ?_, hxk⟩
          rw [hxk] at hc
          rw [int_inj hc]
          exact List.mem_cons_self ..
    | none =>
      have hall : ∀ e ∈ es'.toList, seen.contains e.born = true := by
        unfold mapLeft at hc
        dsimp only at hc
        rw [Array.mem_append] at hc
        rcases hc with hc | hc
        · intro e he
          cases hs : seen.contains e.born with
          | true => rfl
          | false =>
            have hmem : e ∈ (es'.filter fun e => !seen.contains e.born).filter (fun x => decide (x.born < clock)) := by
              rw [Array.mem_filter, Array.mem_filter]
              exact ⟨⟨Array.mem_toList_iff.1 he, by simpa using hs⟩, by simpa using I.mem.busy.born e he⟩
            split at hc
            · rename_i hemp
              rw [Array.isEmpty_iff] at hemp
              rw [hemp] at hmem
              simp at hmem
            · simp at hc
        · rw [Array.mem_map] at hc
          obtain ⟨e', _, hee⟩ := hc
          cases hee
      have hdone : ∀ i ∈ B, i ∈ Pr := fun i hi => by
        by_cases hp : i ∈ Pr
        · exact hp
        · obtain ⟨e, he, hk⟩ := I.left i hi hp
          have hs := hall e he
          have : e.born ∈ seen.toList := by
            exact Array.mem_toList_iff.2 (by simpa using hs)
          obtain ⟨j, hj, hjk⟩ := (I.seen e (I.sub e he)).1 this
          rw [hk] at hjk
          rw [int_inj hjk]
          exact hj
      have hfin : ls'.map MLine.bare = (fenceM ls).map MLine.bare := by
        apply List.ext_getElem?
        intro i
        unfold fenceM
        rw [List.getElem?_map, List.getElem?_map, List.getElem?_map]
        cases hL : ls[i]? with
        | none =>
          have : ls'[i]? = none := by
            rw [List.getElem?_eq_none_iff, I.len]
            exact List.getElem?_eq_none_iff.1 hL
          rw [this]
          rfl
        | some L =>
          obtain ⟨L', hL', hb⟩ := I.line i L hL
          rw [hL']
          show some L'.bare = some (L.settled L.mark).bare
          rw [hb]
          by_cases hp : i ∈ Pr
          · rw [if_pos hp]
          · rw [if_neg hp]
            have hnB : i ∉ B := fun h => hp (hdone i h)
            have hpe : L.p = [] := by
              by_cases hh : L.p = []
              · exact hh
              · exact absurd ((hX.busy.iff i).2 ⟨L, hL, hh⟩) hnB
            have hm0 : L.mark = 0 := by
              have := (hX.line i L hL).mark
              rw [hpe] at this
              simpa using this
            unfold MLine.settled
            rw [hm0]
            rfl
      dsimp only
      repeat' first
        | refine go rfl ?_
        | refine ifT rfl ?_
        | refine ifF rfl ?_
        | refine doT rfl rfl rfl rfl rfl (as0 rfl ?_)
        | refine doF rfl rfl rfl rfl rfl (as0 rfl ?_)
        | refine noT rfl rfl rfl rfl rfl ?_
        | refine noF rfl rfl rfl rfl rfl ?_
        | refine noU rfl rfl rfl rfl rfl rfl ?_
        | refine go_block ?_
      refine go_by_exit ?_
      repeat' first
        | refine go rfl ?_
        | refine ifT rfl ?_
        | refine ifF rfl ?_
        | refine doT rfl rfl rfl rfl rfl (as0 rfl ?_)
        | refine doF rfl rfl rfl rfl rfl (as0 rfl ?_)
        | refine noT rfl rfl rfl rfl rfl ?_
        | refine noF rfl rfl rfl rfl rfl ?_
        | refine noU rfl rfl rfl rfl rfl rfl ?_
        | refine go_block ?_
      refine opc rfl rfl rfl rfl rfl rfl rfl rfl rfl rfl (c143 (a := 4) (b := 0) (c := 0) (d := 0) I.mem.mem hev fun σ5 hM5 hK5 => shK_mk ⟨(), rfl⟩ ?_)
      repeat' first
        | refine go rfl ?_
        | refine ifT rfl ?_
        | refine ifF rfl ?_
        | refine doT rfl rfl rfl rfl rfl (as0 rfl ?_)
        | refine doF rfl rfl rfl rfl rfl (as0 rfl ?_)
        | refine noT rfl rfl rfl rfl rfl ?_
        | refine noF rfl rfl rfl rfl rfl ?_
        | refine noU rfl rfl rfl rfl rfl rfl ?_
        | refine go_block ?_
      refine go_end rfl ?_
      exact h ls' σ5 hfin hM5 (I.keep.trans hK5)

end Go.Eng
