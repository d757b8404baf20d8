/- The tables of types and of functions as tries, made by program. Conditions: none. -/
import Derived.Test.YtihpnhkhgobblaaGreatDoorSb
import Derived.Test.YtihpnhkhgobblaaGreatDoorVc
namespace Go.Eng
open Go Go.Proofs

set_option maxRecDepth 100000

def Tr.ofL {α : Type} : List (Nat × α) → Tr α
  | [] => .nil
  | (k, x) :: l => (Tr.ofL l).set k x

theorem Tr.ofL_T : ∀ (l : List (Nat × TI)) (t : Nat), (Tr.ofL l).get t = lookT l t
  | [], t => rfl
  | (k, x) :: l, t => by
    unfold Tr.ofL lookT
    rw [Tr.get_set, Tr.ofL_T l t]
    by_cases h : t = k
    · subst h; simp
    · rw [if_neg h]
      have : (k == t) = false := by simp [Ne.symm h]
      rw [this, cond_false]

theorem Tr.ofL_mem {α : Type} : ∀ {l : List (Nat × α)} {t : Nat} {x : α}, (Tr.ofL l).get t = some x → (t, x) ∈ l
  | [], t, x, h => by cases h
  | (k, y) :: l, t, x, h => by
    unfold Tr.ofL at h
    rw [Tr.get_set] at h
    by_cases e : t = k
    · subst e
      rw [if_pos rfl] at h
      cases h
      exact List.mem_cons_self ..
    · rw [if_neg e] at h
      exact List.mem_cons_of_mem _ (Tr.ofL_mem h)

def tyTr : Tr TI := (.node (some ti0) (.node (some ti1) (.node (some ti3) (.node (some ti7) (.node (some ti15) (.node (some ti31) (.node (some ti63) (.node (some ti127) (.node (some ti255) .nil .nil) .nil) (.node (some ti191) .nil .nil)) (.node (some ti95) (.node (some ti159) .nil .nil) (.node (some ti223) .nil .nil))) (.node (some ti47) (.node (some ti79) (.node (some ti143) (.node (some ti271) .nil .nil) .nil) (.node (some ti207) .nil .nil)) (.node (some ti111) (.node (some ti175) .nil .nil) (.node (some ti239) .nil .nil)))) (.node (some ti23) (.node (some ti39) (.node (some ti71) (.node (some ti135) (.node (some ti263) .nil .nil) .nil) (.node (some ti199) .nil .nil)) (.node (some ti103) (.node (some ti167) .nil .nil) (.node (some ti231) .nil .nil))) (.node (some ti55) (.node (some ti87) (.node (some ti151) (.node (some ti279) .nil .nil) .nil) (.node (some ti215) .nil .nil)) (.node (some ti119) (.node (some ti183) .nil .nil) (.node (some ti247) .nil .nil))))) (.node (some ti11) (.node (some ti19) (.node (some ti35) (.node (some ti67) (.node (some ti131) (.node (some ti259) .nil .nil) .nil) (.node (some ti195) .nil .nil)) (.node (some ti99) (.node (some ti163) .nil .nil) (.node (some ti227) .nil .nil))) (.node (some ti51) (.node (some ti83) (.node (some ti147) (.node (some ti275) .nil .nil) .nil) (.node (some ti211) .nil .nil)) (.node (some ti115) (.node (some ti179) .nil .nil) (.node (some ti243) .nil .nil)))) (.node (some ti27) (.node (some ti43) (.node (some ti75) (.node (some ti139) (.node (some ti267) .nil .nil) .nil) (.node (some ti203) .nil .nil)) (.node (some ti107) (.node (some ti171) .nil .nil) (.node (some ti235) .nil .nil))) (.node (some ti59) (.node (some ti91) (.node (some ti155) .nil .nil) (.node (some ti219) .nil .nil)) (.node (some ti123) (.node (some ti187) .nil .nil) (.node (some ti251) .nil .nil)))))) (.node (some ti5) (.node (some ti9) (.node (some ti17) (.node (some ti33) (.node (some ti65) (.node (some ti129) (.node (some ti257) .nil .nil) .nil) (.node (some ti193) .nil .nil)) (.node (some ti97) (.node (some ti161) .nil .nil) (.node (some ti225) .nil .nil))) (.node (some ti49) (.node (some ti81) (.node (some ti145) (.node (some ti273) .nil .nil) .nil) (.node (some ti209) .nil .nil)) (.node (some ti113) (.node (some ti177) .nil .nil) (.node (some ti241) .nil .nil)))) (.node (some ti25) (.node (some ti41) (.node (some ti73) (.node (some ti137) (.node (some ti265) .nil .nil) .nil) (.node (some ti201) .nil .nil)) (.node (some ti105) (.node (some ti169) .nil .nil) (.node (some ti233) .nil .nil))) (.node (some ti57) (.node (some ti89) (.node (some ti153) (.node (some ti281) .nil .nil) .nil) (.node (some ti217) .nil .nil)) (.node (some ti121) (.node (some ti185) .nil .nil) (.node (some ti249) .nil .nil))))) (.node (some ti13) (.node (some ti21) (.node (some ti37) (.node (some ti69) (.node (some ti133) (.node (some ti261) .nil .nil) .nil) (.node (some ti197) .nil .nil)) (.node (some ti101) (.node (some ti165) .nil .nil) (.node (some ti229) .nil .nil))) (.node (some ti53) (.node (some ti85) (.node (some ti149) (.node (some ti277) .nil .nil) .nil) (.node (some ti213) .nil .nil)) (.node (some ti117) (.node (some ti181) .nil .nil) (.node (some ti245) .nil .nil)))) (.node (some ti29) (.node (some ti45) (.node (some ti77) (.node (some ti141) (.node (some ti269) .nil .nil) .nil) (.node (some ti205) .nil .nil)) (.node (some ti109) (.node (some ti173) .nil .nil) (.node (some ti237) .nil .nil))) (.node (some ti61) (.node (some ti93) (.node (some ti157) .nil .nil) (.node (some ti221) .nil .nil)) (.node (some ti125) (.node (some ti189) .nil .nil) (.node (some ti253) .nil .nil))))))) (.node (some ti2) (.node (some ti4) (.node (some ti8) (.node (some ti16) (.node (some ti32) (.node (some ti64) (.node (some ti128) (.node (some ti256) .nil .nil) .nil) (.node (some ti192) .nil .nil)) (.node (some ti96) (.node (some ti160) .nil .nil) (.node (some ti224) .nil .nil))) (.node (some ti48) (.node (some ti80) (.node (some ti144) (.node (some ti272) .nil .nil) .nil) (.node (some ti208) .nil .nil)) (.node (some ti112) (.node (some ti176) .nil .nil) (.node (some ti240) .nil .nil)))) (.node (some ti24) (.node (some ti40) (.node (some ti72) (.node (some ti136) (.node (some ti264) .nil .nil) .nil) (.node (some ti200) .nil .nil)) (.node (some ti104) (.node (some ti168) .nil .nil) (.node (some ti232) .nil .nil))) (.node (some ti56) (.node (some ti88) (.node (some ti152) (.node (some ti280) .nil .nil) .nil) (.node (some ti216) .nil .nil)) (.node (some ti120) (.node (some ti184) .nil .nil) (.node (some ti248) .nil .nil))))) (.node (some ti12) (.node (some ti20) (.node (some ti36) (.node (some ti68) (.node (some ti132) (.node (some ti260) .nil .nil) .nil) (.node (some ti196) .nil .nil)) (.node (some ti100) (.node (some ti164) .nil .nil) (.node (some ti228) .nil .nil))) (.node (some ti52) (.node (some ti84) (.node (some ti148) (.node (some ti276) .nil .nil) .nil) (.node (some ti212) .nil .nil)) (.node (some ti116) (.node (some ti180) .nil .nil) (.node (some ti244) .nil .nil)))) (.node (some ti28) (.node (some ti44) (.node (some ti76) (.node (some ti140) (.node (some ti268) .nil .nil) .nil) (.node (some ti204) .nil .nil)) (.node (some ti108) (.node (some ti172) .nil .nil) (.node (some ti236) .nil .nil))) (.node (some ti60) (.node (some ti92) (.node (some ti156) .nil .nil) (.node (some ti220) .nil .nil)) (.node (some ti124) (.node (some ti188) .nil .nil) (.node (some ti252) .nil .nil)))))) (.node (some ti6) (.node (some ti10) (.node (some ti18) (.node (some ti34) (.node (some ti66) (.node (some ti130) (.node (some ti258) .nil .nil) .nil) (.node (some ti194) .nil .nil)) (.node (some ti98) (.node (some ti162) .nil .nil) (.node (some ti226) .nil .nil))) (.node (some ti50) (.node (some ti82) (.node (some ti146) (.node (some ti274) .nil .nil) .nil) (.node (some ti210) .nil .nil)) (.node (some ti114) (.node (some ti178) .nil .nil) (.node (some ti242) .nil .nil)))) (.node (some ti26) (.node (some ti42) (.node (some ti74) (.node (some ti138) (.node (some ti266) .nil .nil) .nil) (.node (some ti202) .nil .nil)) (.node (some ti106) (.node (some ti170) .nil .nil) (.node (some ti234) .nil .nil))) (.node (some ti58) (.node (some ti90) (.node (some ti154) (.node (some ti282) .nil .nil) .nil) (.node (some ti218) .nil .nil)) (.node (some ti122) (.node (some ti186) .nil .nil) (.node (some ti250) .nil .nil))))) (.node (some ti14) (.node (some ti22) (.node (some ti38) (.node (some ti70) (.node (some ti134) (.node (some ti262) .nil .nil) .nil) (.node (some ti198) .nil .nil)) (.node (some ti102) (.node (some ti166) .nil .nil) (.node (some ti230) .nil .nil))) (.node (some ti54) (.node (some ti86) (.node (some ti150) (.node (some ti278) .nil .nil) .nil) (.node (some ti214) .nil .nil)) (.node (some ti118) (.node (some ti182) .nil .nil) (.node (some ti246) .nil .nil)))) (.node (some ti30) (.node (some ti46) (.node (some ti78) (.node (some ti142) (.node (some ti270) .nil .nil) .nil) (.node (some ti206) .nil .nil)) (.node (some ti110) (.node (some ti174) .nil .nil) (.node (some ti238) .nil .nil))) (.node (some ti62) (.node (some ti94) (.node (some ti158) .nil .nil) (.node (some ti222) .nil .nil)) (.node (some ti126) (.node (some ti190) .nil .nil) (.node (some ti254) .nil .nil))))))))
def TTr : TT := fun t => tyTr.get t
theorem tyTr_eq : tyTr = Tr.ofL tab := by kernel_rfl
theorem TTr_ok : TTok Tryz.prog TTr := fun t i h => T_ok t i (by
  have h1 : tyTr.get t = some i := h
  rw [tyTr_eq, Tr.ofL_T] at h1
  exact h1)
noncomputable def fe3 : FE := ⟨70, [], [.tmp 4], b3⟩
noncomputable def fe4 : FE := ⟨131, [], [.tmp 6], b4⟩
noncomputable def fe5 : FE := ⟨140, [(16, [(0, []), (1, []), (2, []), (3, []), (4, []), (5, []), (6, []), (7, []), (8, []), (9, []), (10, []), (11, []), (12, []), (13, []), (14, []), (15, []), (16, [])])], [.tmp 8], b5⟩
noncomputable def fe6 : FE := ⟨130, [], [.tmp 6], b6⟩
noncomputable def fe7 : FE := ⟨204, [], [.tmp 6], b7⟩
noncomputable def fe8 : FE := ⟨317, [], [.tmp 0], b8⟩
noncomputable def fe9 : FE := ⟨30, [], [.tmp 2], b9⟩
noncomputable def fe10 : FE := ⟨16, [], [.tmp 2], b10⟩
noncomputable def fe11 : FE := ⟨8, [], [.tmp 4], b11⟩
noncomputable def fe12 : FE := ⟨46, [(4, [(0, []), (1, []), (2, []), (3, []), (4, []), (5, []), (6, []), (7, []), (8, [])]), (6, [(0, []), (1, []), (2, []), (3, []), (4, []), (5, []), (6, []), (7, []), (8, [])])], [.tmp 4], b12⟩
noncomputable def fe13 : FE := ⟨16, [], [.tmp 4], b13⟩
noncomputable def fe14 : FE := ⟨25, [], [.tmp 4], b14⟩
noncomputable def fe15 : FE := ⟨51, [], [.tmp 2], b15⟩
noncomputable def fe16 : FE := ⟨84, [(8, [(0, []), (1, []), (2, []), (3, []), (4, []), (5, []), (6, []), (7, []), (8, []), (9, []), (10, []), (11, []), (12, []), (13, [])]), (13, [(0, []), (1, []), (2, []), (3, []), (4, []), (5, []), (6, []), (7, []), (8, []), (9, []), (10, []), (11, [])])], [.tmp 2], b16⟩
noncomputable def fe17 : FE := ⟨45, [(6, [(0, []), (1, []), (3, []), (4, []), (6, []), (8, []), (9, []), (10, []), (12, []), (2, [4, 9, 12]), (5, [9, 12]), (7, [9, 12]), (11, []), (13, []), (14, []), (15, []), (16, [])]), (7, [(0, []), (1, []), (2, []), (3, []), (4, []), (5, []), (6, []), (7, []), (8, []), (9, [6]), (10, [])])], [.cell 2 39, .tmp 3], b17⟩
noncomputable def fe18 : FE := ⟨7, [], [.tmp 2], b18⟩
noncomputable def fe19 : FE := ⟨98, [(7, [(0, []), (1, []), (2, []), (3, []), (4, []), (5, []), (6, []), (7, []), (8, []), (9, []), (10, []), (11, []), (12, []), (13, []), (14, []), (15, []), (16, []), (17, []), (18, []), (19, []), (20, []), (21, []), (22, [])]), (9, [(0, []), (1, []), (2, []), (3, []), (4, []), (5, []), (6, []), (7, []), (8, []), (9, []), (10, []), (11, []), (12, []), (13, []), (14, []), (15, []), (16, []), (17, [])])], [.tmp 4, .tmp 5, .tmp 6], b19⟩
noncomputable def fe20 : FE := ⟨130, [(11, [(0, []), (1, []), (2, []), (3, []), (4, []), (5, []), (6, []), (7, []), (8, []), (9, []), (10, []), (11, []), (12, []), (13, [])]), (13, [(0, []), (1, []), (3, []), (4, []), (2, [4]), (5, []), (6, []), (7, [])]), (14, [(0, []), (1, []), (2, []), (3, []), (4, []), (5, []), (6, []), (7, []), (8, []), (9, []), (10, []), (11, []), (12, []), (13, []), (14, []), (15, []), (16, []), (17, []), (18, [])])], [.tmp 8, .tmp 9], b20⟩
noncomputable def fe21 : FE := ⟨78, [(8, [(0, []), (1, []), (2, []), (3, []), (4, []), (5, []), (6, []), (7, []), (8, []), (9, []), (10, []), (11, []), (12, [])]), (9, [(0, []), (1, []), (2, []), (3, []), (4, []), (5, []), (6, []), (7, []), (8, []), (9, []), (10, []), (11, []), (12, [])])], [.tmp 8], b21⟩
noncomputable def fe22 : FE := ⟨26, [(6, [(0, []), (1, []), (2, []), (3, []), (4, []), (5, []), (6, []), (7, []), (8, [])])], [.tmp 4], b22⟩
noncomputable def fe23 : FE := ⟨42, [(6, [(0, []), (1, []), (2, []), (3, []), (4, []), (5, []), (6, []), (7, []), (8, []), (9, []), (10, []), (11, []), (12, []), (13, []), (14, []), (15, []), (16, []), (17, []), (18, []), (19, []), (20, []), (21, []), (22, []), (23, []), (24, [])])], [.tmp 4], b23⟩
noncomputable def fe24 : FE := ⟨41, [(7, [(0, []), (1, []), (2, []), (3, []), (4, []), (5, []), (6, []), (7, []), (8, []), (9, []), (10, []), (11, []), (12, []), (13, []), (14, [])])], [.cell 10 29, .cell 11 45], b24⟩
noncomputable def fe25 : FE := ⟨40, [], [.tmp 8, .tmp 9, .tmp 10], b25⟩
noncomputable def fe26 : FE := ⟨28, [], [.tmp 4], b26⟩
noncomputable def fe27 : FE := ⟨13, [], [], b27⟩
noncomputable def fe28 : FE := ⟨26, [], [.cell 6 22, .cell 7 45], b28⟩
noncomputable def fe29 : FE := ⟨157, [(3, [(0, []), (1, []), (3, []), (4, []), (2, [4]), (5, []), (6, []), (7, []), (8, []), (9, []), (10, []), (11, []), (12, [])]), (12, [(0, []), (1, []), (2, []), (3, []), (4, []), (5, []), (6, []), (7, []), (8, []), (9, []), (10, []), (11, []), (12, []), (13, []), (14, []), (15, []), (16, []), (17, []), (18, [])]), (24, [(0, []), (1, []), (2, []), (3, []), (4, []), (5, []), (6, [])]), (30, [(0, []), (1, []), (2, []), (3, []), (4, []), (5, []), (6, []), (8, []), (9, []), (10, []), (14, []), (7, [9, 10, 14]), (11, []), (12, []), (13, []), (15, []), (16, []), (17, []), (18, []), (19, []), (20, []), (21, [])])], [.tmp 12, .tmp 13, .tmp 14], b29⟩
noncomputable def fe30 : FE := ⟨95, [(7, [(0, []), (1, []), (3, []), (4, []), (5, []), (6, []), (7, []), (8, []), (9, []), (10, []), (11, []), (12, []), (13, []), (14, []), (15, []), (16, []), (17, []), (18, []), (20, []), (21, []), (22, []), (23, []), (2, [4, 8, 10, 14, 16, 18, 21, 23]), (19, [4, 8, 10, 14, 21, 23]), (24, [4, 8, 10, 14]), (25, []), (26, []), (27, []), (28, []), (29, []), (30, []), (31, [])]), (10, [(0, []), (1, []), (2, []), (3, []), (4, []), (5, []), (6, []), (7, []), (8, []), (9, []), (10, []), (11, []), (13, []), (14, []), (15, []), (16, []), (12, []), (17, []), (18, [9]), (19, []), (20, []), (21, []), (22, []), (23, []), (24, []), (25, [])])], [.tmp 10, .tmp 11, .tmp 12], b30⟩
noncomputable def fe31 : FE := ⟨30, [], [.tmp 4], b31⟩
noncomputable def fe32 : FE := ⟨50, [], [.tmp 6, .tmp 7], b32⟩
noncomputable def fe33 : FE := ⟨23, [], [.tmp 4], b33⟩
noncomputable def fe34 : FE := ⟨9, [], [.tmp 4], b34⟩
noncomputable def fe35 : FE := ⟨9, [], [.tmp 2], b35⟩
noncomputable def fe36 : FE := ⟨36, [], [.tmp 4], b36⟩
noncomputable def fe37 : FE := ⟨18, [], [.tmp 2], b37⟩
noncomputable def fe38 : FE := ⟨20, [], [.tmp 4], b38⟩
noncomputable def fe39 : FE := ⟨28, [(8, [(0, []), (1, []), (2, []), (3, []), (4, []), (5, []), (6, []), (7, [])])], [.tmp 2], b39⟩
noncomputable def fe40 : FE := ⟨6, [], [.tmp 2], b40⟩
noncomputable def fe41 : FE := ⟨49, [(6, [(0, []), (1, []), (2, []), (3, []), (4, []), (5, []), (6, []), (7, []), (8, [])])], [.tmp 4], b41⟩
noncomputable def fe42 : FE := ⟨58, [], [.cell 2 37, .tmp 3], b42⟩
noncomputable def fe43 : FE := ⟨32, [], [.tmp 2], b43⟩
noncomputable def fe44 : FE := ⟨30, [], [.tmp 2], b44⟩
noncomputable def fe45 : FE := ⟨7, [], [.tmp 2], b45⟩
noncomputable def fe46 : FE := ⟨9, [], [.tmp 4], b46⟩
noncomputable def fe47 : FE := ⟨6, [], [.tmp 2], b47⟩
noncomputable def fe48 : FE := ⟨19, [], [.tmp 4], b48⟩
noncomputable def fe49 : FE := ⟨8, [], [.tmp 2], b49⟩
noncomputable def fe50 : FE := ⟨102, [(9, [(0, []), (1, []), (2, []), (3, []), (4, []), (5, []), (7, []), (8, []), (9, []), (10, []), (11, []), (6, []), (12, []), (13, [])])], [.tmp 8, .tmp 9], b50⟩
noncomputable def fe51 : FE := ⟨14, [], [.tmp 12], b51⟩
noncomputable def fe52 : FE := ⟨70, [], [.tmp 8, .tmp 9, .tmp 10], b52⟩
noncomputable def fe53 : FE := ⟨42, [], [.tmp 4], b53⟩
noncomputable def fe54 : FE := ⟨8, [], [.tmp 3], b54⟩
noncomputable def fe55 : FE := ⟨7, [], [.cell 2 37], b55⟩
noncomputable def fe56 : FE := ⟨65, [], [.tmp 12, .tmp 13, .tmp 14], b56⟩
noncomputable def fe57 : FE := ⟨19, [], [.tmp 4], b57⟩
noncomputable def fe58 : FE := ⟨11, [(1, [(0, []), (1, []), (2, []), (3, []), (4, []), (5, []), (6, []), (7, [])])], [.tmp 3], b58⟩
noncomputable def fe59 : FE := ⟨4, [], [.tmp 2], b59⟩
noncomputable def fe60 : FE := ⟨28, [(3, [(0, []), (1, []), (2, []), (3, []), (4, []), (5, []), (6, []), (7, []), (8, []), (9, []), (10, []), (11, []), (12, []), (13, []), (14, []), (15, [])])], [], b60⟩
noncomputable def fe61 : FE := ⟨128, [(9, [(0, []), (1, []), (2, []), (3, []), (4, []), (5, []), (6, []), (7, []), (8, [])]), (10, [(0, []), (1, []), (2, []), (3, []), (4, []), (5, []), (6, []), (7, []), (8, []), (9, []), (11, []), (10, [1, 6, 11]), (12, []), (13, []), (14, []), (15, []), (16, []), (17, []), (18, [])]), (12, [(0, []), (1, []), (2, []), (4, []), (5, []), (7, []), (8, []), (10, []), (3, []), (6, [8]), (9, []), (11, []), (12, [])]), (13, [(0, []), (1, []), (2, []), (3, []), (4, []), (5, []), (6, []), (7, []), (8, []), (9, []), (10, []), (11, [1, 7, 8]), (12, []), (13, []), (14, []), (15, []), (16, []), (17, []), (18, [])]), (15, [(0, []), (1, []), (2, []), (3, []), (4, []), (6, []), (7, []), (10, []), (5, []), (8, [3]), (9, []), (11, []), (12, [])])], [.cell 12 125, .tmp 13], b61⟩
noncomputable def fe62 : FE := ⟨30, [(2, [(0, []), (1, []), (2, []), (3, []), (4, []), (5, []), (6, []), (7, []), (8, []), (9, []), (10, []), (11, [])]), (3, [(0, []), (1, []), (2, []), (3, []), (4, []), (5, []), (6, []), (7, []), (8, []), (9, []), (10, []), (11, [])])], [.cell 6 100], b62⟩
noncomputable def fe63 : FE := ⟨36, [], [.tmp 2], b63⟩
noncomputable def fe64 : FE := ⟨18, [], [.tmp 4], b64⟩
noncomputable def fe65 : FE := ⟨46, [(3, [(0, []), (1, []), (2, []), (3, []), (4, [2]), (5, []), (6, []), (7, []), (8, []), (9, []), (10, []), (11, [])]), (4, [(0, []), (1, []), (2, []), (3, []), (4, []), (5, []), (6, []), (7, []), (8, []), (9, []), (10, [8]), (11, []), (12, []), (13, [])])], [.cell 6 132, .tmp 7], b65⟩
noncomputable def fe66 : FE := ⟨11, [], [.tmp 2], b66⟩
noncomputable def fe67 : FE := ⟨30, [(5, [(0, []), (1, []), (2, []), (3, []), (4, []), (5, []), (6, []), (7, []), (8, []), (9, []), (10, [])])], [.cell 4 3, .cell 5 45], b67⟩
noncomputable def fe68 : FE := ⟨19, [], [.tmp 4], b68⟩
noncomputable def fe69 : FE := ⟨6, [], [.tmp 2], b69⟩
noncomputable def fe70 : FE := ⟨2, [], [.cell 0 140], b70⟩
noncomputable def fe71 : FE := ⟨22, [(2, [(0, []), (1, []), (2, []), (3, []), (4, []), (5, []), (6, []), (7, []), (8, []), (9, []), (10, [])])], [.cell 4 140], b71⟩
noncomputable def fe72 : FE := ⟨7, [], [.tmp 2], b72⟩
noncomputable def fe73 : FE := ⟨30, [], [.tmp 2], b73⟩
noncomputable def fe74 : FE := ⟨19, [], [.tmp 2], b74⟩
noncomputable def fe75 : FE := ⟨23, [], [.tmp 2], b75⟩
noncomputable def fe76 : FE := ⟨27, [], [.tmp 2], b76⟩
noncomputable def fe77 : FE := ⟨36, [(1, [(0, []), (1, []), (2, []), (3, []), (5, []), (6, []), (7, []), (8, []), (9, []), (4, [8, 9]), (10, []), (11, []), (12, []), (13, []), (14, []), (15, []), (16, [])])], [.tmp 4], b77⟩
noncomputable def fe78 : FE := ⟨16, [], [.tmp 2, .tmp 3], b78⟩
noncomputable def fe79 : FE := ⟨86, [], [.tmp 8, .tmp 9], b79⟩
noncomputable def fe80 : FE := ⟨89, [(8, [(0, []), (1, []), (2, []), (3, []), (5, []), (6, []), (7, []), (8, []), (9, []), (10, []), (4, [6]), (11, []), (12, [])])], [.tmp 8], b80⟩
noncomputable def fe81 : FE := ⟨14, [], [], b81⟩
noncomputable def fe82 : FE := ⟨123, [(8, [(0, []), (1, []), (2, []), (3, []), (4, []), (5, []), (6, []), (7, []), (8, []), (9, []), (10, []), (11, []), (12, []), (13, []), (14, []), (15, []), (16, []), (17, []), (18, []), (19, []), (20, []), (21, [])]), (11, [(0, []), (1, []), (2, []), (3, []), (4, []), (5, []), (6, []), (7, []), (8, []), (9, []), (10, []), (11, []), (12, []), (13, []), (14, []), (15, []), (16, []), (17, []), (18, []), (19, []), (20, []), (21, [13, 18]), (22, []), (23, []), (24, [])]), (15, [(0, []), (1, []), (2, []), (3, []), (4, []), (5, []), (6, []), (7, []), (8, []), (9, []), (10, []), (11, []), (12, []), (13, []), (14, []), (15, []), (16, []), (17, []), (18, []), (19, []), (20, []), (21, [13, 18]), (22, []), (23, []), (24, [])])], [.tmp 11], b82⟩
noncomputable def fe83 : FE := ⟨148, [(10, [(0, []), (1, []), (2, []), (3, []), (4, []), (5, []), (6, []), (7, []), (8, []), (9, []), (10, []), (11, []), (12, []), (13, []), (14, []), (15, []), (16, []), (17, []), (18, []), (19, []), (20, []), (21, [])]), (11, [(0, []), (1, []), (2, []), (3, []), (4, []), (5, []), (6, []), (7, []), (8, []), (9, []), (10, []), (11, []), (12, []), (13, []), (14, []), (15, []), (16, []), (17, []), (18, []), (19, []), (20, []), (21, []), (22, []), (23, []), (24, []), (25, []), (26, []), (27, []), (28, []), (29, []), (30, []), (31, []), (32, []), (33, []), (34, []), (35, []), (36, []), (37, []), (38, []), (39, []), (40, []), (41, []), (42, []), (43, [])])], [.tmp 8, .tmp 9], b83⟩
noncomputable def fe84 : FE := ⟨19, [], [.tmp 4], b84⟩
noncomputable def fe85 : FE := ⟨19, [], [], b85⟩
noncomputable def fe86 : FE := ⟨27, [], [.tmp 4], b86⟩
noncomputable def fe87 : FE := ⟨31, [], [.tmp 2], b87⟩
noncomputable def fe88 : FE := ⟨63, [(1, [(0, []), (1, []), (2, []), (3, []), (4, [1]), (5, []), (6, []), (7, []), (8, []), (9, []), (10, [])]), (4, [(0, []), (1, []), (2, []), (3, []), (4, []), (5, []), (6, []), (7, []), (8, [5]), (9, []), (10, []), (11, [])])], [.cell 6 132, .tmp 7], b88⟩
noncomputable def fe89 : FE := ⟨11, [(3, [(0, []), (2, []), (3, []), (1, [3]), (4, []), (5, [])])], [.tmp 2], b89⟩
noncomputable def fe90 : FE := ⟨11, [(3, [(0, []), (2, []), (3, []), (1, [3]), (4, []), (5, [])])], [.tmp 2], b90⟩
noncomputable def fe91 : FE := ⟨11, [], [.tmp 2], b91⟩
noncomputable def fe92 : FE := ⟨4, [], [.tmp 2], b92⟩
noncomputable def fe93 : FE := ⟨41, [], [.tmp 4, .tmp 5], b93⟩
noncomputable def fe94 : FE := ⟨20, [], [.tmp 4], b94⟩
noncomputable def fe95 : FE := ⟨19, [], [.tmp 2], b95⟩
noncomputable def fe96 : FE := ⟨24, [], [.tmp 4], b96⟩
noncomputable def fe97 : FE := ⟨29, [], [.tmp 2, .tmp 3], b97⟩
noncomputable def fe98 : FE := ⟨8, [], [.tmp 2], b98⟩
noncomputable def fe99 : FE := ⟨26, [], [.tmp 4], b99⟩
noncomputable def fe100 : FE := ⟨63, [], [.tmp 4, .tmp 5], b100⟩
noncomputable def fe101 : FE := ⟨28, [], [], b101⟩
noncomputable def fe102 : FE := ⟨13, [(0, [(0, []), (1, []), (2, []), (3, []), (4, []), (5, []), (6, []), (7, []), (8, [2]), (9, [])])], [], b102⟩
noncomputable def fe103 : FE := ⟨10, [], [.tmp 4], b103⟩
noncomputable def fe104 : FE := ⟨8, [], [.tmp 3], b104⟩
noncomputable def fe105 : FE := ⟨70, [(3, [(0, []), (1, []), (2, []), (3, []), (4, []), (5, []), (6, []), (7, []), (8, []), (9, []), (10, [])]), (6, [(0, []), (1, []), (2, []), (3, []), (4, []), (5, []), (6, []), (7, []), (8, []), (9, []), (10, [])])], [.cell 4 202, .tmp 5], b105⟩
noncomputable def fe106 : FE := ⟨11, [], [.tmp 2], b106⟩
noncomputable def fe107 : FE := ⟨26, [], [.tmp 4], b107⟩
noncomputable def fe108 : FE := ⟨16, [], [], b108⟩
noncomputable def fe109 : FE := ⟨15, [(0, [(0, []), (1, []), (2, []), (3, []), (4, []), (5, []), (6, []), (7, [2]), (8, [])])], [], b109⟩
noncomputable def fe110 : FE := ⟨41, [], [.tmp 6], b110⟩
noncomputable def fe111 : FE := ⟨9, [], [.tmp 2], b111⟩
noncomputable def fe112 : FE := ⟨5, [], [.tmp 2], b112⟩
noncomputable def fe113 : FE := ⟨36, [(3, [(0, []), (1, []), (2, []), (3, []), (4, []), (5, []), (6, []), (7, []), (8, []), (9, []), (10, []), (11, []), (12, []), (13, []), (14, []), (15, []), (16, []), (17, []), (18, []), (19, []), (20, []), (21, []), (22, []), (23, []), (24, []), (25, [])])], [.tmp 4], b113⟩
noncomputable def fe114 : FE := ⟨13, [], [.tmp 6], b114⟩
noncomputable def fe115 : FE := ⟨29, [(3, [(0, []), (1, []), (2, []), (3, []), (4, []), (5, []), (6, []), (7, []), (8, []), (9, []), (10, []), (11, []), (12, []), (13, []), (14, []), (15, []), (16, [])])], [.tmp 4], b115⟩
noncomputable def fe116 : FE := ⟨4, [], [.tmp 2], b116⟩
noncomputable def fe117 : FE := ⟨9, [], [.tmp 2], b117⟩
noncomputable def fe118 : FE := ⟨39, [], [.tmp 6, .tmp 7], b118⟩
noncomputable def fe119 : FE := ⟨24, [], [.tmp 4], b119⟩
noncomputable def fe120 : FE := ⟨28, [], [.tmp 4], b120⟩
noncomputable def fe121 : FE := ⟨5, [], [.tmp 2], b121⟩
noncomputable def fe122 : FE := ⟨5, [], [.tmp 2], b122⟩
noncomputable def fe123 : FE := ⟨19, [], [], b123⟩
noncomputable def fe124 : FE := ⟨16, [], [.tmp 4], b124⟩
noncomputable def fe125 : FE := ⟨48, [(1, [(0, []), (1, []), (2, []), (3, []), (4, []), (5, []), (6, []), (7, []), (8, []), (9, []), (10, []), (11, []), (12, []), (13, []), (14, []), (15, []), (16, []), (17, []), (18, [])])], [.cell 4 149, .tmp 5], b125⟩
noncomputable def fe126 : FE := ⟨27, [], [.tmp 4], b126⟩
noncomputable def fe127 : FE := ⟨8, [], [.tmp 2], b127⟩
noncomputable def fe128 : FE := ⟨21, [(1, [(0, []), (1, []), (2, []), (3, []), (4, []), (5, []), (6, []), (7, []), (8, []), (9, []), (10, []), (11, []), (12, []), (13, []), (14, []), (15, []), (16, []), (17, []), (18, [])])], [.tmp 2], b128⟩
noncomputable def fe129 : FE := ⟨35, [], [.tmp 2], b129⟩
noncomputable def fe130 : FE := ⟨23, [], [.tmp 8], b130⟩
noncomputable def fe131 : FE := ⟨17, [], [.tmp 2], b131⟩
noncomputable def fe132 : FE := ⟨18, [], [], b132⟩
noncomputable def fe133 : FE := ⟨26, [], [], b133⟩
noncomputable def fe134 : FE := ⟨67, [], [.cell 4 227], b134⟩
noncomputable def fe135 : FE := ⟨14, [], [.tmp 4], b135⟩
noncomputable def fe136 : FE := ⟨52, [], [.tmp 4, .tmp 5], b136⟩
noncomputable def fe137 : FE := ⟨13, [], [.tmp 4], b137⟩
noncomputable def fe138 : FE := ⟨28, [(0, [(0, []), (1, []), (2, []), (3, []), (4, []), (5, []), (8, []), (6, []), (7, [])])], [], b138⟩
noncomputable def fe139 : FE := ⟨43, [], [.tmp 6], b139⟩
noncomputable def fe140 : FE := ⟨9, [], [], b140⟩
noncomputable def fe141 : FE := ⟨64, [(18, [(0, []), (1, []), (2, []), (3, []), (4, [1, 3]), (5, [3]), (6, [])])], [.cell 4 3, .cell 5 3, .cell 6 3], b141⟩
noncomputable def fe142 : FE := ⟨68, [(2, [(0, []), (1, []), (2, []), (3, []), (4, []), (5, []), (6, []), (7, []), (8, []), (9, []), (10, []), (11, []), (12, []), (13, []), (14, []), (15, []), (16, []), (17, []), (18, [3]), (19, []), (20, []), (21, [])])], [.tmp 10], b142⟩
noncomputable def fe143 : FE := ⟨14, [(1, [(0, []), (1, []), (2, []), (3, []), (4, []), (5, []), (6, []), (7, []), (8, []), (9, []), (10, [])])], [], b143⟩
noncomputable def fe144 : FE := ⟨13, [(1, [(0, []), (1, []), (2, []), (3, []), (4, []), (5, []), (6, []), (7, []), (8, []), (9, [])])], [.tmp 3], b144⟩
noncomputable def fe145 : FE := ⟨18, [(1, [(0, []), (1, []), (2, []), (3, []), (4, []), (5, []), (6, []), (7, []), (8, []), (10, []), (11, []), (9, [11]), (12, []), (13, []), (14, []), (15, [])])], [.tmp 2], b145⟩
noncomputable def fe146 : FE := ⟨5, [], [.tmp 2], b146⟩
noncomputable def fe147 : FE := ⟨14, [(3, [(0, []), (2, []), (3, []), (4, []), (1, [4]), (5, []), (6, [])])], [.tmp 4], b147⟩
noncomputable def fe148 : FE := ⟨38, [], [.cell 4 149, .tmp 5, .tmp 6], b148⟩
noncomputable def fe149 : FE := ⟨8, [], [.tmp 2], b149⟩
noncomputable def fe150 : FE := ⟨14, [], [.tmp 2], b150⟩
noncomputable def fe151 : FE := ⟨14, [], [.tmp 2], b151⟩
noncomputable def fe152 : FE := ⟨58, [], [], b152⟩
noncomputable def fe153 : FE := ⟨15, [], [.tmp 6, .tmp 7], b153⟩
noncomputable def fe154 : FE := ⟨15, [], [.cell 6 132, .tmp 7], b154⟩
noncomputable def fe155 : FE := ⟨42, [], [.tmp 4], b155⟩
noncomputable def fe156 : FE := ⟨8, [], [.tmp 2], b156⟩
noncomputable def fe157 : FE := ⟨13, [], [.tmp 3], b157⟩
noncomputable def fe158 : FE := ⟨9, [], [], b158⟩
noncomputable def fe159 : FE := ⟨17, [(1, [(0, []), (1, []), (2, []), (3, []), (5, []), (6, []), (7, []), (8, []), (4, [6, 8]), (9, []), (10, []), (11, []), (12, [])])], [.tmp 4], b159⟩
noncomputable def fe160 : FE := ⟨16, [(0, [(0, []), (1, []), (2, []), (3, []), (4, []), (5, []), (6, []), (7, []), (8, []), (9, []), (10, [])])], [], b160⟩
noncomputable def fe161 : FE := ⟨1, [], [.tmp 0], b161⟩
noncomputable def fe162 : FE := ⟨9, [], [.tmp 2], b162⟩
noncomputable def fe163 : FE := ⟨31, [(1, [(0, []), (1, []), (2, []), (3, []), (4, []), (5, []), (6, []), (7, [])])], [.cell 8 149, .tmp 9], b163⟩
noncomputable def fe164 : FE := ⟨19, [], [.tmp 2], b164⟩
noncomputable def fe165 : FE := ⟨25, [], [.tmp 2], b165⟩
noncomputable def fe166 : FE := ⟨8, [], [.tmp 2], b166⟩
noncomputable def fe167 : FE := ⟨24, [], [], b167⟩
noncomputable def fe168 : FE := ⟨19, [], [.tmp 4], b168⟩
noncomputable def fe169 : FE := ⟨63, [], [], b169⟩
noncomputable def fe170 : FE := ⟨26, [], [], b170⟩
noncomputable def fe171 : FE := ⟨31, [], [.tmp 4], b171⟩
noncomputable def fe172 : FE := ⟨53, [(4, [(0, []), (1, []), (2, []), (3, []), (4, []), (5, []), (6, []), (7, []), (8, []), (9, []), (10, []), (11, []), (12, []), (13, []), (14, []), (15, []), (16, [])]), (6, [(0, []), (1, []), (2, []), (3, []), (4, []), (5, []), (6, []), (7, []), (8, []), (9, []), (10, []), (11, []), (12, []), (13, []), (14, []), (15, []), (16, []), (17, [])])], [], b172⟩
noncomputable def fe173 : FE := ⟨220, [(5, [(0, []), (1, []), (2, []), (3, []), (4, []), (5, []), (6, []), (7, []), (8, []), (9, []), (10, [])]), (11, [(0, []), (1, []), (2, []), (3, []), (4, []), (5, []), (6, []), (7, []), (8, []), (9, []), (10, []), (11, []), (12, []), (13, []), (14, []), (15, []), (16, []), (17, [])]), (17, [(0, []), (1, []), (2, []), (3, []), (4, []), (5, []), (6, []), (7, []), (8, []), (9, []), (10, []), (11, [])]), (23, [(0, []), (1, []), (2, []), (3, []), (4, []), (5, []), (6, []), (7, []), (8, []), (9, []), (10, []), (11, []), (12, []), (13, []), (14, []), (15, []), (16, []), (17, [])]), (35, [(0, []), (1, []), (2, []), (3, []), (4, []), (5, []), (6, []), (7, []), (8, []), (9, []), (10, []), (11, []), (12, []), (13, [])])], [], b173⟩
noncomputable def fe174 : FE := ⟨58, [], [], b174⟩
noncomputable def fe175 : FE := ⟨38, [(3, [(0, []), (1, []), (2, []), (3, []), (4, []), (5, []), (6, []), (7, []), (8, []), (9, []), (10, []), (11, []), (12, []), (13, []), (14, []), (15, []), (16, []), (17, []), (18, []), (19, []), (20, []), (21, []), (22, []), (23, [])])], [], b175⟩
noncomputable def fnTr : Tr FE := (.node none (.node none (.node (some fe3) (.node (some fe7) (.node (some fe15) (.node (some fe31) (.node (some fe63) (.node (some fe127) .nil .nil) .nil) (.node (some fe95) (.node (some fe159) .nil .nil) .nil)) (.node (some fe47) (.node (some fe79) (.node (some fe143) .nil .nil) .nil) (.node (some fe111) (.node (some fe175) .nil .nil) .nil))) (.node (some fe23) (.node (some fe39) (.node (some fe71) (.node (some fe135) .nil .nil) .nil) (.node (some fe103) (.node (some fe167) .nil .nil) .nil)) (.node (some fe55) (.node (some fe87) (.node (some fe151) .nil .nil) .nil) (.node (some fe119) .nil .nil)))) (.node (some fe11) (.node (some fe19) (.node (some fe35) (.node (some fe67) (.node (some fe131) .nil .nil) .nil) (.node (some fe99) (.node (some fe163) .nil .nil) .nil)) (.node (some fe51) (.node (some fe83) (.node (some fe147) .nil .nil) .nil) (.node (some fe115) .nil .nil))) (.node (some fe27) (.node (some fe43) (.node (some fe75) (.node (some fe139) .nil .nil) .nil) (.node (some fe107) (.node (some fe171) .nil .nil) .nil)) (.node (some fe59) (.node (some fe91) (.node (some fe155) .nil .nil) .nil) (.node (some fe123) .nil .nil))))) (.node (some fe5) (.node (some fe9) (.node (some fe17) (.node (some fe33) (.node (some fe65) (.node (some fe129) .nil .nil) .nil) (.node (some fe97) (.node (some fe161) .nil .nil) .nil)) (.node (some fe49) (.node (some fe81) (.node (some fe145) .nil .nil) .nil) (.node (some fe113) .nil .nil))) (.node (some fe25) (.node (some fe41) (.node (some fe73) (.node (some fe137) .nil .nil) .nil) (.node (some fe105) (.node (some fe169) .nil .nil) .nil)) (.node (some fe57) (.node (some fe89) (.node (some fe153) .nil .nil) .nil) (.node (some fe121) .nil .nil)))) (.node (some fe13) (.node (some fe21) (.node (some fe37) (.node (some fe69) (.node (some fe133) .nil .nil) .nil) (.node (some fe101) (.node (some fe165) .nil .nil) .nil)) (.node (some fe53) (.node (some fe85) (.node (some fe149) .nil .nil) .nil) (.node (some fe117) .nil .nil))) (.node (some fe29) (.node (some fe45) (.node (some fe77) (.node (some fe141) .nil .nil) .nil) (.node (some fe109) (.node (some fe173) .nil .nil) .nil)) (.node (some fe61) (.node (some fe93) (.node (some fe157) .nil .nil) .nil) (.node (some fe125) .nil .nil)))))) (.node none (.node (some fe4) (.node (some fe8) (.node (some fe16) (.node (some fe32) (.node (some fe64) (.node (some fe128) .nil .nil) .nil) (.node (some fe96) (.node (some fe160) .nil .nil) .nil)) (.node (some fe48) (.node (some fe80) (.node (some fe144) .nil .nil) .nil) (.node (some fe112) .nil .nil))) (.node (some fe24) (.node (some fe40) (.node (some fe72) (.node (some fe136) .nil .nil) .nil) (.node (some fe104) (.node (some fe168) .nil .nil) .nil)) (.node (some fe56) (.node (some fe88) (.node (some fe152) .nil .nil) .nil) (.node (some fe120) .nil .nil)))) (.node (some fe12) (.node (some fe20) (.node (some fe36) (.node (some fe68) (.node (some fe132) .nil .nil) .nil) (.node (some fe100) (.node (some fe164) .nil .nil) .nil)) (.node (some fe52) (.node (some fe84) (.node (some fe148) .nil .nil) .nil) (.node (some fe116) .nil .nil))) (.node (some fe28) (.node (some fe44) (.node (some fe76) (.node (some fe140) .nil .nil) .nil) (.node (some fe108) (.node (some fe172) .nil .nil) .nil)) (.node (some fe60) (.node (some fe92) (.node (some fe156) .nil .nil) .nil) (.node (some fe124) .nil .nil))))) (.node (some fe6) (.node (some fe10) (.node (some fe18) (.node (some fe34) (.node (some fe66) (.node (some fe130) .nil .nil) .nil) (.node (some fe98) (.node (some fe162) .nil .nil) .nil)) (.node (some fe50) (.node (some fe82) (.node (some fe146) .nil .nil) .nil) (.node (some fe114) .nil .nil))) (.node (some fe26) (.node (some fe42) (.node (some fe74) (.node (some fe138) .nil .nil) .nil) (.node (some fe106) (.node (some fe170) .nil .nil) .nil)) (.node (some fe58) (.node (some fe90) (.node (some fe154) .nil .nil) .nil) (.node (some fe122) .nil .nil)))) (.node (some fe14) (.node (some fe22) (.node (some fe38) (.node (some fe70) (.node (some fe134) .nil .nil) .nil) (.node (some fe102) (.node (some fe166) .nil .nil) .nil)) (.node (some fe54) (.node (some fe86) (.node (some fe150) .nil .nil) .nil) (.node (some fe118) .nil .nil))) (.node (some fe30) (.node (some fe46) (.node (some fe78) (.node (some fe142) .nil .nil) .nil) (.node (some fe110) (.node (some fe174) .nil .nil) .nil)) (.node (some fe62) (.node (some fe94) (.node (some fe158) .nil .nil) .nil) (.node (some fe126) .nil .nil)))))))
noncomputable def fnL : List (Nat × FE) := [(3, fe3), (4, fe4), (5, fe5), (6, fe6), (7, fe7), (8, fe8), (9, fe9), (10, fe10), (11, fe11), (12, fe12), (13, fe13), (14, fe14), (15, fe15), (16, fe16), (17, fe17), (18, fe18), (19, fe19), (20, fe20), (21, fe21), (22, fe22), (23, fe23), (24, fe24), (25, fe25), (26, fe26), (27, fe27), (28, fe28), (29, fe29), (30, fe30), (31, fe31), (32, fe32), (33, fe33), (34, fe34), (35, fe35), (36, fe36), (37, fe37), (38, fe38), (39, fe39), (40, fe40), (41, fe41), (42, fe42), (43, fe43), (44, fe44), (45, fe45), (46, fe46), (47, fe47), (48, fe48), (49, fe49), (50, fe50), (51, fe51), (52, fe52), (53, fe53), (54, fe54), (55, fe55), (56, fe56), (57, fe57), (58, fe58), (59, fe59), (60, fe60), (61, fe61), (62, fe62), (63, fe63), (64, fe64), (65, fe65), (66, fe66), (67, fe67), (68, fe68), (69, fe69), (70, fe70), (71, fe71), (72, fe72), (73, fe73), (74, fe74), (75, fe75), (76, fe76), (77, fe77), (78, fe78), (79, fe79), (80, fe80), (81, fe81), (82, fe82), (83, fe83), (84, fe84), (85, fe85), (86, fe86), (87, fe87), (88, fe88), (89, fe89), (90, fe90), (91, fe91), (92, fe92), (93, fe93), (94, fe94), (95, fe95), (96, fe96), (97, fe97), (98, fe98), (99, fe99), (100, fe100), (101, fe101), (102, fe102), (103, fe103), (104, fe104), (105, fe105), (106, fe106), (107, fe107), (108, fe108), (109, fe109), (110, fe110), (111, fe111), (112, fe112), (113, fe113), (114, fe114), (115, fe115), (116, fe116), (117, fe117), (118, fe118), (119, fe119), (120, fe120), (121, fe121), (122, fe122), (123, fe123), (124, fe124), (125, fe125), (126, fe126), (127, fe127), (128, fe128), (129, fe129), (130, fe130), (131, fe131), (132, fe132), (133, fe133), (134, fe134), (135, fe135), (136, fe136), (137, fe137), (138, fe138), (139, fe139), (140, fe140), (141, fe141), (142, fe142), (143, fe143), (144, fe144), (145, fe145), (146, fe146), (147, fe147), (148, fe148), (149, fe149), (150, fe150), (151, fe151), (152, fe152), (153, fe153), (154, fe154), (155, fe155), (156, fe156), (157, fe157), (158, fe158), (159, fe159), (160, fe160), (161, fe161), (162, fe162), (163, fe163), (164, fe164), (165, fe165), (166, fe166), (167, fe167), (168, fe168), (169, fe169), (170, fe170), (171, fe171), (172, fe172), (173, fe173), (174, fe174), (175, fe175)]
theorem fnTr_eq : fnTr = Tr.ofL fnL := by kernel_rfl
/-- What a table of functions says of one. -/
structure FeOK (f : FuncId) (fe : FE) : Prop where
  h : FnOK f fe.n fe.pl fe.c fe.rs

theorem fnL_ok : ∀ p ∈ fnL, FeOK p.1 p.2 := by
  unfold fnL
  refine List.forall_mem_cons.2 ⟨⟨fn3⟩, ?_⟩
  refine List.forall_mem_cons.2 ⟨⟨fn4⟩, ?_⟩
  refine List.forall_mem_cons.2 ⟨⟨fn5⟩, ?_⟩
  refine List.forall_mem_cons.2 ⟨⟨fn6⟩, ?_⟩
  refine List.forall_mem_cons.2 ⟨⟨fn7⟩, ?_⟩
  refine List.forall_mem_cons.2 ⟨⟨fn8⟩, ?_⟩
  refine List.forall_mem_cons.2 ⟨⟨fn9⟩, ?_⟩
  refine List.forall_mem_cons.2 ⟨⟨fn10⟩, ?_⟩
  refine List.forall_mem_cons.2 ⟨⟨fn11⟩, ?_⟩
  refine List.forall_mem_cons.2 ⟨⟨fn12⟩, ?_⟩
  refine List.forall_mem_cons.2 ⟨⟨fn13⟩, ?_⟩
  refine List.forall_mem_cons.2 ⟨⟨fn14⟩, ?_⟩
  refine List.forall_mem_cons.2 ⟨⟨fn15⟩, ?_⟩
  refine List.forall_mem_cons.2 ⟨⟨fn16⟩, ?_⟩
  refine List.forall_mem_cons.2 ⟨⟨fn17⟩, ?_⟩
  refine List.forall_mem_cons.2 ⟨⟨fn18⟩, ?_⟩
  refine List.forall_mem_cons.2 ⟨⟨fn19⟩, ?_⟩
  refine List.forall_mem_cons.2 ⟨⟨fn20⟩, ?_⟩
  refine List.forall_mem_cons.2 ⟨⟨fn21⟩, ?_⟩
  refine List.forall_mem_cons.2 ⟨⟨fn22⟩, ?_⟩
  refine List.forall_mem_cons.2 ⟨⟨fn23⟩, ?_⟩
  refine List.forall_mem_cons.2 ⟨⟨fn24⟩, ?_⟩
  refine List.forall_mem_cons.2 ⟨⟨fn25⟩, ?_⟩
  refine List.forall_mem_cons.2 ⟨⟨fn26⟩, ?_⟩
  refine List.forall_mem_cons.2 ⟨⟨fn27⟩, ?_⟩
  refine List.forall_mem_cons.2 ⟨⟨fn28⟩, ?_⟩
  refine List.forall_mem_cons.2 ⟨⟨fn29⟩, ?_⟩
  refine List.forall_mem_cons.2 ⟨⟨fn30⟩, ?_⟩
  refine List.forall_mem_cons.2 ⟨⟨fn31⟩, ?_⟩
  refine List.forall_mem_cons.2 ⟨⟨fn32⟩, ?_⟩
  refine List.forall_mem_cons.2 ⟨⟨fn33⟩, ?_⟩
  refine List.forall_mem_cons.2 ⟨⟨fn34⟩, ?_⟩
  refine List.forall_mem_cons.2 ⟨⟨fn35⟩, ?_⟩
  refine List.forall_mem_cons.2 ⟨⟨fn36⟩, ?_⟩
  refine List.forall_mem_cons.2 ⟨⟨fn37⟩, ?_⟩
  refine List.forall_mem_cons.2 ⟨⟨fn38⟩, ?_⟩
  refine List.forall_mem_cons.2 ⟨⟨fn39⟩, ?_⟩
  refine List.forall_mem_cons.2 ⟨⟨fn40⟩, ?_⟩
  refine List.forall_mem_cons.2 ⟨⟨fn41⟩, ?_⟩
  refine List.forall_mem_cons.2 ⟨⟨fn42⟩, ?_⟩
  refine List.forall_mem_cons.2 ⟨⟨fn43⟩, ?_⟩
  refine List.forall_mem_cons.2 ⟨⟨fn44⟩, ?_⟩
  refine List.forall_mem_cons.2 ⟨⟨fn45⟩, ?_⟩
  refine List.forall_mem_cons.2 ⟨⟨fn46⟩, ?_⟩
  refine List.forall_mem_cons.2 ⟨⟨fn47⟩, ?_⟩
  refine List.forall_mem_cons.2 ⟨⟨fn48⟩, ?_⟩
  refine List.forall_mem_cons.2 ⟨⟨fn49⟩, ?_⟩
  refine List.forall_mem_cons.2 ⟨⟨fn50⟩, ?_⟩
  refine List.forall_mem_cons.2 ⟨⟨fn51⟩, ?_⟩
  refine List.forall_mem_cons.2 ⟨⟨fn52⟩, ?_⟩
  refine List.forall_mem_cons.2 ⟨⟨fn53⟩, ?_⟩
  refine List.forall_mem_cons.2 ⟨⟨fn54⟩, ?_⟩
  refine List.forall_mem_cons.2 ⟨⟨fn55⟩, ?_⟩
  refine List.forall_mem_cons.2 ⟨⟨fn56⟩, ?_⟩
  refine List.forall_mem_cons.2 ⟨⟨fn57⟩, ?_⟩
  refine List.forall_mem_cons.2 ⟨⟨fn58⟩, ?_⟩
  refine List.forall_mem_cons.2 ⟨⟨fn59⟩, ?_⟩
  refine List.forall_mem_cons.2 ⟨⟨fn60⟩, ?_⟩
  refine List.forall_mem_cons.2 ⟨⟨fn61⟩, ?_⟩
  refine List.forall_mem_cons.2 ⟨⟨fn62⟩, ?_⟩
  refine List.forall_mem_cons.2 ⟨⟨fn63⟩, ?_⟩
  refine List.forall_mem_cons.2 ⟨⟨fn64⟩, ?_⟩
  refine List.forall_mem_cons.2 ⟨⟨fn65⟩, ?_⟩
  refine List.forall_mem_cons.2 ⟨⟨fn66⟩, ?_⟩
  refine List.forall_mem_cons.2 ⟨⟨fn67⟩, ?_⟩
  refine List.forall_mem_cons.2 ⟨⟨fn68⟩, ?_⟩
  refine List.forall_mem_cons.2 ⟨⟨fn69⟩, ?_⟩
  refine List.forall_mem_cons.2 ⟨⟨fn70⟩, ?_⟩
  refine List.forall_mem_cons.2 ⟨⟨fn71⟩, ?_⟩
  refine List.forall_mem_cons.2 ⟨⟨fn72⟩, ?_⟩
  refine List.forall_mem_cons.2 ⟨⟨fn73⟩, ?_⟩
  refine List.forall_mem_cons.2 ⟨⟨fn74⟩, ?_⟩
  refine List.forall_mem_cons.2 ⟨⟨fn75⟩, ?_⟩
  refine List.forall_mem_cons.2 ⟨⟨fn76⟩, ?_⟩
  refine List.forall_mem_cons.2 ⟨⟨fn77⟩, ?_⟩
  refine List.forall_mem_cons.2 ⟨⟨fn78⟩, ?_⟩
  refine List.forall_mem_cons.2 ⟨⟨fn79⟩, ?_⟩
  refine List.forall_mem_cons.2 ⟨⟨fn80⟩, ?_⟩
  refine List.forall_mem_cons.2 ⟨⟨fn81⟩, ?_⟩
  refine List.forall_mem_cons.2 ⟨⟨fn82⟩, ?_⟩
  refine List.forall_mem_cons.2 ⟨⟨fn83⟩, ?_⟩
  refine List.forall_mem_cons.2 ⟨⟨fn84⟩, ?_⟩
  refine List.forall_mem_cons.2 ⟨⟨fn85⟩, ?_⟩
  refine List.forall_mem_cons.2 ⟨⟨fn86⟩, ?_⟩
  refine List.forall_mem_cons.2 ⟨⟨fn87⟩, ?_⟩
  refine List.forall_mem_cons.2 ⟨⟨fn88⟩, ?_⟩
  refine List.forall_mem_cons.2 ⟨⟨fn89⟩, ?_⟩
  refine List.forall_mem_cons.2 ⟨⟨fn90⟩, ?_⟩
  refine List.forall_mem_cons.2 ⟨⟨fn91⟩, ?_⟩
  refine List.forall_mem_cons.2 ⟨⟨fn92⟩, ?_⟩
  refine List.forall_mem_cons.2 ⟨⟨fn93⟩, ?_⟩
  refine List.forall_mem_cons.2 ⟨⟨fn94⟩, ?_⟩
  refine List.forall_mem_cons.2 ⟨⟨fn95⟩, ?_⟩
  refine List.forall_mem_cons.2 ⟨⟨fn96⟩, ?_⟩
  refine List.forall_mem_cons.2 ⟨⟨fn97⟩, ?_⟩
  refine List.forall_mem_cons.2 ⟨⟨fn98⟩, ?_⟩
  refine List.forall_mem_cons.2 ⟨⟨fn99⟩, ?_⟩
  refine List.forall_mem_cons.2 ⟨⟨fn100⟩, ?_⟩
  refine List.forall_mem_cons.2 ⟨⟨fn101⟩, ?_⟩
  refine List.forall_mem_cons.2 ⟨⟨fn102⟩, ?_⟩
  refine List.forall_mem_cons.2 ⟨⟨fn103⟩, ?_⟩
  refine List.forall_mem_cons.2 ⟨⟨fn104⟩, ?_⟩
  refine List.forall_mem_cons.2 ⟨⟨fn105⟩, ?_⟩
  refine List.forall_mem_cons.2 ⟨⟨fn106⟩, ?_⟩
  refine List.forall_mem_cons.2 ⟨⟨fn107⟩, ?_⟩
  refine List.forall_mem_cons.2 ⟨⟨fn108⟩, ?_⟩
  refine List.forall_mem_cons.2 ⟨⟨fn109⟩, ?_⟩
  refine List.forall_mem_cons.2 ⟨⟨fn110⟩, ?_⟩
  refine List.forall_mem_cons.2 ⟨⟨fn111⟩, ?_⟩
  refine List.forall_mem_cons.2 ⟨⟨fn112⟩, ?_⟩
  refine List.forall_mem_cons.2 ⟨⟨fn113⟩, ?_⟩
  refine List.forall_mem_cons.2 ⟨⟨fn114⟩, ?_⟩
  refine List.forall_mem_cons.2 ⟨⟨fn115⟩, ?_⟩
  refine List.forall_mem_cons.2 ⟨⟨fn116⟩, ?_⟩
  refine List.forall_mem_cons.2 ⟨⟨fn117⟩, ?_⟩
  refine List.forall_mem_cons.2 ⟨⟨fn118⟩, ?_⟩
  refine List.forall_mem_cons.2 ⟨⟨fn119⟩, ?_⟩
  refine List.forall_mem_cons.2 ⟨⟨fn120⟩, ?_⟩
  refine List.forall_mem_cons.2 ⟨⟨fn121⟩, ?_⟩
  refine List.forall_mem_cons.2 ⟨⟨fn122⟩, ?_⟩
  refine List.forall_mem_cons.2 ⟨⟨fn123⟩, ?_⟩
  refine List.forall_mem_cons.2 ⟨⟨fn124⟩, ?_⟩
  refine List.forall_mem_cons.2 ⟨⟨fn125⟩, ?_⟩
  refine List.forall_mem_cons.2 ⟨⟨fn126⟩, ?_⟩
  refine List.forall_mem_cons.2 ⟨⟨fn127⟩, ?_⟩
  refine List.forall_mem_cons.2 ⟨⟨fn128⟩, ?_⟩
  refine List.forall_mem_cons.2 ⟨⟨fn129⟩, ?_⟩
  refine List.forall_mem_cons.2 ⟨⟨fn130⟩, ?_⟩
  refine List.forall_mem_cons.2 ⟨⟨fn131⟩, ?_⟩
  refine List.forall_mem_cons.2 ⟨⟨fn132⟩, ?_⟩
  refine List.forall_mem_cons.2 ⟨⟨fn133⟩, ?_⟩
  refine List.forall_mem_cons.2 ⟨⟨fn134⟩, ?_⟩
  refine List.forall_mem_cons.2 ⟨⟨fn135⟩, ?_⟩
  refine List.forall_mem_cons.2 ⟨⟨fn136⟩, ?_⟩
  refine List.forall_mem_cons.2 ⟨⟨fn137⟩, ?_⟩
  refine List.forall_mem_cons.2 ⟨⟨fn138⟩, ?_⟩
  refine List.forall_mem_cons.2 ⟨⟨fn139⟩, ?_⟩
  refine List.forall_mem_cons.2 ⟨⟨fn140⟩, ?_⟩
  refine List.forall_mem_cons.2 ⟨⟨fn141⟩, ?_⟩
  refine List.forall_mem_cons.2 ⟨⟨fn142⟩, ?_⟩
  refine List.forall_mem_cons.2 ⟨⟨fn143⟩, ?_⟩
  refine List.forall_mem_cons.2 ⟨⟨fn144⟩, ?_⟩
  refine List.forall_mem_cons.2 ⟨⟨fn145⟩, ?_⟩
  refine List.forall_mem_cons.2 ⟨⟨fn146⟩, ?_⟩
  refine List.forall_mem_cons.2 ⟨⟨fn147⟩, ?_⟩
  refine List.forall_mem_cons.2 ⟨⟨fn148⟩, ?_⟩
  refine List.forall_mem_cons.2 ⟨⟨fn149⟩, ?_⟩
  refine List.forall_mem_cons.2 ⟨⟨fn150⟩, ?_⟩
  refine List.forall_mem_cons.2 ⟨⟨fn151⟩, ?_⟩
  refine List.forall_mem_cons.2 ⟨⟨fn152⟩, ?_⟩
  refine List.forall_mem_cons.2 ⟨⟨fn153⟩, ?_⟩
  refine List.forall_mem_cons.2 ⟨⟨fn154⟩, ?_⟩
  refine List.forall_mem_cons.2 ⟨⟨fn155⟩, ?_⟩
  refine List.forall_mem_cons.2 ⟨⟨fn156⟩, ?_⟩
  refine List.forall_mem_cons.2 ⟨⟨fn157⟩, ?_⟩
  refine List.forall_mem_cons.2 ⟨⟨fn158⟩, ?_⟩
  refine List.forall_mem_cons.2 ⟨⟨fn159⟩, ?_⟩
  refine List.forall_mem_cons.2 ⟨⟨fn160⟩, ?_⟩
  refine List.forall_mem_cons.2 ⟨⟨fn161⟩, ?_⟩
  refine List.forall_mem_cons.2 ⟨⟨fn162⟩, ?_⟩
  refine List.forall_mem_cons.2 ⟨⟨fn163⟩, ?_⟩
  refine List.forall_mem_cons.2 ⟨⟨fn164⟩, ?_⟩
  refine List.forall_mem_cons.2 ⟨⟨fn165⟩, ?_⟩
  refine List.forall_mem_cons.2 ⟨⟨fn166⟩, ?_⟩
  refine List.forall_mem_cons.2 ⟨⟨fn167⟩, ?_⟩
  refine List.forall_mem_cons.2 ⟨⟨fn168⟩, ?_⟩
  refine List.forall_mem_cons.2 ⟨⟨fn169⟩, ?_⟩
  refine List.forall_mem_cons.2 ⟨⟨fn170⟩, ?_⟩
  refine List.forall_mem_cons.2 ⟨⟨fn171⟩, ?_⟩
  refine List.forall_mem_cons.2 ⟨⟨fn172⟩, ?_⟩
  refine List.forall_mem_cons.2 ⟨⟨fn173⟩, ?_⟩
  refine List.forall_mem_cons.2 ⟨⟨fn174⟩, ?_⟩
  refine List.forall_mem_cons.2 ⟨⟨fn175⟩, ?_⟩
  intro p hp
  cases hp

theorem fns_ok : FnsOK Tryz.prog TTr fun f => fnTr.get f := fun f fe h args σ R ha hd => by
  have h1 : fnTr.get f = some fe := h
  rw [fnTr_eq] at h1
  obtain ⟨⟨fn, h2, h3, h4, h5, h6⟩, hok⟩ := (fnL_ok _ (Tr.ofL_mem h1)).h
  exact ACalls_of TTr_ok rel0 h2 h3 h4 h5 h6 fe.pl hok ha hd

end Go.Eng
