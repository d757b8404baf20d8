/- The check of the program and that of the specification are the same number; the orders of keys. Conditions: none. -/
import Derived.Test.YtihpnhkhgobblaaGreatDoorCe
import Derived.Test.YtihpnhkhgobblaaGreatDoorXK1
namespace Go.Eng
open Go Go.Proofs

theorem xorU {a b : Nat} (ha : a < 2 ^ 63) (hb : b < 2 ^ 63) : xorI .u64 (a : Int) (b : Int) = ((a ^^^ b : Nat) : Int) := by
  unfold xorI
  show IntKind.wrap .u64 (((BitVec.ofInt 64 a ^^^ BitVec.ofInt 64 b).toNat : Nat) : Int) = _
  rw [BitVec.toNat_xor, ofInt_toNat (by omega) (by omega), ofInt_toNat (by omega) (by omega)]
  have : a ^^^ b < 2 ^ 63 := Nat.xor_lt_two_pow ha hb
  simp only [Int.toNat_natCast]
  exact wrap_u64 (by omega) (by omega)

theorem andU {a b : Nat} (ha : a < 2 ^ 63) (hb : b < 2 ^ 63) : andI .u64 (a : Int) (b : Int) = ((a &&& b : Nat) : Int) := by
  unfold andI
  show IntKind.wrap .u64 (((BitVec.ofInt 64 a &&& BitVec.ofInt 64 b).toNat : Nat) : Int) = _
  rw [BitVec.toNat_and, ofInt_toNat (by omega) (by omega), ofInt_toNat (by omega) (by omega)]
  have : a &&& b ≤ a := Nat.and_le_left
  simp only [Int.toNat_natCast]
  exact wrap_u64 (by omega) (by omega)

theorem mask40 {a : Nat} (ha : a < 2 ^ 63) : andI .u64 (a : Int) 1099511627775 = ((a % 2 ^ 40 : Nat) : Int) := by
  have h := andU (b := 2 ^ 40 - 1) ha (by decide)
  rw [Nat.and_two_pow_sub_one_eq_mod] at h
  exact h

theorem one40 {a : Nat} (ha : a < 2 ^ 63) : andI .u64 (a : Int) 1 = ((a % 2 : Nat) : Int) := by
  have h := andU (b := 1) ha (by decide)
  rw [Nat.and_one_is_mod] at h
  exact h

theorem shlU {a : Nat} {k : Nat} (hk : k ≤ 20) (ha : a < 2 ^ 40) : shlI .u64 (a : Int) (k : Int) = ((a * 2 ^ k : Nat) : Int) := by
  unfold shlI
  have e : min ((k : Int)).toNat (IntKind.bits .u64) = k := by
    show min ((k : Int)).toNat 64 = k
    simp
    omega
  rw [e]
  have hp : (2 : Nat) ^ k ≤ 2 ^ 20 := Nat.pow_le_pow_right (by decide) hk
  have hm : a * 2 ^ k ≤ a * 2 ^ 20 := Nat.mul_le_mul_left a hp
  have ee : (a : Int) * 2 ^ k = ((a * 2 ^ k : Nat) : Int) := by push_cast; rfl
  rw [ee]
  exact wrap_u64 (by omega) (by omega)

theorem shrU {K : IntKind} (hK : IntKind.bits K = 64) {a : Nat} {k : Nat} (hk : k ≤ 40) : shrI K (a : Int) (k : Int) = ((a / 2 ^ k : Nat) : Int) := by
  unfold shrI
  have e : min ((k : Int)).toNat (IntKind.bits K) = k := by
    rw [hK]
    simp
    omega
  rw [e]
  have ee : (2 : Int) ^ k = ((2 ^ k : Nat) : Int) := by push_cast; rfl
  rw [ee, Int.fdiv_eq_ediv_of_nonneg _ (Int.natCast_nonneg _)]
  exact (Int.natCast_ediv a (2 ^ k)).symm

theorem stepM_nat {r b : Nat} (hr : r < 2 ^ 40) (hb : b < 2) : stepM (r : Int) (b : Int) = (stN r b : Int) := by
  unfold stepM stN
  have h1 : shrI .u64 (r : Int) 39 = ((r / 2 ^ 39 : Nat) : Int) := shrU (k := 39) rfl (by decide)
  have h2 : shlI .u64 (r : Int) 1 = ((r * 2 ^ 1 : Nat) : Int) := shlU (k := 1) (by decide) hr
  have hm := Nat.mod_lt (r / 2 ^ 39) (show 0 < 2 by decide)
  have hm2 := Nat.mod_lt (r * 2) (show 0 < 2 ^ 40 by decide)
  rw [h1, h2, one40 (by omega), xorU (by omega) (by omega), Nat.pow_one, mask40 (by omega)]
  have hx : xorI .u64 ((r * 2 % 2 ^ 40 : Nat) : Int) 75628553 = (((r * 2 % 2 ^ 40) ^^^ 75628553 : Nat) : Int) := xorU (b := 75628553) (by omega) (by decide)
  rw [hx]
  by_cases hc : (r / 2 ^ 39 % 2) ^^^ b = 1
  · rw [if_pos hc, if_pos (by rw [hc]; rfl)]
  · rw [if_neg hc, if_neg (by intro h; exact hc (by omega))]

theorem ofInt8 {a : Nat} (h : a < 256) : (BitVec.ofInt 8 (a : Int)).toNat = a := by
  rw [BitVec.toNat_ofInt]
  have : ((a : Int) % ((2 ^ 8 : Nat) : Int)) = a := Int.emod_eq_of_lt (by omega) (by simp; omega)
  rw [this]
  simp

theorem wrap8 {a : Nat} : IntKind.wrap .u8 (a : Int) = ((a % 256 : Nat) : Int) := by
  show (a : Int) % _ = _
  exact (Int.natCast_emod a 256).symm

theorem tab_nat : ∀ i < 16, nibs.getD i 0 = ((tabN.getD i 0 : Nat) : Int) := by decide +kernel
theorem tab_lt : ∀ i < 16, tabN.getD i 0 < 2 ^ 40 := by decide +kernel

theorem nibAt_nat {r n : Nat} (hr : r < 2 ^ 40) (hn : n < 16) : nibAt (r : Int) (n : Int) = (((r / 2 ^ 36) ^^^ n : Nat) : Int) := by
  unfold nibAt
  have h1 : shrI .u64 (r : Int) 36 = ((r / 2 ^ 36 : Nat) : Int) := shrU (k := 36) rfl (by decide)
  have hq : r / 2 ^ 36 < 2 ^ 4 := by omega
  have hx : (r / 2 ^ 36) ^^^ n < 2 ^ 4 := Nat.xor_lt_two_pow hq (by omega)
  rw [h1, wrap8, Nat.mod_eq_of_lt (by omega)]
  have e1 : xorI .u8 ((r / 2 ^ 36 : Nat) : Int) (n : Int) = (((r / 2 ^ 36) ^^^ n : Nat) : Int) := by
    unfold xorI
    show IntKind.wrap .u8 (((BitVec.ofInt 8 _ ^^^ BitVec.ofInt 8 _).toNat : Nat) : Int) = _
    rw [BitVec.toNat_xor, ofInt8 (by omega), ofInt8 (by omega), wrap8, Nat.mod_eq_of_lt (by omega)]
  rw [e1]
  unfold andI
  show IntKind.wrap .u8 (((BitVec.ofInt 8 _ &&& BitVec.ofInt 8 ((15 : Nat) : Int)).toNat : Nat) : Int) = _
  rw [BitVec.toNat_and, ofInt8 (by omega), ofInt8 (by decide), wrap8]
  have h15 : ((r / 2 ^ 36) ^^^ n) &&& 15 = ((r / 2 ^ 36) ^^^ n) % 2 ^ 4 := Nat.and_two_pow_sub_one_eq_mod (n := 4) _
  rw [h15, Nat.mod_eq_of_lt hx, Nat.mod_eq_of_lt (by omega)]

theorem nibM_nat {r n : Nat} (hr : r < 2 ^ 40) (hn : n < 16) : nibM (r : Int) (n : Int) = (nbN r n : Int) := by
  unfold nibM nbN
  have hq : r / 2 ^ 36 < 2 ^ 4 := by omega
  have hx : (r / 2 ^ 36) ^^^ n < 2 ^ 4 := Nat.xor_lt_two_pow hq (by omega)
  have h2 : shlI .u64 (r : Int) 4 = ((r * 2 ^ 4 : Nat) : Int) := shlU (k := 4) (by decide) hr
  have hm2 := Nat.mod_lt (r * 16) (show 0 < 2 ^ 40 by decide)
  rw [h2, nibAt_nat hr hn, Int.toNat_natCast, tab_nat _ (by omega), show (2 : Nat) ^ 4 = 16 from rfl, mask40 (by omega)]
  exact xorU (by omega) (Nat.lt_of_lt_of_le (tab_lt _ (by omega)) (by decide))

theorem crcByte_nat {r b : Nat} (hr : r < 2 ^ 40) (hb : b < 256) : crcByte (r : Int) (b : Int) = (by8 r b : Int) := by
  have hw : IntKind.wrap .u64 (b : Int) = (b : Int) := wrap_u64 (by omega) (by omega)
  have bit : ∀ (k : Nat), k ≤ 7 → andI .u64 (shrI .u64 (b : Int) (k : Int)) 1 = ((b / 2 ^ k % 2 : Nat) : Int) := fun k hk => by
    rw [shrU (K := .u64) rfl (by omega)]
    refine one40 ?_
    have : b / 2 ^ k ≤ b := Nat.div_le_self ..
    omega
  have step : ∀ (j k : Nat) (s : Nat), k ≤ 7 → j = 7 - k → s < 2 ^ 40 → byteUpto (b : Int) (r : Int) j = (s : Int) → byteUpto (b : Int) (r : Int) (j + 1) = (stN s (b / 2 ^ k % 2) : Int) := fun j k s hk hj hs h => by
    unfold byteUpto
    rw [h, hw]
    have e : (7 : Int) - (j : Int) = (k : Int) := by omega
    rw [e, bit k hk]
    exact stepM_nat hs (Nat.mod_lt _ (by decide))
  have s1 := step 0 7 r (by decide) rfl hr rfl
  have s2 := step 1 6 _ (by decide) rfl (st_lt _ _) s1
  have s3 := step 2 5 _ (by decide) rfl (st_lt _ _) s2
  have s4 := step 3 4 _ (by decide) rfl (st_lt _ _) s3
  have s5 := step 4 3 _ (by decide) rfl (st_lt _ _) s4
  have s6 := step 5 2 _ (by decide) rfl (st_lt _ _) s5
  have s7 := step 6 1 _ (by decide) rfl (st_lt _ _) s6
  have s8 := step 7 0 _ (by decide) rfl (st_lt _ _) s7
  unfold crcByte by8
  rw [s8]
  simp

theorem crcWord_nat {r x : Nat} (hr : r < 2 ^ 40) : ∃ r' : Nat, r' < 2 ^ 40 ∧ crcWord (r : Int) (x : Int) = (r' : Int) ∧ (fiveM (x : Int)).foldl crcByte (r : Int) = (r' : Int) := by
  have nb : ∀ k : Nat, k ≤ 36 → IntKind.wrap .u8 (andI .i64 (shrI .i64 (x : Int) (k : Int)) 15) = ((x / 2 ^ k % 16 : Nat) : Int) ∨ True := fun _ _ => .inr True.intro
  have n15 : ∀ y : Nat, andI .i64 (y : Int) 15 = ((y % 16 : Nat) : Int) := fun y => by
    unfold andI
    show IntKind.wrap .i64 (((BitVec.ofInt 64 (y : Int) &&& BitVec.ofInt 64 15).toNat : Nat) : Int) = _
    rw [BitVec.toNat_and, BitVec.toNat_ofInt, ofInt_toNat (by decide) (by decide)]
    have e0 : ((y : Int) % ((2 ^ 64 : Nat) : Int)).toNat = y % 2 ^ 64 := by
      rw [← Int.natCast_emod, Int.toNat_natCast]
    have e1 : (y % 2 ^ 64) &&& (15 : Int).toNat = y % 16 := by
      show (y % 2 ^ 64) &&& (2 ^ 4 - 1) = _
      rw [Nat.and_two_pow_sub_one_eq_mod]
      omega
    rw [e0, e1]
    exact wrap_i64 (by omega) (by omega)
  have nib : ∀ k : Nat, k ≤ 36 → IntKind.wrap .u8 (andI .i64 (shrI .i64 (x : Int) (k : Int)) 15) = ((x / 2 ^ k % 16 : Nat) : Int) := fun k hk => by
    rw [shrU (K := .i64) rfl (by omega), n15, wrap8, Nat.mod_eq_of_lt (by omega)]
  have step : ∀ (j k : Nat) (s : Nat), k ≤ 36 → k = 36 - 4 * j → 4 * j ≤ 36 → s < 2 ^ 40 → crcUpto (x : Int) (r : Int) j = (s : Int) → crcUpto (x : Int) (r : Int) (j + 1) = (nbN s (x / 2 ^ k % 16) : Int) := fun j k s hk hj hj2 hs h => by
    unfold crcUpto
    rw [h]
    have e : (36 : Int) - 4 * (j : Int) = (k : Int) := by omega
    rw [e, nib k hk]
    exact nibM_nat hs (Nat.mod_lt _ (by decide))
  have byt : ∀ k : Nat, k ≤ 32 → IntKind.wrap .u8 (shrI .i64 (x : Int) (k : Int)) = ((x / 2 ^ k % 256 : Nat) : Int) := fun k hk => by
    rw [shrU (K := .i64) rfl (by omega), wrap8]
  have two : ∀ (s k : Nat), s < 2 ^ 40 → crcByte (s : Int) ((x / 2 ^ k % 256 : Nat) : Int) = (nbN (nbN s (x / 2 ^ (k + 4) % 16)) (x / 2 ^ k % 16) : Int) := fun s k hs => by
    have hb : x / 2 ^ k % 256 < 256 := Nat.mod_lt _ (by decide)
    rw [crcByte_nat hs hb, by8_nibs hs hb]
    have e1 : x / 2 ^ k % 256 / 16 = x / 2 ^ (k + 4) % 16 := by
      rw [Nat.pow_add, ← Nat.div_div_eq_div_mul]
      generalize x / 2 ^ k = y
      omega
    have e2 : x / 2 ^ k % 256 % 16 = x / 2 ^ k % 16 := by omega
    rw [e1, e2]
  have lt16 : ∀ k, x / 2 ^ k % 16 < 16 := fun k => Nat.mod_lt _ (by decide)
  have l1 := nb_lt hr (lt16 36)
  have l2 := nb_lt l1 (lt16 32)
  have l3 := nb_lt l2 (lt16 28)
  have l4 := nb_lt l3 (lt16 24)
  have l5 := nb_lt l4 (lt16 20)
  have l6 := nb_lt l5 (lt16 16)
  have l7 := nb_lt l6 (lt16 12)
  have l8 := nb_lt l7 (lt16 8)
  have l9 := nb_lt l8 (lt16 4)
  have l10 := nb_lt l9 (lt16 0)
  have s1 := step 0 36 r (by decide) rfl (by decide) hr rfl
  have s2 := step 1 32 _ (by decide) rfl (by decide) l1 s1
  have s3 := step 2 28 _ (by decide) rfl (by decide) l2 s2
  have s4 := step 3 24 _ (by decide) rfl (by decide) l3 s3
  have s5 := step 4 20 _ (by decide) rfl (by decide) l4 s4
  have s6 := step 5 16 _ (by decide) rfl (by decide) l5 s5
  have s7 := step 6 12 _ (by decide) rfl (by decide) l6 s6
  have s8 := step 7 8 _ (by decide) rfl (by decide) l7 s7
  have s9 := step 8 4 _ (by decide) rfl (by decide) l8 s8
  have s10 := step 9 0 _ (by decide) rfl (by decide) l9 s9
  refine ⟨_, l10, s10, ?_⟩
  have f5 : fiveM (x : Int) = [((x / 2 ^ 32 % 256 : Nat) : Int), ((x / 2 ^ 24 % 256 : Nat) : Int), ((x / 2 ^ 16 % 256 : Nat) : Int), ((x / 2 ^ 8 % 256 : Nat) : Int), ((x / 2 ^ 0 % 256 : Nat) : Int)] := by
    rw [← byt 32 (by decide), ← byt 24 (by decide), ← byt 16 (by decide), ← byt 8 (by decide), ← byt 0 (by decide)]
    rfl
  rw [f5]
  simp only [List.foldl_cons, List.foldl_nil]
  rw [two r 32 hr, two _ 24 l2, two _ 16 l4, two _ 8 l6, two _ 0 l8]

/-- A word. -/
theorem hash_eq {l : List Int} (h : ∀ x ∈ l, 0 ≤ x) : hashM l = refHash l := by
  have key : ∀ (l : List Int) (r : Nat), (∀ x ∈ l, 0 ≤ x) → r < 2 ^ 40 → l.foldl crcWord (r : Int) = (l.flatMap fiveM).foldl crcByte (r : Int) := by
    intro l
    induction l with
    | nil => intro r _ _; rfl
    | cons x l ih =>
      intro r hl hr
      obtain ⟨m, rfl⟩ : ∃ m : Nat, x = (m : Int) := ⟨x.toNat, by have := hl x (List.mem_cons_self ..); omega⟩
      obtain ⟨r', h1, h2, h3⟩ := crcWord_nat (x := m) hr
      rw [List.foldl_cons, List.flatMap_cons, List.foldl_append, h2, h3]
      exact ih r' (fun y hy => hl y (List.mem_cons_of_mem _ hy)) h1
  unfold hashM refHash crc40M
  have := key l 1099511627775 h (by decide)
  show crcOut (l.foldl crcWord ((1099511627775 : Nat) : Int)) = crcOut ((l.flatMap fiveM).foldl crcByte ((1099511627775 : Nat) : Int))
  rw [this]

/-! ### Orders -/
theorem cmpL_swap : ∀ a b : List Int, cmpL b a = -cmpL a b
  | [], [] => rfl
  | [], _ :: _ => rfl
  | _ :: _, [] => rfl
  | x :: a, y :: b => by
    unfold cmpL
    by_cases h1 : x < y
    · have h2 : ¬ y < x := by omega
      rw [if_neg h2, if_pos h1, if_pos h1]; rfl
    · by_cases h2 : y < x
      · rw [if_pos h2, if_neg h1, if_pos h2]
      · rw [if_neg h2, if_neg h1, if_neg h1, if_neg h2]
        exact cmpL_swap a b

theorem cmpL_zero : ∀ {a b : List Int}, cmpL a b = 0 → a = b
  | [], [], _ => rfl
  | [], _ :: _, h => by cases h
  | _ :: _, [], h => by cases h
  | x :: a, y :: b, h => by
    unfold cmpL at h
    by_cases h1 : x < y
    · rw [if_pos h1] at h; cases h
    · rw [if_neg h1] at h
      by_cases h2 : y < x
      · rw [if_pos h2] at h; cases h
      · rw [if_neg h2] at h
        rw [cmpL_zero h, show x = y by omega]

theorem above_alt (a b : List Int) : aboveM a b = (decide (hashM b < hashM a) || (decide (hashM a = hashM b) && decide (cmpL a b < 0))) := by
  unfold aboveM orL cmpI
  by_cases h1 : hashM b < hashM a
  · rw [if_pos h1]
    simp [h1]
  · rw [if_neg h1]
    by_cases h2 : hashM a < hashM b
    · rw [if_pos h2]
      have h3 : ¬ hashM a = hashM b := by omega
      simp [h1, h3]
    · rw [if_neg h2]
      have h3 : hashM a = hashM b := by omega
      simp only [if_true]
      unfold orL
      by_cases h4 : cmpL a b = 0
      · rw [if_pos h4]
        simp [h3, h4, orL]
      · rw [if_neg h4]
        simp [h3]

theorem above_eq {a b : List Int} (ha : ∀ x ∈ a, 0 ≤ x) (hb : ∀ x ∈ b, 0 ≤ x) : aboveM a b = refAbove a b := by
  rw [above_alt, hash_eq ha, hash_eq hb]
  rfl

theorem above_one (a b : List Int) : ((aboveM a b != aboveM b a) == (decide (cmpL a b ≠ 0))) = true := by
  rw [above_alt, above_alt, cmpL_swap a b]
  by_cases h1 : hashM b < hashM a
  · have h2 : ¬ hashM a < hashM b := by omega
    have h3 : ¬ hashM b = hashM a := by omega
    have h4 : cmpL a b ≠ 0 := fun h => by
      rw [cmpL_zero h] at h1
      omega
    simp [h1, h2, h3, h4]
  · by_cases h2 : hashM a < hashM b
    · have h3 : ¬ hashM a = hashM b := by omega
      have h4 : cmpL a b ≠ 0 := fun h => by
        rw [cmpL_zero h] at h2
        omega
      simp [h1, h2, h3, h4]
    · have h3 : hashM a = hashM b := by omega
      rw [h3]
      simp only [Int.lt_irrefl, decide_false, Bool.false_or, decide_true, Bool.true_and]
      by_cases h4 : cmpL a b < 0
      · have h5 : ¬ -cmpL a b < 0 := by omega
        have h6 : cmpL a b ≠ 0 := by omega
        rw [decide_eq_true h4, decide_eq_false h5, decide_eq_true h6]
        rfl
      · by_cases h5 : cmpL a b = 0
        · simp [h5]
        · have h6 : -cmpL a b < 0 := by omega
          rw [decide_eq_false h4, decide_eq_true h6, decide_eq_true h5]
          rfl

theorem right_nonneg {l : List Int} (h : rightM l = true) : ∀ x ∈ l, 0 ≤ x := fun x hx => by
  unfold rightM at h
  simp only [Bool.and_eq_true, Bool.not_eq_true', List.any_eq_false] at h
  have := h.2 x hx
  unfold badW at this
  simp at this
  omega

end Go.Eng
