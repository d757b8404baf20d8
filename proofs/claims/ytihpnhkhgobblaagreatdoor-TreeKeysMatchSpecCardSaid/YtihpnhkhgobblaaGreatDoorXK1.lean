/- The check by nibbles is the check by bits, over natural numbers. Conditions: none. -/
namespace Go.Eng

/-- One bit of the check. -/
def stN (r b : Nat) : Nat := if (r / 2 ^ 39 % 2) ^^^ b = 1 then (r * 2 % 2 ^ 40) ^^^ 75628553 else r * 2 % 2 ^ 40

def st4 (r n : Nat) : Nat := stN (stN (stN (stN r (n / 8 % 2)) (n / 4 % 2)) (n / 2 % 2)) (n % 2)

def tabN : List Nat := [0, 75628553, 151257106, 226885659, 302514212, 378142765, 453771318, 529399871, 605028424, 546439233, 756285530, 697696339, 907542636, 848953445, 1058799742, 1000210551]

/-- One nibble of the check. -/
def nbN (r n : Nat) : Nat := (r * 16 % 2 ^ 40) ^^^ tabN.getD ((r / 2 ^ 36) ^^^ n) 0

theorem dbl_xor (r s : Nat) : (r ^^^ s) * 2 % 2 ^ 40 = (r * 2 % 2 ^ 40) ^^^ (s * 2 % 2 ^ 40) := by
  have h : ∀ x : Nat, x * 2 = x <<< 1 := fun x => by rw [Nat.shiftLeft_eq]
  rw [h, h, h, Nat.shiftLeft_xor_distrib, Nat.xor_mod_two_pow]

theorem top_xor (r s : Nat) : (r ^^^ s) / 2 ^ 39 % 2 = (r / 2 ^ 39 % 2) ^^^ (s / 2 ^ 39 % 2) := by
  have h : ∀ x : Nat, x / 2 ^ 39 = x >>> 39 := fun x => by rw [Nat.shiftRight_eq_div_pow]
  rw [h, h, h, Nat.shiftRight_xor_distrib]
  exact Nat.xor_mod_two_pow (n := 1)

theorem bit_cases (x : Nat) : x % 2 = 0 ∨ x % 2 = 1 := by omega

theorem xor_swap (a b c d : Nat) : (a ^^^ b) ^^^ (c ^^^ d) = (a ^^^ c) ^^^ (b ^^^ d) := by
  rw [Nat.xor_assoc, Nat.xor_assoc, ← Nat.xor_assoc b, ← Nat.xor_assoc c, Nat.xor_comm b c]

theorem st_xor (r s b c : Nat) (hb : b < 2) (hc : c < 2) : stN (r ^^^ s) (b ^^^ c) = stN r b ^^^ stN s c := by
  unfold stN
  rw [top_xor, dbl_xor]
  generalize r * 2 % 2 ^ 40 = x
  generalize s * 2 % 2 ^ 40 = y
  have p0 : (x ^^^ y) ^^^ 75628553 = x ^^^ (y ^^^ 75628553) := Nat.xor_assoc ..
  have p1 : (x ^^^ y) ^^^ 75628553 = (x ^^^ 75628553) ^^^ y := by rw [Nat.xor_assoc, Nat.xor_assoc, Nat.xor_comm y]
  have p2 : x ^^^ y = (x ^^^ 75628553) ^^^ (y ^^^ 75628553) := by rw [xor_swap, Nat.xor_self, Nat.xor_zero]
  have hb' : b = 0 ∨ b = 1 := by omega
  have hc' : c = 0 ∨ c = 1 := by omega
  rcases bit_cases (r / 2 ^ 39) with h1 | h1 <;> rcases bit_cases (s / 2 ^ 39) with h2 | h2 <;> rw [h1, h2] <;>
    rcases hb' with rfl | rfl <;> rcases hc' with rfl | rfl <;> simp <;> first | exact p0 | exact p1 | exact p2 | exact p1.symm | exact p2.symm

theorem bits_xor : ∀ n < 16, ∀ m < 16, (n ^^^ m) / 8 % 2 = (n / 8 % 2) ^^^ (m / 8 % 2) ∧ (n ^^^ m) / 4 % 2 = (n / 4 % 2) ^^^ (m / 4 % 2) ∧ (n ^^^ m) / 2 % 2 = (n / 2 % 2) ^^^ (m / 2 % 2) ∧ (n ^^^ m) % 2 = (n % 2) ^^^ (m % 2) := by decide +kernel

theorem st4_xor (r s : Nat) {n m : Nat} (hn : n < 16) (hm : m < 16) : st4 (r ^^^ s) (n ^^^ m) = st4 r n ^^^ st4 s m := by
  obtain ⟨h1, h2, h3, h4⟩ := bits_xor n hn m hm
  unfold st4
  rw [h1, h2, h3, h4, st_xor _ _ _ _ (Nat.mod_lt _ (by decide)) (Nat.mod_lt _ (by decide)), st_xor _ _ _ _ (Nat.mod_lt _ (by decide)) (Nat.mod_lt _ (by decide)), st_xor _ _ _ _ (Nat.mod_lt _ (by decide)) (Nat.mod_lt _ (by decide)),
    st_xor _ _ _ _ (Nat.mod_lt _ (by decide)) (Nat.mod_lt _ (by decide))]

theorem st4_tab : ∀ h < 16, ∀ n < 16, st4 (2 ^ 36 * h) n = tabN.getD (h ^^^ n) 0 := by decide +kernel

theorem st_low {l : Nat} (h : l < 2 ^ 39) : stN l 0 = l * 2 := by
  unfold stN
  have h1 : l / 2 ^ 39 % 2 = 0 := by omega
  have h2 : l * 2 % 2 ^ 40 = l * 2 := by omega
  rw [h1, h2]
  rfl

theorem st4_low {l : Nat} (h : l < 2 ^ 36) : st4 l 0 = l * 16 := by
  show stN (stN (stN (stN l 0) 0) 0) 0 = _
  rw [st_low (l := l) (by omega), st_low (l := l * 2) (by omega), st_low (l := l * 2 * 2) (by omega), st_low (l := l * 2 * 2 * 2) (by omega)]
  omega

theorem split_xor {h l : Nat} (hl : l < 2 ^ 36) : 2 ^ 36 * h + l = (2 ^ 36 * h) ^^^ l := by
  apply Nat.eq_of_testBit_eq
  intro j
  rw [Nat.testBit_two_pow_mul_add h hl, Nat.testBit_xor, Nat.testBit_two_pow_mul]
  by_cases hj : j < 36
  · rw [if_pos hj]
    have : decide (j ≥ 36) = false := decide_eq_false (by omega)
    rw [this]
    simp
  · rw [if_neg hj]
    have : decide (j ≥ 36) = true := decide_eq_true (by omega)
    have hz : l.testBit j = false := Nat.testBit_lt_two_pow (Nat.lt_of_lt_of_le hl (Nat.pow_le_pow_right (by decide) (by omega)))
    rw [this, hz]
    simp

theorem nib4 {r n : Nat} (hr : r < 2 ^ 40) (hn : n < 16) : nbN r n = st4 r n := by
  have hl : r % 2 ^ 36 < 2 ^ 36 := Nat.mod_lt _ (by decide)
  have hh : r / 2 ^ 36 < 16 := by omega
  have e : r = (2 ^ 36 * (r / 2 ^ 36)) ^^^ (r % 2 ^ 36) := by
    rw [← split_xor hl]
    omega
  have e1 : st4 r n = st4 ((2 ^ 36 * (r / 2 ^ 36)) ^^^ (r % 2 ^ 36)) (n ^^^ 0) := by rw [← e, Nat.xor_zero]
  rw [e1, st4_xor _ _ hn (by decide), st4_tab _ hh _ hn, st4_low hl]
  unfold nbN
  rw [Nat.xor_comm]
  congr 1
  omega

theorem xor_lt40 {a b : Nat} (ha : a < 2 ^ 40) (hb : b < 2 ^ 40) : a ^^^ b < 2 ^ 40 := Nat.xor_lt_two_pow ha hb

theorem st_lt (r b : Nat) : stN r b < 2 ^ 40 := by
  unfold stN
  have h := Nat.mod_lt (r * 2) (show 0 < 2 ^ 40 by decide)
  split
  · exact xor_lt40 h (by decide)
  · exact h

theorem nb_lt {r n : Nat} (hr : r < 2 ^ 40) (hn : n < 16) : nbN r n < 2 ^ 40 := by
  rw [nib4 hr hn]
  exact st_lt _ _

/-- Eight bits are two nibbles. -/
def by8 (r b : Nat) : Nat := stN (stN (stN (stN (stN (stN (stN (stN r (b / 128 % 2)) (b / 64 % 2)) (b / 32 % 2)) (b / 16 % 2)) (b / 8 % 2)) (b / 4 % 2)) (b / 2 % 2)) (b % 2)

theorem by8_nibs {r b : Nat} (hr : r < 2 ^ 40) (hb : b < 256) : by8 r b = nbN (nbN r (b / 16)) (b % 16) := by
  have hs : st4 r (b / 16) < 2 ^ 40 := st_lt _ _
  rw [nib4 hr (show b / 16 < 16 by omega), nib4 hs (show b % 16 < 16 by omega)]
  unfold by8 st4
  have h1 : b / 16 / 8 % 2 = b / 128 % 2 := by omega
  have h2 : b / 16 / 4 % 2 = b / 64 % 2 := by omega
  have h3 : b / 16 / 2 % 2 = b / 32 % 2 := by omega
  have h4 : b % 16 / 8 % 2 = b / 8 % 2 := by omega
  have h5 : b % 16 / 4 % 2 = b / 4 % 2 := by omega
  have h6 : b % 16 / 2 % 2 = b / 2 % 2 := by omega
  have h7 : b % 16 % 2 = b % 2 := by omega
  rw [h1, h2, h3, h4, h5, h6, h7]

end Go.Eng
