import Derived.Test.YtliijfogmendmaaFacts
import Derived.Test.YtliijfogmendmaaPWx4
namespace Go.Proofs.Ytliijfogmendmaa.Facts
open Go.RowKit Go.Proofs.Ytliijfogmendmaa.PW Go.Proofs.YtliijfogmendmaaW.PrintWords Go.Proofs.YtliijfogmendmaaW.PrintLast Go.Proofs.YtliijfogmendmaaW.PrintMore
set_option linter.unusedVariables false
/-! And, Or, Xor; turning a word's bytes round; that the examples hold. -/

theorem bits_three : ∀ a b : Nat, (a &&& b) + (a ||| b) = a + b ∧ (a &&& b) + (a ^^^ b) = (a ||| b) := by
  intro a
  induction a using Nat.strongRecOn with
  | _ a ih =>
    intro b
    by_cases h0 : a = 0
    · subst h0; simp
    · obtain ⟨i1, i2⟩ := ih (a / 2) (by omega) (b / 2)
      have e1 := Nat.and_div_two (a := a) (b := b)
      have e2 := Nat.or_div_two (a := a) (b := b)
      have e3 := Nat.xor_div_two (a := a) (b := b)
      have f1 := Nat.and_mod_two_eq_one (a := a) (b := b)
      have f2 := Nat.or_mod_two_eq_one (a := a) (b := b)
      have f3 := Nat.xor_mod_two_eq_one (a := a) (b := b)
      rw [← e1, ← e2] at i1
      rw [← e1, ← e2, ← e3] at i2
      generalize (a &&& b) = p at *
      generalize (a ||| b) = q at *
      generalize (a ^^^ b) = r at *
      have g1 : p % 2 = 0 ∨ p % 2 = 1 := by omega
      have g2 : q % 2 = 0 ∨ q % 2 = 1 := by omega
      have g3 : r % 2 = 0 ∨ r % 2 = 1 := by omega
      omega

theorem xor_top (x n : Nat) (h : x < 2 ^ n * 2) : x ^^^ 2 ^ n = if x < 2 ^ n then x + 2 ^ n else x - 2 ^ n := by
  have hp : 0 < 2 ^ n := Nat.two_pow_pos n
  have e1 := Nat.xor_div_two_pow (a := x) (b := 2 ^ n) (n := n)
  have e2 := Nat.xor_mod_two_pow (a := x) (b := 2 ^ n) (n := n)
  rw [Nat.div_self hp] at e1
  rw [Nat.mod_self, Nat.xor_zero] at e2
  have e3 := Nat.div_add_mod (x ^^^ 2 ^ n) (2 ^ n)
  have e4 := Nat.div_add_mod x (2 ^ n)
  rw [e1, e2] at e3
  by_cases hx : x < 2 ^ n
  · rw [if_pos hx]
    rw [Nat.div_eq_of_lt hx] at e3
    rw [Nat.mod_eq_of_lt hx] at e3
    simp at e3
    omega
  · rw [if_neg hx]
    have hd : x / 2 ^ n = 1 := by
      rw [Nat.div_eq_iff hp]; omega
    rw [hd] at e3 e4
    simp at e3
    omega

theorem awake_k (k : Nat) : spindlelaw1_awake.f (k + 30) = some true := by
  have h : spindlelaw1_awake.f 30 = some true := by decide +kernel
  induction k with
  | zero => exact h
  | succ k ih => rw [show k + 1 + 30 = (k + 30) + 1 from by omega]; exact spindlelaw1_awake.mono (k + 30) _ ih

def rev : Nat → Int → Int → Int
  | 0, _, y => y
  | n + 1, x, y => rev n (x / 256) (y * 256 + x % 256)

theorem and255 (x : Int) (h0 : 0 ≤ x) (h1 : x < 18446744073709551616) : Go.bits .and .u64 x 255 = x % 256 := by
  have h := bits_mask .u64 64 (by decide) (fun n h0 h1 => by rw [IntKind.wrap_u64]; omega) 8 (by decide) x h0 (by omega)
  rw [show ((2 : Int) ^ 8 - 1) = 255 from rfl, show ((2 : Int) ^ 8) = 256 from rfl] at h
  exact h

theorem or_byte (y b : Int) (h0 : 0 ≤ y) (h1 : y * 256 < 18446744073709551616) (hb0 : 0 ≤ b) (hb1 : b < 256) : Go.bits .or .u64 (IntKind.u64.wrap (y * 256)) b = y * 256 + b := by
  rw [IntKind.wrap_u64, Int.emod_eq_of_lt (by omega) h1]
  exact bits_join .u64 64 (by decide) (fun n h0 h1 => by rw [IntKind.wrap_u64]; omega) 8 (y * 256) b (by omega) (by rw [show ((2 : Int) ^ 8) = 256 from rfl]; omega) (by omega) hb0 (by rw [show ((2 : Int) ^ 8) = 256 from rfl]; omega) (by omega)

theorem pow256 (n : Nat) (h : n ≤ 8) : (256 : Int) ^ n ≤ 18446744073709551616 ∧ (1 : Int) ≤ 256 ^ n := by
  have : n = 0 ∨ n = 1 ∨ n = 2 ∨ n = 3 ∨ n = 4 ∨ n = 5 ∨ n = 6 ∨ n = 7 ∨ n = 8 := by omega
  rcases this with rfl | rfl | rfl | rfl | rfl | rfl | rfl | rfl | rfl <;> decide

theorem turn_step (x y : Int) (j : Nat) (hj : j < 8) (hx0 : 0 ≤ x) (hx1 : x < 18446744073709551616) (hy0 : 0 ≤ y) (hy1 : y < 256 ^ j) :
    Go.bits .or .u64 (IntKind.u64.wrap (y * 256)) (Go.bits .and .u64 x 255) = y * 256 + x % 256 ∧ 0 ≤ y * 256 + x % 256 ∧ y * 256 + x % 256 < 256 ^ (j + 1) ∧ 0 ≤ x / 256 ∧ x / 256 < 18446744073709551616 ∧ y * 256 + x % 256 < 18446744073709551616 := by
  have hp := pow256 (j + 1) (by omega)
  have e : (256 : Int) ^ (j + 1) = 256 ^ j * 256 := Int.pow_succ 256 j
  have hlt : y * 256 < 18446744073709551616 := by omega
  rw [and255 x hx0 hx1, or_byte y _ hy0 hlt (by omega) (by omega)]
  omega

theorem turn8 (n : Nat) : ∀ (j : Nat) (x y : Int) (k : Nat), j + n = 1 → n < k → 0 ≤ x → x < 18446744073709551616 → 0 ≤ y → y < 256 ^ j →
    word_swap_uint8.l0 k x y 1 j = some (rev n x y % 256) := by
  induction n with
  | zero =>
    intro j x y k hj hk _ _ _ _
    obtain ⟨k, rfl⟩ : ∃ m, k = m + 1 := ⟨k - 1, by omega⟩
    simp only [word_swap_uint8.l0]
    rw [if_neg (by omega)]; rfl
  | succ n ih =>
    intro j x y k hj hk hx0 hx1 hy0 hy1
    obtain ⟨k, rfl⟩ : ∃ m, k = m + 1 := ⟨k - 1, by omega⟩
    obtain ⟨e, h1, h2, h3, h4, _⟩ := turn_step x y j (by omega) hx0 hx1 hy0 hy1
    simp only [word_swap_uint8.l0]
    have ej : IntKind.u64.wrap ((j : Int) + 1) = ((j + 1 : Nat) : Int) := by rw [IntKind.wrap_u64]; omega
    rw [if_pos (by omega), e, ej]
    exact ih (j + 1) (x / 256) _ k (by omega) (by omega) h3 h4 h1 h2
theorem turn16 (n : Nat) : ∀ (j : Nat) (x y : Int) (k : Nat), j + n = 2 → n < k → 0 ≤ x → x < 18446744073709551616 → 0 ≤ y → y < 256 ^ j →
    word_swap_uint16.l0 k x y 2 j = some (rev n x y % 65536) := by
  induction n with
  | zero =>
    intro j x y k hj hk _ _ _ _
    obtain ⟨k, rfl⟩ : ∃ m, k = m + 1 := ⟨k - 1, by omega⟩
    simp only [word_swap_uint16.l0]
    rw [if_neg (by omega), IntKind.wrap_u16]; rfl
  | succ n ih =>
    intro j x y k hj hk hx0 hx1 hy0 hy1
    obtain ⟨k, rfl⟩ : ∃ m, k = m + 1 := ⟨k - 1, by omega⟩
    obtain ⟨e, h1, h2, h3, h4, _⟩ := turn_step x y j (by omega) hx0 hx1 hy0 hy1
    simp only [word_swap_uint16.l0]
    have ej : IntKind.u64.wrap ((j : Int) + 1) = ((j + 1 : Nat) : Int) := by rw [IntKind.wrap_u64]; omega
    rw [if_pos (by omega), e, ej]
    exact ih (j + 1) (x / 256) _ k (by omega) (by omega) h3 h4 h1 h2
theorem turn32 (n : Nat) : ∀ (j : Nat) (x y : Int) (k : Nat), j + n = 4 → n < k → 0 ≤ x → x < 18446744073709551616 → 0 ≤ y → y < 256 ^ j →
    word_swap_uint32.l0 k x y 4 j = some (rev n x y % 4294967296) := by
  induction n with
  | zero =>
    intro j x y k hj hk _ _ _ _
    obtain ⟨k, rfl⟩ : ∃ m, k = m + 1 := ⟨k - 1, by omega⟩
    simp only [word_swap_uint32.l0]
    rw [if_neg (by omega)]; rfl
  | succ n ih =>
    intro j x y k hj hk hx0 hx1 hy0 hy1
    obtain ⟨k, rfl⟩ : ∃ m, k = m + 1 := ⟨k - 1, by omega⟩
    obtain ⟨e, h1, h2, h3, h4, _⟩ := turn_step x y j (by omega) hx0 hx1 hy0 hy1
    simp only [word_swap_uint32.l0]
    have ej : IntKind.u64.wrap ((j : Int) + 1) = ((j + 1 : Nat) : Int) := by rw [IntKind.wrap_u64]; omega
    rw [if_pos (by omega), e, ej]
    exact ih (j + 1) (x / 256) _ k (by omega) (by omega) h3 h4 h1 h2
theorem turn64 (n : Nat) : ∀ (j : Nat) (x y : Int) (k : Nat), j + n = 8 → n < k → 0 ≤ x → x < 18446744073709551616 → 0 ≤ y → y < 256 ^ j →
    word_swap_uint64.l0 k x y 8 j = some (rev n x y) := by
  induction n with
  | zero =>
    intro j x y k hj hk _ _ _ _
    obtain ⟨k, rfl⟩ : ∃ m, k = m + 1 := ⟨k - 1, by omega⟩
    simp only [word_swap_uint64.l0]
    rw [if_neg (by omega)]; rfl
  | succ n ih =>
    intro j x y k hj hk hx0 hx1 hy0 hy1
    obtain ⟨k, rfl⟩ : ∃ m, k = m + 1 := ⟨k - 1, by omega⟩
    obtain ⟨e, h1, h2, h3, h4, _⟩ := turn_step x y j (by omega) hx0 hx1 hy0 hy1
    simp only [word_swap_uint64.l0]
    have ej : IntKind.u64.wrap ((j : Int) + 1) = ((j + 1 : Nat) : Int) := by rw [IntKind.wrap_u64]; omega
    rw [if_pos (by omega), e, ej]
    exact ih (j + 1) (x / 256) _ k (by omega) (by omega) h3 h4 h1 h2

def bytesOf (w : Int) : Nat := (K w / 8).toNat
theorem rev_lt (n : Nat) : ∀ (j : Nat) (x y : Int), 0 ≤ x → 0 ≤ y → y < 256 ^ j → 0 ≤ rev n x y ∧ rev n x y < 256 ^ (j + n) := by
  induction n with
  | zero => intro j x y _ h0 h1; exact ⟨h0, h1⟩
  | succ n ih =>
    intro j x y hx h0 h1
    have e : (256 : Int) ^ (j + 1) = 256 ^ j * 256 := Int.pow_succ 256 j
    have h := ih (j + 1) (x / 256) (y * 256 + x % 256) (by omega) (by omega) (by omega)
    rw [show j + 1 + n = j + (n + 1) from by omega] at h
    exact h
theorem rev_in (w a : Int) : 0 ≤ rev (bytesOf w) (a % M w) 0 ∧ rev (bytesOf w) (a % M w) 0 < M w := by
  have h := rev_lt (bytesOf w) 0 (a % M w) 0 (M_lt w a).1 (by omega) (by decide)
  have e : (256 : Int) ^ (0 + bytesOf w) = M w := by
    unfold bytesOf
    rcases four w with ⟨_, h, h'⟩ | ⟨_, h, h'⟩ | ⟨_, h, h'⟩ | ⟨_, h, h'⟩ <;> rw [h, h'] <;> rfl
  rw [e] at h
  exact h

theorem swap_eq (a w : Int) (k : Nat) (h0 : 0 ≤ a) (h1 : a < 18446744073709551616) (hk : 8 < k) : word_Swap.f k a w = some (rev (bytesOf w) (a % M w) 0) := by
  have hr := rev_in w a
  have hp := M_pos w
  have ha := M_lt w a
  unfold word_Swap.f
  rcases four w with ⟨rfl, h, h'⟩ | ⟨rfl, h, h'⟩ | ⟨rfl, h, h'⟩ | ⟨⟨h8, h16, h32⟩, h, h'⟩
  · have e := turn8 1 0 (a % 256) 0 k (by omega) (by omega) (by omega) (by omega) (by omega) (by decide)
    rw [show ((0 : Nat) : Int) = 0 from rfl] at e
    rw [if_pos rfl]
    unfold word_swap_uint8.f word_bits_uint8.f
    rw [Option.bind_some, show Int.tdiv 8 8 = 1 from rfl, IntKind.wrap_u64, IntKind.wrap_u64, Int.emod_eq_of_lt (by omega) (by omega), show (1 : Int) % 18446744073709551616 = 1 from rfl, show (0 : Int) = ((0 : Nat) : Int) from rfl, show ((0 : Nat) : Int) = 0 from rfl]
    rw [h] at hr ⊢
    rw [show bytesOf 8 = 1 from rfl] at hr ⊢
    rw [e, Option.bind_some, IntKind.wrap_u64]
    congr 1; omega
  · have e := turn16 2 0 (a % 65536) 0 k (by omega) (by omega) (by omega) (by omega) (by omega) (by decide)
    rw [show ((0 : Nat) : Int) = 0 from rfl] at e
    rw [if_neg (by decide), if_pos rfl]
    unfold word_swap_uint16.f word_bits_uint16.f
    rw [Option.bind_some, show Int.tdiv 16 8 = 2 from rfl, IntKind.wrap_u16, IntKind.wrap_u64, IntKind.wrap_u64, Int.emod_eq_of_lt (by omega) (by omega), show (2 : Int) % 18446744073709551616 = 2 from rfl]
    rw [h] at hr ⊢
    rw [show bytesOf 16 = 2 from rfl] at hr ⊢
    rw [e, Option.bind_some, IntKind.wrap_u64]
    congr 1; omega
  · have e := turn32 4 0 (a % 4294967296) 0 k (by omega) (by omega) (by omega) (by omega) (by omega) (by decide)
    rw [show ((0 : Nat) : Int) = 0 from rfl] at e
    rw [if_neg (by decide), if_neg (by decide), if_pos rfl]
    unfold word_swap_uint32.f word_bits_uint32.f
    rw [Option.bind_some, show Int.tdiv 32 8 = 4 from rfl, IntKind.wrap_u64, IntKind.wrap_u64, Int.emod_eq_of_lt (by omega) (by omega), show (4 : Int) % 18446744073709551616 = 4 from rfl]
    rw [h] at hr ⊢
    rw [show bytesOf 32 = 4 from rfl] at hr ⊢
    rw [e, Option.bind_some, IntKind.wrap_u64]
    congr 1; omega
  · have e := turn64 8 0 a 0 k (by omega) (by omega) (by omega) (by omega) (by omega) (by decide)
    rw [show ((0 : Nat) : Int) = 0 from rfl] at e
    rw [if_neg h8, if_neg h16, if_neg h32]
    unfold word_swap_uint64.f word_bits_uint64.f
    rw [Option.bind_some, show Int.tdiv 64 8 = 8 from rfl, IntKind.wrap_u64, show (8 : Int) % 18446744073709551616 = 8 from rfl]
    have eb : bytesOf w = 8 := by unfold bytesOf; rw [h']; rfl
    rw [h, eb, Int.emod_eq_of_lt h0 h1]
    exact e

theorem rev_horner (n : Nat) (b z y : Int) (h0 : 0 ≤ b) (h1 : b < 256) : rev (n + 1) (b + 256 * z) y = rev n z (y * 256 + b) := by
  rw [show rev (n + 1) (b + 256 * z) y = rev n ((b + 256 * z) / 256) (y * 256 + (b + 256 * z) % 256) from rfl]
  rw [show (b + 256 * z) / 256 = z from by omega, show (b + 256 * z) % 256 = b from by omega]
theorem horner (x : Int) (h : 0 ≤ x) : ∃ b z : Int, 0 ≤ b ∧ b < 256 ∧ 0 ≤ z ∧ x = b + 256 * z := ⟨x % 256, x / 256, by omega, by omega, by omega, by omega⟩

/-- turned round twice; the lowest byte is the highest one then -/
theorem rev1 (x : Int) (h : 0 ≤ x) (hx : x < 256) : rev 1 (rev 1 x 0) 0 = x ∧ rev 1 x 0 / 1 = x % 256 := by
  simp only [rev]; omega
theorem up_step (b z : Int) (h0 : 0 ≤ b) (h1 : b < 256) : (b + 256 * z) / 256 = z := by omega
theorem low_step (b z : Int) (h0 : 0 ≤ b) (h1 : b < 256) : (b + 256 * z) % 256 = b := by omega
theorem flip8 (b0 b1 b2 b3 b4 b5 b6 b7 : Int) : (((((((0 * 256 + b0) * 256 + b1) * 256 + b2) * 256 + b3) * 256 + b4) * 256 + b5) * 256 + b6) * 256 + b7 = b7 + 256 * (b6 + 256 * (b5 + 256 * (b4 + 256 * (b3 + 256 * (b2 + 256 * (b1 + 256 * (b0 + 256 * 0))))))) := by omega
theorem rev8_of (b0 b1 b2 b3 b4 b5 b6 b7 : Int) (p0 : 0 ≤ b0) (q0 : b0 < 256) (p1 : 0 ≤ b1) (q1 : b1 < 256) (p2 : 0 ≤ b2) (q2 : b2 < 256) (p3 : 0 ≤ b3) (q3 : b3 < 256)
    (p4 : 0 ≤ b4) (q4 : b4 < 256) (p5 : 0 ≤ b5) (q5 : b5 < 256) (p6 : 0 ≤ b6) (q6 : b6 < 256) (p7 : 0 ≤ b7) (q7 : b7 < 256) :
    rev 8 (b0 + 256 * (b1 + 256 * (b2 + 256 * (b3 + 256 * (b4 + 256 * (b5 + 256 * (b6 + 256 * (b7 + 256 * 0)))))))) 0 = b7 + 256 * (b6 + 256 * (b5 + 256 * (b4 + 256 * (b3 + 256 * (b2 + 256 * (b1 + 256 * (b0 + 256 * 0))))))) := by
  rw [rev_horner _ _ _ _ p0 q0, rev_horner _ _ _ _ p1 q1, rev_horner _ _ _ _ p2 q2, rev_horner _ _ _ _ p3 q3, rev_horner _ _ _ _ p4 q4, rev_horner _ _ _ _ p5 q5, rev_horner _ _ _ _ p6 q6, rev_horner _ _ _ _ p7 q7]
  exact flip8 b0 b1 b2 b3 b4 b5 b6 b7
theorem top8 (x : Int) : x / 72057594037927936 = x / 256 / 256 / 256 / 256 / 256 / 256 / 256 := by
  rw [Int.ediv_ediv_of_nonneg (by omega), Int.ediv_ediv_of_nonneg (by omega), Int.ediv_ediv_of_nonneg (by omega), Int.ediv_ediv_of_nonneg (by omega), Int.ediv_ediv_of_nonneg (by omega), Int.ediv_ediv_of_nonneg (by omega)]
  rfl
theorem last0 (b x : Int) (h : b + 256 * x < 256) (hb : 0 ≤ b) (hx : 0 ≤ x) : x = 0 := by omega
theorem lt_up (b x m : Int) (h : b + 256 * x < 256 * m) (hb : 0 ≤ b) : x < m := by omega
theorem rev2 (x : Int) (h : 0 ≤ x) (hx : x < 65536) : rev 2 (rev 2 x 0) 0 = x ∧ rev 2 x 0 / 256 = x % 256 := by
  obtain ⟨b0, x1, p0, q0, r0, rfl⟩ := horner x h
  obtain ⟨b1, x2, p1, q1, r1, rfl⟩ := horner x1 r0
  have l1 := lt_up _ _ 256 hx p0
  obtain rfl := last0 b1 x2 l1 p1 r1
  clear l1 hx h
  have f : ∀ b0 b1 : Int, (0 * 256 + b0) * 256 + b1 = b1 + 256 * (b0 + 256 * 0) := fun b0 b1 => by omega
  have e : rev 2 (b0 + 256 * (b1 + 256 * 0)) 0 = b1 + 256 * (b0 + 256 * 0) := by
    rw [rev_horner _ _ _ _ p0 q0, rev_horner _ _ _ _ p1 q1]; exact f b0 b1
  have e' : rev 2 (b1 + 256 * (b0 + 256 * 0)) 0 = b0 + 256 * (b1 + 256 * 0) := by
    rw [rev_horner _ _ _ _ p1 q1, rev_horner _ _ _ _ p0 q0]; exact f b1 b0
  rw [e]
  refine ⟨e', ?_⟩
  rw [up_step _ _ p1 q1, low_step _ _ p0 q0]
  exact Int.add_zero b0
theorem rev4 (x : Int) (h : 0 ≤ x) (hx : x < 4294967296) : rev 4 (rev 4 x 0) 0 = x ∧ rev 4 x 0 / 16777216 = x % 256 := by
  obtain ⟨b0, x1, p0, q0, r0, rfl⟩ := horner x h
  obtain ⟨b1, x2, p1, q1, r1, rfl⟩ := horner x1 r0
  obtain ⟨b2, x3, p2, q2, r2, rfl⟩ := horner x2 r1
  obtain ⟨b3, x4, p3, q3, r3, rfl⟩ := horner x3 r2
  have l1 := lt_up _ _ 16777216 hx p0
  have l2 := lt_up _ _ 65536 l1 p1
  have l3 := lt_up _ _ 256 l2 p2
  obtain rfl := last0 b3 x4 l3 p3 r3
  clear l1 l2 l3 hx h
  have f : ∀ b0 b1 b2 b3 : Int, (((0 * 256 + b0) * 256 + b1) * 256 + b2) * 256 + b3 = b3 + 256 * (b2 + 256 * (b1 + 256 * (b0 + 256 * 0))) := fun b0 b1 b2 b3 => by omega
  have e : rev 4 (b0 + 256 * (b1 + 256 * (b2 + 256 * (b3 + 256 * 0)))) 0 = b3 + 256 * (b2 + 256 * (b1 + 256 * (b0 + 256 * 0))) := by
    rw [rev_horner _ _ _ _ p0 q0, rev_horner _ _ _ _ p1 q1, rev_horner _ _ _ _ p2 q2, rev_horner _ _ _ _ p3 q3]; exact f b0 b1 b2 b3
  have e' : rev 4 (b3 + 256 * (b2 + 256 * (b1 + 256 * (b0 + 256 * 0)))) 0 = b0 + 256 * (b1 + 256 * (b2 + 256 * (b3 + 256 * 0))) := by
    rw [rev_horner _ _ _ _ p3 q3, rev_horner _ _ _ _ p2 q2, rev_horner _ _ _ _ p1 q1, rev_horner _ _ _ _ p0 q0]; exact f b3 b2 b1 b0
  rw [e]
  refine ⟨e', ?_⟩
  rw [show (16777216 : Int) = 256 * 256 * 256 from rfl, ← Int.ediv_ediv_of_nonneg (by omega), ← Int.ediv_ediv_of_nonneg (by omega), up_step _ _ p3 q3, up_step _ _ p2 q2, up_step _ _ p1 q1, low_step _ _ p0 q0]
  exact Int.add_zero b0
theorem rev8 (x : Int) (h : 0 ≤ x) (hx : x < 18446744073709551616) : rev 8 (rev 8 x 0) 0 = x ∧ rev 8 x 0 / 72057594037927936 = x % 256 := by
  obtain ⟨b0, x1, p0, q0, r0, rfl⟩ := horner x h
  obtain ⟨b1, x2, p1, q1, r1, rfl⟩ := horner x1 r0
  obtain ⟨b2, x3, p2, q2, r2, rfl⟩ := horner x2 r1
  obtain ⟨b3, x4, p3, q3, r3, rfl⟩ := horner x3 r2
  obtain ⟨b4, x5, p4, q4, r4, rfl⟩ := horner x4 r3
  obtain ⟨b5, x6, p5, q5, r5, rfl⟩ := horner x5 r4
  obtain ⟨b6, x7, p6, q6, r6, rfl⟩ := horner x6 r5
  obtain ⟨b7, x8, p7, q7, r7, rfl⟩ := horner x7 r6
  have l1 := lt_up _ _ 72057594037927936 hx p0
  have l2 := lt_up _ _ 281474976710656 l1 p1
  have l3 := lt_up _ _ 1099511627776 l2 p2
  have l4 := lt_up _ _ 4294967296 l3 p3
  have l5 := lt_up _ _ 16777216 l4 p4
  have l6 := lt_up _ _ 65536 l5 p5
  have l7 := lt_up _ _ 256 l6 p6
  obtain rfl := last0 b7 x8 l7 p7 r7
  clear l1 l2 l3 l4 l5 l6 l7 hx h
  have e := rev8_of b0 b1 b2 b3 b4 b5 b6 b7 p0 q0 p1 q1 p2 q2 p3 q3 p4 q4 p5 q5 p6 q6 p7 q7
  have e' := rev8_of b7 b6 b5 b4 b3 b2 b1 b0 p7 q7 p6 q6 p5 q5 p4 q4 p3 q3 p2 q2 p1 q1 p0 q0
  rw [e]
  refine ⟨e', ?_⟩
  rw [top8, up_step _ _ p7 q7, up_step _ _ p6 q6, up_step _ _ p5 q5, up_step _ _ p4 q4, up_step _ _ p3 q3, up_step _ _ p2 q2, up_step _ _ p1 q1, low_step _ _ p0 q0]
  exact (Int.add_zero b0)
theorem rev_rev (w a : Int) : rev (bytesOf w) (rev (bytesOf w) (a % M w) 0) 0 = a % M w ∧ rev (bytesOf w) (a % M w) 0 / 2 ^ (K w - 8).toNat = a % 256 := by
  have ha := M_lt w a
  have h256 : a % M w % 256 = a % 256 := by
    refine Int.emod_emod_of_dvd a ?_
    rcases four w with ⟨_, h, _⟩ | ⟨_, h, _⟩ | ⟨_, h, _⟩ | ⟨_, h, _⟩ <;> rw [h] <;> decide
  rw [← h256]
  rcases four w with ⟨rfl, h, h'⟩ | ⟨rfl, h, h'⟩ | ⟨rfl, h, h'⟩ | ⟨⟨h8, h16, h32⟩, h, h'⟩
  · rw [h] at ha ⊢
    exact rev1 _ ha.1 ha.2
  · rw [h] at ha ⊢
    exact rev2 _ ha.1 ha.2
  · rw [h] at ha ⊢
    exact rev4 _ ha.1 ha.2
  · have eb : bytesOf w = 8 := by unfold bytesOf; rw [h']; rfl
    rw [h] at ha ⊢
    rw [eb, h']
    exact rev8 _ ha.1 ha.2

end Go.Proofs.Ytliijfogmendmaa.Facts
