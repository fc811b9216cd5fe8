import Derived.Test.YtliijfogmendmaaPWx3
import Derived.Laws.BitsAllLaws
import Derived.Laws.Bits64
namespace Go.Proofs.Ytliijfogmendmaa.Facts
open Go.RowKit Go.Proofs.Ytliijfogmendmaa.PW Go.Proofs.YtliijfogmendmaaW.PrintWords Go.Proofs.YtliijfogmendmaaW.PrintLast Go.Proofs.YtliijfogmendmaaW.PrintMore

set_option linter.unusedVariables false
/-! The closed forms of package word's functions. -/

def T64 : Int := 18446744073709551616
def M (w : Int) : Int := if w = 8 then 256 else if w = 16 then 65536 else if w = 32 then 4294967296 else 18446744073709551616
def K (w : Int) : Int := if w = 8 then 8 else if w = 16 then 16 else if w = 32 then 32 else 64
def sg (w x : Int) : Int := if x % M w < M w / 2 then x % M w else x % M w - M w

theorem wrap_i8 (n : Int) : IntKind.i8.wrap n = (n + 128) % 256 - 128 := by
  simp [IntKind.wrap, IntKind.bits, IntKind.signed]
  split <;> omega
theorem wrap_i16 (n : Int) : IntKind.i16.wrap n = (n + 32768) % 65536 - 32768 := by
  simp [IntKind.wrap, IntKind.bits, IntKind.signed]
  split <;> omega

theorem four (w : Int) : (w = 8 ∧ M w = 256 ∧ K w = 8) ∨ (w = 16 ∧ M w = 65536 ∧ K w = 16) ∨ (w = 32 ∧ M w = 4294967296 ∧ K w = 32) ∨ ((w ≠ 8 ∧ w ≠ 16 ∧ w ≠ 32) ∧ M w = 18446744073709551616 ∧ K w = 64) := by
  unfold M K
  by_cases h1 : w = 8
  · exact .inl ⟨h1, by rw [if_pos h1], by rw [if_pos h1]⟩
  by_cases h2 : w = 16
  · exact .inr (.inl ⟨h2, by rw [if_neg h1, if_pos h2], by rw [if_neg h1, if_pos h2]⟩)
  by_cases h3 : w = 32
  · exact .inr (.inr (.inl ⟨h3, by rw [if_neg h1, if_neg h2, if_pos h3], by rw [if_neg h1, if_neg h2, if_pos h3]⟩))
  · exact .inr (.inr (.inr ⟨⟨h1, h2, h3⟩, by rw [if_neg h1, if_neg h2, if_neg h3], by rw [if_neg h1, if_neg h2, if_neg h3]⟩))

theorem M_pos (w : Int) : 256 ≤ M w ∧ M w ≤ 18446744073709551616 := by
  rcases four w with ⟨_, h, _⟩ | ⟨_, h, _⟩ | ⟨_, h, _⟩ | ⟨_, h, _⟩ <;> rw [h] <;> omega
theorem M_dvd (w : Int) : M w ∣ 18446744073709551616 := by
  rcases four w with ⟨_, h, _⟩ | ⟨_, h, _⟩ | ⟨_, h, _⟩ | ⟨_, h, _⟩ <;> rw [h] <;> decide
theorem M_half (w : Int) : M w / 2 * 2 = M w := by
  rcases four w with ⟨_, h, _⟩ | ⟨_, h, _⟩ | ⟨_, h, _⟩ | ⟨_, h, _⟩ <;> rw [h] <;> decide
theorem M_K (w : Int) : M w = 2 ^ (K w).toNat := by
  rcases four w with ⟨_, h, h'⟩ | ⟨_, h, h'⟩ | ⟨_, h, h'⟩ | ⟨_, h, h'⟩ <;> rw [h, h'] <;> rfl
theorem K_pos (w : Int) : 8 ≤ K w ∧ K w ≤ 64 := by
  rcases four w with ⟨_, _, h⟩ | ⟨_, _, h⟩ | ⟨_, _, h⟩ | ⟨_, _, h⟩ <;> rw [h] <;> omega
theorem modM (w x : Int) : x % 18446744073709551616 % M w = x % M w := Int.emod_emod_of_dvd x (M_dvd w)
theorem M_lt (w x : Int) : 0 ≤ x % M w ∧ x % M w < M w := by
  have := M_pos w
  exact ⟨Int.emod_nonneg _ (by omega), Int.emod_lt_of_pos _ (by omega)⟩
theorem sg_lt (w x : Int) : - (M w / 2) ≤ sg w x ∧ sg w x < M w / 2 := by
  have := M_lt w x
  have := M_half w
  unfold sg
  split <;> omega
theorem sg_mod (w x : Int) : sg w x % M w = x % M w := by
  unfold sg
  split
  · exact Int.emod_emod_of_dvd x (Int.dvd_refl _)
  · rw [Int.sub_emod, Int.emod_self, Int.sub_zero, Int.emod_emod_of_dvd _ (Int.dvd_refl _), Int.emod_emod_of_dvd _ (Int.dvd_refl _)]
theorem sg_of (w x : Int) (h0 : - (M w / 2) ≤ x) (h1 : x < M w / 2) : sg w x = x := by
  have hh := M_half w
  have hp := M_pos w
  unfold sg
  by_cases hx : 0 ≤ x
  · rw [Int.emod_eq_of_lt hx (by omega), if_pos h1]
  · have e : x % M w = x + M w := by
      rw [← Int.add_emod_right, Int.emod_eq_of_lt (by omega) (by omega)]
    rw [e, if_neg (by omega)]; omega
theorem sg_congr (w x y : Int) (h : x % M w = y % M w) : sg w x = sg w y := by unfold sg; rw [h]
theorem sg_mod' (w x : Int) : sg w (x % M w) = sg w x := sg_congr w _ _ (Int.emod_emod_of_dvd x (Int.dvd_refl _))
theorem sg_T (w x : Int) : sg w (x % 18446744073709551616) = sg w x := sg_congr w _ _ (modM w x)

theorem i8_sg (x : Int) : IntKind.i8.wrap x = sg 8 x := by
  rw [wrap_i8]; unfold sg M; simp only [if_pos]; split <;> omega
theorem i16_sg (x : Int) : IntKind.i16.wrap x = sg 16 x := by
  rw [wrap_i16]; unfold sg M; simp; split <;> omega
theorem i32_sg (x : Int) : wrap32 x = sg 32 x := by
  unfold wrap32 sg M; simp; split <;> omega
theorem i64_sg (w x : Int) (h : M w = 18446744073709551616) : wrap64 x = sg w x := by
  unfold wrap64 sg; rw [h]; split <;> omega

theorem inM (w x : Int) : x % M w % 18446744073709551616 = x % M w := by
  have := M_lt w x
  have := M_pos w
  exact Int.emod_eq_of_lt (by omega) (by omega)

/-- what a width's words come to, told of a function of a width -/
theorem narrow_eq (a w : Int) (h0 : 0 ≤ a) (h1 : a < 18446744073709551616) : word_Narrow.f a w = some (a % M w) := by
  unfold word_Narrow.f
  rcases four w with ⟨rfl, h, _⟩ | ⟨rfl, h, _⟩ | ⟨rfl, h, _⟩ | ⟨⟨h8, h16, h32⟩, h, _⟩
  · rw [if_pos rfl, h]
    simp [word_shl_uint8.f, word_bits_uint8.f, shl, IntKind.wrap_u8, IntKind.wrap_u64]
    omega
  · rw [if_neg (by decide), if_pos rfl, h]
    simp [word_shl_uint16.f, word_bits_uint16.f, shl, IntKind.wrap_u16, IntKind.wrap_u64]
    omega
  · rw [if_neg (by decide), if_neg (by decide), if_pos rfl, h]
    simp [word_shl_uint32.f, word_bits_uint32.f, shl, IntKind.wrap_u32, IntKind.wrap_u64]
    omega
  · rw [if_neg h8, if_neg h16, if_neg h32, h]
    simp [word_shl_uint64.f, word_bits_uint64.f, shl, IntKind.wrap_u64]

theorem sign_eq (a w : Int) (h0 : 0 ≤ a) (h1 : a < 18446744073709551616) : word_Sign.f a w = some (sg w a % 18446744073709551616) := by
  unfold word_Sign.f
  rcases four w with ⟨rfl, h, _⟩ | ⟨rfl, h, _⟩ | ⟨rfl, h, _⟩ | ⟨⟨h8, h16, h32⟩, h, _⟩
  · rw [if_pos rfl, i8_sg, IntKind.wrap_u64]
  · rw [if_neg (by decide), if_pos rfl, i16_sg, IntKind.wrap_u64]
  · rw [if_neg (by decide), if_neg (by decide), if_pos rfl, i32_sg, IntKind.wrap_u64]
  · rw [if_neg h8, if_neg h16, if_neg h32]
    have e := sg_mod w a
    rw [h] at e
    rw [e, Int.emod_eq_of_lt h0 h1]

theorem less_eq (a b w : Int) (h0 : 0 ≤ a) (h1 : a < 18446744073709551616) (h2 : 0 ≤ b) (h3 : b < 18446744073709551616) : word_Less.f a b w = some (decide (a % M w < b % M w)) := by
  unfold word_Less.f
  rw [narrow_eq a w h0 h1, narrow_eq b w h2 h3]; rfl

theorem wrap64_sg (w x : Int) : wrap64 (sg w x % 18446744073709551616) = sg w x := by
  have := sg_lt w x
  have := M_pos w
  unfold wrap64
  omega

theorem sless_eq (a b w : Int) (h0 : 0 ≤ a) (h1 : a < 18446744073709551616) (h2 : 0 ≤ b) (h3 : b < 18446744073709551616) : word_SLess.f a b w = some (decide (sg w a < sg w b)) := by
  unfold word_SLess.f
  rw [sign_eq a w h0 h1, sign_eq b w h2 h3]
  simp only [Option.bind_some, wrap64_sg]

theorem emod_le' (a b : Int) (h0 : 0 ≤ a) (h1 : 0 ≤ b) : a % b ≤ a := by
  have e := Int.emod_add_mul_ediv a b
  have p : 0 ≤ b * (a / b) := Int.mul_nonneg h1 (Int.ediv_nonneg h0 h1)
  omega

theorem div_eq (a b w : Int) (h0 : 0 ≤ a) (h1 : a < 18446744073709551616) (h2 : 0 ≤ b) (h3 : b < 18446744073709551616) : word_Div.f a b w = some (a % M w / (b % M w)) := by
  have ha := M_lt w a
  have hb := M_lt w b
  have hq : a % M w / (b % M w) ≤ a % M w := Int.ediv_le_self _ ha.1
  have hq0 : 0 ≤ a % M w / (b % M w) := Int.ediv_nonneg ha.1 hb.1
  unfold word_Div.f
  rcases four w with ⟨rfl, h, _⟩ | ⟨rfl, h, _⟩ | ⟨rfl, h, _⟩ | ⟨⟨h8, h16, h32⟩, h, _⟩
  · rw [h] at ha hb hq hq0 ⊢
    rw [if_pos rfl]
    unfold word_div_uint8.f
    split
    · rename_i e; rw [e]; simp [IntKind.wrap_u64]
    · rw [Int.tdiv_eq_ediv_of_nonneg ha.1, Option.bind_some, IntKind.wrap_u64]; congr 1; omega
  · rw [h] at ha hb hq hq0 ⊢
    rw [if_neg (by decide), if_pos rfl, IntKind.wrap_u16, IntKind.wrap_u16]
    unfold word_div_uint16.f
    split
    · rename_i e; rw [e]; simp [IntKind.wrap_u64]
    · rw [Int.tdiv_eq_ediv_of_nonneg ha.1, Option.bind_some, IntKind.wrap_u64, IntKind.wrap_u16]; congr 1; omega
  · rw [h] at ha hb hq hq0 ⊢
    rw [if_neg (by decide), if_neg (by decide), if_pos rfl]
    unfold word_div_uint32.f
    split
    · rename_i e; rw [e]; simp [IntKind.wrap_u64]
    · rw [Int.tdiv_eq_ediv_of_nonneg ha.1, Option.bind_some, IntKind.wrap_u64]; congr 1; omega
  · rw [h] at ha hb hq hq0 ⊢
    rw [Int.emod_eq_of_lt h0 h1, Int.emod_eq_of_lt h2 h3] at hq hq0 ⊢
    rw [if_neg h8, if_neg h16, if_neg h32]
    unfold word_div_uint64.f
    split
    · rename_i e; rw [e]; simp
    · rw [Int.tdiv_eq_ediv_of_nonneg h0, IntKind.wrap_u64]; congr 1; omega

theorem mod_eq (a b w : Int) (h0 : 0 ≤ a) (h1 : a < 18446744073709551616) (h2 : 0 ≤ b) (h3 : b < 18446744073709551616) : word_Mod.f a b w = some (a % M w % (b % M w)) := by
  have ha := M_lt w a
  have hb := M_lt w b
  have hq : a % M w % (b % M w) ≤ a % M w := emod_le' _ _ ha.1 hb.1
  have hq0 : 0 ≤ a % M w % (b % M w) := by
    by_cases e : b % M w = 0
    · rw [e, Int.emod_zero]; exact ha.1
    · exact Int.emod_nonneg _ e
  unfold word_Mod.f
  rcases four w with ⟨rfl, h, _⟩ | ⟨rfl, h, _⟩ | ⟨rfl, h, _⟩ | ⟨⟨h8, h16, h32⟩, h, _⟩
  · rw [h] at ha hb hq hq0 ⊢
    rw [if_pos rfl]
    unfold word_mod_uint8.f
    split
    · rename_i e; rw [e, Int.emod_zero, Option.bind_some, IntKind.wrap_u64]; congr 1; omega
    · rw [Int.tmod_eq_emod_of_nonneg ha.1, Option.bind_some, IntKind.wrap_u64]; congr 1; omega
  · rw [h] at ha hb hq hq0 ⊢
    rw [if_neg (by decide), if_pos rfl, IntKind.wrap_u16, IntKind.wrap_u16]
    unfold word_mod_uint16.f
    split
    · rename_i e; rw [e, Int.emod_zero, Option.bind_some, IntKind.wrap_u64]; congr 1; omega
    · rw [Int.tmod_eq_emod_of_nonneg ha.1, Option.bind_some, IntKind.wrap_u64]; congr 1; omega
  · rw [h] at ha hb hq hq0 ⊢
    rw [if_neg (by decide), if_neg (by decide), if_pos rfl]
    unfold word_mod_uint32.f
    split
    · rename_i e; rw [e, Int.emod_zero, Option.bind_some, IntKind.wrap_u64]; congr 1; omega
    · rw [Int.tmod_eq_emod_of_nonneg ha.1, Option.bind_some, IntKind.wrap_u64]; congr 1; omega
  · rw [h, Int.emod_eq_of_lt h0 h1, Int.emod_eq_of_lt h2 h3]
    rw [if_neg h8, if_neg h16, if_neg h32]
    unfold word_mod_uint64.f
    split
    · rename_i e; rw [e, Int.emod_zero]
    · rw [Int.tmod_eq_emod_of_nonneg h0]

/-! signs: the quotient of the numbers with signs, as a word -/
theorem neg_emod_congr (m x y : Int) (h : x % m = y % m) : (-x) % m = (-y) % m := by
  have h1 : (x - y) % m = 0 := by rw [Int.sub_emod, h, Int.sub_self, Int.zero_emod]
  have h2 : (-x) = -y - (x - y) := by omega
  rw [h2, Int.sub_emod, h1, Int.sub_zero, Int.emod_emod_of_dvd _ (Int.dvd_refl _)]

theorem sdiv8 (a b : Int) : word_sdiv_uint8_int8.f (a % 256) (b % 256) = some (Int.tdiv (sg 8 a) (sg 8 b) % 256) := by
  have hM : M 8 = 256 := rfl
  unfold word_sdiv_uint8_int8.f
  have ea := sg_mod' 8 a
  have eb := sg_mod' 8 b
  have hb := sg_lt 8 b
  rw [hM] at ea eb hb
  simp only [i8_sg, ea, eb]
  split
  · rename_i e; rw [e, Int.tdiv_zero]; rfl
  split
  · rename_i e
    rw [e]
    have e2 : Int.tdiv (sg 8 a) (-1) = - sg 8 a := by rw [Int.tdiv_neg, Int.tdiv_one]
    have e3 := sg_mod 8 a
    rw [hM] at e3
    rw [e2, neg_emod_congr 256 _ _ e3, neg_emod_congr 256 (a % 256) a (Int.emod_emod_of_dvd a (Int.dvd_refl _))]
  · have e := sg_mod 8 (Int.tdiv (sg 8 a) (sg 8 b))
    rw [hM] at e
    rw [e]
theorem sdiv16 (a b : Int) : word_sdiv_uint16_int16.f (a % 65536) (b % 65536) = some (Int.tdiv (sg 16 a) (sg 16 b) % 65536) := by
  have hM : M 16 = 65536 := rfl
  unfold word_sdiv_uint16_int16.f
  have ea := sg_mod' 16 a
  have eb := sg_mod' 16 b
  rw [hM] at ea eb
  simp only [i16_sg, ea, eb, IntKind.wrap_u16]
  split
  · rename_i e; rw [e, Int.tdiv_zero]; rfl
  split
  · rename_i e
    rw [e]
    have e2 : Int.tdiv (sg 16 a) (-1) = - sg 16 a := by rw [Int.tdiv_neg, Int.tdiv_one]
    have e3 := sg_mod 16 a
    rw [hM] at e3
    rw [e2, neg_emod_congr 65536 _ _ e3, neg_emod_congr 65536 (a % 65536) a (Int.emod_emod_of_dvd a (Int.dvd_refl _))]
  · have e := sg_mod 16 (Int.tdiv (sg 16 a) (sg 16 b))
    rw [hM] at e
    rw [e]
theorem sdiv32 (a b : Int) : word_sdiv_uint32_int32.f (a % 4294967296) (b % 4294967296) = some (Int.tdiv (sg 32 a) (sg 32 b) % 4294967296) := by
  have hM : M 32 = 4294967296 := rfl
  unfold word_sdiv_uint32_int32.f
  have ea := sg_mod' 32 a
  have eb := sg_mod' 32 b
  rw [hM] at ea eb
  simp only [i32_sg, ea, eb]
  split
  · rename_i e; rw [e, Int.tdiv_zero]; rfl
  split
  · rename_i e
    rw [e]
    have e2 : Int.tdiv (sg 32 a) (-1) = - sg 32 a := by rw [Int.tdiv_neg, Int.tdiv_one]
    have e3 := sg_mod 32 a
    rw [hM] at e3
    rw [e2, neg_emod_congr 4294967296 _ _ e3, neg_emod_congr 4294967296 (a % 4294967296) a (Int.emod_emod_of_dvd a (Int.dvd_refl _))]
  · have e := sg_mod 32 (Int.tdiv (sg 32 a) (sg 32 b))
    rw [hM] at e
    rw [e]
theorem sdiv64 (w a b : Int) (hM : M w = 18446744073709551616) : word_sdiv_uint64_int64.f a b = some (Int.tdiv (sg w a) (sg w b) % 18446744073709551616) := by
  unfold word_sdiv_uint64_int64.f
  simp only [i64_sg w _ hM, IntKind.wrap_u64]
  split
  · rename_i e; rw [e, Int.tdiv_zero]; rfl
  split
  · rename_i e
    rw [e]
    have e2 : Int.tdiv (sg w a) (-1) = - sg w a := by rw [Int.tdiv_neg, Int.tdiv_one]
    have e3 := sg_mod w a
    rw [hM] at e3
    rw [e2, neg_emod_congr 18446744073709551616 _ _ e3]
  · have e := sg_mod w (Int.tdiv (sg w a) (sg w b))
    rw [hM] at e
    rw [e]
theorem sdiv_eq (a b w : Int) : word_SDiv.f a b w = some (Int.tdiv (sg w a) (sg w b) % M w) := by
  unfold word_SDiv.f
  rcases four w with ⟨rfl, h, _⟩ | ⟨rfl, h, _⟩ | ⟨rfl, h, _⟩ | ⟨⟨h8, h16, h32⟩, h, _⟩
  · have e := inM 8 (Int.tdiv (sg 8 a) (sg 8 b))
    rw [h] at e
    rw [if_pos rfl, sdiv8, h, Option.bind_some, IntKind.wrap_u64, e]
  · have e := inM 16 (Int.tdiv (sg 16 a) (sg 16 b))
    rw [h] at e
    rw [if_neg (by decide), if_pos rfl, IntKind.wrap_u16, IntKind.wrap_u16, sdiv16, h, Option.bind_some, IntKind.wrap_u64, e]
  · have e := inM 32 (Int.tdiv (sg 32 a) (sg 32 b))
    rw [h] at e
    rw [if_neg (by decide), if_neg (by decide), if_pos rfl, sdiv32, h, Option.bind_some, IntKind.wrap_u64, e]
  · rw [if_neg h8, if_neg h16, if_neg h32, sdiv64 w a b h, h]

theorem smod8 (a b : Int) : word_smod_uint8_int8.f (a % 256) (b % 256) = some (Int.tmod (sg 8 a) (sg 8 b) % 256) := by
  have hM : M 8 = 256 := rfl
  unfold word_smod_uint8_int8.f
  have ea := sg_mod' 8 a
  have eb := sg_mod' 8 b
  have e3 := sg_mod 8 a
  rw [hM] at ea eb e3
  simp only [i8_sg, ea, eb]
  split
  · rename_i e; rw [e, Int.tmod_zero, e3]
  split
  · rename_i e; rw [e, Int.tmod_neg, Int.tmod_one]; rfl
  · rfl
theorem smod16 (a b : Int) : word_smod_uint16_int16.f (a % 65536) (b % 65536) = some (Int.tmod (sg 16 a) (sg 16 b) % 65536) := by
  have hM : M 16 = 65536 := rfl
  unfold word_smod_uint16_int16.f
  have ea := sg_mod' 16 a
  have eb := sg_mod' 16 b
  have e3 := sg_mod 16 a
  rw [hM] at ea eb e3
  simp only [i16_sg, ea, eb, IntKind.wrap_u16]
  split
  · rename_i e; rw [e, Int.tmod_zero, e3]
  split
  · rename_i e; rw [e, Int.tmod_neg, Int.tmod_one]; rfl
  · rfl
theorem smod32 (a b : Int) : word_smod_uint32_int32.f (a % 4294967296) (b % 4294967296) = some (Int.tmod (sg 32 a) (sg 32 b) % 4294967296) := by
  have hM : M 32 = 4294967296 := rfl
  unfold word_smod_uint32_int32.f
  have ea := sg_mod' 32 a
  have eb := sg_mod' 32 b
  have e3 := sg_mod 32 a
  rw [hM] at ea eb e3
  simp only [i32_sg, ea, eb]
  split
  · rename_i e; rw [e, Int.tmod_zero, e3]
  split
  · rename_i e; rw [e, Int.tmod_neg, Int.tmod_one]; rfl
  · rfl
theorem smod64 (w a b : Int) (h0 : 0 ≤ a) (h1 : a < 18446744073709551616) (hM : M w = 18446744073709551616) : word_smod_uint64_int64.f a b = some (Int.tmod (sg w a) (sg w b) % 18446744073709551616) := by
  unfold word_smod_uint64_int64.f
  have e3 := sg_mod w a
  rw [hM, Int.emod_eq_of_lt h0 h1] at e3
  simp only [i64_sg w _ hM, IntKind.wrap_u64]
  split
  · rename_i e; rw [e, Int.tmod_zero, e3]
  split
  · rename_i e; rw [e, Int.tmod_neg, Int.tmod_one]; rfl
  · rfl
theorem smod_eq (a b w : Int) (h0 : 0 ≤ a) (h1 : a < 18446744073709551616) : word_SMod.f a b w = some (Int.tmod (sg w a) (sg w b) % M w) := by
  unfold word_SMod.f
  rcases four w with ⟨rfl, h, _⟩ | ⟨rfl, h, _⟩ | ⟨rfl, h, _⟩ | ⟨⟨h8, h16, h32⟩, h, _⟩
  · have e := inM 8 (Int.tmod (sg 8 a) (sg 8 b))
    rw [h] at e
    rw [if_pos rfl, smod8, h, Option.bind_some, IntKind.wrap_u64, e]
  · have e := inM 16 (Int.tmod (sg 16 a) (sg 16 b))
    rw [h] at e
    rw [if_neg (by decide), if_pos rfl, IntKind.wrap_u16, IntKind.wrap_u16, smod16, h, Option.bind_some, IntKind.wrap_u64, e]
  · have e := inM 32 (Int.tmod (sg 32 a) (sg 32 b))
    rw [h] at e
    rw [if_neg (by decide), if_neg (by decide), if_pos rfl, smod32, h, Option.bind_some, IntKind.wrap_u64, e]
  · rw [if_neg h8, if_neg h16, if_neg h32, smod64 w a b h0 h1 h, h]

/-! shifts -/
theorem tmod_min (b c : Int) (n : Nat) (hc : c = n) (h0 : 0 ≤ b) (hn : 0 < n) : 0 ≤ Int.tmod b c ∧ min (Int.tmod b c).toNat n = (b % c).toNat := by
  subst hc
  rw [Int.tmod_eq_emod_of_nonneg h0]
  have h1 : 0 ≤ b % n := Int.emod_nonneg _ (by omega)
  have h2 : b % n < n := Int.emod_lt_of_pos _ (by omega)
  exact ⟨h1, Nat.min_eq_left (by omega)⟩

theorem shl_eq (a b w : Int) (h2 : 0 ≤ b) : word_Shl.f a b w = some (a % M w * 2 ^ (b % K w).toNat % M w) := by
  unfold word_Shl.f
  rcases four w with ⟨rfl, h, h'⟩ | ⟨rfl, h, h'⟩ | ⟨rfl, h, h'⟩ | ⟨⟨h8, h16, h32⟩, h, h'⟩
  · obtain ⟨p, q⟩ := tmod_min b 8 8 rfl h2 (by decide)
    have e := inM 8 (a % 256 * 2 ^ (b % 8).toNat)
    rw [h] at e
    rw [if_pos rfl, h, h']
    unfold word_shl_uint8.f word_bits_uint8.f
    rw [Option.bind_some, if_neg (by decide), if_pos p, Option.bind_some]
    unfold shl
    rw [show IntKind.u8.bits = 8 from rfl, q, IntKind.wrap_u8, IntKind.wrap_u64, e]
  · obtain ⟨p, q⟩ := tmod_min b 16 16 rfl h2 (by decide)
    have e := inM 16 (a % 65536 * 2 ^ (b % 16).toNat)
    rw [h] at e
    rw [if_neg (by decide), if_pos rfl, h, h']
    unfold word_shl_uint16.f word_bits_uint16.f
    rw [Option.bind_some, if_neg (by decide), if_pos p, Option.bind_some]
    unfold shl
    rw [show IntKind.u16.bits = 16 from rfl, q, IntKind.wrap_u16, IntKind.wrap_u16, IntKind.wrap_u64, e]
  · obtain ⟨p, q⟩ := tmod_min b 32 32 rfl h2 (by decide)
    have e := inM 32 (a % 4294967296 * 2 ^ (b % 32).toNat)
    rw [h] at e
    rw [if_neg (by decide), if_neg (by decide), if_pos rfl, h, h']
    unfold word_shl_uint32.f word_bits_uint32.f
    rw [Option.bind_some, if_neg (by decide), if_pos p, Option.bind_some]
    unfold shl
    rw [show IntKind.u32.bits = 32 from rfl, q, IntKind.wrap_u32, IntKind.wrap_u64, e]
  · obtain ⟨p, q⟩ := tmod_min b 64 64 rfl h2 (by decide)
    rw [if_neg h8, if_neg h16, if_neg h32, h, h']
    unfold word_shl_uint64.f word_bits_uint64.f
    rw [Option.bind_some, if_neg (by decide), if_pos p]
    unfold shl
    rw [show IntKind.u64.bits = 64 from rfl, q, IntKind.wrap_u64, Int.mul_emod (a % _), Int.emod_emod_of_dvd _ (Int.dvd_refl _), ← Int.mul_emod]

theorem div_pow_le (x : Int) (n : Nat) (h0 : 0 ≤ x) : 0 ≤ x / 2 ^ n ∧ x / 2 ^ n ≤ x := by
  have hp : (0 : Int) < 2 ^ n := by exact_mod_cast Nat.two_pow_pos n
  exact ⟨Int.ediv_nonneg h0 (by omega), Int.ediv_le_self _ h0⟩

theorem shr_eq (a b w : Int) (h0 : 0 ≤ a) (h1 : a < 18446744073709551616) (h2 : 0 ≤ b) : word_Shr.f a b w = some (a % M w / 2 ^ (b % K w).toNat) := by
  have ha := M_lt w a
  have hd := div_pow_le (a % M w) (b % K w).toNat ha.1
  unfold word_Shr.f
  rcases four w with ⟨rfl, h, h'⟩ | ⟨rfl, h, h'⟩ | ⟨rfl, h, h'⟩ | ⟨⟨h8, h16, h32⟩, h, h'⟩
  · obtain ⟨p, q⟩ := tmod_min b 8 8 rfl h2 (by decide)
    rw [h, h'] at hd
    rw [if_pos rfl, h, h']
    unfold word_shr_uint8.f word_bits_uint8.f
    rw [Option.bind_some, if_neg (by decide), if_pos p, Option.bind_some]
    unfold shr
    rw [show IntKind.u8.bits = 8 from rfl, q, IntKind.wrap_u64, Int.emod_eq_of_lt hd.1 (by omega)]
  · obtain ⟨p, q⟩ := tmod_min b 16 16 rfl h2 (by decide)
    rw [h, h'] at hd
    rw [if_neg (by decide), if_pos rfl, h, h']
    unfold word_shr_uint16.f word_bits_uint16.f
    rw [Option.bind_some, if_neg (by decide), if_pos p, Option.bind_some]
    unfold shr
    rw [show IntKind.u16.bits = 16 from rfl, q, IntKind.wrap_u16, IntKind.wrap_u64, Int.emod_eq_of_lt hd.1 (by omega)]
  · obtain ⟨p, q⟩ := tmod_min b 32 32 rfl h2 (by decide)
    rw [h, h'] at hd
    rw [if_neg (by decide), if_neg (by decide), if_pos rfl, h, h']
    unfold word_shr_uint32.f word_bits_uint32.f
    rw [Option.bind_some, if_neg (by decide), if_pos p, Option.bind_some]
    unfold shr
    rw [show IntKind.u32.bits = 32 from rfl, q, IntKind.wrap_u64, Int.emod_eq_of_lt hd.1 (by omega)]
  · obtain ⟨p, q⟩ := tmod_min b 64 64 rfl h2 (by decide)
    rw [if_neg h8, if_neg h16, if_neg h32, h, h', Int.emod_eq_of_lt h0 h1]
    unfold word_shr_uint64.f word_bits_uint64.f
    rw [Option.bind_some, if_neg (by decide), if_pos p]
    unfold shr
    rw [show IntKind.u64.bits = 64 from rfl, q]

theorem sar_eq (a b w : Int) (h2 : 0 ≤ b) : word_Sar.f a b w = some (sg w a / 2 ^ (b % K w).toNat % M w) := by
  unfold word_Sar.f
  rcases four w with ⟨rfl, h, h'⟩ | ⟨rfl, h, h'⟩ | ⟨rfl, h, h'⟩ | ⟨⟨h8, h16, h32⟩, h, h'⟩
  · obtain ⟨p, q⟩ := tmod_min b 8 8 rfl h2 (by decide)
    have e := inM 8 (sg 8 a / 2 ^ (b % 8).toNat)
    have ea := sg_mod' 8 a
    rw [h] at e ea
    rw [if_pos rfl, h, h']
    unfold word_sar_uint8_int8.f word_bits_uint8.f
    rw [Option.bind_some, if_neg (by decide), if_pos p, Option.bind_some]
    unfold shr
    rw [show IntKind.i8.bits = 8 from rfl, q, i8_sg, ea, IntKind.wrap_u64, e]
  · obtain ⟨p, q⟩ := tmod_min b 16 16 rfl h2 (by decide)
    have e := inM 16 (sg 16 a / 2 ^ (b % 16).toNat)
    have ea := sg_mod' 16 a
    rw [h] at e ea
    rw [if_neg (by decide), if_pos rfl, h, h']
    unfold word_sar_uint16_int16.f word_bits_uint16.f
    rw [Option.bind_some, if_neg (by decide), if_pos p, Option.bind_some]
    unfold shr
    rw [show IntKind.i16.bits = 16 from rfl, q, i16_sg, IntKind.wrap_u16, IntKind.wrap_u16, ea, IntKind.wrap_u64, e]
  · obtain ⟨p, q⟩ := tmod_min b 32 32 rfl h2 (by decide)
    have e := inM 32 (sg 32 a / 2 ^ (b % 32).toNat)
    have ea := sg_mod' 32 a
    rw [h] at e ea
    rw [if_neg (by decide), if_neg (by decide), if_pos rfl, h, h']
    unfold word_sar_uint32_int32.f word_bits_uint32.f
    rw [Option.bind_some, if_neg (by decide), if_pos p, Option.bind_some]
    unfold shr
    rw [show IntKind.i32.bits = 32 from rfl, q, i32_sg, ea, IntKind.wrap_u64, e]
  · obtain ⟨p, q⟩ := tmod_min b 64 64 rfl h2 (by decide)
    rw [if_neg h8, if_neg h16, if_neg h32, h, h']
    unfold word_sar_uint64_int64.f word_bits_uint64.f
    rw [Option.bind_some, if_neg (by decide), if_pos p]
    unfold shr
    rw [show IntKind.i64.bits = 64 from rfl, q, i64_sg w a h, IntKind.wrap_u64]

theorem u64_in {a : Int} (h : (Lit.int .u64 a).wf = true) : 0 ≤ a ∧ a < 18446744073709551616 := by
  have h' : 0 ≤ a ∧ a ≤ 18446744073709551615 := by simpa [Lit.wf, IntKind.min, IntKind.max, IntKind.signed, IntKind.bits] using h
  omega

end Go.Proofs.Ytliijfogmendmaa.Facts
