/- Package memory: lay at a place in a data block. Written by this session. -/
import Derived.Test.YthmeojeehemlaaaMem3
namespace Go.Proofs.Ythmeojeehemlaaa.Mem
open Go.RowKit Go.Proofs.YthmeojeehemlaaaW.PrintWords
set_option linter.unusedVariables false
set_option linter.unusedSimpArgs false
attribute [local go_sem] isSome_setCell

/-- only block d has changed -/
structure Only (w w' : World) (d : Nat) : Prop where
  os : w'.os = w.os
  tape : w'.tape = w.tape
  output : w'.output = w.output
  size : w.heap.size = w'.heap.size
  block : ∀ i, i ≠ d → w'.heap[i]? = w.heap[i]?
theorem Only.refl (w : World) (d : Nat) : Only w w d := ⟨rfl, rfl, rfl, rfl, fun _ _ => rfl⟩
theorem Only.set_ {w w' : World} {d : Nat} (h : Only w w' d) (i : Nat) (u : Value) : Only w (w'.setCell ⟨d, i, none⟩ u) d := by
  refine ⟨h.os, h.tape, h.output, by rw [h.size]; simp [World.setCell], fun k hk => ?_⟩
  rw [← h.block k hk]
  have : d ≠ k := fun e => hk e.symm
  simp [World.setCell, Array.getElem?_modify, this]
theorem Only.drew {w w' : World} {d : Nat} (h : Only w w' d) : Only w w'.drew d := ⟨h.os, h.tape, h.output, h.size, h.block⟩
/-- the bytes of a number, the lowest first -/
def le : Nat → Int → List Int
  | 0, _ => []
  | n + 1, x => x % 256 :: le n (x / 256)
set_option maxHeartbeats 2000000 in
set_option maxRecDepth 100000 in
theorem lay64_ (w : World) (d o n c : Nat) (cs : Array Value) (x : Int) (hb : Blk w d 5 cs) (hl : o + n ≤ cs.size) (hn : n < 1000) (hx0 : 0 ≤ x) :
    Calls Try.prog 29 #[.slice (some ⟨d, o, none⟩) n c, .int .u64 x] w fun e w' => e = .returned (.tuple #[]) ∧ ∃ cs' : Array Value, Blk w' d 5 cs' ∧ cs'.size = cs.size ∧ (∀ j, j < n → cs'[o + j]? = some (.int .u8 ((x / 256 ^ j) % 256))) ∧ (∀ j, (j < o ∨ o + n ≤ j) → cs'[j]? = cs[j]?) ∧ Only w w' d := by
  have HB := Lib.hid hb
  have HL := Lib.hid hl
  have HX := Lib.hid hx0
  clear hb hl hx0
  go_enter Try.func29, Try.ntmps29
  go_wp2
  go_loopw [1, 7] (fun v i wr => ∃ (k : Nat) (y : Int) (cs' : Array Value), k ≤ n ∧ v = .int .u64 y ∧ i = .int .i64 (k : Int) ∧ Hid (y = x / 256 ^ k) ∧ Hid (Blk wr d 5 cs') ∧ Hid (cs'.size = cs.size) ∧ Hid (∀ j, j < k → cs'[o + j]? = some (.int .u8 ((x / 256 ^ j) % 256))) ∧ Hid (∀ j, (j < o ∨ o + k ≤ j) → cs'[j]? = cs[j]?) ∧ Hid (Only w wr d)) (fun _ i _ => n - (intOf i).toNat)
  case atStart => exact ⟨0, x, cs, Nat.zero_le _, rfl, rfl, Lib.hid (by rw [Int.pow_zero, Int.ediv_one]), HB, Lib.hid rfl, Lib.hid (fun j h => absurd h (Nat.not_lt_zero j)), Lib.hid (fun _ _ => rfl), Lib.hid (Only.refl w d)⟩
  case round =>
    obtain ⟨k, y, cs', hk, rfl, rfl, hy, hB, hs, h1, h2, hO⟩ := hrel
    by_cases hlt : k < n
    · have hkc : o + k < cs'.size := by rw [hs.out]; have := HL.out; omega
      obtain ⟨v0, hv0⟩ : ∃ v0, cs'[o + k]? = some v0 := ⟨_, Array.getElem?_eq_getElem hkc⟩
      have cb := hB.out.cell (o + k)
      rw [hv0] at cb
      have fb := hB.out.frozen (o + k)
      have HKC := Lib.hid hkc
      have hy0 : 0 ≤ y := by rw [hy.out]; exact Int.ediv_nonneg HX.out (Int.pow_nonneg (by decide))
      clear hv0 hkc
      go_wp2
      go_roundw
      case rel =>
        refine ⟨k + 1, y / 256, cs'.setIfInBounds (o + k) (.int .u8 (y % 256)), by omega, rfl, by go_num, Lib.hid ?_, Lib.hid (hB.out.set_ _ _), Lib.hid (by simpa using hs.out), Lib.hid ?_, Lib.hid ?_, Lib.hid (hO.out.set_ _ _)⟩
        · rw [hy.out, Int.pow_succ, ← Int.ediv_ediv_of_nonneg (Int.pow_nonneg (by decide))]
        · intro j hj
          by_cases e : j = k
          · subst e
            rw [Array.getElem?_setIfInBounds_self_of_lt HKC.out, hy.out]
          · rw [Array.getElem?_setIfInBounds_ne (by omega)]
            exact h1.out j (by omega)
        · intro j hj
          rw [Array.getElem?_setIfInBounds_ne (by omega)]
          exact h2.out j (by omega)
      case measure => simp [intOf]; omega
    · obtain rfl : k = n := by omega
      go_wp2
      go_end0
      exact ⟨rfl, cs', hB.out, hs.out, h1.out, h2.out, hO.out⟩
set_option maxHeartbeats 2000000 in
set_option maxRecDepth 100000 in
theorem lay32_ (w : World) (d o n c : Nat) (cs : Array Value) (x : Int) (hb : Blk w d 5 cs) (hl : o + n ≤ cs.size) (hn : n < 1000) (hx0 : 0 ≤ x) (hx1 : x < 4294967296) :
    Calls Try.prog 28 #[.slice (some ⟨d, o, none⟩) n c, .int .u32 x] w fun e w' => e = .returned (.tuple #[]) ∧ ∃ cs' : Array Value, Blk w' d 5 cs' ∧ cs'.size = cs.size ∧ (∀ j, j < n → cs'[o + j]? = some (.int .u8 ((x / 256 ^ j) % 256))) ∧ (∀ j, (j < o ∨ o + n ≤ j) → cs'[j]? = cs[j]?) ∧ Only w w' d := by
  have HB := Lib.hid hb
  have HL := Lib.hid hl
  have HX := Lib.hid hx0
  have HX1 := Lib.hid hx1
  clear hb hl hx0 hx1
  go_enter Try.func28, Try.ntmps28
  go_wp2
  go_loopw [1, 7] (fun v i wr => ∃ (k : Nat) (y : Int) (cs' : Array Value), k ≤ n ∧ v = .int .u32 y ∧ i = .int .i64 (k : Int) ∧ Hid (y = x / 256 ^ k) ∧ Hid (Blk wr d 5 cs') ∧ Hid (cs'.size = cs.size) ∧ Hid (∀ j, j < k → cs'[o + j]? = some (.int .u8 ((x / 256 ^ j) % 256))) ∧ Hid (∀ j, (j < o ∨ o + k ≤ j) → cs'[j]? = cs[j]?) ∧ Hid (Only w wr d)) (fun _ i _ => n - (intOf i).toNat)
  case atStart => exact ⟨0, x, cs, Nat.zero_le _, rfl, rfl, Lib.hid (by rw [Int.pow_zero, Int.ediv_one]), HB, Lib.hid rfl, Lib.hid (fun j h => absurd h (Nat.not_lt_zero j)), Lib.hid (fun _ _ => rfl), Lib.hid (Only.refl w d)⟩
  case round =>
    obtain ⟨k, y, cs', hk, rfl, rfl, hy, hB, hs, h1, h2, hO⟩ := hrel
    by_cases hlt : k < n
    · have hkc : o + k < cs'.size := by rw [hs.out]; have := HL.out; omega
      obtain ⟨v0, hv0⟩ : ∃ v0, cs'[o + k]? = some v0 := ⟨_, Array.getElem?_eq_getElem hkc⟩
      have cb := hB.out.cell (o + k)
      rw [hv0] at cb
      have fb := hB.out.frozen (o + k)
      have HKC := Lib.hid hkc
      have hy0 : 0 ≤ y := by rw [hy.out]; exact Int.ediv_nonneg HX.out (Int.pow_nonneg (by decide))
      have hy1 : y < 4294967296 := by
        have h : x / 256 ^ k ≤ x := Int.ediv_le_self _ HX.out
        have h2 := HX1.out
        rw [hy.out]; omega
      have kw : IntKind.u64.wrap y = y := u64 y hy0 (by omega)
      have kq : (y / 256) % 4294967296 = y / 256 := Int.emod_eq_of_lt (by omega) (by omega)
      have HY := Lib.hid (And.intro hy0 hy1)
      clear hv0 hkc
      go_wp2
      go_roundw
      case rel =>
        refine ⟨k + 1, y / 256, cs'.setIfInBounds (o + k) (.int .u8 (y % 256)), by omega, rfl, by go_num, Lib.hid ?_, Lib.hid (hB.out.set_ _ _), Lib.hid (by simpa using hs.out), Lib.hid ?_, Lib.hid ?_, Lib.hid (hO.out.set_ _ _)⟩
        · rw [hy.out, Int.pow_succ, ← Int.ediv_ediv_of_nonneg (Int.pow_nonneg (by decide))]
        · intro j hj
          by_cases e : j = k
          · subst e
            rw [Array.getElem?_setIfInBounds_self_of_lt HKC.out, hy.out]
          · rw [Array.getElem?_setIfInBounds_ne (by omega)]
            exact h1.out j (by omega)
        · intro j hj
          rw [Array.getElem?_setIfInBounds_ne (by omega)]
          exact h2.out j (by omega)
      case measure => simp [intOf]; omega
    · obtain rfl : k = n := by omega
      go_wp2
      go_end0
      exact ⟨rfl, cs', hB.out, hs.out, h1.out, h2.out, hO.out⟩
set_option maxHeartbeats 2000000 in
set_option maxRecDepth 100000 in
theorem lay16_ (w : World) (d o n c : Nat) (cs : Array Value) (x : Int) (hb : Blk w d 5 cs) (hl : o + n ≤ cs.size) (hn : n < 1000) (hx0 : 0 ≤ x) (hx1 : x < 65536) :
    Calls Try.prog 27 #[.slice (some ⟨d, o, none⟩) n c, .int .u16 x] w fun e w' => e = .returned (.tuple #[]) ∧ ∃ cs' : Array Value, Blk w' d 5 cs' ∧ cs'.size = cs.size ∧ (∀ j, j < n → cs'[o + j]? = some (.int .u8 ((x / 256 ^ j) % 256))) ∧ (∀ j, (j < o ∨ o + n ≤ j) → cs'[j]? = cs[j]?) ∧ Only w w' d := by
  have HB := Lib.hid hb
  have HL := Lib.hid hl
  have HX := Lib.hid hx0
  have HX1 := Lib.hid hx1
  clear hb hl hx0 hx1
  go_enter Try.func27, Try.ntmps27
  go_wp2
  go_loopw [1, 7] (fun v i wr => ∃ (k : Nat) (y : Int) (cs' : Array Value), k ≤ n ∧ v = .int .u16 y ∧ i = .int .i64 (k : Int) ∧ Hid (y = x / 256 ^ k) ∧ Hid (Blk wr d 5 cs') ∧ Hid (cs'.size = cs.size) ∧ Hid (∀ j, j < k → cs'[o + j]? = some (.int .u8 ((x / 256 ^ j) % 256))) ∧ Hid (∀ j, (j < o ∨ o + k ≤ j) → cs'[j]? = cs[j]?) ∧ Hid (Only w wr d)) (fun _ i _ => n - (intOf i).toNat)
  case atStart => exact ⟨0, x, cs, Nat.zero_le _, rfl, rfl, Lib.hid (by rw [Int.pow_zero, Int.ediv_one]), HB, Lib.hid rfl, Lib.hid (fun j h => absurd h (Nat.not_lt_zero j)), Lib.hid (fun _ _ => rfl), Lib.hid (Only.refl w d)⟩
  case round =>
    obtain ⟨k, y, cs', hk, rfl, rfl, hy, hB, hs, h1, h2, hO⟩ := hrel
    by_cases hlt : k < n
    · have hkc : o + k < cs'.size := by rw [hs.out]; have := HL.out; omega
      obtain ⟨v0, hv0⟩ : ∃ v0, cs'[o + k]? = some v0 := ⟨_, Array.getElem?_eq_getElem hkc⟩
      have cb := hB.out.cell (o + k)
      rw [hv0] at cb
      have fb := hB.out.frozen (o + k)
      have HKC := Lib.hid hkc
      have hy0 : 0 ≤ y := by rw [hy.out]; exact Int.ediv_nonneg HX.out (Int.pow_nonneg (by decide))
      have hy1 : y < 65536 := by
        have h : x / 256 ^ k ≤ x := Int.ediv_le_self _ HX.out
        have h2 := HX1.out
        rw [hy.out]; omega
      have kw : IntKind.u64.wrap y = y := u64 y hy0 (by omega)
      have kq : IntKind.u16.wrap (y / 256) = y / 256 := by rw [IntKind.wrap_u16]; exact Int.emod_eq_of_lt (by omega) (by omega)
      have HY := Lib.hid (And.intro hy0 hy1)
      clear hv0 hkc
      go_wp2
      go_roundw
      case rel =>
        refine ⟨k + 1, y / 256, cs'.setIfInBounds (o + k) (.int .u8 (y % 256)), by omega, rfl, by go_num, Lib.hid ?_, Lib.hid (hB.out.set_ _ _), Lib.hid (by simpa using hs.out), Lib.hid ?_, Lib.hid ?_, Lib.hid (hO.out.set_ _ _)⟩
        · rw [hy.out, Int.pow_succ, ← Int.ediv_ediv_of_nonneg (Int.pow_nonneg (by decide))]
        · intro j hj
          by_cases e : j = k
          · subst e
            rw [Array.getElem?_setIfInBounds_self_of_lt HKC.out, hy.out]
          · rw [Array.getElem?_setIfInBounds_ne (by omega)]
            exact h1.out j (by omega)
        · intro j hj
          rw [Array.getElem?_setIfInBounds_ne (by omega)]
          exact h2.out j (by omega)
      case measure => simp [intOf]; omega
    · obtain rfl : k = n := by omega
      go_wp2
      go_end0
      exact ⟨rfl, cs', hB.out, hs.out, h1.out, h2.out, hO.out⟩
set_option maxHeartbeats 2000000 in
set_option maxRecDepth 100000 in
theorem lay8_ (w : World) (d o n c : Nat) (cs : Array Value) (x : Int) (hb : Blk w d 5 cs) (hl : o + n ≤ cs.size) (hn : n < 1000) (hx0 : 0 ≤ x) (hx1 : x < 256) :
    Calls Try.prog 26 #[.slice (some ⟨d, o, none⟩) n c, .int .u8 x] w fun e w' => e = .returned (.tuple #[]) ∧ ∃ cs' : Array Value, Blk w' d 5 cs' ∧ cs'.size = cs.size ∧ (∀ j, j < n → cs'[o + j]? = some (.int .u8 ((x / 256 ^ j) % 256))) ∧ (∀ j, (j < o ∨ o + n ≤ j) → cs'[j]? = cs[j]?) ∧ Only w w' d := by
  have HB := Lib.hid hb
  have HL := Lib.hid hl
  have HX := Lib.hid hx0
  have HX1 := Lib.hid hx1
  clear hb hl hx0 hx1
  go_enter Try.func26, Try.ntmps26
  go_wp2
  go_loopw [1, 7] (fun v i wr => ∃ (k : Nat) (y : Int) (cs' : Array Value), k ≤ n ∧ v = .int .u8 y ∧ i = .int .i64 (k : Int) ∧ Hid (y = x / 256 ^ k) ∧ Hid (Blk wr d 5 cs') ∧ Hid (cs'.size = cs.size) ∧ Hid (∀ j, j < k → cs'[o + j]? = some (.int .u8 ((x / 256 ^ j) % 256))) ∧ Hid (∀ j, (j < o ∨ o + k ≤ j) → cs'[j]? = cs[j]?) ∧ Hid (Only w wr d)) (fun _ i _ => n - (intOf i).toNat)
  case atStart => exact ⟨0, x, cs, Nat.zero_le _, rfl, rfl, Lib.hid (by rw [Int.pow_zero, Int.ediv_one]), HB, Lib.hid rfl, Lib.hid (fun j h => absurd h (Nat.not_lt_zero j)), Lib.hid (fun _ _ => rfl), Lib.hid (Only.refl w d)⟩
  case round =>
    obtain ⟨k, y, cs', hk, rfl, rfl, hy, hB, hs, h1, h2, hO⟩ := hrel
    by_cases hlt : k < n
    · have hkc : o + k < cs'.size := by rw [hs.out]; have := HL.out; omega
      obtain ⟨v0, hv0⟩ : ∃ v0, cs'[o + k]? = some v0 := ⟨_, Array.getElem?_eq_getElem hkc⟩
      have cb := hB.out.cell (o + k)
      rw [hv0] at cb
      have fb := hB.out.frozen (o + k)
      have HKC := Lib.hid hkc
      have hy0 : 0 ≤ y := by rw [hy.out]; exact Int.ediv_nonneg HX.out (Int.pow_nonneg (by decide))
      have hy1 : y < 256 := by
        have h : x / 256 ^ k ≤ x := Int.ediv_le_self _ HX.out
        have h2 := HX1.out
        rw [hy.out]; omega
      have kw : IntKind.u64.wrap y = y := u64 y hy0 (by omega)
      have kq : (y / 256) % 256 = y / 256 := Int.emod_eq_of_lt (by omega) (by omega)
      have kr : y % 256 = y := Int.emod_eq_of_lt (by omega) (by omega)
      have HY := Lib.hid (And.intro hy0 hy1)
      clear hv0 hkc
      go_wp2
      go_roundw
      case rel =>
        refine ⟨k + 1, y / 256, cs'.setIfInBounds (o + k) (.int .u8 y), by omega, rfl, by go_num, Lib.hid ?_, Lib.hid (hB.out.set_ _ _), Lib.hid (by simpa using hs.out), Lib.hid ?_, Lib.hid ?_, Lib.hid (hO.out.set_ _ _)⟩
        · rw [hy.out, Int.pow_succ, ← Int.ediv_ediv_of_nonneg (Int.pow_nonneg (by decide))]
        · intro j hj
          by_cases e : j = k
          · subst e
            rw [Array.getElem?_setIfInBounds_self_of_lt HKC.out, ← hy.out, Int.emod_eq_of_lt HY.out.1 HY.out.2]
          · rw [Array.getElem?_setIfInBounds_ne (by omega)]
            exact h1.out j (by omega)
        · intro j hj
          rw [Array.getElem?_setIfInBounds_ne (by omega)]
          exact h2.out j (by omega)
      case measure => simp [intOf]; omega
    · obtain rfl : k = n := by omega
      go_wp2
      go_end0
      exact ⟨rfl, cs', hB.out, hs.out, h1.out, h2.out, hO.out⟩
end Go.Proofs.Ythmeojeehemlaaa.Mem
