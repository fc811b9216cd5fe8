/- Read of what Write gives is the list again; it has 16 bytes a relocation, and its beginnings are taken just at multiples of 16. No condition: every list of relocations, every number as a cut. -/
import Derived.Test.YtolhfcefpjfobaaOkRelocBack
import Derived.Test.YtolhfcefpjfobaaFactsB
namespace Go.Proofs.Ytolhfcefpjfobaa.Pure
open Go.RowKit Go.Proofs.Ytolhfcefpjfobaa.PR Go.Proofs.Ytolhfcefpjfobaa.Facts

theorem and_mask (n : Int) : 0 ≤ Go.bits .and .i64 n 4611686018427387903 ∧ Go.bits .and .i64 n 4611686018427387903 < 4611686018427387904 := by
  have hm : (BitVec.ofInt 64 4611686018427387903).toNat = 2 ^ 62 - 1 := by decide
  have key : (BitVec.ofInt 64 n &&& BitVec.ofInt 64 4611686018427387903).toNat = (n % ((2 ^ 64 : Nat) : Int)).toNat % 2 ^ 62 := by
    rw [BitVec.toNat_and, BitVec.toNat_ofInt, hm, Nat.and_two_pow_sub_one_eq_mod]
  have e : Go.bits .and .i64 n 4611686018427387903 = IntKind.i64.wrap ((BitVec.ofInt 64 n &&& BitVec.ofInt 64 4611686018427387903).toNat : Nat) := rfl
  rw [e, key, IntKind.wrap_i64]
  omega

theorem encs_bytes : ∀ rs : List S27, Bytes (encs rs)
  | [] => fun b hb => by cases hb
  | r :: rs => fun b hb => by
    simp only [encs] at hb
    rcases List.mem_append.1 hb with h | h
    · exact enc_bytes r b h
    · exact encs_bytes rs b h

/-- a beginning of what Write gives -/
theorem read_cut (xs : List S27) (hg : Facts.Good (-1) xs) (n : Nat) (hn : n ≤ 16 * xs.length) (hl : xs.length ≤ 65537) (k : Nat) (hk : 70000 < k) :
    reloc_Read.f k ((encs xs).take n) = some (if n % 16 = 0 then (xs.take (n / 16), 0, 0) else ([], ((16 * (n / 16) : Nat) : Int), 110)) := by
  have hlen := encs_length xs
  have hs : (encs xs).take n = encs (xs.take (n / 16)) ++ ((encs xs).take n).drop (16 * (n / 16)) := by
    have e : ((encs xs).take n).take (16 * (n / 16)) = encs (xs.take (n / 16)) := by
      rw [List.take_take, Nat.min_eq_left (by omega), encs_take]
    have := List.take_append_drop (16 * (n / 16)) ((encs xs).take n)
    rw [e] at this
    exact this.symm
  have ht : (((encs xs).take n).drop (16 * (n / 16))).length = n % 16 := by simp; omega
  have hb : Bytes ((encs xs).take n) := fun b h => encs_bytes xs b (List.mem_of_mem_take h)
  have h := read_encs ((encs xs).take n) hb (by simp; omega) (((encs xs).take n).drop (16 * (n / 16))) (by rw [ht]; omega) (xs.take (n / 16)) 0 k [] (-1) (by rw [List.drop_zero]; exact hs) (by omega) (good_take xs _ _ hg) (by simp; omega) (by simp) (by omega)
  have h' : reloc_Read.f k ((encs xs).take n) = _ := h
  rw [h']
  by_cases hz : n % 16 = 0
  · rw [if_pos (List.eq_nil_of_length_eq_zero (by omega)), if_pos hz, List.nil_append]
  · rw [if_neg (fun e => hz (by rw [← ht, e]; rfl)), if_neg hz]
    have : (xs.take (n / 16)).length = n / 16 := by simp; omega
    rw [this]
    congr 3
    omega

theorem RelocBack : spindlelaw11_RelocBack.Pure := by
  intro xs c hok _
  have hr : reachBytes = 140737488351232 := rfl
  have hxl := hok.2
  by_cases hg : Facts.Good (-1) xs
  · have hlen := good_length xs _ hg (by omega) (by omega)
    have hel := encs_length xs
    refine ⟨300000 + 40, ?_⟩
    unfold spindlelaw11_RelocBack.f
    rw [(write_eq xs (300000 + 40) (by omega) (by omega)).1 hg, Option.bind_some, if_pos rfl]
    have hall : reloc_Read.f (300000 + 40) (encs xs) = some (xs, 0, 0) := by
      have h := read_cut xs hg (16 * xs.length) (Nat.le_refl _) (by omega) (300000 + 40) (by omega)
      rw [List.take_of_length_le (by omega), if_pos (by omega), List.take_of_length_le (by omega)] at h
      exact h
    rw [hall, Option.bind_some, if_pos rfl, if_pos rfl, same_eq xs (by omega) _ (by omega), Option.bind_some, if_pos rfl, w64 _ (by omega) (by omega), show (((encs xs).length : Int) != 16 * (xs.length : Int)) = false from by rw [hel]; simp]
    rw [show (300000 + 40 : Nat) = (299999 + 40) + 1 from rfl]
    simp only [spindlelaw11_RelocBack.j0]
    obtain ⟨m0, m1⟩ := and_mask c
    generalize Go.bits .and .i64 c 4611686018427387903 = z at *
    have ew : wrap64 (((encs xs).length : Int) + 1) = ((encs xs).length : Int) + 1 := w64 _ (by omega) (by omega)
    rw [if_neg (by decide), ew, if_neg (by omega), Int.tmod_eq_emod_of_nonneg m0]
    have c0 : 0 ≤ z % (((encs xs).length : Int) + 1) := Int.emod_nonneg _ (by omega)
    have c1 : z % (((encs xs).length : Int) + 1) < ((encs xs).length : Int) + 1 := Int.emod_lt_of_pos _ (by omega)
    generalize z % (((encs xs).length : Int) + 1) = q at *
    obtain ⟨n, rfl⟩ := Int.eq_ofNat_of_zero_le c0
    rw [if_pos c0, if_pos (by omega), Int.toNat_natCast, read_cut xs hg n (by omega) (by omega) (299999 + 40) (by omega), Option.bind_some, Int.tmod_eq_emod_of_nonneg c0, Int.tdiv_eq_ediv_of_nonneg c0, w64 ((n : Int) / 16) (by omega) (by omega), awake_k]
    by_cases hz : n % 16 = 0
    · rw [if_pos hz, if_pos (by omega), if_pos rfl, if_pos rfl, if_pos (by omega), if_pos (by omega), show ((n : Int) / 16).toNat = n / 16 from by omega, same_eq _ (by simp; omega) _ (by simp; omega), Option.bind_some, if_pos rfl, Option.bind_some]
    · have e : (((16 * (n / 16) : Nat) : Int)) = (n : Int) / 16 * 16 := by omega
      have ez : ¬ ((n : Int) % 16 = 0) := by omega
      rw [if_neg hz, if_neg ez, w64 _ (by omega) (by omega), e]
      simp
  · refine ⟨(2 * xs.length + 30) + 40, ?_⟩
    unfold spindlelaw11_RelocBack.f
    obtain ⟨e, he, hv⟩ := (write_eq xs ((2 * xs.length + 30) + 40) (by omega) (by omega)).2 hg
    rw [he, Option.bind_some, awake_k]
    rcases hv with rfl | rfl <;> simp

end Go.Proofs.Ytolhfcefpjfobaa.Pure
