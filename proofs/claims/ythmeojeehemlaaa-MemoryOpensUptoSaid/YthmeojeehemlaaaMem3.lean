/- Package memory: Load. Written by this session. -/
import Derived.Test.YthmeojeehemlaaaMem2
import Derived.Test.YthmeojeehemlaaaPMx1
import Derived.Test.YthmeojeehemlaaaPMx2
namespace Go.Proofs.Ythmeojeehemlaaa.Mem
open Go.RowKit Go.Proofs.YthmeojeehemlaaaW.PrintWords
open Go.Proofs.Ythmeojeehemlaaa.PM
set_option linter.unusedVariables false
set_option linter.unusedSimpArgs false
attribute [local go_sem] isSome_setCell

def num : List Int → Int
  | [] => 0
  | b :: l => b + 256 * num l
def Bytes (l : List Int) : Prop := ∀ b ∈ l, 0 ≤ b ∧ b < 256
theorem num_range : ∀ l : List Int, Bytes l → 0 ≤ num l ∧ num l < 256 ^ l.length := by
  intro l
  induction l with
  | nil => intro _; simp [num]
  | cons b l ih =>
    intro h
    obtain ⟨h0, h1⟩ := ih (fun c hc => h c (List.mem_cons_of_mem _ hc))
    have hb := h b List.mem_cons_self
    simp only [num, List.length_cons]
    rw [Int.pow_succ]
    omega
theorem rd_at (l : List Int) (j : Nat) (h : j < l.length) : rd l (j : Int) = l[j] := by
  unfold rd
  rw [Int.toNat_natCast, List.getD_eq_getElem?_getD, List.getElem?_eq_getElem h]; rfl
theorem w64 (n : Int) (h0 : -9223372036854775808 ≤ n) (h1 : n < 9223372036854775808) : wrap64 n = n := by unfold wrap64; omega
theorem u64 (z : Int) (h0 : 0 ≤ z) (h1 : z < 18446744073709551616) : IntKind.u64.wrap z = z := by rw [IntKind.wrap_u64]; exact Int.emod_eq_of_lt h0 h1
def wb (width : Int) : Nat := if width = 8 then 1 else if width = 16 then 2 else if width = 32 then 4 else 8
theorem bytes_ (width : Int) : memory_bytes.f width = some (wb width : Int) := by
  unfold memory_bytes.f wb
  by_cases h8 : width = 8
  · subst h8; decide +kernel
  by_cases h16 : width = 16
  · subst h16; decide +kernel
  by_cases h32 : width = 32
  · subst h32; decide +kernel
  rw [if_neg h8, if_neg h16, if_neg h32, if_neg h8, if_neg h16, if_neg h32]; rfl
theorem viewOf_some (rs : List Reg) (x : Int) (n : Nat) (r : Reg) (o : Nat) (h : viewOf rs x n = some (r, o)) : r ∈ rs ∧ o + n ≤ r.data.length ∧ x = r.first + o := by
  unfold viewOf at h
  split at h
  · rename_i r' hf
    obtain ⟨h1, h2, h3⟩ := upTo_first rs x r' hf
    split at h
    · cases h
    · split at h
      · cases h
      · cases h
        exact ⟨h1, by omega, by omega⟩
  · cases h
theorem view_C {w : World} {r : Reg} (h : RegAt w r) (o n : Nat) (hl : o + n ≤ r.data.length) : Kd.C (Kd.int .u8) w (r.A.map fun a => a.add o) n ((r.data.drop o).take n) := by
  have hs := h.small
  have hlen := h.len
  refine ⟨by simp; omega, by omega, fun hp => ?_⟩
  obtain ⟨d, cs, hA, hb, _, hc⟩ := h.row (by omega)
  have ad : ∀ q, (⟨d, 0, none⟩ : Addr).add q = ⟨d, q, none⟩ := fun q => by
    unfold Addr.add; split <;> simp_all
  refine ⟨⟨d, o, none⟩, by rw [hA]; simp only [Option.map_some, ad], fun j p hj => ⟨[.int .u8 p], rfl, rfl, fun i u hu => ?_⟩⟩
  have hi : i = 0 := by
    have := (List.getElem?_eq_some_iff.1 hu).1
    simpa using this
  subst hi
  have hu' : Value.int .u8 p = u := by simpa using hu
  subst hu'
  have hjn : j < n ∧ o + j < r.data.length := by
    have := (List.getElem?_eq_some_iff.1 hj).1
    simp at this; omega
  have hp2 : r.data[o + j] = p := by
    have := (List.getElem?_eq_some_iff.1 hj).2
    rw [List.getElem_take, List.getElem_drop] at this
    exact this
  have hcell := hb.cell (o + j)
  rw [hc (o + j) hjn.2, hp2] at hcell
  rw [← hcell]
  unfold Addr.add
  simp [Kd.int, Kd.scalar]
  by_cases h0 : j = 0 <;> simp [h0]
theorem num_drop_le (l : List Int) (hb : Bytes l) (n : Nat) : num (l.drop n) ≤ num l := by
  induction n with
  | zero => rw [List.drop_zero]; omega
  | succ n ih =>
    by_cases h : n < l.length
    · have hd : Bytes (l.drop (n + 1)) := fun b h => hb b (List.mem_of_mem_drop h)
      have h0 := (num_range _ hd).1
      have hbn := hb l[n] (List.getElem_mem h)
      rw [List.drop_eq_getElem_cons h] at ih
      simp only [num] at ih
      omega
    · rw [List.drop_of_length_le (by omega)]
      exact (num_range _ hb).1
theorem or_u8 (x b : Int) (h0 : 0 ≤ x) (h1 : x * 256 + b < 256) (hb0 : 0 ≤ b) (hb1 : b < 256) : Go.bits .or .u8 (x * 256) b = x * 256 + b := by
  exact bits_join .u8 8 (by decide) (fun n h0 h1 => by have e : (2 : Int) ^ 8 = 256 := rfl; rw [e] at h1; rw [IntKind.wrap_u8]; omega) 8 (x * 256) b (by omega) (by rw [show ((2 : Int) ^ 8) = 256 from rfl]; omega) (by omega) hb0 (by rw [show ((2 : Int) ^ 8) = 256 from rfl]; omega) (by have e : (2 : Int) ^ 8 = 256 := rfl; rw [e]; omega)
theorem number_uint8_l0 (l : List Int) (hb : Bytes l) (h8 : num l < 256) (n : Nat) : ∀ k : Nat, n ≤ l.length → n < k → n ≤ 1000 → memory_number_uint8.l0 k l (num (l.drop n)) ((n : Int) - 1) = some (num l) := by
  induction n with
  | zero =>
    intro k _ hk _
    obtain ⟨k, rfl⟩ : ∃ m, k = m + 1 := ⟨k - 1, by omega⟩
    simp only [memory_number_uint8.l0]
    have h0 := (num_range l hb).1
    rw [if_neg (by omega), List.drop_zero]
    rw [u64 _ h0 (by omega)]
  | succ n ih =>
    intro k hn hk hs8
    obtain ⟨k, rfl⟩ : ∃ m, k = m + 1 := ⟨k - 1, by omega⟩
    have hx : ((n + 1 : Nat) : Int) - 1 = (n : Int) := by omega
    have hlt : n < l.length := by omega
    have hd : Bytes (l.drop (n + 1)) := fun b h => hb b (List.mem_of_mem_drop h)
    have r0 := (num_range _ hd).1
    have hbn := hb l[n] (List.getElem_mem hlt)
    have hs : num (l.drop n) = num (l.drop (n + 1)) * 256 + l[n] := by
      rw [List.drop_eq_getElem_cons hlt]; simp only [num]; omega
    have hle := num_drop_le l hb n
    have hi := ih k (by omega) (by omega) (by omega)
    rw [hx]
    simp only [memory_number_uint8.l0]
    rw [if_pos (by omega), if_pos (by omega), if_pos (by omega), rd_at l n hlt]
    have e : Go.bits .or .u8 ((IntKind.u64.wrap ((IntKind.u64.wrap (num (l.drop (n + 1)))) * 256)) % 256) l[n] = num (l.drop (n + 1)) * 256 + l[n] := by
      rw [u64 (num (l.drop (n + 1))) (by omega) (by omega), u64 (num (l.drop (n + 1)) * 256) (by omega) (by omega), Int.emod_eq_of_lt (by omega) (by omega)]; exact or_u8 _ _ r0 (by omega) hbn.1 hbn.2
    rw [e, ← hs, w64 _ (by omega) (by omega)]
    exact hi
theorem number_uint8_eq (l : List Int) (hb : Bytes l) (hl : l.length = 1) (k : Nat) (hk : 20 < k) : memory_number_uint8.f k l = some (num l) := by
  obtain ⟨r0, r1⟩ := num_range l hb
  rw [hl, show (256 : Int) ^ 1 = 256 from rfl] at r1
  have h := number_uint8_l0 l hb r1 l.length k (Nat.le_refl _) (by omega) (by omega)
  rw [List.drop_length] at h
  unfold memory_number_uint8.f
  rw [w64 ((l.length : Int) - 1) (by omega) (by omega)]
  exact h
theorem or_u16 (x b : Int) (h0 : 0 ≤ x) (h1 : x * 256 + b < 65536) (hb0 : 0 ≤ b) (hb1 : b < 256) : Go.bits .or .u16 (x * 256) b = x * 256 + b := by
  exact bits_join .u16 16 (by decide) (fun n h0 h1 => by have e : (2 : Int) ^ 16 = 65536 := rfl; rw [e] at h1; rw [IntKind.wrap_u16]; omega) 8 (x * 256) b (by omega) (by rw [show ((2 : Int) ^ 8) = 256 from rfl]; omega) (by omega) hb0 (by rw [show ((2 : Int) ^ 8) = 256 from rfl]; omega) (by have e : (2 : Int) ^ 16 = 65536 := rfl; rw [e]; omega)
theorem number_uint16_l0 (l : List Int) (hb : Bytes l) (h8 : num l < 65536) (n : Nat) : ∀ k : Nat, n ≤ l.length → n < k → n ≤ 1000 → memory_number_uint16.l0 k l (num (l.drop n)) ((n : Int) - 1) = some (num l) := by
  induction n with
  | zero =>
    intro k _ hk _
    obtain ⟨k, rfl⟩ : ∃ m, k = m + 1 := ⟨k - 1, by omega⟩
    simp only [memory_number_uint16.l0]
    have h0 := (num_range l hb).1
    rw [if_neg (by omega), List.drop_zero]
    rw [u64 _ h0 (by omega)]
  | succ n ih =>
    intro k hn hk hs8
    obtain ⟨k, rfl⟩ : ∃ m, k = m + 1 := ⟨k - 1, by omega⟩
    have hx : ((n + 1 : Nat) : Int) - 1 = (n : Int) := by omega
    have hlt : n < l.length := by omega
    have hd : Bytes (l.drop (n + 1)) := fun b h => hb b (List.mem_of_mem_drop h)
    have r0 := (num_range _ hd).1
    have hbn := hb l[n] (List.getElem_mem hlt)
    have hs : num (l.drop n) = num (l.drop (n + 1)) * 256 + l[n] := by
      rw [List.drop_eq_getElem_cons hlt]; simp only [num]; omega
    have hle := num_drop_le l hb n
    have hi := ih k (by omega) (by omega) (by omega)
    rw [hx]
    simp only [memory_number_uint16.l0]
    rw [if_pos (by omega), if_pos (by omega), if_pos (by omega), rd_at l n hlt]
    have e : Go.bits .or .u16 (IntKind.u16.wrap (IntKind.u64.wrap ((IntKind.u64.wrap (num (l.drop (n + 1)))) * 256))) (IntKind.u16.wrap l[n]) = num (l.drop (n + 1)) * 256 + l[n] := by
      rw [u64 (num (l.drop (n + 1))) (by omega) (by omega), u64 (num (l.drop (n + 1)) * 256) (by omega) (by omega), IntKind.wrap_u16, IntKind.wrap_u16, Int.emod_eq_of_lt (by omega) (by omega), Int.emod_eq_of_lt (by omega) (by omega)]; exact or_u16 _ _ r0 (by omega) hbn.1 hbn.2
    rw [e, ← hs, w64 _ (by omega) (by omega)]
    exact hi
theorem number_uint16_eq (l : List Int) (hb : Bytes l) (hl : l.length = 2) (k : Nat) (hk : 20 < k) : memory_number_uint16.f k l = some (num l) := by
  obtain ⟨r0, r1⟩ := num_range l hb
  rw [hl, show (256 : Int) ^ 2 = 65536 from rfl] at r1
  have h := number_uint16_l0 l hb r1 l.length k (Nat.le_refl _) (by omega) (by omega)
  rw [List.drop_length] at h
  unfold memory_number_uint16.f
  rw [w64 ((l.length : Int) - 1) (by omega) (by omega)]
  exact h
theorem or_u32 (x b : Int) (h0 : 0 ≤ x) (h1 : x * 256 + b < 4294967296) (hb0 : 0 ≤ b) (hb1 : b < 256) : Go.bits .or .u32 (x * 256) b = x * 256 + b := by
  exact bits_join .u32 32 (by decide) (fun n h0 h1 => by have e : (2 : Int) ^ 32 = 4294967296 := rfl; rw [e] at h1; rw [IntKind.wrap_u32]; omega) 8 (x * 256) b (by omega) (by rw [show ((2 : Int) ^ 8) = 256 from rfl]; omega) (by omega) hb0 (by rw [show ((2 : Int) ^ 8) = 256 from rfl]; omega) (by have e : (2 : Int) ^ 32 = 4294967296 := rfl; rw [e]; omega)
theorem number_uint32_l0 (l : List Int) (hb : Bytes l) (h8 : num l < 4294967296) (n : Nat) : ∀ k : Nat, n ≤ l.length → n < k → n ≤ 1000 → memory_number_uint32.l0 k l (num (l.drop n)) ((n : Int) - 1) = some (num l) := by
  induction n with
  | zero =>
    intro k _ hk _
    obtain ⟨k, rfl⟩ : ∃ m, k = m + 1 := ⟨k - 1, by omega⟩
    simp only [memory_number_uint32.l0]
    have h0 := (num_range l hb).1
    rw [if_neg (by omega), List.drop_zero]
    rw [u64 _ h0 (by omega)]
  | succ n ih =>
    intro k hn hk hs8
    obtain ⟨k, rfl⟩ : ∃ m, k = m + 1 := ⟨k - 1, by omega⟩
    have hx : ((n + 1 : Nat) : Int) - 1 = (n : Int) := by omega
    have hlt : n < l.length := by omega
    have hd : Bytes (l.drop (n + 1)) := fun b h => hb b (List.mem_of_mem_drop h)
    have r0 := (num_range _ hd).1
    have hbn := hb l[n] (List.getElem_mem hlt)
    have hs : num (l.drop n) = num (l.drop (n + 1)) * 256 + l[n] := by
      rw [List.drop_eq_getElem_cons hlt]; simp only [num]; omega
    have hle := num_drop_le l hb n
    have hi := ih k (by omega) (by omega) (by omega)
    rw [hx]
    simp only [memory_number_uint32.l0]
    rw [if_pos (by omega), if_pos (by omega), if_pos (by omega), rd_at l n hlt]
    have e : Go.bits .or .u32 ((IntKind.u64.wrap ((IntKind.u64.wrap (num (l.drop (n + 1)))) * 256)) % 4294967296) (l[n] % 4294967296) = num (l.drop (n + 1)) * 256 + l[n] := by
      rw [u64 (num (l.drop (n + 1))) (by omega) (by omega), u64 (num (l.drop (n + 1)) * 256) (by omega) (by omega), Int.emod_eq_of_lt (by omega) (by omega), Int.emod_eq_of_lt (by omega) (by omega)]; exact or_u32 _ _ r0 (by omega) hbn.1 hbn.2
    rw [e, ← hs, w64 _ (by omega) (by omega)]
    exact hi
theorem number_uint32_eq (l : List Int) (hb : Bytes l) (hl : l.length = 4) (k : Nat) (hk : 20 < k) : memory_number_uint32.f k l = some (num l) := by
  obtain ⟨r0, r1⟩ := num_range l hb
  rw [hl, show (256 : Int) ^ 4 = 4294967296 from rfl] at r1
  have h := number_uint32_l0 l hb r1 l.length k (Nat.le_refl _) (by omega) (by omega)
  rw [List.drop_length] at h
  unfold memory_number_uint32.f
  rw [w64 ((l.length : Int) - 1) (by omega) (by omega)]
  exact h
theorem or_u64 (x b : Int) (h0 : 0 ≤ x) (h1 : x * 256 + b < 18446744073709551616) (hb0 : 0 ≤ b) (hb1 : b < 256) : Go.bits .or .u64 (x * 256) b = x * 256 + b := by
  exact bits_join .u64 64 (by decide) (fun n h0 h1 => by have e : (2 : Int) ^ 64 = 18446744073709551616 := rfl; rw [e] at h1; rw [IntKind.wrap_u64]; omega) 8 (x * 256) b (by omega) (by rw [show ((2 : Int) ^ 8) = 256 from rfl]; omega) (by omega) hb0 (by rw [show ((2 : Int) ^ 8) = 256 from rfl]; omega) (by have e : (2 : Int) ^ 64 = 18446744073709551616 := rfl; rw [e]; omega)
theorem number_uint64_l0 (l : List Int) (hb : Bytes l) (h8 : num l < 18446744073709551616) (n : Nat) : ∀ k : Nat, n ≤ l.length → n < k → n ≤ 1000 → memory_number_uint64.l0 k l (num (l.drop n)) ((n : Int) - 1) = some (num l) := by
  induction n with
  | zero =>
    intro k _ hk _
    obtain ⟨k, rfl⟩ : ∃ m, k = m + 1 := ⟨k - 1, by omega⟩
    simp only [memory_number_uint64.l0]
    have h0 := (num_range l hb).1
    rw [if_neg (by omega), List.drop_zero]
  | succ n ih =>
    intro k hn hk hs8
    obtain ⟨k, rfl⟩ : ∃ m, k = m + 1 := ⟨k - 1, by omega⟩
    have hx : ((n + 1 : Nat) : Int) - 1 = (n : Int) := by omega
    have hlt : n < l.length := by omega
    have hd : Bytes (l.drop (n + 1)) := fun b h => hb b (List.mem_of_mem_drop h)
    have r0 := (num_range _ hd).1
    have hbn := hb l[n] (List.getElem_mem hlt)
    have hs : num (l.drop n) = num (l.drop (n + 1)) * 256 + l[n] := by
      rw [List.drop_eq_getElem_cons hlt]; simp only [num]; omega
    have hle := num_drop_le l hb n
    have hi := ih k (by omega) (by omega) (by omega)
    rw [hx]
    simp only [memory_number_uint64.l0]
    rw [if_pos (by omega), if_pos (by omega), if_pos (by omega), rd_at l n hlt]
    have e : Go.bits .or .u64 (IntKind.u64.wrap (num (l.drop (n + 1)) * 256)) (IntKind.u64.wrap l[n]) = num (l.drop (n + 1)) * 256 + l[n] := by
      rw [u64 (num (l.drop (n + 1)) * 256) (by omega) (by omega), u64 l[n] (by omega) (by omega)]; exact or_u64 _ _ r0 (by omega) hbn.1 hbn.2
    rw [e, ← hs, w64 _ (by omega) (by omega)]
    exact hi
theorem number_uint64_eq (l : List Int) (hb : Bytes l) (hl : l.length = 8) (k : Nat) (hk : 20 < k) : memory_number_uint64.f k l = some (num l) := by
  obtain ⟨r0, r1⟩ := num_range l hb
  rw [hl, show (256 : Int) ^ 8 = 18446744073709551616 from rfl] at r1
  have h := number_uint64_l0 l hb r1 l.length k (Nat.le_refl _) (by omega) (by omega)
  rw [List.drop_length] at h
  unfold memory_number_uint64.f
  rw [w64 ((l.length : Int) - 1) (by omega) (by omega)]
  exact h
theorem RegAt.below {w w' : World} {r : Reg} (h : RegAt w r) (hb : Below w.heap.size w w') : RegAt w' r := by
  refine ⟨h.blk.below hb h.blk.lt, h.len, h.small, h.first0, h.first1, fun hp => ?_⟩
  obtain ⟨d, cs, e, hd, hl, hc⟩ := h.row hp
  exact ⟨d, cs, e, hd.below hb hd.lt, hl, hc⟩
theorem RowAt.below {w w' : World} {P : Option Addr} {cap : Nat} {rs : List Reg} (h : RowAt w P cap rs) (hb : Below w.heap.size w w') : RowAt w' P cap rs := by
  refine ⟨h.big, h.len, h.small, ?_, fun r hr => (h.regs r hr).below hb⟩
  rcases h.row with h0 | ⟨d, cs, e, hd, hl, hc⟩
  · exact .inl h0
  · exact .inr ⟨d, cs, e, hd.below hb hd.lt, hl, hc⟩
theorem SpaceAt.below {w w' : World} {s : Nat} {rs : List Reg} (h : SpaceAt w s rs) (hb : Below w.heap.size w w') : SpaceAt w' s rs := by
  obtain ⟨P, cap, h1, h2⟩ := h
  exact ⟨P, cap, h1.below hb h1.lt, h2.below hb⟩
theorem SpaceAt.drewN {w : World} {s : Nat} {rs : List Reg} (h : SpaceAt w s rs) (n : Nat) : SpaceAt (w.drewN n) s rs := h.below (pw_below_drewN (Below.refl _ _) n)
theorem wb_range (width : Int) : wb width = 1 ∨ wb width = 2 ∨ wb width = 4 ∨ wb width = 8 := by
  unfold wb; split
  · exact .inl rfl
  · split
    · exact .inr (.inl rfl)
    · split
      · exact .inr (.inr (.inl rfl))
      · exact .inr (.inr (.inr rfl))
/-- what Load answers -/
def loadOf (rs : List Reg) (x width : Int) : Int × Int :=
  match viewOf rs x (wb width) with
  | some (r, o) => (num ((r.data.drop o).take (wb width)), 0)
  | none => (0, 200)
def AllBytes (rs : List Reg) : Prop := ∀ r ∈ rs, Bytes r.data
set_option maxHeartbeats 2000000 in
set_option maxRecDepth 100000 in
theorem load_ (w : World) (s : Nat) (rs : List Reg) (x width : Int) (h : SpaceAt w s rs) (hr : Rising rs) (hb : AllBytes rs) (hx0 : 0 ≤ x) (hx1 : x < 18446744073709551616) :
    Calls Try.prog 12 #[.pointer (some ⟨s, 0, none⟩), .int .u64 x, .int .i64 width] w fun e w' => e = .returned (.tuple #[.int .u64 (loadOf rs x width).1, .int .i64 (loadOf rs x width).2]) ∧ Drawn0 w w' := by
  have HS := Lib.hid h
  have HR := Lib.hid hr
  have HX := Lib.hid (And.intro hx0 hx1)
  have HW := Lib.hid (bytes_ width)
  obtain ⟨n, hn⟩ : ∃ n, n = wb width := ⟨_, rfl⟩
  have HN := Lib.hid hn
  have hr4 := wb_range width
  rw [← hn] at hr4
  cases hv : viewOf rs x n with
  | none =>
    have HV := Lib.hid hv
    have hl := Lib.hid (show loadOf rs x width = (0, 200) by unfold loadOf; rw [← hn, hv])
    clear h hr hb hx0 hx1 hv hn
    go_enter Try.func12, Try.ntmps12
    go_wp2_with (first | (go_at_call 24; refine (memory_bytes.calls width _ _ HW.out).mono ?_; rintro e' w' ⟨rfl, ⟨nd, rfl⟩⟩; rw [← HN.out]) | (go_at_call 23; refine (view_ _ _ rs x n (HS.out.drewN nd) HR.out (by omega) (by omega) HX.out.1 HX.out.2).mono ?_; rintro e' w' ⟨rfl, ⟨nd2, rfl⟩⟩; rw [HV.out, show viewVal n none = .tuple #[.slice none 0 0, .int .i64 200] from rfl]))
    go_ret2
    refine ⟨?_, ⟨⟨_, rfl⟩⟩⟩
    rw [hl.out]; rfl
  | some ro =>
    obtain ⟨r, o⟩ := ro
    obtain ⟨hm, hlen, hxo⟩ := viewOf_some rs x n r o hv
    clear hxo
    have HV := Lib.hid hv
    obtain ⟨P, cap, hbk, hrow⟩ := h
    have hreg := hrow.regs r hm
    have hC := Lib.hid (view_C hreg o n hlen)
    obtain ⟨l, hl0⟩ : ∃ l, l = (r.data.drop o).take n := ⟨_, rfl⟩
    have hll : l.length = n := by rw [hl0]; simp; omega
    have hlb : Bytes l := fun b hbm => hb r hm b (by rw [hl0] at hbm; exact List.mem_of_mem_drop (List.mem_of_mem_take hbm))
    have hl := Lib.hid (show loadOf rs x width = (num l, 0) by unfold loadOf; rw [← hn, hv, hl0])
    have hcap : n ≤ r.cap - o := by have := hreg.len; omega
    obtain ⟨A, hA⟩ : ∃ A, A = r.A.map (fun a => a.add o) := ⟨_, rfl⟩
    have HVV := Lib.hid (show viewVal n (some (r, o)) = .tuple #[.slice A n (r.cap - o), .int .i64 0] by rw [hA]; rfl)
    rw [← hl0] at hC
    have HCC := Lib.hid (show Kd.C (Kd.int .u8) w A l.length l by rw [hll, hA]; exact hC.out)
    have HCAP := Lib.hid (show l.length ≤ r.cap - o by omega)
    have HB := Lib.hid hlb
    have HLL := Lib.hid hll
    clear hrow hbk hreg hC hl0 hll hlb hA hr hb hx0 hx1 hv hn hm hlen hcap
    obtain ⟨kk, hkk⟩ : ∃ kk, 20 < kk := ⟨100, by omega⟩
    have HKK := Lib.hid hkk
    clear hkk
    rcases hr4 with e | e | e | e
    · have HE := Lib.hid e
      have hn1 : n < 9223372036854775808 := by omega
      have hn0 : 1 ≤ n := by omega
      have HNN := Lib.hid (And.intro hn0 hn1)
      clear e hn0 hn1
      have HCN := Lib.hid (show ∀ W : World, Kd.C (Kd.int .u8) W A l.length l → Calls Try.prog 30 #[.slice A 1 (r.cap - o)] W fun e w' => e = .returned (.int .u64 (num l)) ∧ Drawn0 W w' from fun W hW => by
        have h := memory_number_uint8.calls kk A (r.cap - o) l (num l) W hW HCAP.out (number_uint8_eq l HB.out (HLL.out.trans HE.out) kk HKK.out)
        rw [HLL.out, HE.out] at h
        exact h)
      go_enter Try.func12, Try.ntmps12
      go_wp2_with (first | (go_at_call 24; refine (memory_bytes.calls width _ _ HW.out).mono ?_; rintro e' w' ⟨rfl, ⟨nd, rfl⟩⟩; rw [← HN.out]) | (go_at_call 23; refine (view_ _ _ rs x n (HS.out.drewN nd) HR.out HNN.out.1 HNN.out.2 HX.out.1 HX.out.2).mono ?_; rintro e' w' ⟨rfl, ⟨nd2, rfl⟩⟩; rw [HV.out, HVV.out, HE.out]) | (go_at_call 30; refine (HCN.out _ (by first | exact Kd.C_drewN HCC.out _ | exact Kd.C_drewN (Kd.C_drewN HCC.out _) _)).mono ?_; rintro e' w' ⟨rfl, ⟨nd3, rfl⟩⟩))
      go_ret2
      refine ⟨?_, ⟨⟨_, rfl⟩⟩⟩
      rw [hl.out]; rfl
    · have HE := Lib.hid e
      have hn1 : n < 9223372036854775808 := by omega
      have hn0 : 1 ≤ n := by omega
      have HNN := Lib.hid (And.intro hn0 hn1)
      clear e hn0 hn1
      have HCN := Lib.hid (show ∀ W : World, Kd.C (Kd.int .u8) W A l.length l → Calls Try.prog 31 #[.slice A 2 (r.cap - o)] W fun e w' => e = .returned (.int .u64 (num l)) ∧ Drawn0 W w' from fun W hW => by
        have h := memory_number_uint16.calls kk A (r.cap - o) l (num l) W hW HCAP.out (number_uint16_eq l HB.out (HLL.out.trans HE.out) kk HKK.out)
        rw [HLL.out, HE.out] at h
        exact h)
      go_enter Try.func12, Try.ntmps12
      go_wp2_with (first | (go_at_call 24; refine (memory_bytes.calls width _ _ HW.out).mono ?_; rintro e' w' ⟨rfl, ⟨nd, rfl⟩⟩; rw [← HN.out]) | (go_at_call 23; refine (view_ _ _ rs x n (HS.out.drewN nd) HR.out HNN.out.1 HNN.out.2 HX.out.1 HX.out.2).mono ?_; rintro e' w' ⟨rfl, ⟨nd2, rfl⟩⟩; rw [HV.out, HVV.out, HE.out]) | (go_at_call 31; refine (HCN.out _ (by first | exact Kd.C_drewN HCC.out _ | exact Kd.C_drewN (Kd.C_drewN HCC.out _) _)).mono ?_; rintro e' w' ⟨rfl, ⟨nd3, rfl⟩⟩))
      go_ret2
      refine ⟨?_, ⟨⟨_, rfl⟩⟩⟩
      rw [hl.out]; rfl
    · have HE := Lib.hid e
      have hn1 : n < 9223372036854775808 := by omega
      have hn0 : 1 ≤ n := by omega
      have HNN := Lib.hid (And.intro hn0 hn1)
      clear e hn0 hn1
      have HCN := Lib.hid (show ∀ W : World, Kd.C (Kd.int .u8) W A l.length l → Calls Try.prog 32 #[.slice A 4 (r.cap - o)] W fun e w' => e = .returned (.int .u64 (num l)) ∧ Drawn0 W w' from fun W hW => by
        have h := memory_number_uint32.calls kk A (r.cap - o) l (num l) W hW HCAP.out (number_uint32_eq l HB.out (HLL.out.trans HE.out) kk HKK.out)
        rw [HLL.out, HE.out] at h
        exact h)
      go_enter Try.func12, Try.ntmps12
      go_wp2_with (first | (go_at_call 24; refine (memory_bytes.calls width _ _ HW.out).mono ?_; rintro e' w' ⟨rfl, ⟨nd, rfl⟩⟩; rw [← HN.out]) | (go_at_call 23; refine (view_ _ _ rs x n (HS.out.drewN nd) HR.out HNN.out.1 HNN.out.2 HX.out.1 HX.out.2).mono ?_; rintro e' w' ⟨rfl, ⟨nd2, rfl⟩⟩; rw [HV.out, HVV.out, HE.out]) | (go_at_call 32; refine (HCN.out _ (by first | exact Kd.C_drewN HCC.out _ | exact Kd.C_drewN (Kd.C_drewN HCC.out _) _)).mono ?_; rintro e' w' ⟨rfl, ⟨nd3, rfl⟩⟩))
      go_ret2
      refine ⟨?_, ⟨⟨_, rfl⟩⟩⟩
      rw [hl.out]; rfl
    · have HE := Lib.hid e
      have hn1 : n < 9223372036854775808 := by omega
      have hn0 : 1 ≤ n := by omega
      have HNN := Lib.hid (And.intro hn0 hn1)
      clear e hn0 hn1
      have HCN := Lib.hid (show ∀ W : World, Kd.C (Kd.int .u8) W A l.length l → Calls Try.prog 33 #[.slice A 8 (r.cap - o)] W fun e w' => e = .returned (.int .u64 (num l)) ∧ Drawn0 W w' from fun W hW => by
        have h := memory_number_uint64.calls kk A (r.cap - o) l (num l) W hW HCAP.out (number_uint64_eq l HB.out (HLL.out.trans HE.out) kk HKK.out)
        rw [HLL.out, HE.out] at h
        exact h)
      go_enter Try.func12, Try.ntmps12
      go_wp2_with (first | (go_at_call 24; refine (memory_bytes.calls width _ _ HW.out).mono ?_; rintro e' w' ⟨rfl, ⟨nd, rfl⟩⟩; rw [← HN.out]) | (go_at_call 23; refine (view_ _ _ rs x n (HS.out.drewN nd) HR.out HNN.out.1 HNN.out.2 HX.out.1 HX.out.2).mono ?_; rintro e' w' ⟨rfl, ⟨nd2, rfl⟩⟩; rw [HV.out, HVV.out, HE.out]) | (go_at_call 33; refine (HCN.out _ (by first | exact Kd.C_drewN HCC.out _ | exact Kd.C_drewN (Kd.C_drewN HCC.out _) _)).mono ?_; rintro e' w' ⟨rfl, ⟨nd3, rfl⟩⟩))
      go_ret2
      refine ⟨?_, ⟨⟨_, rfl⟩⟩⟩
      rw [hl.out]; rfl
end Go.Proofs.Ythmeojeehemlaaa.Mem
