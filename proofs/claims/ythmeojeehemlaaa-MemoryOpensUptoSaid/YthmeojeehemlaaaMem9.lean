/- Package memory: Store. Written by this session. -/
import Derived.Test.YthmeojeehemlaaaMem8
namespace Go.Proofs.Ythmeojeehemlaaa.Mem
open Go.RowKit Go.Lib Go.Proofs.YthmeojeehemlaaaW.PrintWords Go.Proofs.YthmeojeehemlaaaW.PrintMore
open Go.Proofs.Ythmeojeehemlaaa.PM
set_option linter.unusedVariables false
set_option linter.unusedSimpArgs false
theorem narrow_8 (v : Int) (h0 : 0 ≤ v) (h1 : v < 18446744073709551616) : word_Narrow.f v 8 = some (v % 256) := by
  unfold word_Narrow.f word_shl_uint8.f word_bits_uint8.f shl
  simp [IntKind.wrap_u8, IntKind.wrap_u64]; omega
theorem narrow_16 (v : Int) (h0 : 0 ≤ v) (h1 : v < 18446744073709551616) : word_Narrow.f v 16 = some (v % 65536) := by
  unfold word_Narrow.f word_shl_uint16.f word_bits_uint16.f shl
  simp [IntKind.wrap_u16, IntKind.wrap_u64]; omega
theorem narrow_32 (v : Int) (h0 : 0 ≤ v) (h1 : v < 18446744073709551616) : word_Narrow.f v 32 = some (v % 4294967296) := by
  unfold word_Narrow.f word_shl_uint32.f word_bits_uint32.f shl
  simp [IntKind.wrap_u32, IntKind.wrap_u64]; omega
theorem narrow_64 (v : Int) (h0 : 0 ≤ v) (h1 : v < 18446744073709551616) : word_Narrow.f v 64 = some (v % 18446744073709551616) := by
  unfold word_Narrow.f word_shl_uint64.f word_bits_uint64.f shl
  simp [IntKind.wrap_u64]
theorem narrow_byte (n : Nat) (v : Int) (j : Nat) {M : Int} (hM : (256 : Int) ^ n = M) (hj : j < n) : (v % M) / 256 ^ j % 256 = v / 256 ^ j % 256 := by
  subst hM
  obtain ⟨m, rfl⟩ : ∃ m, n = j + 1 + m := ⟨n - j - 1, by omega⟩
  have hp : (0 : Int) < 256 ^ j := Int.pow_pos (by decide)
  obtain ⟨K, hK⟩ : ∃ K : Int, v % 256 ^ (j + 1 + m) = v + 256 ^ j * (256 * K) := by
    refine ⟨-(256 ^ m * (v / 256 ^ (j + 1 + m))), ?_⟩
    have e : (256 : Int) ^ (j + 1 + m) = 256 ^ j * (256 * 256 ^ m) := by
      rw [Int.pow_add, Int.pow_succ, Int.mul_assoc]
    rw [Int.emod_def, Int.sub_eq_add_neg, Int.mul_neg, Int.mul_neg, ← Int.mul_assoc 256, ← Int.mul_assoc, ← e]
  rw [hK, Int.add_mul_ediv_left _ _ (by omega), Int.add_mul_emod_self_left]
def StoreRes (r : Option (List Reg)) (rs : List Reg) (B : Nat) (w : World) (s : Nat) (e : Ending) (w' : World) : Prop :=
  match r with
  | some rs' => e = .returned (.int .i64 0) ∧ St B w' s rs' ∧ Below B w w' ∧ ∃ d, (∃ q ∈ rs, 0 < q.data.length ∧ q.A = some ⟨d, 0, none⟩) ∧ Only w w' d
  | none => e = .returned (.int .i64 200) ∧ Drawn0 w w'
def storeOf (rs : List Reg) (x width v : Int) : Option (List Reg) :=
  match viewOf rs x (wb width) with
  | some (r, o) => some (rs.map (upd r o (le (wb width) v)))
  | none => none
set_option maxHeartbeats 4000000 in
set_option maxRecDepth 100000 in
theorem store_ (B : Nat) (w : World) (s : Nat) (rs : List Reg) (x width v : Int) (h : St B w s rs) (hx0 : 0 ≤ x) (hx1 : x < 18446744073709551616) (hv0 : 0 ≤ v) (hv1 : v < 18446744073709551616) :
    Calls Try.prog 11 #[.pointer (some ⟨s, 0, none⟩), .int .u64 x, .int .i64 width, .int .u64 v] w fun e w' => StoreRes (storeOf rs x width v) rs B w s e w' := by
  have HS := Lib.hid h.space
  have HST := Lib.hid h
  have HR := Lib.hid h.rising
  have HX := Lib.hid (And.intro hx0 hx1)
  have HVR := Lib.hid hv0
  have HW := Lib.hid (bytes_ width)
  obtain ⟨n, hn⟩ : ∃ n, n = wb width := ⟨_, rfl⟩
  have HN := Lib.hid hn
  have hr4 := wb_range width
  rw [← hn] at hr4
  cases hv : viewOf rs x n with
  | none =>
    have HV := Lib.hid hv
    have hl := Lib.hid (show storeOf rs x width v = none by unfold storeOf; rw [← hn, hv])
    clear h hx0 hx1 hv hn
    go_enter Try.func11, Try.ntmps11
    go_wp2_with (first | (go_at_call 24; refine (memory_bytes.calls width _ _ HW.out).mono ?_; rintro e' w' ⟨rfl, ⟨nd, rfl⟩⟩; rw [← HN.out]) | (go_at_call 23; refine (view_ _ _ rs x n (HS.out.drewN nd) HR.out (by omega) (by omega) HX.out.1 HX.out.2).mono ?_; rintro e' w' ⟨rfl, ⟨nd2, rfl⟩⟩; rw [HV.out, show viewVal n none = .tuple #[.slice none 0 0, .int .i64 200] from rfl]))
    go_ret
    rw [hl.out]
    exact ⟨rfl, ⟨_, rfl⟩⟩
  | some ro =>
    obtain ⟨r, o⟩ := ro
    obtain ⟨hm, hlen, hxo⟩ := viewOf_some rs x n r o hv
    clear hxo
    have HV := Lib.hid hv
    have HM := Lib.hid hm
    obtain ⟨P, cap, hbk, hrow⟩ := h.space
    have hreg := hrow.regs r hm
    obtain ⟨d, cs, hA, hB, hsz, hdat⟩ := hreg.row (by omega)
    have hl := Lib.hid (show storeOf rs x width v = some (rs.map (upd r o (le n v))) by unfold storeOf; rw [← hn, hv])
    have HVV := Lib.hid (viewVal_some n r o d hA)
    have HA := Lib.hid hA
    have HB := Lib.hid hB
    have HDAT := Lib.hid hdat
    have HOL := Lib.hid (And.intro hlen hsz)
    clear hrow hbk hreg hA hB hsz hdat h hx0 hx1 hv hn hm hlen
    rcases hr4 with e | e | e | e
    · have HE := Lib.hid e
      have hn1 : n < 9223372036854775808 := by omega
      have hn0 : 1 ≤ n := by omega
      have HNN := Lib.hid (And.intro hn0 hn1)
      obtain ⟨nv, hnv⟩ : ∃ nv, nv = v % 256 := ⟨_, rfl⟩
      have hnv0 : 0 ≤ nv := by omega
      have hnv1 : nv < 256 := by omega
      have k : nv % 256 = nv := by exact Int.emod_eq_of_lt hnv0 hnv1
      have HNV := Lib.hid (And.intro hnv (And.intro hnv0 hnv1))
      have HNAR := Lib.hid (show ∀ W : World, Calls Try.prog 25 #[.int .u64 v, .int .i64 8] W fun e w' => e = .returned (.int .u64 nv) ∧ Drawn0 W w' from fun W => word_Narrow.calls v 8 nv W (by rw [hnv]; exact narrow_8 v hv0 hv1))
      have HO1 := Lib.hid (show o + 1 ≤ cs.size by have := HOL.out; omega)
      clear e hn0 hn1 hnv hnv0 hnv1 hv0 hv1
      go_enter Try.func11, Try.ntmps11
      go_wp2_with (first | (go_at_call 24; refine (memory_bytes.calls width _ _ HW.out).mono ?_; rintro e' w' ⟨rfl, ⟨nd, rfl⟩⟩; rw [← HN.out]) | (go_at_call 23; refine (view_ _ _ rs x n (HS.out.drewN nd) HR.out HNN.out.1 HNN.out.2 HX.out.1 HX.out.2).mono ?_; rintro e' w' ⟨rfl, ⟨nd2, rfl⟩⟩; rw [HV.out, HVV.out, HE.out]) | (go_at_call 25; refine (HNAR.out _).mono ?_; rintro e' w' ⟨rfl, ⟨nd3, rfl⟩⟩) | (go_at_call 26; refine (lay8_ _ d o 1 _ cs nv (by first | exact HB.out.drewN _ | exact (HB.out.drewN _).drewN _ | exact ((HB.out.drewN _).drewN _).drewN _) HO1.out (by omega) HNV.out.2.1 HNV.out.2.2).mono ?_; rintro e' w' ⟨rfl, hw'⟩; have HW' := Lib.hid hw'; clear hw'))
      go_ret
      obtain ⟨cs', b1, s1, i1, o1, O1⟩ := HW'.out
      have fin := HST.out.stored r HM.out o (le 1 v) (le_bytes _ _) (by rw [le_length]; have := HOL.out; have := HE.out; omega) (by have := HOL.out; have := HNN.out; omega) d HA.out cs cs' HB.out HDAT.out (by have := HOL.out; omega) b1 s1 (fun j hj => ?_) (fun j hj => o1 j (by rw [le_length] at hj; exact hj)) (by first | exact O1.from_drewN | exact O1.from_drewN.from_drewN | exact O1.from_drewN.from_drewN.from_drewN)
      · rw [hl.out, HE.out]
        exact ⟨rfl, fin.1, fin.2, d, ⟨r, HM.out, by have := HOL.out; have := HNN.out; omega, HA.out⟩, by first | exact O1.from_drewN | exact O1.from_drewN.from_drewN | exact O1.from_drewN.from_drewN.from_drewN⟩
      · rw [le_length] at hj
        rw [i1 j hj, le_get _ _ _ HVR.out hj, HNV.out.1, narrow_byte 1 v j (by rw [show (256 : Int) ^ 1 = 256 from rfl]) hj]
        rfl
    · have HE := Lib.hid e
      have hn1 : n < 9223372036854775808 := by omega
      have hn0 : 1 ≤ n := by omega
      have HNN := Lib.hid (And.intro hn0 hn1)
      obtain ⟨nv, hnv⟩ : ∃ nv, nv = v % 65536 := ⟨_, rfl⟩
      have hnv0 : 0 ≤ nv := by omega
      have hnv1 : nv < 65536 := by omega
      have k : IntKind.u16.wrap nv = nv := by rw [IntKind.wrap_u16]; exact Int.emod_eq_of_lt hnv0 hnv1
      have HNV := Lib.hid (And.intro hnv (And.intro hnv0 hnv1))
      have HNAR := Lib.hid (show ∀ W : World, Calls Try.prog 25 #[.int .u64 v, .int .i64 16] W fun e w' => e = .returned (.int .u64 nv) ∧ Drawn0 W w' from fun W => word_Narrow.calls v 16 nv W (by rw [hnv]; exact narrow_16 v hv0 hv1))
      have HO1 := Lib.hid (show o + 2 ≤ cs.size by have := HOL.out; omega)
      clear e hn0 hn1 hnv hnv0 hnv1 hv0 hv1
      go_enter Try.func11, Try.ntmps11
      go_wp2_with (first | (go_at_call 24; refine (memory_bytes.calls width _ _ HW.out).mono ?_; rintro e' w' ⟨rfl, ⟨nd, rfl⟩⟩; rw [← HN.out]) | (go_at_call 23; refine (view_ _ _ rs x n (HS.out.drewN nd) HR.out HNN.out.1 HNN.out.2 HX.out.1 HX.out.2).mono ?_; rintro e' w' ⟨rfl, ⟨nd2, rfl⟩⟩; rw [HV.out, HVV.out, HE.out]) | (go_at_call 25; refine (HNAR.out _).mono ?_; rintro e' w' ⟨rfl, ⟨nd3, rfl⟩⟩) | (go_at_call 27; refine (lay16_ _ d o 2 _ cs nv (by first | exact HB.out.drewN _ | exact (HB.out.drewN _).drewN _ | exact ((HB.out.drewN _).drewN _).drewN _) HO1.out (by omega) HNV.out.2.1 HNV.out.2.2).mono ?_; rintro e' w' ⟨rfl, hw'⟩; have HW' := Lib.hid hw'; clear hw'))
      go_ret
      obtain ⟨cs', b1, s1, i1, o1, O1⟩ := HW'.out
      have fin := HST.out.stored r HM.out o (le 2 v) (le_bytes _ _) (by rw [le_length]; have := HOL.out; have := HE.out; omega) (by have := HOL.out; have := HNN.out; omega) d HA.out cs cs' HB.out HDAT.out (by have := HOL.out; omega) b1 s1 (fun j hj => ?_) (fun j hj => o1 j (by rw [le_length] at hj; exact hj)) (by first | exact O1.from_drewN | exact O1.from_drewN.from_drewN | exact O1.from_drewN.from_drewN.from_drewN)
      · rw [hl.out, HE.out]
        exact ⟨rfl, fin.1, fin.2, d, ⟨r, HM.out, by have := HOL.out; have := HNN.out; omega, HA.out⟩, by first | exact O1.from_drewN | exact O1.from_drewN.from_drewN | exact O1.from_drewN.from_drewN.from_drewN⟩
      · rw [le_length] at hj
        rw [i1 j hj, le_get _ _ _ HVR.out hj, HNV.out.1, narrow_byte 2 v j (by rw [show (256 : Int) ^ 2 = 65536 from rfl]) hj]
        rfl
    · have HE := Lib.hid e
      have hn1 : n < 9223372036854775808 := by omega
      have hn0 : 1 ≤ n := by omega
      have HNN := Lib.hid (And.intro hn0 hn1)
      obtain ⟨nv, hnv⟩ : ∃ nv, nv = v % 4294967296 := ⟨_, rfl⟩
      have hnv0 : 0 ≤ nv := by omega
      have hnv1 : nv < 4294967296 := by omega
      have k : nv % 4294967296 = nv := by exact Int.emod_eq_of_lt hnv0 hnv1
      have HNV := Lib.hid (And.intro hnv (And.intro hnv0 hnv1))
      have HNAR := Lib.hid (show ∀ W : World, Calls Try.prog 25 #[.int .u64 v, .int .i64 32] W fun e w' => e = .returned (.int .u64 nv) ∧ Drawn0 W w' from fun W => word_Narrow.calls v 32 nv W (by rw [hnv]; exact narrow_32 v hv0 hv1))
      have HO1 := Lib.hid (show o + 4 ≤ cs.size by have := HOL.out; omega)
      clear e hn0 hn1 hnv hnv0 hnv1 hv0 hv1
      go_enter Try.func11, Try.ntmps11
      go_wp2_with (first | (go_at_call 24; refine (memory_bytes.calls width _ _ HW.out).mono ?_; rintro e' w' ⟨rfl, ⟨nd, rfl⟩⟩; rw [← HN.out]) | (go_at_call 23; refine (view_ _ _ rs x n (HS.out.drewN nd) HR.out HNN.out.1 HNN.out.2 HX.out.1 HX.out.2).mono ?_; rintro e' w' ⟨rfl, ⟨nd2, rfl⟩⟩; rw [HV.out, HVV.out, HE.out]) | (go_at_call 25; refine (HNAR.out _).mono ?_; rintro e' w' ⟨rfl, ⟨nd3, rfl⟩⟩) | (go_at_call 28; refine (lay32_ _ d o 4 _ cs nv (by first | exact HB.out.drewN _ | exact (HB.out.drewN _).drewN _ | exact ((HB.out.drewN _).drewN _).drewN _) HO1.out (by omega) HNV.out.2.1 HNV.out.2.2).mono ?_; rintro e' w' ⟨rfl, hw'⟩; have HW' := Lib.hid hw'; clear hw'))
      go_ret
      obtain ⟨cs', b1, s1, i1, o1, O1⟩ := HW'.out
      have fin := HST.out.stored r HM.out o (le 4 v) (le_bytes _ _) (by rw [le_length]; have := HOL.out; have := HE.out; omega) (by have := HOL.out; have := HNN.out; omega) d HA.out cs cs' HB.out HDAT.out (by have := HOL.out; omega) b1 s1 (fun j hj => ?_) (fun j hj => o1 j (by rw [le_length] at hj; exact hj)) (by first | exact O1.from_drewN | exact O1.from_drewN.from_drewN | exact O1.from_drewN.from_drewN.from_drewN)
      · rw [hl.out, HE.out]
        exact ⟨rfl, fin.1, fin.2, d, ⟨r, HM.out, by have := HOL.out; have := HNN.out; omega, HA.out⟩, by first | exact O1.from_drewN | exact O1.from_drewN.from_drewN | exact O1.from_drewN.from_drewN.from_drewN⟩
      · rw [le_length] at hj
        rw [i1 j hj, le_get _ _ _ HVR.out hj, HNV.out.1, narrow_byte 4 v j (by rw [show (256 : Int) ^ 4 = 4294967296 from rfl]) hj]
        rfl
    · have HE := Lib.hid e
      have hn1 : n < 9223372036854775808 := by omega
      have hn0 : 1 ≤ n := by omega
      have HNN := Lib.hid (And.intro hn0 hn1)
      obtain ⟨nv, hnv⟩ : ∃ nv, nv = v % 18446744073709551616 := ⟨_, rfl⟩
      have hnv0 : 0 ≤ nv := by omega
      have hnv1 : nv < 18446744073709551616 := by omega
      have k : nv % 18446744073709551616 = nv := by exact Int.emod_eq_of_lt hnv0 hnv1
      have HNV := Lib.hid (And.intro hnv (And.intro hnv0 hnv1))
      have HNAR := Lib.hid (show ∀ W : World, Calls Try.prog 25 #[.int .u64 v, .int .i64 64] W fun e w' => e = .returned (.int .u64 nv) ∧ Drawn0 W w' from fun W => word_Narrow.calls v 64 nv W (by rw [hnv]; exact narrow_64 v hv0 hv1))
      have HO1 := Lib.hid (show o + 8 ≤ cs.size by have := HOL.out; omega)
      clear e hn0 hn1 hnv hnv0 hnv1 hv0 hv1
      go_enter Try.func11, Try.ntmps11
      go_wp2_with (first | (go_at_call 24; refine (memory_bytes.calls width _ _ HW.out).mono ?_; rintro e' w' ⟨rfl, ⟨nd, rfl⟩⟩; rw [← HN.out]) | (go_at_call 23; refine (view_ _ _ rs x n (HS.out.drewN nd) HR.out HNN.out.1 HNN.out.2 HX.out.1 HX.out.2).mono ?_; rintro e' w' ⟨rfl, ⟨nd2, rfl⟩⟩; rw [HV.out, HVV.out, HE.out]) | (go_at_call 25; refine (HNAR.out _).mono ?_; rintro e' w' ⟨rfl, ⟨nd3, rfl⟩⟩) | (go_at_call 29; refine (lay64_ _ d o 8 _ cs nv (by first | exact HB.out.drewN _ | exact (HB.out.drewN _).drewN _ | exact ((HB.out.drewN _).drewN _).drewN _) HO1.out (by omega) HNV.out.2.1 ).mono ?_; rintro e' w' ⟨rfl, hw'⟩; have HW' := Lib.hid hw'; clear hw'))
      go_ret
      obtain ⟨cs', b1, s1, i1, o1, O1⟩ := HW'.out
      have fin := HST.out.stored r HM.out o (le 8 v) (le_bytes _ _) (by rw [le_length]; have := HOL.out; have := HE.out; omega) (by have := HOL.out; have := HNN.out; omega) d HA.out cs cs' HB.out HDAT.out (by have := HOL.out; omega) b1 s1 (fun j hj => ?_) (fun j hj => o1 j (by rw [le_length] at hj; exact hj)) (by first | exact O1.from_drewN | exact O1.from_drewN.from_drewN | exact O1.from_drewN.from_drewN.from_drewN)
      · rw [hl.out, HE.out]
        exact ⟨rfl, fin.1, fin.2, d, ⟨r, HM.out, by have := HOL.out; have := HNN.out; omega, HA.out⟩, by first | exact O1.from_drewN | exact O1.from_drewN.from_drewN | exact O1.from_drewN.from_drewN.from_drewN⟩
      · rw [le_length] at hj
        rw [i1 j hj, le_get _ _ _ HVR.out hj, HNV.out.1, narrow_byte 8 v j (by rw [show (256 : Int) ^ 8 = 18446744073709551616 from rfl]) hj]
        rfl
end Go.Proofs.Ythmeojeehemlaaa.Mem
