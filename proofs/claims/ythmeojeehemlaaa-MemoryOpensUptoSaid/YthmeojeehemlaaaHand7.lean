/- MemoryOpens: act at Regions. Written by this session. -/
import Derived.Test.YthmeojeehemlaaaHand6
import Derived.Test.YthmeojeehemlaaaRefA
namespace Go.Proofs.Ythmeojeehemlaaa.Mem
open Go.RowKit Go.Proofs.YthmeojeehemlaaaW.PrintWords
open Go.Proofs.Ythmeojeehemlaaa.PM
set_option linter.unusedVariables false
set_option linter.unusedSimpArgs false
attribute [local go_sem] isSome_setCell
theorem regions_nil (w : World) : Calls Try.prog 22 #[.pointer none] w fun e w' => e = .returned (.tuple #[.slice none 0 0, .int .i64 1]) ∧ w' = w := by
  go_enter Try.func22, Try.ntmps22
  go_wp2
  go_ret2
  exact ⟨rfl, rfl⟩
theorem same_ (w : World) (A1 A2 : Option Addr) (n m c1 c2 : Nat) (ys : List S39) (h1 : Kd.C k39 w A1 n ys) (h2 : Kd.C k39 w A2 m ys) (l1 : n ≤ c1) (l2 : m ≤ c2) (hl : ys.length ≤ 1048576) :
    Calls Try.prog 52 #[.slice A1 n c1, .slice A2 m c2] w fun e w' => e = .returned (.bool true) ∧ Drawn0 w w' := by
  obtain rfl := h1.1
  obtain rfl := h2.1
  exact spindlelaw20_SameRegions.calls (ys.length + 1) A1 c1 ys A2 c2 ys true w h1 l1 h2 l2 (same_eq ys hl)
theorem act_size (w : World) (o : Obj) : w.heap.size ≤ (w.alloc o).heap.size := by
  show w.heap.size ≤ (w.heap.push o).size
  rw [Array.size_push]; omega
set_option maxHeartbeats 2000000 in
set_option maxRecDepth 100000 in
theorem nothing_ (w : World) (g : Nat) (cs : Array Value) (hg : Blk w g 87 cs) (h0 : cs[0]? = some (.pointer none)) :
    Calls Try.prog 38 #[.pointer (some ⟨g, 0, none⟩), .agg #[.int .i64 0, .int .i64 7, .int .u64 0, .int .i64 0, .int .u64 0, .slice none 0 0]] w fun e w' => e = .returned (.bool true) ∧ Below w.heap.size w w' := by
  have c0 := (hg.cell 0).trans h0
  have HB := Lib.hid (below_push (Nat.le_refl _) (Below.refl w.heap.size w) (.cells #[.int .i64 0, .int .i64 7, .int .u64 0, .int .i64 0, .int .u64 0, .slice none 0 0] 46))
  have c1 := ((hg.alloc (.cells #[.int .i64 0, .int .i64 7, .int .u64 0, .int .i64 0, .int .u64 0, .slice none 0 0] 46)).cell 0).trans h0
  clear hg h0
  go_enter Try.func38, Try.ntmps38
  go_wp2_with (go_at_call 22; refine (regions_nil _).mono ?_; rintro e w' ⟨rfl, rfl⟩)
  go_ret
  exact ⟨rfl, HB.out⟩
set_option maxHeartbeats 4000000 in
set_option maxRecDepth 100000 in
theorem act_ (w0 w : World) (xs : List S39) (g : Nat) (hD : Desk w0 w xs g) (hl : xs.length ≤ 1048576) (hx : ∀ y ∈ xs, Small y) :
    Calls Try.prog 16 #[.pointer (some ⟨g, 0, none⟩), .agg #[.int .i64 0, .int .i64 7, .int .u64 0, .int .i64 0, .int .u64 0, .slice none 0 0]] w fun e w' => ∃ v1 v2, e = .returned (.tuple #[.bool true, v1, v2]) ∧ Below w.heap.size w w' := by
  obtain ⟨P0, A1, c1, rl, hg, hlc, hk, hge, hr⟩ := hD
  have HB := Lib.hid (below_push (Nat.le_refl _) (Below.refl w.heap.size w) (.cells #[.int .i64 0, .int .i64 7, .int .u64 0, .int .i64 0, .int .u64 0, .slice none 0 0] 46))
  have HG := Lib.hid (hg.alloc (.cells #[.int .i64 0, .int .i64 7, .int .u64 0, .int .i64 0, .int .u64 0, .slice none 0 0] 46))
  have q0 := HG.out.cell 0
  have q1 := HG.out.cell 1
  simp only [List.getElem?_toArray, List.getElem?_cons_zero, List.getElem?_cons_succ] at q0 q1
  have HK := Lib.hid (Kd.C_below hk HB.out)
  have HLC := Lib.hid hlc
  clear hg hk hge
  rcases hr with ⟨s, rs, B, rfl, hs, hB, ha, rfl⟩ | ⟨rfl, rfl⟩
  · obtain ⟨kk, hkk⟩ := sort_eq rl rs ha hx hl
    have HSO := Lib.hid hkk
    have HS := Lib.hid (hs.below HB.out)
    have HLN := Lib.hid ha.len
    have HDA := Lib.hid (show ∀ r ∈ rs, r.data.length ≤ 140737488355328 from fun r hr => by
      have := (hx _ ((adds_mem ha).1 r hr)).2
      simp only [s39] at this; omega)
    clear hs hB ha hkk
    go_enter Try.func16, Try.ntmps16
    go_wp2_with (first | (go_at_call 51; refine (spindleref20_Space_Regions.calls kk A1 c1 rl (rs.map s39) _ HK.out HLC.out HSO.out).mono ?_; rintro e w2 ⟨v2, rfl, hs2, hb2⟩; obtain ⟨A2, c2, rfl⟩ := Kd.S_slice hs2; have HS2 := Lib.hid hs2; have HB2 := Lib.hid hb2; have q0' := (HG.out.below hb2 HG.out.lt).cell 0; simp only [List.getElem?_toArray, List.getElem?_cons_zero] at q0'; clear hs2 hb2) | (go_at_call 22; refine (regions_ B _ s rs (HS.out.below HB2.out) HDA.out).mono ?_; rintro e w3 ⟨v3, os, rfl, ho, he, hb3⟩; have HO3 := Lib.hid ho; have HE3 := Lib.hid he; have HB3 := Lib.hid hb3; clear ho he hb3; obtain ⟨A3, c3, rfl, hl3, hk3⟩ := HO3.out.C (by have := (outs_rs HE3.out).1; have := HLN.out; omega); have HK3 := Lib.hid hk3; clear hk3) | (go_at_call 52; refine (same_ _ A3 A2 os.length rs.length c3 c2 (rs.map s39) (by rw [← (outs_rs HE3.out).2]; exact HK3.out) (by have h := Kd.C_below (Kd.S_reads' HS2.out).2.2 HB3.out; rw [List.length_map] at h; exact h) hl3 (by have h := (Kd.S_reads' HS2.out).2.1; rw [List.length_map] at h; exact h) (by have := HLN.out; simp; omega)).mono ?_; rintro e w4 ⟨rfl, ⟨nd, rfl⟩⟩))
    go_ret3
    exact ⟨_, _, rfl, pw_below_drewN ((HB.out.trans (HB2.out.mono (act_size w _))).trans (HB3.out.mono (Nat.le_trans (act_size w _) HB2.out.size))) _⟩
  · go_enter Try.func16, Try.ntmps16
    go_wp2_with (go_at_call 38; refine (nothing_ _ g _ HG.out rfl).mono ?_; rintro e w2 ⟨rfl, hb⟩; have HB2 := Lib.hid hb; clear hb)
    go_ret3
    exact ⟨_, _, rfl, HB.out.trans (HB2.out.mono (act_size w _))⟩
end Go.Proofs.Ythmeojeehemlaaa.Mem
