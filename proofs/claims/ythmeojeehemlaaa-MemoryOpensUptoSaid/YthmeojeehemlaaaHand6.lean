/- MemoryOpens: open. Written by this session. -/
import Derived.Test.YthmeojeehemlaaaHand5
import Derived.Test.YthmeojeehemlaaaRefA
import Derived.Test.YthmeojeehemlaaaPMx6
import Derived.Deep.RegionHeld3
namespace Go.Proofs.Ythmeojeehemlaaa.Mem
open Go.RowKit Go.Proofs.YthmeojeehemlaaaW.PrintWords
open Go.Proofs.Ythmeojeehemlaaa.PM
set_option linter.unusedVariables false
set_option linter.unusedSimpArgs false
attribute [local go_sem] isSome_setCell
theorem St.frame {B : Nat} {w w' : World} {s : Nat} {rs : List Reg} (h : St B w s rs) (hk : ∀ g t cs, t ≠ 39 → (t = 5 → B ≤ g) → Blk w g t cs → Blk w' g t cs) : St B w' s rs := by
  obtain ⟨P, cap, h1, h2, h3⟩ := h.sp
  refine ⟨⟨P, cap, hk _ _ _ (by decide) (by intro h; cases h) h1, ⟨h2.big, h2.len, h2.small, ?_, fun r hr => ?_⟩, h3⟩, h.base, h.data, h.apart, h.rising, h.bytes⟩
  · rcases h2.row with hn | ⟨p, cs, e, hb, hs, hc⟩
    · exact .inl hn
    · exact .inr ⟨p, cs, e, hk _ _ _ (by decide) (by intro h; cases h) hb, hs, hc⟩
  · have hq := h2.regs r hr
    refine ⟨hk _ _ _ (by decide) (by intro h; cases h) hq.blk, hq.len, hq.small, hq.first0, hq.first1, fun hp => ?_⟩
    obtain ⟨d, cs, e, hb, hl, hc⟩ := hq.row hp
    exact ⟨d, cs, e, hk _ _ _ (by decide) (fun _ => h.data r hr d e hp) hb, hl, hc⟩
theorem laid_C {base : Nat} {w : World} {G : Nat} {xs : List S39} {bs : List (Nat × Nat)} (h : Laid base w G xs bs) (hb : bs.length = xs.length + 70) (hl : xs.length ≤ 1048576) : Kd.C k39 w (some ⟨G, 0, none⟩) xs.length xs := by
  obtain ⟨cs, h1, h2, h3⟩ := h.blk
  refine ⟨rfl, by omega, fun hp => ⟨⟨G, 0, none⟩, rfl, fun j p hj => ?_⟩⟩
  obtain ⟨hjl, hjp⟩ := List.getElem?_eq_some_iff.1 hj
  obtain ⟨q0, q1⟩ := h3 j (by omega)
  have gf : gFirst xs j = p.f0 := by unfold gFirst; rw [dif_pos hjl, hjp]
  have gl : gLen xs j = p.f1.length := by unfold gLen; rw [dif_pos hjl, hjp]
  have gd : gData xs j = p.f1 ++ spareL p.f1.length := by unfold gData; rw [dif_pos hjl, hjp]
  rw [gf] at q0
  rw [gl] at q1
  have hd := h.dat j (by omega)
  rw [gd] at hd
  have hdl := hd.len
  simp at hdl
  have hd2 : Dat w (some ⟨(bs[j]'(by omega)).1, 0, none⟩) (bs[j]'(by omega)).2 p.f1 := by
    refine ⟨by omega, hd.small, fun hp => ?_⟩
    obtain ⟨d, ds, e, hb, hl, hc⟩ := hd.row (by simp; omega)
    simp at hl
    refine ⟨d, ds, e, hb, by omega, fun i hi => ?_⟩
    rw [hc i (by simp; omega), List.getElem_append_left hi]
  refine ⟨[.int .u64 p.f0, .slice (some ⟨(bs[j]'(by omega)).1, 0, none⟩) p.f1.length (bs[j]'(by omega)).2], rfl, k39_mk w p hd2.len hd2.C, fun i u hu => ?_⟩
  have ad : (⟨G, 0, none⟩ : Addr).add (j * k39.sz + i) = ⟨G, j * 2 + i, none⟩ := by
    show (⟨G, 0, none⟩ : Addr).add (j * 2 + i) = ⟨G, j * 2 + i, none⟩
    unfold Addr.add; split <;> simp_all
  rw [ad, h1.cell]
  rcases i with _ | _ | i
  · rw [Nat.add_zero, q0]; simpa using hu
  · rw [q1]; simpa using hu
  · simp at hu
theorem rnew_ (w : World) (A : Option Addr) (n c : Nat) (xs : List S39) (hC : Kd.C k39 w A n xs) (hc : n ≤ c) (hl : n ≤ 1048576) (hx : ∀ y ∈ xs, Small y) :
    Calls Try.prog 34 #[.slice A n c] w fun e w' => ∃ A1 c1 rl r2, e = .returned (.tuple #[.agg #[.slice A1 rl.length c1], .int .i64 r2]) ∧ rl.length ≤ c1 ∧ Kd.C k39 w' A1 rl.length rl ∧ Below w.heap.size w w' ∧ ((r2 = 0 ∧ rl = xs ∧ ∀ j (h : j < xs.length), Fine (xs.take j) xs[j]) ∨ (r2 = 201 ∧ rl = [] ∧ ∃ j, ∃ h : j < xs.length, ¬ Fine (xs.take j) xs[j])) := by
  obtain rfl := hC.1
  obtain ⟨⟨r1, r2⟩, h1, h2⟩ := rnew_eq xs hl hx
  refine (spindleref20_New.calls (4 * xs.length + 5) A c xs r1 r2 w hC hc h1).mono ?_
  rintro e w' ⟨v, rfl, hv, hb⟩
  obtain ⟨A1, c1, rfl⟩ := Kd.V_slice hv
  obtain ⟨_, h4, h5⟩ := Kd.V_reads' hv
  refine ⟨A1, c1, r1, r2, rfl, h4, h5, hb, ?_⟩
  rcases h2 with ⟨h2, h3⟩ | ⟨h2, h3⟩
  · injection h2 with e1 e2
    exact .inl ⟨e2, e1, h3⟩
  · injection h2 with e1 e2
    exact .inr ⟨e2, e1, h3⟩
/-- the outcome of New beside the document's -/
theorem new3_ (w : World) (A : Option Addr) (n c : Nat) (xs : List S39) (hC : Kd.C k39 w A n xs) (hn : n ≤ 1048576) (hx : ∀ y ∈ xs, Small y) :
    Calls Try.prog 7 #[.slice A n c] w fun e w' => ∃ P0 c0, e = .returned (.tuple #[.pointer P0, .int .i64 c0]) ∧ Below w.heap.size w w' ∧ ((c0 = 0 ∧ (∀ j (h : j < xs.length), Fine (xs.take j) xs[j]) ∧ ∃ s rs, P0 = some ⟨s, 0, none⟩ ∧ Adds xs rs ∧ St w.heap.size w' s rs) ∨ (c0 = 201 ∧ P0 = none ∧ ∃ j, ∃ h : j < xs.length, ¬ Fine (xs.take j) xs[j])) := by
  refine (new_ w A n c xs hC (fun x hx' => (hx x hx').1) (by omega)).mono ?_
  rintro e w' (⟨s, rs, rfl, h1, h2, h3⟩ | ⟨rfl, ⟨k, rs, hk, ha, hm⟩, h3⟩)
  · exact ⟨_, _, rfl, h3, .inl ⟨rfl, adds_prefix h1 (fun y hy => (hx y hy).1), s, rs, rfl, h1, h2⟩⟩
  · refine ⟨_, _, rfl, h3, .inr ⟨rfl, rfl, k, hk, fun hf => ?_⟩⟩
    have := (may_fine ha (fun y hy => (hx y (List.mem_of_mem_take hy)).1) _ (hx _ (List.getElem_mem hk)).1).2 hf
    rw [hm] at this
    cases this
theorem copy2_ (w : World) (A : Option Addr) (n c : Nat) (xs : List S39) (hC : Kd.C k39 w A n xs) (hc : n ≤ c) (hl : xs.length ≤ 4398046510976) (hx : ∀ x ∈ xs, x.f1.length ≤ 140737488351232) :
    Calls Try.prog 8 #[.slice A n c] w fun e w' => ∃ A' c', e = .returned (.slice A' n c') ∧ n ≤ c' ∧ Kd.C k39 w' A' n xs ∧ Below w.heap.size w w' := by
  obtain rfl := hC.1
  refine (spindlelaw20_CopyRegions.calls (xs.length + 1) A c xs xs w hC hc (copy_eq xs hl hx)).mono ?_
  rintro e w' ⟨v, rfl, hs, hb⟩
  obtain ⟨A', c', rfl, h1, h2⟩ := Kd.S_reads hs
  exact ⟨A', c', rfl, h1, h2, hb⟩
/-- a desk: the space, and the document's list -/
def Desk (w0 w : World) (xs : List S39) (g : Nat) : Prop :=
  ∃ P0 A1 c1 rl, Blk w g 87 #[.pointer P0, .slice A1 rl.length c1, .slice none 0 0, .int .i64 0] ∧ rl.length ≤ c1 ∧ Kd.C k39 w A1 rl.length rl ∧ w0.heap.size ≤ g ∧
    ((∃ s rs B, P0 = some ⟨s, 0, none⟩ ∧ St B w s rs ∧ w0.heap.size ≤ B ∧ Adds xs rs ∧ rl = xs) ∨ (P0 = none ∧ rl = []))
theorem open_fin {P0 : Option Addr} (w w5 : World) (A1 : Option Addr) (c1 : Nat) (rl xs : List S39) (k : Nat) (hl : rl.length ≤ c1) (hK : Kd.C k39 w5 A1 rl.length rl) (hb : Below w.heap.size w w5)
    (hr : (∃ s rs B, P0 = some ⟨s, 0, none⟩ ∧ St B w5 s rs ∧ w.heap.size ≤ B ∧ Adds xs rs ∧ rl = xs) ∨ (P0 = none ∧ rl = [])) :
    ∃ g, Ending.returned (.tuple #[.pointer (some ⟨w5.heap.size, 0, none⟩), .bool true]) = .returned (.tuple #[.pointer (some ⟨g, 0, none⟩), .bool true]) ∧ Desk w ((w5.alloc (.cells #[.pointer P0, .slice A1 rl.length c1, .slice none 0 0, .int .i64 0] 87)).drewN k) xs g ∧ Below w.heap.size w ((w5.alloc (.cells #[.pointer P0, .slice A1 rl.length c1, .slice none 0 0, .int .i64 0] 87)).drewN k) := by
  have hb2 : Below w5.heap.size w5 ((w5.alloc (.cells #[.pointer P0, .slice A1 rl.length c1, .slice none 0 0, .int .i64 0] 87)).drewN k) := pw_below_drewN (below_push (Nat.le_refl _) (Below.refl _ _) _) k
  refine ⟨_, rfl, ⟨P0, A1, c1, rl, (Blk.new w5 87 _).drewN k, hl, Kd.C_below hK hb2, hb.size, ?_⟩, hb.trans (hb2.mono hb.size)⟩
  rcases hr with ⟨s, rs, B, e, hs, hB, ha, hrl⟩ | h
  · exact .inl ⟨s, rs, B, e, hs.below hb2, hB, ha, hrl⟩
  · exact .inr h
set_option maxHeartbeats 4000000 in
set_option maxRecDepth 100000 in
theorem open_ (w : World) (A : Option Addr) (n c : Nat) (xs : List S39) (hC : Kd.C k39 w A n xs) (hc : n ≤ c) (hn : n ≤ 1048576) (hx : ∀ y ∈ xs, Small y) :
    Calls Try.prog 14 #[.slice A n c] w fun e w' => ∃ g, e = .returned (.tuple #[.pointer (some ⟨g, 0, none⟩), .bool true]) ∧ Desk w w' xs g ∧ Below w.heap.size w w' := by
  have HC := Lib.hid hC
  have HX := Lib.hid hx
  have HLX := Lib.hid hC.1
  clear hC hx
  go_enter Try.func14, Try.ntmps14
  refine wp_seq_k (fun K hK => ?_)
  have HK := Lib.hid hK
  clear hK
  go_wp2
  refine HK.out _ _ ?_
  clear HK K
  refine wp_seq_k (fun K hK => ?_)
  have HK := Lib.hid hK
  clear hK
  go_wp2_with (first | (go_at_call 8; refine (copy2_ _ A n c xs HC.out hc (by rw [HLX.out]; omega) (fun x hx => by have := (HX.out x hx).2; omega)).mono ?_; rintro e w1 ⟨A2, c2, rfl, hnc2, hk, hb⟩; have HK1 := Lib.hid hk; have HB1 := Lib.hid hb; clear hk hb) | (go_at_call 34; refine (rnew_ _ A2 n c2 xs HK1.out hnc2 hn HX.out).mono ?_; rintro e w2 ⟨A3, c3, rl, r2, rfl, hl3, hk3, hb3, hr⟩; have HK3 := Lib.hid hk3; have HB3 := Lib.hid hb3; have HR := Lib.hid hr; clear hk3 hb3 hr))
  refine HK.out _ _ ?_
  clear HK K
  obtain ⟨W1, hW1⟩ : ∃ W1, W1 = w2.alloc (.cells #[.slice A3 rl.length c3] 78) := ⟨_, rfl⟩
  have HQ := Lib.hid (show Blk W1 w2.heap.size 78 #[.slice A3 rl.length c3] from by rw [hW1]; exact Blk.new _ _ _)
  have HW := Lib.hid (show Below w2.heap.size w2 W1 from by rw [hW1]; exact below_push (Nat.le_refl _) (Below.refl _ _) _)
  have HWB := Lib.hid ((HB1.out.trans (HB3.out.mono HB1.out.size)).trans (HW.out.mono (Nat.le_trans HB1.out.size HB3.out.size)))
  have HK3' := Lib.hid (Kd.C_below HK3.out HW.out)
  have HCW := Lib.hid (Kd.C_below HC.out HWB.out)
  obtain ⟨q, hq⟩ : ∃ q, q = w2.heap.size := ⟨_, rfl⟩
  rw [← hq] at HQ
  rw [← hW1, ← hq]
  clear hW1 hq HW HB1 HB3 HK1 HK3
  refine wp_seq_k (fun K hK => ?_)
  have HK := Lib.hid hK
  clear hK
  go_wp2_with (go_at_call 35; refine (lent_ _ A n c xs HCW.out hc hn (fun x hx => (HX.out x hx).2)).mono ?_; rintro e w3 ⟨G, V, bs, rfl, hbs, hla, hfu, hb⟩; have HBS := Lib.hid hbs; have HLA := Lib.hid hla; have HFU := Lib.hid hfu; have HB4 := Lib.hid hb; clear hbs hla hfu hb)
  refine HK.out _ _ ?_
  clear HK K
  have hn70 : n ≤ n + 70 := by omega
  refine wp_seq_k (fun K hK => ?_)
  have HK := Lib.hid hK
  clear hK
  go_wp2
  refine HK.out _ _ ?_
  clear HK K
  by_cases hz : n = 0
  · skip
    have hz1 : ((n : Int) == 0) = true := by rw [beq_iff_eq]; omega
    have hz2 : (n == 0) = true := by rw [beq_iff_eq]; exact hz
    have HZ := Lib.hid hz
    clear hz
    refine wp_seq_k (fun K hK => ?_)
    have HK := Lib.hid hK
    clear hK
    go_wp2
    refine HK.out _ _ ?_
    clear HK K
    refine wp_seq_k (fun K hK => ?_)
    have HK := Lib.hid hK
    clear hK
    go_wp2_with (go_at_call 7; refine (new3_ _ none 0 0 xs (by have := HLX.out; have hz := HZ.out; exact ⟨by omega, by omega, fun h => absurd h (by omega)⟩) (by omega) HX.out).mono ?_; rintro e w4 ⟨P0, c0, rfl, hb, hr⟩; have HB5 := Lib.hid hb; have HN := Lib.hid hr; clear hb hr)
    refine HK.out _ _ ?_
    clear HK K
    have HBK := Lib.hid (back_ W1 w4 G V A n c xs bs HCW.out hc (HB4.out.trans (HB5.out.mono HB4.out.size)) (HLA.out.below HB5.out) HBS.out (ownsRow_below HFU.out HB5.out) hn (fun x hx => (HX.out x hx).2))
    refine wp_seq_k (fun K hK => ?_)
    have HK := Lib.hid hK
    clear hK
    go_wp2_with (go_at_call 36; refine HBK.out.mono ?_; rintro e w5 ⟨rfl, hb, hf⟩; have HB6 := Lib.hid hb; have HFR := Lib.hid hf; clear hb hf)
    refine HK.out _ _ ?_
    clear HK K
    have HB7 := Lib.hid ((HB4.out.trans (HB5.out.mono HB4.out.size)).trans HB6.out)
    have hq0 := (HQ.out.below HB7.out HQ.out.lt).cell 0
    simp only [List.getElem?_toArray, List.getElem?_cons_zero] at hq0
    have HK8 := Lib.hid (Kd.C_below HK3'.out HB7.out)
    rcases HN.out with ⟨rfl, hfine, s, rs, rfl, hA, hS⟩ | ⟨rfl, rfl, j, hj, hnf⟩
    · rcases HR.out with ⟨rfl, hrl, hff⟩ | ⟨rfl, hrl, j, hj, hnf⟩
      · have HS := Lib.hid (hS.frame (fun g t cs h1 h2 hg => HFR.out g t cs h1 (fun h5 b hb e => by
          have h6 := h2 h5
          have h7 := (HLA.out.lows b hb).2
          omega) hg))
        have HAD := Lib.hid (And.intro hA hrl)
        clear hA hS hrl hff hfine HN HR
        refine wp_seq_k (fun K hK => ?_)
        have HK := Lib.hid hK
        clear hK
        have HS0 := Lib.hid (show (fun W : World => W.cell? ⟨q, 0, none⟩ = some (.slice A3 rl.length c3)) w5.drew from hq0)
        go_region_held3 (fun W => W.cell? ⟨q, 0, none⟩ = some (.slice A3 rl.length c3)) (first | exact HS0.out | assumption | exact Lib.cell?_alloc_some _ (by assumption)) (first | (go_at_call 37; refine (spindlelaw0_Num.calls _ _ _ rfl).mono ?_; rintro e w6 ⟨rfl, ⟨nd, rfl⟩⟩))
        all_goals
          refine HK.out _ _ ?_
          clear HK K
          go_wp2
          go_ret2
          exact open_fin (P0 := some ⟨s, 0, none⟩) w w5 A3 c3 rl xs (1 + nd) hl3 HK8.out (HWB.out.trans (HB7.out.mono HWB.out.size)) (.inl ⟨s, rs, w3.heap.size, rfl, HS.out, Nat.le_trans HWB.out.size HB4.out.size, HAD.out.1, HAD.out.2⟩)
      · exact absurd (hfine j hj) hnf
    · rcases HR.out with ⟨rfl, hrl, hff⟩ | ⟨rfl, hrl, j, hj, hnf⟩
      · exact absurd (hff j hj) hnf
      · have HRL := Lib.hid hrl
        clear hrl HN HR hnf hj
        refine wp_seq_k (fun K hK => ?_)
        have HK := Lib.hid hK
        clear hK
        have HS0 := Lib.hid (show (fun W : World => W.cell? ⟨q, 0, none⟩ = some (.slice A3 rl.length c3)) w5.drew from hq0)
        go_region_held3 (fun W => W.cell? ⟨q, 0, none⟩ = some (.slice A3 rl.length c3)) (first | exact HS0.out | assumption | exact Lib.cell?_alloc_some _ (by assumption)) (first | (go_at_call 37; refine (spindlelaw0_Num.calls _ _ _ rfl).mono ?_; rintro e w6 ⟨rfl, ⟨nd, rfl⟩⟩))
        all_goals
          refine HK.out _ _ ?_
          clear HK K
          go_wp2
          go_ret2
          exact open_fin (P0 := none) w w5 A3 c3 rl xs (1 + nd) hl3 HK8.out (HWB.out.trans (HB7.out.mono HWB.out.size)) (.inr ⟨rfl, HRL.out⟩)
  · skip
    have hz1 : ((n : Int) == 0) = false := by rw [beq_eq_false_iff_ne]; omega
    have hz2 : (n == 0) = false := by rw [beq_eq_false_iff_ne]; exact hz
    have hz3 : ¬ (n : Int) = 0 := by omega
    refine wp_seq_k (fun K hK => ?_)
    have HK := Lib.hid hK
    clear hK
    go_wp2
    refine HK.out _ _ ?_
    clear HK K
    refine wp_seq_k (fun K hK => ?_)
    have HK := Lib.hid hK
    clear hK
    go_wp2_with (go_at_call 7; refine (new3_ _ (some ⟨G, 0, none⟩) n (n + 70) xs (by have h := laid_C HLA.out (by rw [HBS.out, HLX.out]) (by rw [HLX.out]; exact hn); rw [HLX.out] at h; exact h) hn HX.out).mono ?_; rintro e w4 ⟨P0, c0, rfl, hb, hr⟩; have HB5 := Lib.hid hb; have HN := Lib.hid hr; clear hb hr)
    refine HK.out _ _ ?_
    clear HK K
    have HBK := Lib.hid (back_ W1 w4 G V A n c xs bs HCW.out hc (HB4.out.trans (HB5.out.mono HB4.out.size)) (HLA.out.below HB5.out) HBS.out (ownsRow_below HFU.out HB5.out) hn (fun x hx => (HX.out x hx).2))
    refine wp_seq_k (fun K hK => ?_)
    have HK := Lib.hid hK
    clear hK
    go_wp2_with (go_at_call 36; refine HBK.out.mono ?_; rintro e w5 ⟨rfl, hb, hf⟩; have HB6 := Lib.hid hb; have HFR := Lib.hid hf; clear hb hf)
    refine HK.out _ _ ?_
    clear HK K
    have HB7 := Lib.hid ((HB4.out.trans (HB5.out.mono HB4.out.size)).trans HB6.out)
    have hq0 := (HQ.out.below HB7.out HQ.out.lt).cell 0
    simp only [List.getElem?_toArray, List.getElem?_cons_zero] at hq0
    have HK8 := Lib.hid (Kd.C_below HK3'.out HB7.out)
    rcases HN.out with ⟨rfl, hfine, s, rs, rfl, hA, hS⟩ | ⟨rfl, rfl, j, hj, hnf⟩
    · rcases HR.out with ⟨rfl, hrl, hff⟩ | ⟨rfl, hrl, j, hj, hnf⟩
      · have HS := Lib.hid (hS.frame (fun g t cs h1 h2 hg => HFR.out g t cs h1 (fun h5 b hb e => by
          have h6 := h2 h5
          have h7 := (HLA.out.lows b hb).2
          omega) hg))
        have HAD := Lib.hid (And.intro hA hrl)
        clear hA hS hrl hff hfine HN HR
        refine wp_seq_k (fun K hK => ?_)
        have HK := Lib.hid hK
        clear hK
        have HS0 := Lib.hid (show (fun W : World => W.cell? ⟨q, 0, none⟩ = some (.slice A3 rl.length c3)) w5.drew from hq0)
        go_region_held3 (fun W => W.cell? ⟨q, 0, none⟩ = some (.slice A3 rl.length c3)) (first | exact HS0.out | assumption | exact Lib.cell?_alloc_some _ (by assumption)) (first | (go_at_call 37; refine (spindlelaw0_Num.calls _ _ _ rfl).mono ?_; rintro e w6 ⟨rfl, ⟨nd, rfl⟩⟩))
        all_goals
          refine HK.out _ _ ?_
          clear HK K
          go_wp2
          go_ret2
          exact open_fin (P0 := some ⟨s, 0, none⟩) w w5 A3 c3 rl xs (1 + nd) hl3 HK8.out (HWB.out.trans (HB7.out.mono HWB.out.size)) (.inl ⟨s, rs, w3.heap.size, rfl, HS.out, Nat.le_trans HWB.out.size HB4.out.size, HAD.out.1, HAD.out.2⟩)
      · exact absurd (hfine j hj) hnf
    · rcases HR.out with ⟨rfl, hrl, hff⟩ | ⟨rfl, hrl, j, hj, hnf⟩
      · exact absurd (hff j hj) hnf
      · have HRL := Lib.hid hrl
        clear hrl HN HR hnf hj
        refine wp_seq_k (fun K hK => ?_)
        have HK := Lib.hid hK
        clear hK
        have HS0 := Lib.hid (show (fun W : World => W.cell? ⟨q, 0, none⟩ = some (.slice A3 rl.length c3)) w5.drew from hq0)
        go_region_held3 (fun W => W.cell? ⟨q, 0, none⟩ = some (.slice A3 rl.length c3)) (first | exact HS0.out | assumption | exact Lib.cell?_alloc_some _ (by assumption)) (first | (go_at_call 37; refine (spindlelaw0_Num.calls _ _ _ rfl).mono ?_; rintro e w6 ⟨rfl, ⟨nd, rfl⟩⟩))
        all_goals
          refine HK.out _ _ ?_
          clear HK K
          go_wp2
          go_ret2
          exact open_fin (P0 := none) w w5 A3 c3 rl xs (1 + nd) hl3 HK8.out (HWB.out.trans (HB7.out.mono HWB.out.size)) (.inr ⟨rfl, HRL.out⟩)
end Go.Proofs.Ythmeojeehemlaaa.Mem
