/- Parts of the proof, laid together by a program of this session (pack.py): Open2, AllA. -/
import Derived.Test.YthmeojeehemlaaaZA11
section
namespace Go.Proofs.Ythmeojeehemlaaa.Mem
open Go.RowKit Go.Proofs.YthmeojeehemlaaaW.PrintWords
open Go.Proofs.Ythmeojeehemlaaa.PM
set_option linter.unusedVariables false
set_option linter.unusedSimpArgs false
attribute [local go_sem] isSome_setCell
def OpenPost (w : World) (xs : List S39) (e : Ending) (w' : World) : Prop :=
  ∃ g F ok P0 rl rs, e = .returned (.tuple #[.pointer (some ⟨g, 0, none⟩), .bool true]) ∧ DeskAt w' F ok g P0 rl rs ∧ Below w.heap.size w w' ∧ (∀ k, F k → w.heap.size ≤ k) ∧ (∀ k, ok k → w.heap.size ≤ k) ∧ rl.length ≤ xs.length
theorem open_fin2 {P0 : Option Addr} {B : Nat} {okR : Nat → Prop} (w w5 : World) (A1 : Option Addr) (c1 : Nat) (rl xs : List S39) (k : Nat) (hl : rl.length ≤ c1) (hK : Kd.V k39 39 w5 0 okR (.slice A1 rl.length c1) rl) (hok : ∀ k, okR k → w.heap.size ≤ k ∧ k < B) (hwB : w.heap.size ≤ B) (hB5 : B ≤ w5.heap.size)
    (hb : Below w.heap.size w w5) (hx : ∀ y ∈ xs, Small y) (hr : (∃ s rs, P0 = some ⟨s, 0, none⟩ ∧ St B w5 s rs ∧ Adds xs rs ∧ rl = xs) ∨ (P0 = none ∧ rl = [])) :
    OpenPost w xs (.returned (.tuple #[.pointer (some ⟨w5.heap.size, 0, none⟩), .bool true])) ((w5.alloc (.cells #[.pointer P0, .slice A1 rl.length c1, .slice none 0 0, .int .i64 0] 87)).drewN k) := by
  have hb2 : Below w5.heap.size w5 ((w5.alloc (.cells #[.pointer P0, .slice A1 rl.length c1, .slice none 0 0, .int .i64 0] 87)).drewN k) := pw_below_drewN (below_push (Nat.le_refl _) (Below.refl _ _) _) k
  have hsz : ((w5.alloc (.cells #[.pointer P0, .slice A1 rl.length c1, .slice none 0 0, .int .i64 0] 87)).drewN k).heap.size = w5.heap.size + 1 := size1 _ _
  have hL : Lender ((w5.alloc (.cells #[.pointer P0, .slice A1 rl.length c1, .slice none 0 0, .int .i64 0] 87)).drewN k) w5.heap.size (.pointer P0) (.slice A1 rl.length c1) (fun _ => False) := ⟨none, 0, 0, (Blk.new w5 87 _).drewN k, by decide, .inl ⟨rfl, rfl⟩⟩
  have mkD : ∀ rs, ((P0 = none ∧ rl = [] ∧ rs = []) ∨ ∃ s, P0 = some ⟨s, 0, none⟩ ∧ St B w5 s rs ∧ Rel rl rs) → (∀ y ∈ rl, Small y) → DeskAt ((w5.alloc (.cells #[.pointer P0, .slice A1 rl.length c1, .slice none 0 0, .int .i64 0] 87)).drewN k) (fun i => B ≤ i ∧ i < w5.heap.size + 1) okR w5.heap.size P0 rl rs := by
    intro rs h hs
    refine ⟨⟨A1, c1, fun i => B ≤ i ∧ i < w5.heap.size, fun _ => False, hL, Kd.V_below hK hb2, ?_, fun i hi => ⟨hi.1, by omega⟩, fun _ h => h.elim, fun _ _ h => h, fun h => Nat.lt_irrefl _ h.2, fun h => h⟩, ⟨hB5, by omega⟩, fun i hi => by rw [hsz]; exact hi.2, fun i hi h2 => by have := hok i hi; omega, hs, fun i hi => by rw [hsz]; have := hok i hi; omega⟩
    rcases h with h | ⟨s, e, hst, hrel⟩
    · exact .inl h
    · exact .inr ⟨s, e, (StF.shrink hst).below hb2, hrel⟩
  rcases hr with ⟨s, rs, rfl, hs, ha, rfl⟩ | ⟨rfl, rfl⟩
  · exact ⟨_, _, okR, _, rl, rs, rfl, mkD rs (.inr ⟨s, rfl, hs, ha.rel (fun y hy => (hx y hy).1)⟩) hx, hb.trans (hb2.mono hb.size), fun i hi => Nat.le_trans hwB hi.1, fun i hi => (hok i hi).1, Nat.le_refl _⟩
  · exact ⟨_, _, okR, _, [], [], rfl, mkD [] (.inl ⟨rfl, rfl, rfl⟩) (fun _ h => absurd h List.not_mem_nil), hb.trans (hb2.mono hb.size), fun i hi => Nat.le_trans hwB hi.1, fun i hi => (hok i hi).1, Nat.zero_le _⟩
theorem rnew2_ (w : World) (A : Option Addr) (n c : Nat) (xs : List S39) (hC : Kd.C k39 w A n xs) (hc : n ≤ c) (hl : n ≤ 1048576) (hx : ∀ y ∈ xs, Small y) :
    Calls Try.prog 34 #[.slice A n c] w fun e w' => ∃ A1 c1 rl r2, e = .returned (.tuple #[.agg #[.slice A1 rl.length c1], .int .i64 r2]) ∧ rl.length ≤ c1 ∧ Kd.V k39 39 w' 0 (fun k => w.heap.size ≤ k ∧ k < w'.heap.size) (.slice A1 rl.length c1) rl ∧ Below w.heap.size w w' ∧ ((r2 = 0 ∧ rl = xs ∧ ∀ j (h : j < xs.length), Fine (xs.take j) xs[j]) ∨ (r2 = 201 ∧ rl = [] ∧ ∃ j, ∃ h : j < xs.length, ¬ Fine (xs.take j) xs[j])) := by
  obtain rfl := hC.1
  obtain ⟨⟨r1, r2⟩, h1, h2⟩ := rnew_eq xs hl hx
  refine (spindleref20_New.calls (4 * xs.length + 5) A c xs r1 r2 w hC hc h1).mono ?_
  rintro e w' ⟨v, rfl, hv, hb⟩
  obtain ⟨A1, c1, rfl⟩ := Kd.V_slice hv
  obtain ⟨_, h4, _⟩ := Kd.V_reads' hv
  have h5 := Kd.V_bound hv
  refine ⟨A1, c1, r1, r2, rfl, h4, h5, hb, ?_⟩
  rcases h2 with ⟨h2, h3⟩ | ⟨h2, h3⟩
  · injection h2 with e1 e2
    exact .inl ⟨e2, e1, h3⟩
  · injection h2 with e1 e2
    exact .inr ⟨e2, e1, h3⟩
set_option maxHeartbeats 4000000 in
set_option maxRecDepth 100000 in
theorem open2_ (w : World) (A : Option Addr) (n c : Nat) (xs : List S39) (hC : Kd.C k39 w A n xs) (hc : n ≤ c) (hn : n ≤ 1048576) (hx : ∀ y ∈ xs, Small y) :
    Calls Try.prog 14 #[.slice A n c] w fun e w' => OpenPost w xs e w' := by
  have HC := Lib.hid hC
  have HX := Lib.hid hx
  have HLX := Lib.hid hC.1
  clear hC hx
  go_enter Try.func14, Try.ntmps14
  refine wp_seq_k (fun K hK => ?_)
  have HK := Lib.hid hK
  clear hK
  go_wp2
  refine HK.out _ _ ?_
  clear HK K
  refine wp_seq_k (fun K hK => ?_)
  have HK := Lib.hid hK
  clear hK
  go_wp2_with (first | (go_at_call 8; refine (copy2_ _ A n c xs HC.out hc (by rw [HLX.out]; omega) (fun x hx => by have := (HX.out x hx).2; omega)).mono ?_; rintro e w1 ⟨A2, c2, rfl, hnc2, hk, hb⟩; have HK1 := Lib.hid hk; have HB1 := Lib.hid hb; clear hk hb) | (go_at_call 34; refine (rnew2_ _ A2 n c2 xs HK1.out hnc2 hn HX.out).mono ?_; rintro e w2 ⟨A3, c3, rl, r2, rfl, hl3, hk3, hb3, hr⟩; have HK3 := Lib.hid hk3; have HB3 := Lib.hid hb3; have HR := Lib.hid hr; clear hk3 hb3 hr))
  refine HK.out _ _ ?_
  clear HK K
  obtain ⟨W1, hW1⟩ : ∃ W1, W1 = w2.alloc (.cells #[.slice A3 rl.length c3] 78) := ⟨_, rfl⟩
  have HQ := Lib.hid (show Blk W1 w2.heap.size 78 #[.slice A3 rl.length c3] from by rw [hW1]; exact Blk.new _ _ _)
  have HW := Lib.hid (show Below w2.heap.size w2 W1 from by rw [hW1]; exact below_push (Nat.le_refl _) (Below.refl _ _) _)
  have HWB := Lib.hid ((HB1.out.trans (HB3.out.mono HB1.out.size)).trans (HW.out.mono (Nat.le_trans HB1.out.size HB3.out.size)))
  have HK3' := Lib.hid (Kd.V_below HK3.out HW.out)
  have HLOW := Lib.hid (show ∀ k, (w1.heap.size ≤ k ∧ k < w2.heap.size) → w.heap.size ≤ k ∧ k < W1.heap.size from fun k hk => ⟨Nat.le_trans HB1.out.size hk.1, Nat.lt_of_lt_of_le hk.2 HW.out.size⟩)
  have HCW := Lib.hid (Kd.C_below HC.out HWB.out)
  obtain ⟨q, hq⟩ : ∃ q, q = w2.heap.size := ⟨_, rfl⟩
  rw [← hq] at HQ
  rw [← hW1, ← hq]
  clear hW1 hq HW HB1 HB3 HK1 HK3
  refine wp_seq_k (fun K hK => ?_)
  have HK := Lib.hid hK
  clear hK
  go_wp2_with (go_at_call 35; refine (lent_ _ A n c xs HCW.out hc hn (fun x hx => (HX.out x hx).2)).mono ?_; rintro e w3 ⟨G, V, bs, rfl, hbs, hla, hfu, hb⟩; have HBS := Lib.hid hbs; have HLA := Lib.hid hla; have HFU := Lib.hid hfu; have HB4 := Lib.hid hb; clear hbs hla hfu hb)
  refine HK.out _ _ ?_
  clear HK K
  have hn70 : n ≤ n + 70 := by omega
  refine wp_seq_k (fun K hK => ?_)
  have HK := Lib.hid hK
  clear hK
  go_wp2
  refine HK.out _ _ ?_
  clear HK K
  by_cases hz : n = 0
  · skip
    have hz1 : ((n : Int) == 0) = true := by rw [beq_iff_eq]; omega
    have hz2 : (n == 0) = true := by rw [beq_iff_eq]; exact hz
    have HZ := Lib.hid hz
    clear hz
    refine wp_seq_k (fun K hK => ?_)
    have HK := Lib.hid hK
    clear hK
    go_wp2
    refine HK.out _ _ ?_
    clear HK K
    refine wp_seq_k (fun K hK => ?_)
    have HK := Lib.hid hK
    clear hK
    go_wp2_with (go_at_call 7; refine (new3_ _ none 0 0 xs (by have := HLX.out; have hz := HZ.out; exact ⟨by omega, by omega, fun h => absurd h (by omega)⟩) (by omega) HX.out).mono ?_; rintro e w4 ⟨P0, c0, rfl, hb, hr⟩; have HB5 := Lib.hid hb; have HN := Lib.hid hr; clear hb hr)
    refine HK.out _ _ ?_
    clear HK K
    have HBK := Lib.hid (back_ W1 w4 G V A n c xs bs HCW.out hc (HB4.out.trans (HB5.out.mono HB4.out.size)) (HLA.out.below HB5.out) HBS.out (ownsRow_below HFU.out HB5.out) hn (fun x hx => (HX.out x hx).2))
    refine wp_seq_k (fun K hK => ?_)
    have HK := Lib.hid hK
    clear hK
    go_wp2_with (go_at_call 36; refine HBK.out.mono ?_; rintro e w5 ⟨rfl, hb, hf⟩; have HB6 := Lib.hid hb; have HFR := Lib.hid hf; clear hb hf)
    refine HK.out _ _ ?_
    clear HK K
    have HB7 := Lib.hid ((HB4.out.trans (HB5.out.mono HB4.out.size)).trans HB6.out)
    have hq0 := (HQ.out.below HB7.out HQ.out.lt).cell 0
    simp only [List.getElem?_toArray, List.getElem?_cons_zero] at hq0
    have HK8 := Lib.hid (Kd.V_below HK3'.out HB7.out)
    rcases HN.out with ⟨rfl, hfine, s, rs, rfl, hA, hS⟩ | ⟨rfl, rfl, j, hj, hnf⟩
    · rcases HR.out with ⟨rfl, hrl, hff⟩ | ⟨rfl, hrl, j, hj, hnf⟩
      · have HS := Lib.hid (hS.frame (fun g t cs h1 h2 hg => HFR.out g t cs h1 (fun h5 b hb e => by
          have h6 := h2 h5
          have h7 := (HLA.out.lows b hb).2
          omega) hg))
        have HAD := Lib.hid (And.intro hA hrl)
        clear hA hS hrl hff hfine HN HR
        refine wp_seq_k (fun K hK => ?_)
        have HK := Lib.hid hK
        clear hK
        have HS0 := Lib.hid (show (fun W : World => W.cell? ⟨q, 0, none⟩ = some (.slice A3 rl.length c3)) w5.drew from hq0)
        go_region_held3 (fun W => W.cell? ⟨q, 0, none⟩ = some (.slice A3 rl.length c3)) (first | exact HS0.out | assumption | exact Lib.cell?_alloc_some _ (by assumption)) (first | (go_at_call 37; refine (spindlelaw0_Num.calls _ _ _ rfl).mono ?_; rintro e w6 ⟨rfl, ⟨nd, rfl⟩⟩))
        all_goals
          refine HK.out _ _ ?_
          clear HK K
          go_wp2
          go_ret2
          exact open_fin2 (P0 := some ⟨s, 0, none⟩) w w5 A3 c3 rl xs (1 + nd) hl3 HK8.out (fun k hk => ⟨(HLOW.out k hk).1, Nat.lt_of_lt_of_le (HLOW.out k hk).2 HB4.out.size⟩) (Nat.le_trans HWB.out.size HB4.out.size) (Nat.le_trans HB5.out.size HB6.out.size) (HWB.out.trans (HB7.out.mono HWB.out.size)) HX.out (.inl ⟨s, rs, rfl, HS.out, HAD.out.1, HAD.out.2⟩)
      · exact absurd (hfine j hj) hnf
    · rcases HR.out with ⟨rfl, hrl, hff⟩ | ⟨rfl, hrl, j, hj, hnf⟩
      · exact absurd (hff j hj) hnf
      · have HRL := Lib.hid hrl
        clear hrl HN HR hnf hj
        refine wp_seq_k (fun K hK => ?_)
        have HK := Lib.hid hK
        clear hK
        have HS0 := Lib.hid (show (fun W : World => W.cell? ⟨q, 0, none⟩ = some (.slice A3 rl.length c3)) w5.drew from hq0)
        go_region_held3 (fun W => W.cell? ⟨q, 0, none⟩ = some (.slice A3 rl.length c3)) (first | exact HS0.out | assumption | exact Lib.cell?_alloc_some _ (by assumption)) (first | (go_at_call 37; refine (spindlelaw0_Num.calls _ _ _ rfl).mono ?_; rintro e w6 ⟨rfl, ⟨nd, rfl⟩⟩))
        all_goals
          refine HK.out _ _ ?_
          clear HK K
          go_wp2
          go_ret2
          exact open_fin2 (P0 := none) w w5 A3 c3 rl xs (1 + nd) hl3 HK8.out (fun k hk => ⟨(HLOW.out k hk).1, Nat.lt_of_lt_of_le (HLOW.out k hk).2 HB4.out.size⟩) (Nat.le_trans HWB.out.size HB4.out.size) (Nat.le_trans HB5.out.size HB6.out.size) (HWB.out.trans (HB7.out.mono HWB.out.size)) HX.out (.inr ⟨rfl, HRL.out⟩)
  · skip
    have hz1 : ((n : Int) == 0) = false := by rw [beq_eq_false_iff_ne]; omega
    have hz2 : (n == 0) = false := by rw [beq_eq_false_iff_ne]; exact hz
    have hz3 : ¬ (n : Int) = 0 := by omega
    refine wp_seq_k (fun K hK => ?_)
    have HK := Lib.hid hK
    clear hK
    go_wp2
    refine HK.out _ _ ?_
    clear HK K
    refine wp_seq_k (fun K hK => ?_)
    have HK := Lib.hid hK
    clear hK
    go_wp2_with (go_at_call 7; refine (new3_ _ (some ⟨G, 0, none⟩) n (n + 70) xs (by have h := laid_C HLA.out (by rw [HBS.out, HLX.out]) (by rw [HLX.out]; exact hn); rw [HLX.out] at h; exact h) hn HX.out).mono ?_; rintro e w4 ⟨P0, c0, rfl, hb, hr⟩; have HB5 := Lib.hid hb; have HN := Lib.hid hr; clear hb hr)
    refine HK.out _ _ ?_
    clear HK K
    have HBK := Lib.hid (back_ W1 w4 G V A n c xs bs HCW.out hc (HB4.out.trans (HB5.out.mono HB4.out.size)) (HLA.out.below HB5.out) HBS.out (ownsRow_below HFU.out HB5.out) hn (fun x hx => (HX.out x hx).2))
    refine wp_seq_k (fun K hK => ?_)
    have HK := Lib.hid hK
    clear hK
    go_wp2_with (go_at_call 36; refine HBK.out.mono ?_; rintro e w5 ⟨rfl, hb, hf⟩; have HB6 := Lib.hid hb; have HFR := Lib.hid hf; clear hb hf)
    refine HK.out _ _ ?_
    clear HK K
    have HB7 := Lib.hid ((HB4.out.trans (HB5.out.mono HB4.out.size)).trans HB6.out)
    have hq0 := (HQ.out.below HB7.out HQ.out.lt).cell 0
    simp only [List.getElem?_toArray, List.getElem?_cons_zero] at hq0
    have HK8 := Lib.hid (Kd.V_below HK3'.out HB7.out)
    rcases HN.out with ⟨rfl, hfine, s, rs, rfl, hA, hS⟩ | ⟨rfl, rfl, j, hj, hnf⟩
    · rcases HR.out with ⟨rfl, hrl, hff⟩ | ⟨rfl, hrl, j, hj, hnf⟩
      · have HS := Lib.hid (hS.frame (fun g t cs h1 h2 hg => HFR.out g t cs h1 (fun h5 b hb e => by
          have h6 := h2 h5
          have h7 := (HLA.out.lows b hb).2
          omega) hg))
        have HAD := Lib.hid (And.intro hA hrl)
        clear hA hS hrl hff hfine HN HR
        refine wp_seq_k (fun K hK => ?_)
        have HK := Lib.hid hK
        clear hK
        have HS0 := Lib.hid (show (fun W : World => W.cell? ⟨q, 0, none⟩ = some (.slice A3 rl.length c3)) w5.drew from hq0)
        go_region_held3 (fun W => W.cell? ⟨q, 0, none⟩ = some (.slice A3 rl.length c3)) (first | exact HS0.out | assumption | exact Lib.cell?_alloc_some _ (by assumption)) (first | (go_at_call 37; refine (spindlelaw0_Num.calls _ _ _ rfl).mono ?_; rintro e w6 ⟨rfl, ⟨nd, rfl⟩⟩))
        all_goals
          refine HK.out _ _ ?_
          clear HK K
          go_wp2
          go_ret2
          exact open_fin2 (P0 := some ⟨s, 0, none⟩) w w5 A3 c3 rl xs (1 + nd) hl3 HK8.out (fun k hk => ⟨(HLOW.out k hk).1, Nat.lt_of_lt_of_le (HLOW.out k hk).2 HB4.out.size⟩) (Nat.le_trans HWB.out.size HB4.out.size) (Nat.le_trans HB5.out.size HB6.out.size) (HWB.out.trans (HB7.out.mono HWB.out.size)) HX.out (.inl ⟨s, rs, rfl, HS.out, HAD.out.1, HAD.out.2⟩)
      · exact absurd (hfine j hj) hnf
    · rcases HR.out with ⟨rfl, hrl, hff⟩ | ⟨rfl, hrl, j, hj, hnf⟩
      · exact absurd (hff j hj) hnf
      · have HRL := Lib.hid hrl
        clear hrl HN HR hnf hj
        refine wp_seq_k (fun K hK => ?_)
        have HK := Lib.hid hK
        clear hK
        have HS0 := Lib.hid (show (fun W : World => W.cell? ⟨q, 0, none⟩ = some (.slice A3 rl.length c3)) w5.drew from hq0)
        go_region_held3 (fun W => W.cell? ⟨q, 0, none⟩ = some (.slice A3 rl.length c3)) (first | exact HS0.out | assumption | exact Lib.cell?_alloc_some _ (by assumption)) (first | (go_at_call 37; refine (spindlelaw0_Num.calls _ _ _ rfl).mono ?_; rintro e w6 ⟨rfl, ⟨nd, rfl⟩⟩))
        all_goals
          refine HK.out _ _ ?_
          clear HK K
          go_wp2
          go_ret2
          exact open_fin2 (P0 := none) w w5 A3 c3 rl xs (1 + nd) hl3 HK8.out (fun k hk => ⟨(HLOW.out k hk).1, Nat.lt_of_lt_of_le (HLOW.out k hk).2 HB4.out.size⟩) (Nat.le_trans HWB.out.size HB4.out.size) (Nat.le_trans HB5.out.size HB6.out.size) (HWB.out.trans (HB7.out.mono HWB.out.size)) HX.out (.inr ⟨rfl, HRL.out⟩)
end Go.Proofs.Ythmeojeehemlaaa.Mem
end
section
namespace Go.Proofs.Ythmeojeehemlaaa.Mem
open Go.RowKit Go.Proofs.YthmeojeehemlaaaW.PrintWords
open Go.Proofs.Ythmeojeehemlaaa.PM
set_option linter.unusedVariables false
set_option linter.unusedSimpArgs false
/-- an act's data -/
structure S46 where
  wh : Int
  kd : Int
  x : Int
  m : Int
  v : Int
  dat : List Int
def k46 : Kd S46 := Kd.iso (Kd.pair (Kd.int .i64) (Kd.pair (Kd.int .i64) (Kd.pair (Kd.int .u64) (Kd.pair (Kd.int .i64) (Kd.pair (Kd.int .u64) (Kd.slice 5 (Kd.int .u8))))))) (fun x : S46 => (x.wh, x.kd, x.x, x.m, x.v, x.dat))
theorem k46_open {w : World} {x : S46} {cs : List Value} (h : k46.K w x cs) : ∃ A1 c1, cs = [.int .i64 x.wh, .int .i64 x.kd, .int .u64 x.x, .int .i64 x.m, .int .u64 x.v, .slice A1 x.dat.length c1] ∧ x.dat.length ≤ c1 ∧ (Kd.int .u8).C w A1 x.dat.length x.dat := by
  obtain ⟨_, _, rfl, rfl, _, _, rfl, rfl, _, _, rfl, rfl, _, _, rfl, rfl, _, _, rfl, rfl, ⟨A1, c1, rfl, l1, g1⟩⟩ := h
  exact ⟨A1, c1, rfl, l1, g1⟩
def z46 : S46 := ⟨0, 0, 0, 0, 0, []⟩
theorem at46 {w : World} {A : Option Addr} {n : Nat} {xs : List S46} (h : Kd.C k46 w A n xs) (i : Nat) (hi : i < xs.length) : ∃ ad A1 c1, A = some ad ∧
    w.cell? (ad.add (i * 6)) = some (.int .i64 xs[i].wh) ∧ w.cell? ⟨(ad.add (i * 6)).block, (ad.add (i * 6)).off + 1, none⟩ = some (.int .i64 xs[i].kd) ∧ w.cell? ⟨(ad.add (i * 6)).block, (ad.add (i * 6)).off + 2, none⟩ = some (.int .u64 xs[i].x) ∧ w.cell? ⟨(ad.add (i * 6)).block, (ad.add (i * 6)).off + 3, none⟩ = some (.int .i64 xs[i].m) ∧ w.cell? ⟨(ad.add (i * 6)).block, (ad.add (i * 6)).off + 4, none⟩ = some (.int .u64 xs[i].v) ∧ w.cell? ⟨(ad.add (i * 6)).block, (ad.add (i * 6)).off + 5, none⟩ = some (.slice A1 xs[i].dat.length c1) ∧
    xs[i].dat.length ≤ c1 ∧ (Kd.int .u8).C w A1 xs[i].dat.length xs[i].dat := by
  have hn := h.1
  obtain ⟨ad, c, e, _, hK, hc0⟩ := Kd.C_get h z46 (i : Int) (by omega) (by omega)
  rw [Int.toNat_natCast, List.getD_eq_getElem?_getD, List.getElem?_eq_getElem hi] at hK
  have hc : ∀ j u, c[j]? = some u → w.cell? (ad.add (i * 6 + j)) = some u := by rw [Int.toNat_natCast] at hc0; exact hc0
  obtain ⟨A1, c1, rfl, l1, g1⟩ := k46_open hK
  refine ⟨ad, A1, c1, e, hc 0 _ rfl, ?_, ?_, ?_, ?_, ?_, l1, g1⟩
  · rw [← add_field _ _ 1 (by omega)]; exact hc 1 _ rfl
  · rw [← add_field _ _ 2 (by omega)]; exact hc 2 _ rfl
  · rw [← add_field _ _ 3 (by omega)]; exact hc 3 _ rfl
  · rw [← add_field _ _ 4 (by omega)]; exact hc 4 _ rfl
  · rw [← add_field _ _ 5 (by omega)]; exact hc 5 _ rfl
/-- an act that may come in -/
def Fit46 (a : S46) : Prop := Small ⟨a.x, a.dat⟩ ∧ (-9223372036854775808 ≤ a.m ∧ a.m < 9223372036854775808) ∧ 0 ≤ a.v ∧ a.v < 18446744073709551616
def Sep (Fx okx Fy oky : Nat → Prop) : Prop := (∀ k, Fx k → ¬ Fy k) ∧ (∀ k, okx k → ¬ Fy k) ∧ (∀ k, oky k → ¬ Fx k)
theorem Sep.symm {Fx okx Fy oky : Nat → Prop} (h : Sep Fx okx Fy oky) : Sep Fy oky Fx okx := ⟨fun k h1 h2 => h.1 k h2 h1, h.2.2, h.2.1⟩
theorem Sep.step {Fx okx Fy oky F' ok' : Nat → Prop} {n : Nat} (h : Sep Fx okx Fy oky) (h1 : ∀ k, F' k → Fx k ∨ n ≤ k) (h2 : ∀ k, ok' k → okx k ∨ n ≤ k) (h3 : ∀ k, Fy k → k < n) (h4 : ∀ k, oky k → k < n) : Sep F' ok' Fy oky :=
  ⟨fun k hk hy => (h1 k hk).elim (fun h5 => h.1 k h5 hy) (fun h5 => by have := h3 k hy; omega), fun k hk hy => (h2 k hk).elim (fun h5 => h.2.1 k h5 hy) (fun h5 => by have := h3 k hy; omega), fun k hk hx => (h1 k hx).elim (fun h5 => h.2.2 k hk h5) (fun h5 => by have := h4 k hk; omega)⟩
/-- three desks beside one another, and a block that none of them has -/
structure Trip (w wr : World) (lb : Nat) (cs : Array Value) (gx gy gz nx ny nz : Nat) : Prop where
  st : ∃ Fx okx Px rlx rsx Fy oky Py rly rsy Fz okz Pz rlz rsz, DeskAt wr Fx okx gx Px rlx rsx ∧ DeskAt wr Fy oky gy Py rly rsy ∧ DeskAt wr Fz okz gz Pz rlz rsz ∧ Sep Fx okx Fy oky ∧ Sep Fx okx Fz okz ∧ Sep Fy oky Fz okz ∧
    (∀ k, Fx k → w.heap.size ≤ k ∧ k ≠ lb) ∧ (∀ k, Fy k → w.heap.size ≤ k ∧ k ≠ lb) ∧ (∀ k, Fz k → w.heap.size ≤ k ∧ k ≠ lb) ∧ rlx.length ≤ nx ∧ rly.length ≤ ny ∧ rlz.length ≤ nz
  bel : Below w.heap.size w wr
  blk : Blk wr lb 46 cs
theorem Trip.yxz {w wr : World} {lb gx gy gz nx ny nz : Nat} {cs : Array Value} (h : Trip w wr lb cs gx gy gz nx ny nz) : Trip w wr lb cs gy gx gz ny nx nz := by
  obtain ⟨⟨Fx, okx, Px, rlx, rsx, Fy, oky, Py, rly, rsy, Fz, okz, Pz, rlz, rsz, h1, h2, h3, s1, s2, s3, b1, b2, b3, l1, l2, l3⟩, hb, hl⟩ := h
  exact ⟨⟨Fy, oky, Py, rly, rsy, Fx, okx, Px, rlx, rsx, Fz, okz, Pz, rlz, rsz, h2, h1, h3, s1.symm, s3, s2, b2, b1, b3, l2, l1, l3⟩, hb, hl⟩
theorem Trip.zyx {w wr : World} {lb gx gy gz nx ny nz : Nat} {cs : Array Value} (h : Trip w wr lb cs gx gy gz nx ny nz) : Trip w wr lb cs gz gy gx nz ny nx := by
  obtain ⟨⟨Fx, okx, Px, rlx, rsx, Fy, oky, Py, rly, rsy, Fz, okz, Pz, rlz, rsz, h1, h2, h3, s1, s2, s3, b1, b2, b3, l1, l2, l3⟩, hb, hl⟩ := h
  exact ⟨⟨Fz, okz, Pz, rlz, rsz, Fy, oky, Py, rly, rsy, Fx, okx, Px, rlx, rsx, h3, h2, h1, s3.symm, s2.symm, s1.symm, b3, b2, b1, l3, l2, l1⟩, hb, hl⟩
theorem Trip.below {w wr wr' : World} {lb gx gy gz nx ny nz : Nat} {cs : Array Value} (h : Trip w wr lb cs gx gy gz nx ny nz) (hb : Below wr.heap.size wr wr') : Trip w wr' lb cs gx gy gz nx ny nz := by
  obtain ⟨⟨Fx, okx, Px, rlx, rsx, Fy, oky, Py, rly, rsy, Fz, okz, Pz, rlz, rsz, h1, h2, h3, s1, s2, s3, b1, b2, b3, l1, l2, l3⟩, hbw, hl⟩ := h
  exact ⟨⟨Fx, okx, Px, rlx, rsx, Fy, oky, Py, rly, rsy, Fz, okz, Pz, rlz, rsz, h1.below hb, h2.below hb, h3.below hb, s1, s2, s3, b1, b2, b3, l1, l2, l3⟩, hbw.trans (hb.mono hbw.size), hl.below hb hl.lt⟩
theorem C_far {w : World} {A : Option Addr} {n : Nat} {l : List Int} (h : Kd.C (Kd.int .u8) w A n l) (hn : 0 < n) {ad : Addr} (e : A = some ad) : ad.block < w.heap.size := by
  obtain rfl := h.1
  obtain ⟨b, off, e2, hcell⟩ := Lnd.Rd.of_C h hn
  rw [e] at e2; cases e2
  have h1 := World.block_lt_of_cell? w _ (hcell 0 hn)
  simpa using h1
/-- an act of the first of three desks -/
theorem Trip.act {w wr : World} {lb gx gy gz nx ny nz : Nat} {cs : Array Value} (h : Trip w wr lb cs gx gy gz nx ny nz) (wh k x m v : Int) (A : Option Addr) (n c : Nat) (bs : List Int) (hC : Kd.C (Kd.int .u8) w A n bs) (hc : n ≤ c) (hf : Fit46 ⟨wh, k, x, m, v, bs⟩) (hn : nx + 1 ≤ 1048576) :
    Calls Try.prog 16 #[.pointer (some ⟨gx, 0, none⟩), .agg #[.int .i64 wh, .int .i64 k, .int .u64 x, .int .i64 m, .int .u64 v, .slice A n c]] wr fun e w' => ∃ v1 v2, e = .returned (.tuple #[.bool true, v1, v2]) ∧ Trip w w' lb cs gx gy gz (nx + 1) ny nz := by
  obtain ⟨⟨Fx, okx, Px, rlx, rsx, Fy, oky, Py, rly, rsy, Fz, okz, Pz, rlz, rsz, h1, h2, h3, s1, s2, s3, b1, b2, b3, l1, l2, l3⟩, hb, hl⟩ := h
  refine (act2_ wr Fx okx gx Px rlx rsx wh k x m v A n c bs h1 (Kd.C_below hC hb) hc hf.1 (fun hp ad e hx => by have := C_far hC hp e; have := (b1 _ hx).1; omega) (by omega) hf.2.1.1 hf.2.1.2 hf.2.2.1 hf.2.2.2).mono ?_
  rintro e w' ⟨v1, v2, F', ok', rl', rs', rfl, q1, q2, q3, q4, q5⟩
  have hbw' : Below w.heap.size w w' := hb.trans ⟨q3.os, q3.tape, q3.output, q3.size, fun k hk => q3.block k (Nat.lt_of_lt_of_le hk hb.size) (fun hx => by have := (b1 k hx).1; omega)⟩
  refine ⟨v1, v2, rfl, ⟨F', ok', Px, rl', rs', Fy, oky, Py, rly, rsy, Fz, okz, Pz, rlz, rsz, q1, h2.chg q3 (fun k hk hx => s1.1 k hx hk) s1.2.2, h3.chg q3 (fun k hk hx => s2.1 k hx hk) s2.2.2, s1.step q4 q5 h2.lt h2.oklt, s2.step q4 q5 h3.lt h3.oklt, s3, fun k hk => (q4 k hk).elim (b1 k) (fun h5 => ⟨Nat.le_trans hb.size h5, fun e => by have := hl.lt; omega⟩), b2, b3, by omega, l2, l3⟩, hbw', hl.chg q3 (fun hx => (b1 _ hx).2 rfl)⟩
/-- two desks -/
structure Duo (w wr : World) (gx gy nx ny : Nat) : Prop where
  st : ∃ Fx okx Px rlx rsx Fy oky Py rly rsy, DeskAt wr Fx okx gx Px rlx rsx ∧ DeskAt wr Fy oky gy Py rly rsy ∧ Sep Fx okx Fy oky ∧ (∀ k, Fx k → w.heap.size ≤ k) ∧ (∀ k, Fy k → w.heap.size ≤ k) ∧ rlx.length ≤ nx ∧ rly.length ≤ ny
  bel : Below w.heap.size w wr
theorem Duo.symm {w wr : World} {gx gy nx ny : Nat} (h : Duo w wr gx gy nx ny) : Duo w wr gy gx ny nx := by
  obtain ⟨⟨Fx, okx, Px, rlx, rsx, Fy, oky, Py, rly, rsy, h1, h2, s1, b1, b2, l1, l2⟩, hb⟩ := h
  exact ⟨⟨Fy, oky, Py, rly, rsy, Fx, okx, Px, rlx, rsx, h2, h1, s1.symm, b2, b1, l2, l1⟩, hb⟩
theorem Duo.below {w wr wr' : World} {gx gy nx ny : Nat} (h : Duo w wr gx gy nx ny) (hb : Below wr.heap.size wr wr') : Duo w wr' gx gy nx ny := by
  obtain ⟨⟨Fx, okx, Px, rlx, rsx, Fy, oky, Py, rly, rsy, h1, h2, s1, b1, b2, l1, l2⟩, hbw⟩ := h
  exact ⟨⟨Fx, okx, Px, rlx, rsx, Fy, oky, Py, rly, rsy, h1.below hb, h2.below hb, s1, b1, b2, l1, l2⟩, hbw.trans (hb.mono hbw.size)⟩
theorem Duo.act {w wr : World} {gx gy nx ny : Nat} (h : Duo w wr gx gy nx ny) (wh k x m v : Int) (A : Option Addr) (n c : Nat) (bs : List Int) (hC : Kd.C (Kd.int .u8) w A n bs) (hc : n ≤ c) (hf : Fit46 ⟨wh, k, x, m, v, bs⟩) (hn : nx + 1 ≤ 1048576) :
    Calls Try.prog 16 #[.pointer (some ⟨gx, 0, none⟩), .agg #[.int .i64 wh, .int .i64 k, .int .u64 x, .int .i64 m, .int .u64 v, .slice A n c]] wr fun e w' => ∃ v1 v2, e = .returned (.tuple #[.bool true, v1, v2]) ∧ Duo w w' gx gy (nx + 1) (ny + 1) := by
  obtain ⟨⟨Fx, okx, Px, rlx, rsx, Fy, oky, Py, rly, rsy, h1, h2, s1, b1, b2, l1, l2⟩, hb⟩ := h
  refine (act2_ wr Fx okx gx Px rlx rsx wh k x m v A n c bs h1 (Kd.C_below hC hb) hc hf.1 (fun hp ad e hx => by have := C_far hC hp e; have := b1 _ hx; omega) (by omega) hf.2.1.1 hf.2.1.2 hf.2.2.1 hf.2.2.2).mono ?_
  rintro e w' ⟨v1, v2, F', ok', rl', rs', rfl, q1, q2, q3, q4, q5⟩
  have hbw' : Below w.heap.size w w' := hb.trans ⟨q3.os, q3.tape, q3.output, q3.size, fun k hk => q3.block k (Nat.lt_of_lt_of_le hk hb.size) (fun hx => by have := b1 k hx; omega)⟩
  exact ⟨v1, v2, rfl, ⟨F', ok', Px, rl', rs', Fy, oky, Py, rly, rsy, q1, h2.chg q3 (fun k hk hx => s1.1 k hx hk) s1.2.2, s1.step q4 q5 h2.lt h2.oklt, fun k hk => (q4 k hk).elim (b1 k) (fun h5 => Nat.le_trans hb.size h5), b2, by omega, by omega⟩, hbw'⟩
/-- two spaces, opened one behind the other -/
theorem duo_of {w w1 w2 : World} {xs ys : List S39} {e1 e2 : Ending} (h1 : OpenPost w xs e1 w1) (h2 : OpenPost w1 ys e2 w2) : ∃ gx gy, e1 = .returned (.tuple #[.pointer (some ⟨gx, 0, none⟩), .bool true]) ∧ e2 = .returned (.tuple #[.pointer (some ⟨gy, 0, none⟩), .bool true]) ∧ Duo w w2 gx gy xs.length ys.length := by
  obtain ⟨gx, Fx, okx, Px, rlx, rsx, rfl, q1, q2, q3, q4, q5⟩ := h1
  obtain ⟨gy, Fy, oky, Py, rly, rsy, rfl, r1, r2, r3, r4, r5⟩ := h2
  exact ⟨gx, gy, rfl, rfl, ⟨Fx, okx, Px, rlx, rsx, Fy, oky, Py, rly, rsy, q1.below r2, r1, ⟨fun k h5 h6 => by have := q1.lt k h5; have := r3 k h6; omega, fun k h5 h6 => by have := q1.oklt k h5; have := r3 k h6; omega, fun k h5 h6 => by have := q1.lt k h6; have := r4 k h5; omega⟩, q3, fun k hk => Nat.le_trans q2.size (r3 k hk), q5, r5⟩, q2.trans (r2.mono q2.size)⟩
theorem trip_of {w wr w2 : World} {gx gy nx ny : Nat} {zs : List S39} {e2 : Ending} (h1 : Duo w wr gx gy nx ny) (h2 : OpenPost wr zs e2 w2) (cs : Array Value) : ∃ gz, e2 = .returned (.tuple #[.pointer (some ⟨gz, 0, none⟩), .bool true]) ∧ Trip w (w2.alloc (.cells cs 46)) w2.heap.size cs gx gy gz nx ny zs.length := by
  obtain ⟨⟨Fx, okx, Px, rlx, rsx, Fy, oky, Py, rly, rsy, q1, q2, s1, b1, b2, l1, l2⟩, hb⟩ := h1
  obtain ⟨gz, Fz, okz, Pz, rlz, rsz, rfl, r1, r2, r3, r4, r5⟩ := h2
  have hp := below_push (Nat.le_refl _) (Below.refl w2.heap.size w2) (.cells cs 46)
  have q1' := q1.below r2
  have q2' := q2.below r2
  exact ⟨gz, rfl, ⟨Fx, okx, Px, rlx, rsx, Fy, oky, Py, rly, rsy, Fz, okz, Pz, rlz, rsz, q1'.below hp, q2'.below hp, r1.below hp, s1,
    ⟨fun k h5 h6 => by have := q1.lt k h5; have := r3 k h6; omega, fun k h5 h6 => by have := q1.oklt k h5; have := r3 k h6; omega, fun k h5 h6 => by have := q1.lt k h6; have := r4 k h5; omega⟩,
    ⟨fun k h5 h6 => by have := q2.lt k h5; have := r3 k h6; omega, fun k h5 h6 => by have := q2.oklt k h5; have := r3 k h6; omega, fun k h5 h6 => by have := q2.lt k h6; have := r4 k h5; omega⟩,
    fun k hk => ⟨b1 k hk, by have := q1'.lt k hk; omega⟩, fun k hk => ⟨b2 k hk, by have := q2'.lt k hk; omega⟩, fun k hk => ⟨Nat.le_trans hb.size (r3 k hk), by have := r1.lt k hk; omega⟩, l1, l2, r5⟩,
    (hb.trans (r2.mono hb.size)).trans (hp.mono (Nat.le_trans hb.size r2.size)), Blk.new _ _ _⟩
end Go.Proofs.Ythmeojeehemlaaa.Mem
end
