/- MemoryStored: what the helpers of the law answer, and the plain law. Written by this session. -/
import Derived.Test.YthmeojeehemlaaaMem15
namespace Go.Proofs.Ythmeojeehemlaaa.Mem
open Go.RowKit Go.Proofs.YthmeojeehemlaaaW.PrintWords
open Go.Proofs.Ythmeojeehemlaaa.PM
set_option linter.unusedVariables false
set_option linter.unusedSimpArgs false
theorem rd39 (xs : List S39) (i : Nat) (h : i < xs.length) : rd_T39 xs (i : Int) = xs[i] := by
  unfold rd_T39
  rw [Int.toNat_natCast, List.getD_eq_getElem?_getD, List.getElem?_eq_getElem h]; rfl
theorem copy_l0 (xs : List S39) (hl : xs.length ≤ 4398046510976) (hx : ∀ x ∈ xs, x.f1.length ≤ 140737488351232) : ∀ (k i : Nat), i ≤ xs.length → xs.length - i < k → spindlelaw20_CopyRegions.l0 k xs (xs.take i) (i : Int) = some xs := by
  intro k
  induction k with
  | zero => intro i _ h; omega
  | succ k ih =>
    intro i hi hk
    simp only [spindlelaw20_CopyRegions.l0]
    by_cases hlt : i < xs.length
    · have hx1 := hx _ (List.getElem_mem hlt)
      rw [if_pos (by omega), if_pos (by omega), rd39 xs i hlt]
      have hc : spindlelaw0_CopyBytes.f xs[i].f1 = some xs[i].f1 := by
        unfold spindlelaw0_CopyBytes.f
        simp only [Option.bind_some, List.length_nil, List.nil_append]
        rw [if_pos (by omega)]
      rw [hc]
      simp only [Option.bind_some]
      rw [if_pos (by rw [List.length_take]; omega)]
      have e : xs.take i ++ [(⟨xs[i].f0, xs[i].f1⟩ : S39)] = xs.take (i + 1) := by
        rw [List.take_succ_eq_append_getElem hlt]
      rw [e, w64 _ (by omega) (by omega)]
      have := ih (i + 1) (by omega) (by omega)
      rw [← this]
      rfl
    · rw [if_neg (by omega), List.take_of_length_le (by omega)]
theorem copy_eq (xs : List S39) (hl : xs.length ≤ 4398046510976) (hx : ∀ x ∈ xs, x.f1.length ≤ 140737488351232) : spindlelaw20_CopyRegions.f (xs.length + 1) xs = some xs := copy_l0 xs hl hx _ 0 (Nat.zero_le _) (by omega)
theorem copy_ (w : World) (A : Option Addr) (n c : Nat) (xs : List S39) (hC : Kd.C k39 w A n xs) (hc : n ≤ c) (hl : xs.length ≤ 4398046510976) (hx : ∀ x ∈ xs, x.f1.length ≤ 140737488351232) :
    Calls Try.prog 8 #[.slice A n c] w fun e w' => ∃ A' c', e = .returned (.slice A' n c') ∧ Kd.C k39 w' A' n xs ∧ Below w.heap.size w w' := by
  obtain rfl := hC.1
  refine (spindlelaw20_CopyRegions.calls (xs.length + 1) A c xs xs w hC hc (copy_eq xs hl hx)).mono ?_
  rintro e w' ⟨v, rfl, hs, hb⟩
  obtain ⟨A', c', rfl, h1, h2⟩ := Kd.S_reads hs
  exact ⟨A', c', rfl, h2, hb⟩
/-- do n bytes at x lie wholly in a region? -/
def heldIn (s : S39) (x n : Int) : Prop := n ≤ (s.f1.length : Int) ∧ s.f0 ≤ x ∧ x - s.f0 ≤ (s.f1.length : Int) - n
theorem held_l0 (xs : List S39) (x n : Int) (hF : ∀ s ∈ xs, Fits s) (hx0 : 0 ≤ x) (hx1 : x < 18446744073709551616) (hn0 : 0 ≤ n) (hn1 : n < 1000) (hl : xs.length ≤ 4398046510976) : ∀ (k i : Nat), i ≤ xs.length → xs.length - i < k → ∃ b : Bool, spindlelaw20_held.l0 k xs x n (i : Int) = some b ∧ (b = true ↔ ∃ s ∈ xs.drop i, heldIn s x n) := by
  intro k
  induction k with
  | zero => intro i _ h; omega
  | succ k ih =>
    intro i hi hk
    simp only [spindlelaw20_held.l0]
    by_cases hlt : i < xs.length
    · obtain ⟨f0, f1, _, f3⟩ := hF _ (List.getElem_mem hlt)
      obtain ⟨b, hb, hiff⟩ := ih (i + 1) (by omega) (by omega)
      have hw : wrap64 ((i : Int) + 1) = ((i + 1 : Nat) : Int) := by rw [w64 _ (by omega) (by omega)]; omega
      rw [if_pos (by omega), if_pos (by omega), rd39 xs i hlt, hw, hb, List.drop_eq_getElem_cons hlt]
      rw [u64 (xs[i].f1.length : Int) (by omega) (by omega)]
      by_cases h1 : (xs[i].f1.length : Int) ≥ n
      · rw [if_pos h1]
        by_cases h2 : x ≥ xs[i].f0
        · rw [if_pos h2, u64 (x - xs[i].f0) (by omega) (by omega), u64 ((xs[i].f1.length : Int) - n) (by omega) (by omega)]
          by_cases h3 : x - xs[i].f0 ≤ (xs[i].f1.length : Int) - n
          · rw [if_pos h3]
            exact ⟨true, rfl, ⟨fun _ => ⟨_, List.mem_cons_self, h1, h2, h3⟩, fun _ => rfl⟩⟩
          · rw [if_neg h3]
            refine ⟨b, rfl, hiff.trans ⟨fun ⟨s, hs, h⟩ => ⟨s, List.mem_cons_of_mem _ hs, h⟩, fun ⟨s, hs, h⟩ => ?_⟩⟩
            rcases List.mem_cons.1 hs with rfl | hs
            · exact absurd h.2.2 h3
            · exact ⟨s, hs, h⟩
        · rw [if_neg h2]
          refine ⟨b, rfl, hiff.trans ⟨fun ⟨s, hs, h⟩ => ⟨s, List.mem_cons_of_mem _ hs, h⟩, fun ⟨s, hs, h⟩ => ?_⟩⟩
          rcases List.mem_cons.1 hs with rfl | hs
          · exact absurd h.2.1 h2
          · exact ⟨s, hs, h⟩
      · rw [if_neg h1]
        refine ⟨b, rfl, hiff.trans ⟨fun ⟨s, hs, h⟩ => ⟨s, List.mem_cons_of_mem _ hs, h⟩, fun ⟨s, hs, h⟩ => ?_⟩⟩
        rcases List.mem_cons.1 hs with rfl | hs
        · exact absurd h.1 h1
        · exact ⟨s, hs, h⟩
    · rw [if_neg (by omega), List.drop_of_length_le (by omega)]
      exact ⟨false, rfl, ⟨fun h => (by cases h), fun ⟨_, h, _⟩ => absurd h List.not_mem_nil⟩⟩
def s39 (r : Reg) : S39 := ⟨r.first, r.data⟩
/-- held answers whether view finds -/
theorem held_ (w : World) (A : Option Addr) (c : Nat) (rs : List Reg) (x : Int) (n : Nat) (hC : Kd.C k39 w A rs.length (rs.map s39)) (hc : rs.length ≤ c) (hr : Rising rs) (hA : Apt rs) (hE : Ends rs) (hb : AllBytes rs) (hx0 : 0 ≤ x) (hx1 : x < 18446744073709551616) (hn0 : 1 ≤ n) (hn1 : n < 1000) (hl : rs.length ≤ 4398046510976) :
    Calls Try.prog 13 #[.slice A rs.length c, .int .u64 x, .int .u64 n] w fun e w' => e = .returned (.bool (viewOf rs x n).isSome) ∧ Drawn0 w w' := by
  obtain ⟨b, hbv, hiff⟩ := held_l0 (rs.map s39) x n (fun s hs => by
    obtain ⟨r, hr, rfl⟩ := List.mem_map.1 hs
    obtain ⟨e0, e1, e2, _⟩ := hE r hr
    exact ⟨e0, e1, hb r hr, e2⟩) hx0 hx1 (by omega) (by omega) (by simpa using hl) ((rs.map s39).length + 1) 0 (Nat.zero_le _) (by omega)
  have e : b = (viewOf rs x n).isSome := by
    rw [Bool.eq_iff_iff, hiff, List.drop_zero]
    constructor
    · rintro ⟨s, hs, h1, h2, h3⟩
      obtain ⟨r, hm, rfl⟩ := List.mem_map.1 hs
      obtain ⟨i, hi, rfl⟩ := List.getElem_of_mem hm
      simp only [s39] at h1 h2 h3
      obtain ⟨o, ho⟩ : ∃ o : Nat, x = rs[i].first + (o : Int) := ⟨(x - rs[i].first).toNat, by omega⟩
      subst ho
      rw [view_at rs hr hA i hi o n (by omega), if_neg (by omega)]
      rfl
    · intro h
      obtain ⟨⟨r, o⟩, hv⟩ := Option.isSome_iff_exists.1 h
      obtain ⟨h1, h2, h3⟩ := viewOf_some rs x n r o hv
      exact ⟨s39 r, List.mem_map.2 ⟨r, h1, rfl⟩, by simp only [s39]; omega, by simp only [s39]; omega, by simp only [s39]; omega⟩
  have h := spindlelaw20_held.calls ((rs.map s39).length + 1) A c (rs.map s39) x n b w (by rw [List.length_map]; exact hC) (by rw [List.length_map]; exact hc) hbv
  rw [List.length_map] at h
  rw [← e]
  exact h
theorem num_le : ∀ (n : Nat) (x : Int), 0 ≤ x → num (le n x) = x % 256 ^ n
  | 0, x, h => by simp only [le, num]; rw [Int.pow_zero, Int.emod_one]
  | n + 1, x, h => by
    simp only [le, num]
    rw [num_le n (x / 256) (Int.ediv_nonneg h (by decide)), Int.pow_succ']
    have h1 : x % (256 * 256 ^ n) = x % 256 + 256 * ((x / 256) % 256 ^ n) := by
      have hp : (0 : Int) < 256 ^ n := Int.pow_pos (by decide)
      rw [Int.emod_def x (256 * 256 ^ n), Int.emod_def (x / 256) (256 ^ n), ← Int.ediv_ediv_of_nonneg (by decide : (0 : Int) ≤ 256), Int.mul_sub, Int.mul_assoc]
      have := Int.emod_add_mul_ediv x 256
      omega
    rw [h1]
theorem storeOf_some {rs : List Reg} {x width v : Int} {rs' : List Reg} (h : storeOf rs x width v = some rs') : ∃ i o, ∃ hi : i < rs.length, viewOf rs x (wb width) = some (rs[i], o) ∧ o + wb width ≤ rs[i].data.length ∧ x = rs[i].first + (o : Int) ∧ rs' = rs.map (upd rs[i] o (le (wb width) v)) := by
  unfold storeOf at h
  split at h
  · rename_i r o hv
    obtain ⟨h1, h2, h3⟩ := viewOf_some rs x _ r o hv
    obtain ⟨i, hi, rfl⟩ := List.getElem_of_mem h1
    exact ⟨i, o, hi, hv, h2, h3, (Option.some.inj h).symm⟩
  · cases h
theorem apt_map (f : Reg → Reg) (rs : List Reg) (hf : ∀ q ∈ rs, (f q).first = q.first ∧ (f q).data.length = q.data.length) (h : Apt rs) : Apt (rs.map f) := by
  refine List.pairwise_map.2 (List.Pairwise.imp_of_mem ?_ h)
  intro a b ha hb hab h1 h2
  rw [(hf a ha).2] at h1
  rw [(hf b hb).2] at h2
  rw [(hf a ha).1, (hf a ha).2, (hf b hb).1]
  exact hab h1 h2
/-- the byte that the law wants -/
def wantOf (ok : Bool) (x kk xm a old : Int) : Int := if ok = true ∧ IntKind.u64.wrap (a - x) < kk ∧ x ≤ a then (xm / 256 ^ (a - x).toNat) % 256 else old
/-- two lists of regions before and behind a store -/
structure Pair (ok : Bool) (x kk xm : Int) (rs rs2 : List Reg) : Prop where
  len : rs2.length = rs.length
  first : ∀ i (h : i < rs.length), ∃ h2 : i < rs2.length, rs2[i].first = rs[i].first ∧ rs2[i].data.length = rs[i].data.length
  byte : ∀ i (h : i < rs.length) j (hj : j < rs[i].data.length), ∃ h2 : i < rs2.length, ∃ hj2 : j < rs2[i].data.length, rs2[i].data[j] = wantOf ok x kk xm (rs[i].first + (j : Int)) rs[i].data[j] ∧ loadOf rs2 (rs[i].first + (j : Int)) 8 = (rs2[i].data[j], 0)
theorem load_byte (rs : List Reg) (hr : Rising rs) (hA : Apt rs) (i : Nat) (hi : i < rs.length) (j : Nat) (hj : j < rs[i].data.length) : loadOf rs (rs[i].first + (j : Int)) 8 = (rs[i].data[j], 0) := by
  unfold loadOf
  rw [show wb 8 = 1 from rfl, view_at rs hr hA i hi j 1 hj, if_neg (by omega)]
  dsimp only
  rw [List.drop_eq_getElem_cons hj]
  show (rs[i].data[j] + 256 * num [], (0 : Int)) = _
  simp [num]
theorem pair_none {rs : List Reg} (hr : Rising rs) (hA : Apt rs) (x kk xm : Int) : Pair false x kk xm rs rs := by
  refine ⟨rfl, fun i h => ⟨h, rfl, rfl⟩, fun i h j hj => ⟨h, hj, ?_, load_byte rs hr hA i h j hj⟩⟩
  unfold wantOf
  rw [if_neg (by simp)]
theorem pair_some {rs rs2 : List Reg} (hr : Rising rs) (hA : Apt rs) (hE : Ends rs) (x width v : Int) (hx0 : 0 ≤ x) (hv0 : 0 ≤ v) (hs : storeOf rs x width v = some rs2) (xm : Int) (hxm : xm = v % 256 ^ (wb width)) : Pair true x (wb width : Int) xm rs rs2 ∧ loadOf rs2 x width = (xm, 0) := by
  obtain ⟨i0, o, hi0, hv, hol, hx, rfl⟩ := storeOf_some hs
  have hwb := wb_range width
  have hlb : (le (wb width) v).length = wb width := le_length _ _
  have hlen : ∀ q ∈ rs, (upd rs[i0] o (le (wb width) v) q).data.length = q.data.length := fun q hq => upd_len rs hr rs[i0] (List.getElem_mem _) o _ (by rw [hlb]; exact hol) q hq
  have hr2 : Rising (rs.map (upd rs[i0] o (le (wb width) v))) := rising_map _ (upd_first _ _ _) rs hr
  have hA2 : Apt (rs.map (upd rs[i0] o (le (wb width) v))) := apt_map _ rs (fun q hq => ⟨upd_first _ _ _ q, hlen q hq⟩) hA
  have hself : (upd rs[i0] o (le (wb width) v) rs[i0]).data = put rs[i0].data o (le (wb width) v) := by unfold upd; rw [if_pos rfl]
  refine ⟨⟨by simp, fun i h => ⟨by simpa using h, by simp [upd_first], by simpa using hlen _ (List.getElem_mem h)⟩, fun i h j hj => ?_⟩, ?_⟩
  · have h2 : i < (rs.map (upd rs[i0] o (le (wb width) v))).length := by simpa using h
    have hj2 : j < ((rs.map (upd rs[i0] o (le (wb width) v)))[i]).data.length := by
      rw [List.getElem_map, hlen _ (List.getElem_mem h)]; exact hj
    refine ⟨h2, hj2, ?_, ?_⟩
    · have hg : ((rs.map (upd rs[i0] o (le (wb width) v)))[i]).data[j]? = some (wantOf true x (wb width) xm (rs[i].first + (j : Int)) rs[i].data[j]) := by
        rw [List.getElem_map]
        obtain ⟨e0, e1, e2, e3⟩ := hE _ (List.getElem_mem h)
        obtain ⟨d0, d1, d2, d3⟩ := hE _ (List.getElem_mem hi0)
        have d3' := d3 (by omega)
        have e3' := e3 (by omega)
        by_cases hi : i = i0
        · subst hi
          rw [hself, put_get _ _ _ (by rw [hlb]; exact hol), hlb]
          unfold wantOf
          by_cases h1 : j < o
          · rw [if_pos h1, if_neg (by rintro ⟨_, _, h⟩; omega), List.getElem?_eq_getElem hj]
          · rw [if_neg h1]
            have hw : IntKind.u64.wrap (rs[i].first + (j : Int) - x) = rs[i].first + (j : Int) - x := u64 _ (by omega) (by omega)
            by_cases h2 : j < o + wb width
            · rw [if_pos h2, if_pos ⟨rfl, by rw [hw]; omega, by omega⟩, le_get _ _ _ hv0 (by omega)]
              have ed : (rs[i].first + (j : Int) - x).toNat = j - o := by omega
              rw [ed, hxm, narrow_byte (wb width) v (j - o) rfl (by omega)]
            · rw [if_neg h2, if_neg (by rintro ⟨_, h, _⟩; rw [hw] at h; omega), List.getElem?_eq_getElem hj]
        · have hne : ¬ rs[i].first = rs[i0].first := by
            intro e
            rcases Nat.lt_trichotomy i i0 with h3 | h3 | h3
            · have := rising_at rs hr i i0 h3 hi0; omega
            · exact hi h3
            · have := rising_at rs hr i0 i h3 h; omega
          have hd : (upd rs[i0] o (le (wb width) v) rs[i]).data = rs[i].data := by unfold upd; rw [if_neg hne]
          rw [hd, List.getElem?_eq_getElem hj]
          unfold wantOf
          rw [if_neg]
          rintro ⟨_, h4, h5⟩
          rw [u64 _ (by omega) (by omega)] at h4
          have hp := List.pairwise_iff_getElem.1 hA
          rcases Nat.lt_trichotomy i i0 with h3 | h3 | h3
          · have := hp i i0 h hi0 h3 (by omega) (by omega); omega
          · exact hi h3
          · have := hp i0 i hi0 h h3 (by omega) (by omega); omega
      rw [List.getElem?_eq_getElem hj2] at hg
      exact Option.some.inj hg
    · have := load_byte _ hr2 hA2 i h2 j hj2
      rw [← this]
      simp only [List.getElem_map, upd_first]
  · have h2 : i0 < (rs.map (upd rs[i0] o (le (wb width) v))).length := by simpa using hi0
    have hv2 := view_at _ hr2 hA2 i0 h2 o (wb width) (by rw [List.getElem_map, hlen _ (List.getElem_mem hi0)]; omega)
    rw [List.getElem_map, upd_first, ← hx, hlen _ (List.getElem_mem hi0), if_neg (by omega)] at hv2
    unfold loadOf
    rw [hv2]
    dsimp only
    rw [hself]
    have e : ((put rs[i0].data o (le (wb width) v)).drop o).take (wb width) = le (wb width) v := by
      unfold put
      rw [List.append_assoc, List.drop_append_of_le_length (by simp; omega), List.drop_take_self, List.nil_append]
      rw [List.take_append_of_le_length (by omega), List.take_of_length_le (by omega)]
    rw [e, num_le _ _ hv0, hxm]
theorem load_none {rs : List Reg} {x width v : Int} (h : storeOf rs x width v = none) : loadOf rs x width = (0, 200) := by
  unfold storeOf at h
  unfold loadOf
  split at h
  · cases h
  · rename_i hv
    rw [hv]
theorem store_held {rs : List Reg} {x width v : Int} : (viewOf rs x (wb width)).isSome = (storeOf rs x width v).isSome := by
  unfold storeOf
  cases viewOf rs x (wb width) <;> rfl
theorem Outs.only {w w' : World} {base : Nat} {v : Value} {os : List Out} (h : Outs w base v os) {d : Nat} (hO : Only w w' d) (hd : d < base) : Outs w' base v os := by
  refine ⟨⟨h.1.1, ?_⟩, fun o ho => ⟨?_, (h.2 o ho).2⟩⟩
  · rcases h.1.2 with hn | ⟨g, cap, cur, hv, hg, hh, rest⟩
    · exact .inl hn
    · exact .inr ⟨g, cap, cur, hv, hg, (hO.block g (by omega)).trans hh, rest⟩
  · obtain ⟨h1, h2⟩ := h.2 o ho
    refine ⟨h1.len, h1.small, fun hp => ?_⟩
    obtain ⟨d2, cs, e, hb, hl, hc⟩ := h1.row hp
    have := h2 hp d2 e
    exact ⟨d2, cs, e, hO.blk hb (by omega), hl, hc⟩
theorem outs_rs {os : List Out} {rs : List Reg} (h : os.map (fun o => (o.first, o.data)) = rs.map toOut) : os.length = rs.length ∧ os.map (fun o => (⟨o.first, o.data⟩ : S39)) = rs.map s39 := by
  have h1 := congrArg List.length h
  simp at h1
  refine ⟨h1, ?_⟩
  have h2 := congrArg (List.map fun p : Int × List Int => (⟨p.1, p.2⟩ : S39)) h
  simp only [List.map_map] at h2
  exact h2
end Go.Proofs.Ythmeojeehemlaaa.Mem
