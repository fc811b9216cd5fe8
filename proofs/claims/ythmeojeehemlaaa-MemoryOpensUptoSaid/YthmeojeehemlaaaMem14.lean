/- Package memory: what find and view answer in a space that New made: the plain law. Written by this session. -/
import Derived.Test.YthmeojeehemlaaaMem13
namespace Go.Proofs.Ythmeojeehemlaaa.Mem
open Go.RowKit Go.Proofs.YthmeojeehemlaaaW.PrintWords
open Go.Proofs.Ythmeojeehemlaaa.PM
set_option linter.unusedVariables false
set_option linter.unusedSimpArgs false
/-- regions with bytes do not overlap -/
def Apt (rs : List Reg) : Prop := rs.Pairwise fun a b => 0 < a.data.length → 0 < b.data.length → a.first + (a.data.length : Int) ≤ b.first
def Ends (rs : List Reg) : Prop := ∀ r ∈ rs, 0 ≤ r.first ∧ r.first < 18446744073709551616 ∧ r.data.length ≤ 140737488355328 ∧ (0 < r.data.length → r.first + (r.data.length : Int) ≤ 18446744073709551616)
theorem full_iff (r : Reg) : full r = true ↔ 0 < r.data.length := by unfold full; simp
theorem fullDown_split (rs : List Reg) (n : Nat) (r : Reg) (h : fullDown rs n = some r) : ∃ pre post, rs.take n = pre ++ r :: post ∧ 0 < r.data.length ∧ ∀ q ∈ post, ¬ 0 < q.data.length := by
  unfold fullDown at h
  rw [List.find?_eq_some_iff_append] at h
  obtain ⟨hf, l1, l2, he, hn⟩ := h
  refine ⟨l2.reverse, l1.reverse, ?_, (full_iff r).1 hf, fun q hq hc => ?_⟩
  · have := congrArg List.reverse he
    rw [List.reverse_reverse] at this
    rw [this]; simp
  · have := hn q (List.mem_reverse.1 hq)
    rw [(full_iff q).2 hc] at this
    cases this
theorem fullDown_nothing (rs : List Reg) (n : Nat) (h : fullDown rs n = none) : ∀ q ∈ rs.take n, ¬ 0 < q.data.length := by
  intro q hq hc
  unfold fullDown at h
  rw [List.find?_eq_none] at h
  exact h q (List.mem_reverse.2 hq) ((full_iff q).2 hc)
theorem fullUp_split (rs : List Reg) (n : Nat) (r : Reg) (h : fullUp rs n = some r) : ∃ pre post, rs.drop n = pre ++ r :: post ∧ 0 < r.data.length ∧ ∀ q ∈ pre, ¬ 0 < q.data.length := by
  unfold fullUp at h
  rw [List.find?_eq_some_iff_append] at h
  obtain ⟨hf, l1, l2, he, hn⟩ := h
  refine ⟨l1, l2, he, (full_iff r).1 hf, fun q hq hc => ?_⟩
  have := hn q hq
  rw [(full_iff q).2 hc] at this
  cases this
theorem fullUp_nothing (rs : List Reg) (n : Nat) (h : fullUp rs n = none) : ∀ q ∈ rs.drop n, ¬ 0 < q.data.length := by
  intro q hq hc
  unfold fullUp at h
  rw [List.find?_eq_none] at h
  exact h q hq ((full_iff q).2 hc)
theorem wlast_eq (f : Int) (n : Nat) (h0 : 0 ≤ f) (hn : 0 < n) (h : f + (n : Int) ≤ 18446744073709551616) : wlast f n = f + n - 1 := by
  unfold wlast; rw [IntKind.wrap_u64]; exact Int.emod_eq_of_lt (by omega) (by omega)
theorem wlast_fits (f : Int) (n : Nat) (h0 : 0 ≤ f) (h1 : f < 18446744073709551616) (hn : 0 < n) (hs : n ≤ 140737488355328) (h : ¬ wlast f n < f) : f + (n : Int) ≤ 18446744073709551616 := by
  unfold wlast at h; rw [IntKind.wrap_u64] at h; omega
theorem good_ins (rs : List Reg) (rg : Reg) (hA : Apt rs) (hE : Ends rs) (hm : mayAdd rs rg.first rg.data = true) (h0 : 0 ≤ rg.first) (h1 : rg.first < 18446744073709551616) (hs : rg.data.length ≤ 140737488355328) : Apt (ins rs (place rs rg.first) rg) ∧ Ends (ins rs (place rs rg.first) rg) := by
  unfold mayAdd at hm
  rw [Bool.and_eq_true] at hm
  obtain ⟨_, hm⟩ := hm
  have hT : (rs.take (place rs rg.first)).Pairwise _ := hA.sublist (List.take_sublist _ _)
  have hD : (rs.drop (place rs rg.first)).Pairwise _ := hA.sublist (List.drop_sublist _ _)
  have hX := hA
  unfold Apt at hX
  rw [← List.take_append_drop (place rs rg.first) rs, List.pairwise_append] at hX
  have key : (0 < rg.data.length → rg.first + (rg.data.length : Int) ≤ 18446744073709551616) ∧ (∀ a ∈ rs.take (place rs rg.first), 0 < a.data.length → 0 < rg.data.length → a.first + (a.data.length : Int) ≤ rg.first) ∧ (∀ b ∈ rs.drop (place rs rg.first), 0 < rg.data.length → 0 < b.data.length → rg.first + (rg.data.length : Int) ≤ b.first) := by
    rcases Nat.eq_zero_or_pos rg.data.length with hz | hp
    · exact ⟨fun h => by omega, fun _ _ _ h => by omega, fun _ _ h => by omega⟩
    · have he : rg.data.isEmpty = false := by
        cases hd : rg.data with
        | nil => rw [hd] at hp; simp at hp
        | cons _ _ => rfl
      rw [he, Bool.false_or, Bool.and_eq_true, Bool.and_eq_true] at hm
      obtain ⟨⟨hw, ha⟩, hb⟩ := hm
      have hw' : ¬ wlast rg.first rg.data.length < rg.first := by simpa using hw
      have hend := wlast_fits _ _ h0 h1 hp hs hw'
      have hwl := wlast_eq _ _ h0 hp hend
      refine ⟨fun _ => hend, fun a ha1 hal _ => ?_, fun b hb1 _ hbl => ?_⟩
      · cases hfd : fullDown rs (place rs rg.first) with
        | none => exact absurd hal (fullDown_nothing _ _ hfd a ha1)
        | some A =>
          obtain ⟨pre, post, hsp, hAl, hpost⟩ := fullDown_split _ _ _ hfd
          unfold aheadBad at ha
          rw [hfd] at ha
          have hA1 : ¬ rg.first ≤ wlast A.first A.data.length := by simpa using ha
          have hAm : A ∈ rs := List.mem_of_mem_take (by rw [hsp]; simp)
          obtain ⟨e0, e1, e2, e3⟩ := hE A hAm
          rw [wlast_eq _ _ e0 hAl (e3 hAl)] at hA1
          rw [hsp] at ha1 hT
          rcases List.mem_append.1 ha1 with h | h
          · have := (List.pairwise_append.1 hT).2.2 a h A List.mem_cons_self hal hAl
            omega
          · rcases List.mem_cons.1 h with rfl | h
            · omega
            · exact absurd hal (hpost a h)
      · cases hfu : fullUp rs (place rs rg.first) with
        | none => exact absurd hbl (fullUp_nothing _ _ hfu b hb1)
        | some C =>
          obtain ⟨pre, post, hsp, hCl, hpre⟩ := fullUp_split _ _ _ hfu
          unfold behindBad at hb
          rw [hfu] at hb
          have hC1 : ¬ C.first ≤ wlast rg.first rg.data.length := by simpa using hb
          rw [hwl] at hC1
          rw [hsp] at hb1 hD
          rcases List.mem_append.1 hb1 with h | h
          · exact absurd hbl (hpre b h)
          · rcases List.mem_cons.1 h with rfl | h
            · omega
            · have := (List.pairwise_cons.1 (List.pairwise_append.1 hD).2.1).1 b h hCl hbl
              omega
  refine ⟨?_, fun q hq => ?_⟩
  · unfold Apt ins
    rw [List.pairwise_append]
    refine ⟨hT, List.pairwise_cons.2 ⟨fun b hb => key.2.2 b hb, hD⟩, fun a ha b hb => ?_⟩
    rcases List.mem_cons.1 hb with rfl | hb
    · exact key.2.1 a ha
    · exact hX.2.2 a ha b hb
  · rcases (mem_ins _ _ _ q).1 hq with rfl | hq
    · exact ⟨h0, h1, hs, key.1⟩
    · exact hE q hq
theorem adds_good {xs : List S39} {rs : List Reg} (h : Adds xs rs) (hF : ∀ x ∈ xs, Fits x) : Apt rs ∧ Ends rs := by
  induction h with
  | nil => exact ⟨List.Pairwise.nil, fun _ h => absurd h List.not_mem_nil⟩
  | @snoc xs rs x rg _ hm h1 h2 ih =>
    obtain ⟨iA, iE⟩ := ih (fun y hy => hF y (List.mem_append_left _ hy))
    obtain ⟨f0, f1, _, f3⟩ := hF x (by simp)
    rw [← h1, ← h2] at hm
    rw [← h1]
    exact good_ins rs rg iA iE hm (by rw [h1]; exact f0) (by rw [h1]; exact f1) (by rw [h2]; exact f3)
theorem fullDown_eq (rs : List Reg) (i : Nat) (hi : i < rs.length) (hf : 0 < rs[i].data.length) : ∀ n, i < n → (∀ j (hj : j < rs.length), i < j → j < n → ¬ 0 < rs[j].data.length) → fullDown rs n = some rs[i] := by
  intro n
  induction n with
  | zero => intro h; omega
  | succ n ih =>
    intro h hno
    by_cases hn : n < rs.length
    · rw [fullDown_succ rs n hn]
      by_cases he : i = n
      · subst he
        rw [if_pos ((full_iff _).2 hf)]
      · have h2 := hno n hn (by omega) (by omega)
        rw [if_neg (fun h3 => h2 ((full_iff _).1 h3))]
        exact ih (by omega) (fun j hj h4 h5 => hno j hj h4 (by omega))
    · have e : fullDown rs (n + 1) = fullDown rs n := by
        unfold fullDown
        rw [List.take_of_length_le (by omega), List.take_of_length_le (by omega)]
      rw [e]
      exact ih (by omega) (fun j hj h4 h5 => hno j hj h4 (by omega))
theorem upTo_le_x (rs : List Reg) (x : Int) (j : Nat) (hj : j < rs.length) (h : j < upTo rs x) : rs[j].first ≤ x := by
  unfold upTo at h
  split at h
  · rename_i hh
    obtain ⟨h1, _, h2⟩ := hh
    by_cases hc : j < place rs x
    · have := place_below rs x j hj hc; omega
    · obtain rfl : j = place rs x := by omega
      omega
  · have := place_below rs x j hj h; omega
theorem fullDown_at (rs : List Reg) (hr : Rising rs) (hA : Apt rs) (i : Nat) (hi : i < rs.length) (o : Nat) (ho : o < rs[i].data.length) : fullDown rs (upTo rs (rs[i].first + (o : Int))) = some rs[i] := by
  refine fullDown_eq rs i hi (by omega) _ ?_ (fun j hj hij hju hjl => ?_)
  · by_cases hz : o = 0
    · subst hz
      have hp : place rs (rs[i].first + ((0 : Nat) : Int)) = i := place_unique rs _ i (by omega) (fun t ht hti => by have := rising_at rs hr t i hti hi; omega) (fun h => by omega)
      have : upTo rs (rs[i].first + ((0 : Nat) : Int)) = i + 1 := by
        unfold upTo
        rw [if_pos ⟨by rw [hp]; exact hi, by simp only [hp]; exact (full_iff _).2 (by omega), by simp only [hp]; omega⟩, hp]
      omega
    · have hp : i < place rs (rs[i].first + (o : Int)) := by
        rcases Nat.lt_or_ge i (place rs (rs[i].first + (o : Int))) with h | h
        · exact h
        · have h1 := place_at rs (rs[i].first + (o : Int)) (by omega)
          rcases Nat.lt_or_ge (place rs (rs[i].first + (o : Int))) i with h2 | h2
          · have := rising_at rs hr _ i h2 hi; omega
          · have e : place rs (rs[i].first + (o : Int)) = i := by omega
            simp only [e] at h1
            omega
      unfold upTo
      split <;> omega
  · have h1 := upTo_le_x rs _ j hj hju
    have h2 := List.pairwise_iff_getElem.1 hA i j hi hj hij (by omega) hjl
    omega
/-- view finds a byte's region -/
theorem view_at (rs : List Reg) (hr : Rising rs) (hA : Apt rs) (i : Nat) (hi : i < rs.length) (o n : Nat) (ho : o < rs[i].data.length) : viewOf rs (rs[i].first + (o : Int)) n = if rs[i].data.length - o < n then none else some (rs[i], o) := by
  unfold viewOf
  rw [fullDown_at rs hr hA i hi o ho]
  dsimp only
  rw [if_neg (by omega)]
  by_cases h : rs[i].data.length - o < n
  · rw [if_pos (by omega), if_pos h]
  · rw [if_neg (by omega), if_neg h, show (rs[i].first + (o : Int) - rs[i].first).toNat = o by omega]
theorem Dat.C {w : World} {A : Option Addr} {c : Nat} {l : List Int} (h : Dat w A c l) : Kd.C (Kd.int .u8) w A l.length l := by
  have hs := h.small
  have hlen := h.len
  refine ⟨rfl, by omega, fun hp => ?_⟩
  obtain ⟨d, cs, hA, hb, _, hc⟩ := h.row hp
  refine ⟨⟨d, 0, none⟩, hA, fun j p hj => ⟨[.int .u8 p], rfl, rfl, fun i u hu => ?_⟩⟩
  have hi : i = 0 := by
    have := (List.getElem?_eq_some_iff.1 hu).1
    simpa using this
  subst hi
  have hu' : Value.int .u8 p = u := by simpa using hu
  subst hu'
  obtain ⟨hjn, hp2⟩ := List.getElem?_eq_some_iff.1 hj
  have ad : (⟨d, 0, none⟩ : Addr).add (j * (Kd.int .u8).sz + 0) = ⟨d, j, none⟩ := by
    show (⟨d, 0, none⟩ : Addr).add (j * 1 + 0) = ⟨d, j, none⟩
    unfold Addr.add; split <;> simp_all
  rw [ad, hb.cell j, hc j hjn, hp2]
theorem outCells_get : ∀ (os : List Out) (j : Nat) (o : Out) (i : Nat), os[j]? = some o → i < 2 → (outCells os)[j * 2 + i]? = ([.int .u64 o.first, .slice o.A o.data.length o.cap] : List Value)[i]?
  | [], j, o, i, h, _ => by simp at h
  | q :: os, 0, o, i, h, hi => by
    have e : q = o := by simpa using h
    subst e
    show ([Value.int .u64 q.first, Value.slice q.A q.data.length q.cap] ++ outCells os)[0 * 2 + i]? = _
    rw [Nat.zero_mul, Nat.zero_add, List.getElem?_append_left (by simpa using hi)]
  | q :: os, j + 1, o, i, h, hi => by
    show ([Value.int .u64 q.first, Value.slice q.A q.data.length q.cap] ++ outCells os)[(j + 1) * 2 + i]? = _
    rw [List.getElem?_append_right (by simp; omega)]
    have := outCells_get os j o i (by simpa using h) hi
    rw [← this]
    congr 1; simp; omega
/-- Regions' list as the laws read it -/
theorem Outs.C {w : World} {base : Nat} {v : Value} {os : List Out} (h : Outs w base v os) (hbig : os.length < 9223372036854775808) : ∃ A c, v = .slice A os.length c ∧ os.length ≤ c ∧ Kd.C k39 w A os.length (os.map fun o => (⟨o.first, o.data⟩ : S39)) := by
  obtain ⟨⟨hl, h2⟩, hd⟩ := h
  rcases h2 with ⟨rfl, h0⟩ | ⟨g, cap, cur, rfl, _, hh, hnc, _, hsz, ht⟩
  · rw [h0]
    exact ⟨none, 0, rfl, Nat.le_refl _, ⟨by simpa using h0, by omega, fun h => absurd h (by omega)⟩⟩
  · refine ⟨_, cap, rfl, hnc, ⟨by simp, by omega, fun hp => ⟨⟨g, 0, none⟩, rfl, fun j p hj => ?_⟩⟩⟩
    rw [List.getElem?_map] at hj
    obtain ⟨o, ho, rfl⟩ := Option.map_eq_some_iff.1 hj
    have hdo := (hd o (List.mem_of_getElem? ho)).1
    refine ⟨[.int .u64 o.first, .slice o.A o.data.length o.cap], rfl, k39_mk w ⟨o.first, o.data⟩ hdo.len hdo.C, fun i u hu => ?_⟩
    have hi : i < 2 := by
      have := (List.getElem?_eq_some_iff.1 hu).1
      simpa using this
    have hj' : j < os.length := (List.getElem?_eq_some_iff.1 ho).1
    have ad : (⟨g, 0, none⟩ : Addr).add (j * k39.sz + i) = ⟨g, j * 2 + i, none⟩ := by
      show (⟨g, 0, none⟩ : Addr).add (j * 2 + i) = ⟨g, j * 2 + i, none⟩
      unfold Addr.add; split <;> simp_all
    have hb : Blk w g 39 cur := hh
    have e1 : (cur.toList.take (os.length * 2))[j * 2 + i]? = some u := by
      rw [ht, outCells_get os j o i ho hi]; exact hu
    rw [List.getElem?_take] at e1
    rw [ad, hb.cell]
    split at e1
    · simpa using e1
    · cases e1
/-- told -/
theorem told_ (B : Nat) (w : World) (s : Nat) (rs : List Reg) (h : St B w s rs) (hd : ∀ r ∈ rs, r.data.length ≤ 140737488355328) :
    Calls Try.prog 10 #[.pointer (some ⟨s, 0, none⟩)] w fun e w' => ∃ v os, e = .returned (.tuple #[v, .bool true]) ∧ Outs w' w.heap.size v os ∧ os.map (fun o => (o.first, o.data)) = rs.map toOut ∧ Below w.heap.size w w' := by
  have HST := Lib.hid h
  have HD := Lib.hid hd
  clear h hd
  go_enter Try.func10, Try.ntmps10
  go_wp2_with (go_at_call 22; refine (regions_ B _ s rs HST.out HD.out).mono ?_; rintro e w' ⟨v, os, rfl, ho, he, hb⟩; have HO := Lib.hid ho; have HE := Lib.hid he; have HB := Lib.hid hb; clear ho he hb)
  go_ret2
  exact ⟨v, os, rfl, HO.out, HE.out, HB.out⟩
end Go.Proofs.Ythmeojeehemlaaa.Mem
