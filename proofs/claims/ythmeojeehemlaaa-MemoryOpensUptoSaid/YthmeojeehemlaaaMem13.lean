/- Package memory: Regions. Written by this session. -/
import Derived.Test.YthmeojeehemlaaaMem12
import Derived.Deep.RegionLaw
namespace Go.Proofs.Ythmeojeehemlaaa.Mem
open Go.RowKit Go.Proofs.YthmeojeehemlaaaW.PrintWords
open Go.Proofs.Ythmeojeehemlaaa.PM
set_option linter.unusedVariables false
set_option linter.unusedSimpArgs false
attribute [local go_sem] isSome_setCell
/-- an element of the list that Regions makes: first, the data's address, its room, the bytes -/
structure Out where
  first : Int
  A : Option Addr
  cap : Nat
  data : List Int
def outCells (os : List Out) : List Value := os.flatMap fun o => [.int .u64 o.first, .slice o.A o.data.length o.cap]
def Outs (w : World) (base : Nat) (v : Value) (os : List Out) : Prop :=
  w.ownsRow base 39 2 v os.length (outCells os) ∧ ∀ o ∈ os, Dat w o.A o.cap o.data ∧ (0 < o.data.length → ∀ d, o.A = some ⟨d, 0, none⟩ → base ≤ d)
theorem reg_C {w : World} {r : Reg} (h : RegAt w r) : Kd.C (Kd.int .u8) w r.A r.data.length r.data := by
  have h1 := view_C h 0 r.data.length (by omega)
  have e : (r.A.map fun a => a.add 0) = r.A := by
    cases r.A with
    | none => rfl
    | some a => simp [Addr.add]
  rw [e, List.drop_zero, List.take_length] at h1
  exact h1
theorem step_append_own {P : Program} {ops : Array Oper} {o : Oper} {a : Act} {w : World} {K : Act → World → Prop} {Q : Exit → Act → World → Prop} {E : Prop}
    (hg : o.guard = none) (s x : Operand) (t : TypeId) (ho : o.op = .call { callee := .builtin .append, args := #[s, x], argTypes := #[t, t] })
    (base : Nat) (e : TypeId) (i : TypeInfo) (z : Value) (size bytes : Nat) (ht : P.underlying t = some (.slice e)) (hi : P.info? e = some i) (hz : i.zero = some z)
    (hsize : i.size = size) (hby : i.bytes = bytes) (hzs : z.cells.size = size) (hsz : 0 < size)
    (v : Value) (n : Nat) (xs : List Value) (hs : a.eval s = v) (hown : w.ownsRow base e size v n xs)
    (ad : Addr) (m c : Nat) (news : List Value) (hx : a.eval x = .slice (some ad) m c) (hl : news.length = m * size) (hnews : ∀ j u, news[j]? = some u → w.cell? (ad.add j) = some u) (h1 : ∀ u ∈ news, u.oneCell' = true)
    (h63 : n + m ≤ maxLen) (hbytes : (n + m) * bytes ≤ 140737488355328) (hbase : base ≤ w.heap.size)
    (h : ∀ v' w', w'.ownsRow base e size v' (n + m) (xs ++ news) → w.grownBy w' v.ownBlock → (v' = .slice none 0 0 ↔ v = .slice none 0 0 ∧ m = 0) → K (a.put o.dst v') w') :
    if Region.wanted o (yielded ops a.tmps) = true then Oper.wp P o a w K Q else E := by
  have hw : Region.wanted o (yielded ops a.tmps) = true := by simp [Region.wanted, hg]
  rw [if_pos hw]
  exact wp_append_own w s x t ho base e i z size bytes ht hi hz hsize hby hzs hsz v n xs hs hown ad m c news hx hl hnews h1 h63 hbytes hbase h
theorem ownsRow_below {w w' : World} {base e size : Nat} {v : Value} {n : Nat} {xs : List Value} (h : w.ownsRow base e size v n xs) (hb : Below w.heap.size w w') : w'.ownsRow base e size v n xs := by
  refine ⟨h.1, ?_⟩
  rcases h.2 with hn | ⟨g, cap, cur, hv, hg, hh, rest⟩
  · exact .inl hn
  · exact .inr ⟨g, cap, cur, hv, hg, (hb.block g (Array.getElem?_eq_some_iff.1 hh).1).trans hh, rest⟩
theorem Dat.below {w w' : World} {A : Option Addr} {c : Nat} {l : List Int} (h : Dat w A c l) (hb : Below w.heap.size w w') : Dat w' A c l := by
  refine ⟨h.len, h.small, fun hp => ?_⟩
  obtain ⟨d, cs, e, hd, hl, hc⟩ := h.row hp
  exact ⟨d, cs, e, hd.below hb hd.lt, hl, hc⟩
theorem Outs.below {w w' : World} {base : Nat} {v : Value} {os : List Out} (h : Outs w base v os) (hb : Below w.heap.size w w') : Outs w' base v os :=
  ⟨ownsRow_below h.1 hb, fun o ho => ⟨(h.2 o ho).1.below hb, (h.2 o ho).2⟩⟩
theorem new_cells (w : World) (f : Int) (v : Value) (t : TypeId) : ∀ j u, ([.int .u64 f, v] : List Value)[j]? = some u → (w.alloc (.cells #[.int .u64 f, v] t)).cell? ((⟨w.heap.size, 0, none⟩ : Addr).add j) = some u := by
  intro j u hj
  have e : (⟨w.heap.size, 0, none⟩ : Addr).add j = ⟨w.heap.size, j, none⟩ := by unfold Addr.add; split <;> simp_all
  rw [e, (Blk.new w t #[.int .u64 f, v]).cell j]
  simpa using hj
theorem one_cells (f : Int) {A : Option Addr} {n c : Nat} : ∀ u ∈ ([.int .u64 f, .slice A n c] : List Value), u.oneCell' = true := by
  intro u hu
  rcases List.mem_cons.1 hu with rfl | hu
  · rfl
  · rw [List.mem_singleton.1 hu]; rfl
theorem base_le {w wr w' : World} (hB : Below w.heap.size w wr) (hb : Below wr.drew.heap.size wr.drew w') (o : Obj) : w.heap.size ≤ (w'.alloc o).heap.size := by
  have h1 := hB.size
  have h2 : wr.heap.size ≤ w'.heap.size := hb.size
  show w.heap.size ≤ (w'.heap.push o).size
  rw [Array.size_push]
  omega
theorem outs_step {w wr w' w2 : World} {v v' : Value} {os : List Out} {f : Int} {A' : Option Addr} {c' : Nat} {l : List Int} (hO : Outs w' w.heap.size v os) (hD : Dat w' A' c' l) (hfr : 0 < l.length → ∀ d, A' = some ⟨d, 0, none⟩ → wr.drew.heap.size ≤ d) (hB : Below w.heap.size w wr) (hb : Below wr.drew.heap.size wr.drew w')
    (ho : w2.ownsRow w.heap.size 39 2 v' (os.length + 1) (outCells os ++ [.int .u64 f, .slice A' l.length c'])) (hg : (w'.alloc (.cells #[.int .u64 f, .slice A' l.length c'] 39)).grownBy w2 v.ownBlock) :
    Outs w2 w.heap.size v' (os ++ [⟨f, A', c', l⟩]) ∧ Below w.heap.size w w2 := by
  have hsz : w.heap.size ≤ wr.heap.size := hB.size
  have b1 : Below w.heap.size w w' := (below_drew hB).trans (hb.mono hsz)
  have hO1 := hO.below (below_push (Nat.le_refl _) (Below.refl w'.heap.size w') (.cells #[.int .u64 f, .slice A' l.length c'] 39))
  have hD1 := hD.below (below_push (Nat.le_refl _) (Below.refl w'.heap.size w') (.cells #[.int .u64 f, .slice A' l.length c'] 39))
  have b2 : Below w.heap.size w (w'.alloc (.cells #[.int .u64 f, .slice A' l.length c'] 39)) := below_push b1.size b1 _
  have hdat : ∀ A c l, Dat (w'.alloc (.cells #[.int .u64 f, .slice A' l.length c'] 39)) A c l → True := fun _ _ _ _ => trivial
  have keep : ∀ A2 c2 l2, Dat (w'.alloc (.cells #[.int .u64 f, .slice A' l.length c'] 39)) A2 c2 l2 → Dat w2 A2 c2 l2 := by
    intro A2 c2 l2 h
    refine ⟨h.len, h.small, fun hp => ?_⟩
    obtain ⟨d, cs, e, hd, hl, hc⟩ := h.row hp
    refine ⟨d, cs, e, ?_, hl, hc⟩
    unfold Blk
    rw [hg.block d hd.lt ?_]
    · exact hd
    · intro e2
      rcases hO1.1.2 with ⟨hv, _⟩ | ⟨g, cap, cur, hv, _, hh, _⟩
      · rw [hv] at e2; cases e2
      · rw [hv] at e2
        have e3 : d = g := by simpa [Value.ownBlock] using e2
        subst e3
        exact absurd (Blk.uniq hd hh) (by decide)
  refine ⟨⟨by simpa [outCells, List.flatMap_append] using ho, fun o hm => ?_⟩, ?_⟩
  · rcases List.mem_append.1 hm with h | h
    · exact ⟨keep _ _ _ (hO1.2 o h).1, (hO1.2 o h).2⟩
    · rw [List.mem_singleton.1 h]
      refine ⟨keep _ _ _ hD1, fun hp d hd => ?_⟩
      have := hfr hp d hd
      exact Nat.le_trans hsz this
  · exact b2.grown hg (by have := b2.size; omega) (fun k hk => (hO1.1.lt k hk).1)
def toOut (r : Reg) : Int × List Int := (r.first, r.data)
set_option maxHeartbeats 2000000 in
set_option maxRecDepth 100000 in
theorem regions_ (B : Nat) (w : World) (s : Nat) (rs : List Reg) (h : St B w s rs) (hd : ∀ r ∈ rs, r.data.length ≤ 140737488355328) :
    Calls Try.prog 22 #[.pointer (some ⟨s, 0, none⟩)] w fun e w' => ∃ v os, e = .returned (.tuple #[v, .int .i64 0]) ∧ Outs w' w.heap.size v os ∧ os.map (fun o => (o.first, o.data)) = rs.map toOut ∧ Below w.heap.size w w' := by
  obtain ⟨P, cap, hsp, hrow, hPB⟩ := h.sp
  have cs0 := hsp.cell 0
  simp only [List.getElem?_toArray, List.getElem?_cons_zero] at cs0
  have HST := Lib.hid h
  have HROW := Lib.hid hrow
  have HD := Lib.hid hd
  obtain ⟨n, hn⟩ : ∃ n, n = rs.length := ⟨_, rfl⟩
  have hn2 : n < 4398046511104 := by rw [hn]; exact hrow.big
  rw [← hn] at cs0
  have HN := Lib.hid hn
  clear hsp hrow hPB h hd hn
  obtain ⟨i0, hi, hz0, hz1, hz2⟩ := info_parts (P := Try.prog) (e := 39) (z := .agg #[.int .u64 0, .slice none 0 0]) (size := 2) (bytes := 32) (by kernel_rfl)
  go_enter Try.func22, Try.ntmps22
  go_wp2
  go_loopw [4, 14] (fun v i wr => ∃ (k : Nat) (os : List Out), k ≤ n ∧ i = .int .i64 (k : Int) ∧ Hid (Outs wr w.heap.size v os) ∧ Hid (os.map (fun o => (o.first, o.data)) = (rs.take k).map toOut) ∧ Hid (Below w.heap.size w wr)) (fun _ i _ => n - (RowKit.intOf i).toNat)
  case atStart => exact ⟨0, [], Nat.zero_le _, rfl, Lib.hid ⟨⟨rfl, .inl ⟨rfl, rfl⟩⟩, fun _ h => absurd h List.not_mem_nil⟩, Lib.hid rfl, Lib.hid (Below.refl _ _)⟩
  case round =>
    obtain ⟨k, os, hk, rfl, hO, hE, hB⟩ := hrel
    by_cases hlt : k < n
    · obtain ⟨p, hP, c0, hreg⟩ := (HROW.out.below hB.out).at_ k (by rw [← HN.out]; exact hlt)
      subst hP
      obtain ⟨R, hR⟩ : ∃ R, R = rs[k]'(by rw [← HN.out]; exact hlt) := ⟨_, rfl⟩
      rw [← hR] at c0 hreg
      have c1 := hreg.f
      have c2 := hreg.d
      have HREG := Lib.hid hreg
      have HDL := Lib.hid (show R.data.length ≤ 140737488355328 from HD.out R (by rw [hR]; exact List.getElem_mem _))
      have HR := Lib.hid (show ∃ h : k < rs.length, rs[k] = R from ⟨by rw [← HN.out]; exact hlt, hR.symm⟩)
      have HC := Lib.hid (show Kd.C (Kd.int .u8) wr R.A R.data.length R.data from reg_C hreg)
      have HOL := Lib.hid (show os.length < 4398046511104 by
        have h1 := congrArg List.length hE.out
        simp at h1
        omega)
      clear hreg hR
      go_wp2
      refine Code.wp_mono (Q := Norm fun a W => ∃ v' A' c' g, a = { tmps := #[Value.pointer (some ⟨s, 0, none⟩), undef, Value.slice none 0 0, Value.int IntKind.i64 0, v', undef, Value.pointer (some ⟨R.b, 0, none⟩), Value.pointer (some ⟨s, 0, none⟩), Value.bool false, Value.pointer (some ⟨s, 0, none⟩), Value.pointer (some ⟨s, 0, none⟩), Value.pointer (some ⟨s, 0, none⟩), Value.slice (some ⟨p, 0, none⟩) n cap, Value.int IntKind.i64 (n : Int), Value.int IntKind.i64 (k : Int), Value.bool true, Value.pointer (some ⟨p, k, none⟩), Value.pointer (some ⟨R.b, 0, none⟩), u4, Value.pointer (some ⟨R.b, 0, none⟩), Value.pointer (some ⟨R.b, 0, none⟩), Value.pointer (some ⟨R.b, 0, none⟩), Value.int IntKind.u64 R.first, Value.pointer (some ⟨R.b, 0, none⟩), Value.pointer (some ⟨R.b, 0, none⟩), Value.pointer (some ⟨R.b, 1, none⟩), Value.slice R.A R.data.length R.cap, Value.slice A' R.data.length c', Value.agg #[Value.int IntKind.u64 R.first, Value.slice A' R.data.length c'], Value.slice (some ⟨g, 0, none⟩) 1 1, v', u31, undef], defers := [] } ∧ Hid (Outs W w.heap.size v' (os ++ [⟨R.first, A', c', R.data⟩])) ∧ Hid (Below w.heap.size w W)) ?_ ?_
      rotate_left
      · go_region_law (first | (go_simp; go_at_call 57; go_wp2_with (go_at_call 57; refine (cloneAny_ _ R.A _ _ R.data (Kd.C_drewN HC.out 1) HDL.out).mono ?_; rintro e w' ⟨A', c', rfl, hd, hb, hfr⟩; have cr0 := ((HREG.out.blk.drew).below hb HREG.out.blk.lt).cell 0; simp only [List.getElem?_toArray, List.getElem?_cons_zero] at cr0; have HDT := Lib.hid hd; have HBL := Lib.hid hb; have HFR := Lib.hid hfr; have HO2 := Lib.hid (hO.out.below ((below_drew (Below.refl _ wr)).trans hb)); clear hd hb hfr)) | (refine step_append_own rfl (.tmp 18) (.tmp 29) 22 rfl w.heap.size 39 i0 (.agg #[.int .u64 0, .slice none 0 0]) 2 32 Try.underlying22 hi hz0 hz1 hz2 rfl (by decide) u4 os.length (outCells os) rfl (ownsRow_below HO2.out.1 (below_push (Nat.le_refl _) (Below.refl _ _) _)) ⟨w'.heap.size, 0, none⟩ 1 1 [.int .u64 R.first, .slice A' R.data.length c'] rfl rfl (new_cells _ _ _ _) (one_cells _) (by have := HOL.out; unfold maxLen; omega) (by have := HOL.out; omega) (base_le hB.out HBL.out _) ?_; intro v' w2 ho hgr hni; have HW2 := Lib.hid (outs_step HO2.out HDT.out HFR.out hB.out HBL.out ho hgr); clear ho hgr hni))
        all_goals exact ⟨_, _, _, ⟨_, rfl⟩, Lib.hid HW2.out.1, Lib.hid HW2.out.2⟩
      refine Norm.elim ?_
      rintro a W ⟨v', A', c', g, rfl, HO3, HB3⟩
      go_wp2
      go_roundw
      case rel =>
        refine ⟨k + 1, os ++ [⟨R.first, A', c', R.data⟩], by omega, by go_num, HO3, Lib.hid ?_, HB3⟩
        obtain ⟨h, e⟩ := HR.out
        rw [List.take_succ_eq_append_getElem h, List.map_append, List.map_append, hE.out, e]
        rfl
      case measure => simp [RowKit.intOf]; omega
    · obtain rfl : k = n := by omega
      go_wp2
      go_ret2
      have h1 := hE.out
      rw [List.take_of_length_le (by rw [← HN.out]; exact Nat.le_refl _)] at h1
      exact ⟨_, os, rfl, hO.out, h1, hB.out⟩
end Go.Proofs.Ythmeojeehemlaaa.Mem
