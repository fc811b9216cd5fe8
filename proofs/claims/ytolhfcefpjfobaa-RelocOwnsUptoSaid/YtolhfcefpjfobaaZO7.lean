/- Parts of the proof, laid together by a program of this session (pack.py): Sh1, Sh2, Sh3, Sh4, Sh6, Sh7. -/
import Derived.Test.YtolhfcefpjfobaaZO6
import Derived.Deep.RegionHeld3
section
namespace Go.Proofs.Ytolhfcefpjfobaa.Bk
open Go.RowKit Go.Proofs.YtolhfcefpjfobaaW.PrintWords Go.Proofs.Ytolhfcefpjfobaa.Lend
set_option linter.unusedVariables false
set_option linter.unusedSimpArgs false

/-- what an append of m elements leaves: the answer's row, the rows that stand beside it -/
structure AppS (w w' : World) (base : Nat) (e : TypeId) (s : Nat) (v v' : Value) (n m : Nat) (xs news : List Value) : Prop where
  row : w'.ownsRow base e s v' (n + m) (xs ++ news)
  grown : w.grownBy w' v.ownBlock
  where_ : v'.ownBlock = v.ownBlock ∨ ∃ k, w.heap.size ≤ k ∧ v'.ownBlock = some k
  keep : ∀ b2 u k zs, w.ownsRow b2 e s u k zs → (u.ownBlock ≠ v.ownBlock ∨ zs <+: xs ++ news ∨ xs ++ news <+: zs) → w'.ownsRow b2 e s u k zs

theorem run_appS {P : Program} (w : World) (base : Nat) (t ty e : TypeId) (i : TypeInfo) (z : Value) (s bytes : Nat) (ht : P.underlying t = some (.slice e)) (hi : P.info? e = some i) (hz : i.zero = some z)
    (hsize : i.size = s) (hby : i.bytes = bytes) (hzs : z.cells.size = s) (hs0 : 0 < s)
    (v : Value) (n : Nat) (xs : List Value) (hown : w.ownsRow base e s v n xs)
    (a : Addr) (m c : Nat) (news : List Value) (hl : news.length = m * s) (hm : 0 < m) (hnews : ∀ j u, news[j]? = some u → w.cell? (a.add j) = some u) (h1 : ∀ u ∈ news, u.oneCell' = true)
    (h63 : n + m ≤ maxLen) (hbytes : (n + m) * bytes ≤ 140737488355328) (hbase : base ≤ w.heap.size) :
    ∃ v' w', (Builtin.append_ #[t, t] ty #[v, .slice (some a) m c]).run P w = .ok v' w' ∧ AppS w w' base e s v v' n m xs news := by
  have hxl := hown.1
  have hsmall : n + m ≤ 9223372036854775807 := by simp only [maxLen] at h63; omega
  have hlen : (xs ++ news).length = (n + m) * s := by rw [List.length_append, hxl, hl, Nat.add_mul]
  -- a new block
  have grown : ∀ (old : Nat), old < n + m → ∀ w', w' = (w.drew.alloc (.cells (xs.toArray ++ news.toArray ++ Builtin.zeroCells z.cells (grownCap w (n + m) old e - (n + m))) e)) →
      AppS w w' base e s v (.slice (some ⟨w.heap.size, 0, none⟩) (n + m) (grownCap w (n + m) old e)) n m xs news := by
    intro old ho w' hw'
    have hge := grownCap_ge w (n + m) old e
    have hcm : grownCap w (n + m) old e ≤ maxLen := grownCap_le_maxLen w (n + m) old e h63
    have hg : w.grownBy w' none := by
      rw [hw']
      exact ⟨rfl, rfl, rfl, by simp, fun k hk _ => heap_alloc_old w.drew _ hk⟩
    refine ⟨⟨by rw [hlen], .inr ⟨w.heap.size, _, _, rfl, hbase, by rw [hw']; exact heap_alloc_new w.drew _, by omega, hcm, ?_, ?_⟩⟩, ⟨hg.os, hg.tape, hg.output, hg.size, fun k hk _ => hg.block k hk (by simp)⟩, .inr ⟨_, Nat.le_refl _, rfl⟩, fun b2 u k zs hu _ => hu.kept hg (by cases h : u.ownBlock <;> simp)⟩
    · have e1 : n + m + (grownCap w (n + m) old e - (n + m)) = grownCap w (n + m) old e := by omega
      simp only [Array.size_append, List.size_toArray, size_zeroCells, hzs, hl, hxl]
      rw [← Nat.add_mul, ← Nat.add_mul, e1]
    · simp only [Array.toList_append, List.append_assoc]
      rw [← List.append_assoc, ← hlen]
      exact List.take_left
  rcases hown.2 with ⟨rfl, h0⟩ | ⟨g, cap, cur, rfl, hbg, hg, hnc, hcm, hcs, htake⟩
  · subst h0
    have hx : xs = [] := List.eq_nil_of_length_eq_zero (by rw [hxl]; omega)
    subst hx
    have hr := run_append_nil (P := P) w t ty e i z ht hi hz a m c news (by rw [hsize]; exact hl) hnews (by omega) (by omega) (by have hb := hbytes; rw [hby]; simp only [Nat.zero_add] at hb; omega)
    refine ⟨_, _, hr, ?_⟩
    have hgr := grown 0 (by omega) _ rfl
    simp only [Nat.zero_add, List.nil_append, Array.empty_append] at hgr ⊢
    simpa using hgr
  · by_cases hroom : n + m ≤ cap
    · have hmul : (n + m) * s ≤ cap * s := Nat.mul_le_mul_right s hroom
      have hsum : n * s + m * s ≤ cap * s := by rw [← Nat.add_mul]; exact hmul
      have hfit : n * i.size + news.length ≤ cur.size := by rw [hsize, hl, hcs]; exact hsum
      have hr := run_append_room (P := P) w t ty e i ht hi g n cap cur hg a m c news (by rw [hsize]; exact hl) hnews h1 hroom hfit
      rw [hsize] at hr
      have hnew : (w.setRow g (cur.toList.take (n * s) ++ news ++ cur.toList.drop (n * s + news.length)).toArray).heap[g]? = some (.cells (cur.toList.take (n * s) ++ news ++ cur.toList.drop (n * s + news.length)).toArray e (0, 0)) := setRow_heap w g cur _ e _ hg
      have hoth : ∀ k, k ≠ g → (w.setRow g (cur.toList.take (n * s) ++ news ++ cur.toList.drop (n * s + news.length)).toArray).heap[k]? = w.heap[k]? := fun k hk => setRow_other w g k _ (fun e => hk e)
      have hcn : n * s + news.length ≤ cur.size := by rw [hl, hcs]; exact hsum
      have hszn : (cur.toList.take (n * s) ++ news ++ cur.toList.drop (n * s + news.length)).length = cur.size := by
        simp only [List.length_append, List.length_take, List.length_drop, Array.length_toList]
        omega
      rw [htake] at hr hnew hoth hszn
      have hgrown : w.grownBy (w.setRow g (xs ++ news ++ cur.toList.drop (n * s + news.length)).toArray) (Value.ownBlock (.slice (some ⟨g, 0, none⟩) n cap)) :=
        ⟨rfl, rfl, rfl, by simp, fun k _ hk => hoth k (fun e => hk (by simp [Value.ownBlock, e]))⟩
      refine ⟨_, _, hr, ⟨⟨by rw [hlen], .inr ⟨g, cap, _, rfl, hbg, hnew, by omega, hcm, by rw [List.size_toArray, hszn]; exact hcs, ?_⟩⟩, hgrown, .inl rfl, ?_⟩⟩
      · rw [← hlen]
        exact List.take_left
      · intro b2 u k zs hu hor
        by_cases hne : u.ownBlock = Value.ownBlock (.slice (some ⟨g, 0, none⟩) n cap)
        · have hpre : zs <+: xs ++ news ∨ xs ++ news <+: zs := by rcases hor with h | h; exact absurd hne h; exact h
          refine ⟨hu.1, ?_⟩
          rcases hu.2 with h | ⟨g2, cap2, cur2, rfl, hb2, hg2, hn2, hc2, hs2, ht2⟩
          · exact .inl h
          · have e2 : g2 = g := by simpa [Value.ownBlock] using hne
            subst e2
            rw [hg] at hg2
            obtain ⟨rfl⟩ : cur = cur2 := by simpa using hg2
            refine .inr ⟨g2, cap2, _, rfl, hb2, hnew, hn2, hc2, by rw [List.size_toArray, hszn]; exact hs2, ?_⟩
            have hk : zs.length = k * s := hu.1
            rcases hpre with ⟨r, hr2⟩ | ⟨r, hr2⟩
            · rw [← hk, ← hr2, List.append_assoc]
              exact List.take_left
            · have hdrop : cur.toList.drop (n * s + news.length) = r ++ (cur.toList.drop (k * s)) := by
                have hcat : cur.toList = (xs ++ news ++ r) ++ cur.toList.drop (k * s) := by
                  rw [hr2, ← ht2]; exact (List.take_append_drop _ _).symm
                have e3 : n * s + news.length = (xs ++ news).length := by rw [List.length_append, hxl]
                rw [e3]
                conv => lhs; rw [hcat]
                rw [List.append_assoc, List.drop_left]
              rw [List.toList_toArray, hdrop, ← List.append_assoc, hr2, ← hk]
              exact List.take_left
        · exact hu.kept hgrown (.inr hne)
    · have holds : ∀ j u, xs[j]? = some u → w.cell? ((⟨g, 0, none⟩ : Addr).add j) = some u := hown.cells (g := g) rfl
      have hr := run_append_grow (P := P) w t ty e i z ht hi hz ⟨g, 0, none⟩ n cap xs (by rw [hsize]; exact hxl) holds a m c news (by rw [hsize]; exact hl) hnews (by omega) (by omega) (growslice_fits (by omega) (by rw [hby]; exact hbytes))
      exact ⟨_, _, hr, grown cap (by omega) _ rfl⟩

theorem wp_appS {P : Program} (w : World) {o : Oper} {a : Act} {K : Act → World → Prop} {Q : Exit → Act → World → Prop} (sl x : Operand) (t : TypeId)
    (ho : o.op = .call { callee := .builtin .append, args := #[sl, x], argTypes := #[t, t] })
    (base : Nat) (e : TypeId) (i : TypeInfo) (z : Value) (s bytes : Nat) (ht : P.underlying t = some (.slice e)) (hi : P.info? e = some i) (hz : i.zero = some z)
    (hsize : i.size = s) (hby : i.bytes = bytes) (hzs : z.cells.size = s) (hs0 : 0 < s)
    (v : Value) (n : Nat) (xs : List Value) (hs : a.eval sl = v) (hown : w.ownsRow base e s v n xs)
    (ad : Addr) (m c : Nat) (news : List Value) (hx : a.eval x = .slice (some ad) m c) (hl : news.length = m * s) (hm : 0 < m) (hnews : ∀ j u, news[j]? = some u → w.cell? (ad.add j) = some u) (h1 : ∀ u ∈ news, u.oneCell' = true)
    (h63 : n + m ≤ maxLen) (hbytes : (n + m) * bytes ≤ 140737488355328) (hbase : base ≤ w.heap.size)
    (h : ∀ v' w', AppS w w' base e s v v' n m xs news → K (a.put o.dst v') w') : o.wp P a w K Q := by
  obtain ⟨v', w', hr, h2⟩ := run_appS (P := P) w base t o.type e i z s bytes ht hi hz hsize hby hzs hs0 v n xs hown ad m c news hl hm hnews h1 h63 hbytes hbase
  unfold Oper.wp execOp
  simp only [ho, resolve, invoke, builtin, Sem.run_bind, Sem.run_pure, Result.andThen_ok, List.map_toArray, List.map_cons, List.map_nil, hs, hx, hr]
  exact h v' w' h2
theorem wpList_appS {P : Program} (w : World) {ops : Array Oper} {rest : List Oper} {o : Oper} {a : Act} {Q : Exit → Act → World → Prop} (hgd : o.guard = none) (sl x : Operand) (t : TypeId)
    (ho : o.op = .call { callee := .builtin .append, args := #[sl, x], argTypes := #[t, t] })
    (base : Nat) (e : TypeId) (i : TypeInfo) (z : Value) (s bytes : Nat) (ht : P.underlying t = some (.slice e)) (hi : P.info? e = some i) (hz : i.zero = some z)
    (hsize : i.size = s) (hby : i.bytes = bytes) (hzs : z.cells.size = s) (hs0 : 0 < s)
    (v : Value) (n : Nat) (xs : List Value) (hs : a.eval sl = v) (hown : w.ownsRow base e s v n xs)
    (ad : Addr) (m c : Nat) (news : List Value) (hx : a.eval x = .slice (some ad) m c) (hl : news.length = m * s) (hm : 0 < m) (hnews : ∀ j u, news[j]? = some u → w.cell? (ad.add j) = some u) (h1 : ∀ u ∈ news, u.oneCell' = true)
    (h63 : n + m ≤ maxLen) (hbytes : (n + m) * bytes ≤ 140737488355328) (hbase : base ≤ w.heap.size)
    (h : ∀ v' w', AppS w w' base e s v v' n m xs news → wpList P ops Q rest (a.put o.dst v') w') : wpList P ops Q (o :: rest) a w :=
  wpList_plain hgd fun _ hK => wp_appS w sl x t ho base e i z s bytes ht hi hz hsize hby hzs hs0 v n xs hs hown ad m c news hx hl hm hnews h1 h63 hbytes hbase fun v' w' h2 => hK _ _ (h v' w' h2)
theorem step_appS {P : Program} {ops : Array Oper} {o : Oper} {a : Act} {w : World} {K : Act → World → Prop} {Q : Exit → Act → World → Prop} {E : Prop}
    (hg : o.guard = none) (sl x : Operand) (t : TypeId) (ho : o.op = .call { callee := .builtin .append, args := #[sl, x], argTypes := #[t, t] })
    (base : Nat) (e : TypeId) (i : TypeInfo) (z : Value) (s bytes : Nat) (ht : P.underlying t = some (.slice e)) (hi : P.info? e = some i) (hz : i.zero = some z)
    (hsize : i.size = s) (hby : i.bytes = bytes) (hzs : z.cells.size = s) (hs0 : 0 < s)
    (v : Value) (n : Nat) (xs : List Value) (hs : a.eval sl = v) (hown : w.ownsRow base e s v n xs)
    (ad : Addr) (m c : Nat) (news : List Value) (hx : a.eval x = .slice (some ad) m c) (hl : news.length = m * s) (hm : 0 < m) (hnews : ∀ j u, news[j]? = some u → w.cell? (ad.add j) = some u) (h1 : ∀ u ∈ news, u.oneCell' = true)
    (h63 : n + m ≤ maxLen) (hbytes : (n + m) * bytes ≤ 140737488355328) (hbase : base ≤ w.heap.size)
    (h : ∀ v' w', AppS w w' base e s v v' n m xs news → K (a.put o.dst v') w') :
    if Region.wanted o (yielded ops a.tmps) = true then Oper.wp P o a w K Q else E := by
  have hw : Region.wanted o (yielded ops a.tmps) = true := by simp [Region.wanted, hg]
  rw [if_pos hw]
  exact wp_appS w sl x t ho base e i z s bytes ht hi hz hsize hby hzs hs0 v n xs hs hown ad m c news hx hl hm hnews h1 h63 hbytes hbase h
end Go.Proofs.Ytolhfcefpjfobaa.Bk
end
section
namespace Go.Proofs.Ytolhfcefpjfobaa.Bk
open Go.RowKit Go.Proofs.YtolhfcefpjfobaaW.PrintWords Go.Proofs.Ytolhfcefpjfobaa.Lend Go.Proofs.Ytolhfcefpjfobaa.PR
set_option linter.unusedVariables false
set_option linter.unusedSimpArgs false
attribute [local go_sem] isSome_setCell
/-- a relocation of a mark -/
def mineR (m : Int) : S27 := ⟨m, 77, wrap64 (-m)⟩
def mk3 (n : Nat) (m : Int) : List S27 := (List.range n).map fun (i : Nat) => mineR (wrap64 (m + i))
theorem mk3_length (n : Nat) (m : Int) : (mk3 n m).length = n := by simp [mk3]
theorem mk3_at (n : Nat) (m : Int) (i : Nat) (h : i < n) : (mk3 n m)[i]? = some (mineR (wrap64 (m + i))) := by simp [mk3, h]
theorem mk3_succ (n : Nat) (m : Int) : mk3 (n + 1) m = mk3 n m ++ [mineR (wrap64 (m + n))] := by simp [mk3, List.range_succ]
theorem mk3_prefix (m : Int) : ∀ (b a : Nat), a ≤ b → mk3 a m <+: mk3 b m
  | 0, a, h => by obtain rfl : a = 0 := by omega
                  exact List.prefix_rfl
  | b + 1, a, h => by
    by_cases e : a = b + 1
    · subst e; exact List.prefix_rfl
    · rw [mk3_succ]
      exact (mk3_prefix m b a (by omega)).trans (List.prefix_append _ _)
theorem flat_prefix {xs ys : List S27} (h : xs <+: ys) : flat xs <+: flat ys := by
  obtain ⟨r, rfl⟩ := h
  rw [flat_append]; exact List.prefix_append _ _
/-- a row of n marks -/
abbrev MRow (w : World) (v : Value) (n : Nat) (m : Int) : Prop := w.ownsRow 0 27 3 v n (flat (mk3 n m))
/-- a row of relocations -/
abbrev Row3 (w : World) (v : Value) (rs : List S27) : Prop := w.ownsRow 0 27 3 v rs.length (flat rs)
theorem own_ch {w w' : World} {S : Nat → Prop} {b e s n : Nat} {v : Value} {xs : List Value} (h : w.ownsRow b e s v n xs) (hc : Ch w w' S) (hn : ∀ g, v.ownBlock = some g → ¬ S g) : w'.ownsRow b e s v n xs := by
  refine ⟨h.1, ?_⟩
  rcases h.2 with hn' | ⟨g, cap, cur, rfl, hb, hg, rest⟩
  · exact .inl hn'
  · exact .inr ⟨g, cap, cur, rfl, hb, (hc.block g (Array.getElem?_eq_some_iff.1 hg).1 (hn g rfl)).trans hg, rest⟩
theorem own_form {w : World} {b e s n : Nat} {v : Value} {xs : List Value} (h : w.ownsRow b e s v n xs) : ∃ A cap, v = .slice A n cap ∧ n ≤ cap := by
  rcases h.2 with ⟨rfl, h0⟩ | ⟨g, cap, cur, hv, hb, hg, hn, hc, hs, ht⟩
  · exact ⟨none, 0, by rw [h0], by omega⟩
  · exact ⟨_, cap, hv, hn⟩
theorem AppS.ch {w w' : World} {b e s : Nat} {v v' : Value} {n m : Nat} {xs news : List Value} (h : AppS w w' b e s v v' n m xs news) : Ch w w' (fun g => v.ownBlock = some g) := Ch.of_grown h.grown
theorem info27 : ∃ i, Try.prog.info? 27 = some i ∧ i.zero = some (.agg #[.int .i64 0, .int .i64 0, .int .i64 0]) ∧ i.size = 3 ∧ i.bytes = 24 := info_parts (by kernel_rfl)
set_option maxHeartbeats 8000000 in
set_option maxRecDepth 100000 in
theorem mine_b (a0 : Int) (w : World) : Calls Try.prog 36 #[.int .i64 a0] w fun e w' => e = .returned (.agg #[.int .i64 a0, .int .i64 77, .int .i64 (wrap64 (-a0))]) ∧ Below w.heap.size w w' := by
  have hu27 := Try.underlying27
  have HB := Aside0.mk (Below.refl w.heap.size w)
  go_enter Try.func36, Try.ntmps36
  go_wp2_with (first | ((with_reducible refine gate_dst (N := 2) rfl ?_); refine box_event ?hg (N := 2) ?hd (cs := #[.int .i64 0, .int .i64 0, .int .i64 0]) (t := 27) ?hr ?_; (case hd => rfl); (case hg => rfl); (case hr => first | (go_simp; done) | (go_simp; rfl)); intro gb252 hg w2 hbox hb; have n0_ := Aside0.mk (below_step (by repeat (first | (with_reducible first | exact HB.out | apply below_alloc | apply pw_below_drewN | apply below_drew1) | exact HB.out)) hb); have n1_ := Aside0.mk (hbox); have n2_ := Aside0.mk ((by rw [hg]; exact (below_size (by repeat (first | (with_reducible first | exact HB.out | apply below_alloc | apply pw_below_drewN | apply below_drew1) | exact HB.out))) : w.heap.size ≤ gb252)); have n3_ := Aside0.mk ((by rw [hg]; exact (below_size (by repeat (first | (with_reducible first | exact HB.out | apply below_alloc | apply pw_below_drewN | apply below_drew1) | exact HB.out))) : w.heap.size ≤ gb252)); clear HB; have HB := n0_; have BK252 := n1_; have GW252 := n2_; have GE252 := n3_; clear n0_ n1_ n2_ n3_; clear hb hbox hg; have hcz3_0 : w2.cell? ⟨gb252, 0, none⟩ = some (.int .i64 0) := (blk_cell BK252.out 0).trans rfl; have hcz3_1 : w2.cell? ⟨gb252, 1, none⟩ = some (.int .i64 0) := (blk_cell BK252.out 1).trans rfl; have hcz3_2 : w2.cell? ⟨gb252, 2, none⟩ = some (.int .i64 0) := (blk_cell BK252.out 2).trans rfl; have hfz3_0 := blk_frozen BK252.out 0; have hfz3_1 := blk_frozen BK252.out 1; have hfz3_2 := blk_frozen BK252.out 2))
  refine bodyPost_ret (results_cell_row rfl _ _ gb252 27 #[.int .i64 a0, .int .i64 77, .int .i64 (wrap64 (-a0))] (0, 0) _ rfl (by (with_reducible repeat (first | refine blk_drewN ?_ _ | refine blk_drew ?_ | refine blk_alloc ?_ _)); refine blk_put (cs := #[.int .i64 a0, .int .i64 77, .int .i64 0]) ?_ 2 _ rfl; (with_reducible repeat (first | refine blk_drewN ?_ _ | refine blk_drew ?_ | refine blk_alloc ?_ _)); refine blk_put (cs := #[.int .i64 a0, .int .i64 0, .int .i64 0]) ?_ 1 _ rfl; (with_reducible repeat (first | refine blk_drewN ?_ _ | refine blk_drew ?_ | refine blk_alloc ?_ _)); refine blk_put (cs := #[.int .i64 0, .int .i64 0, .int .i64 0]) ?_ 0 _ rfl; (with_reducible repeat (first | refine blk_drewN ?_ _ | refine blk_drew ?_ | refine blk_alloc ?_ _)); exact BK252.out) Try.underlying27 rfl (by kernel_rfl)) rfl ?_
  exact ⟨by first | rfl | (simp [errW_none, errW_some] <;> rfl) | (simp [*, errW_none, errW_some] <;> rfl), by repeat (first | (with_reducible first | exact HB.out | apply below_alloc | apply pw_below_drewN | apply below_drew1 | refine below_set ?_ GE252.out) | exact HB.out)⟩
theorem mine_ (w : World) (m : Int) : Calls Try.prog 36 #[.int .i64 m] w fun e w' => e = .returned (.agg #[.int .i64 (mineR m).f0, .int .i64 (mineR m).f1, .int .i64 (mineR m).f2]) ∧ Ch w w' Never :=
  (mine_b m w).mono fun e w' h => ⟨h.1, Ch.of_below h.2⟩
theorem rel_new (w : World) (x : S27) : ∀ j u, (flat [x])[j]? = some u → (w.alloc (.cells #[.int .i64 x.f0, .int .i64 x.f1, .int .i64 x.f2] 27)).cell? ((⟨w.heap.size, 0, none⟩ : Addr).add j) = some u := by
  intro j u hj
  exact new_at w [.int .i64 x.f0, .int .i64 x.f1, .int .i64 x.f2] 27 j u hj
/-- what grown leaves of a list, i marks behind it -/
structure Gw (w wr : World) (l : Value) (u : Value) (m : Int) (n : Nat) : Prop where
  row : MRow wr u n m
  ch : Ch w wr (fun g => l.ownBlock = some g)
  own : ∀ g, u.ownBlock = some g → l.ownBlock = some g ∨ w.heap.size ≤ g
  keep : ∀ x q, MRow w x q m → MRow wr x q m
theorem Gw.never {w wr w2 : World} {l u : Value} {m : Int} {n : Nat} (h : Gw w wr l u m n) (hc : Ch wr w2 Never) : Gw w w2 l u m n :=
  ⟨own_ch h.row hc fun _ _ h => h, h.ch.trans hc fun _ h => h.elim, h.own, fun x q hx => own_ch (h.keep x q hx) hc fun _ _ h => h⟩
theorem Gw.app {w wr w2 : World} {l u v' : Value} {m : Int} {n : Nat} {o : Obj} (h : Gw w wr l u m n) (hA : AppS (wr.alloc o) w2 0 27 3 u v' n 1 (flat (mk3 n m)) (flat [mineR (wrap64 (m + n))])) : Gw w w2 l v' m (n + 1) := by
  have e : flat (mk3 n m) ++ flat [mineR (wrap64 (m + n))] = flat (mk3 (n + 1) m) := by rw [mk3_succ, flat_append]
  have ha : Ch wr (wr.alloc o) Never := (Ch.refl wr Never).alloc o
  refine ⟨by have := hA.row; rw [e] at this; exact this, (h.ch.alloc o).trans hA.ch fun g hg => h.own g hg, fun g hg => ?_, fun x q hx => ?_⟩
  · rcases hA.where_ with e | ⟨k, hk, e⟩
    · exact h.own g (e ▸ hg)
    · right
      rw [e] at hg
      obtain rfl := Option.some.inj hg
      exact Nat.le_trans h.ch.size (Nat.le_trans ha.size hk)
  · refine hA.keep 0 x q _ (own_ch (h.keep x q hx) ha fun _ _ h => h) (.inr ?_)
    rw [e]
    rcases Nat.le_total q (n + 1) with hq | hq
    · exact .inl (flat_prefix (mk3_prefix m _ _ hq))
    · exact .inr (flat_prefix (mk3_prefix m _ _ hq))
set_option maxHeartbeats 2000000 in
set_option maxRecDepth 100000 in
theorem grown_ (w : World) (A : Option Addr) (n c k : Nat) (m : Int) (h : MRow w (.slice A n c) n m) (hn : n ≤ 1099511627776) (hk : k ≤ 1099511627776) :
    Calls Try.prog 45 #[.slice A n c, .int .i64 m, .int .i64 (k : Int)] w fun e w' => ∃ B d, e = .returned (.slice B (n + k) d) ∧ Gw w w' (.slice A n c) (.slice B (n + k) d) m (n + k) := by
  obtain ⟨i, hi, hz0, hz1, hz2⟩ := info27
  have HG := Lib.hid (show Gw w w (.slice A n c) (.slice A n c) m n from ⟨h, Ch.refl _ _, fun g hg => .inl hg, fun x q hx => hx⟩)
  clear h
  go_enter Try.func45, Try.ntmps45
  go_wp2
  go_loopw [0, 7] (fun l i wr => ∃ (j : Nat) (B : Option Addr) (d : Nat), j ≤ k ∧ i = .int .i64 (j : Int) ∧ l = .slice B (n + j) d ∧ Hid (Gw w wr (.slice A n c) l m (n + j))) (fun _ i _ => k - (RowKit.intOf i).toNat)
  case atStart => exact ⟨0, A, c, Nat.zero_le _, rfl, rfl, HG⟩
  case round =>
    obtain ⟨j, B, d, hj, rfl, rfl, hG⟩ := hrel
    by_cases hlt : j < k
    · go_wp2_with (first | (go_at_call 36; refine (mine_ _ _).mono ?_; rintro e w1 ⟨rfl, hc⟩; have HG1 := Lib.hid (hG.out.never hc); clear hc) | (at_builtin; refine wpList_appS _ rfl _ _ 22 rfl 0 27 i (.agg #[.int .i64 0, .int .i64 0, .int .i64 0]) 3 24 Try.underlying22 hi hz0 hz1 hz2 rfl (by decide) (.slice B (n + j) d) (n + j) (flat (mk3 (n + j) m)) rfl ?q1 ⟨w1.heap.size, 0, none⟩ 1 1 (flat [mineR (wrap64 (m + ((n + j : Nat) : Int)))]) rfl rfl (by decide) ?q2 ?q3 ?q4 ?q5 ?q6 ?_))
      case q1 => exact own_ch (HG1.out.row) ((Ch.refl w1 Never).alloc _) fun _ _ h => h
      case q2 => exact rel_new _ _
      case q3 => intro u hu; simp [flat] at hu; rcases hu with rfl | rfl | rfl <;> rfl
      case q4 => unfold maxLen; omega
      case q5 => omega
      case q6 => exact Nat.zero_le _
      intro v' w2 hA
      obtain ⟨B2, d2, hv, _⟩ := own_form hA.row
      subst hv
      have HG2 := Lib.hid (HG1.out.app hA)
      clear hA
      go_wp2
      go_roundw
      case rel => exact ⟨j + 1, B2, d2, by omega, by go_num, rfl, HG2⟩
      case measure => simp [RowKit.intOf]; omega
    · obtain rfl : j = k := by omega
      go_wp2
      go_ret
      exact ⟨_, _, rfl, hG.out⟩
end Go.Proofs.Ytolhfcefpjfobaa.Bk
end
section
namespace Go.Proofs.Ytolhfcefpjfobaa.Bk
open Go.RowKit Go.Proofs.YtolhfcefpjfobaaW.PrintWords Go.Proofs.Ytolhfcefpjfobaa.Lend Go.Proofs.Ytolhfcefpjfobaa.PR
set_option linter.unusedVariables false
set_option linter.unusedSimpArgs false
attribute [local go_sem] isSome_setCell
/-! The header and its four rows: Fresh, Was, Kept, Marks (of the shelf). -/
def upe {α : Type} (f : Fin 4 → α) (i : Fin 4) (x : α) : Fin 4 → α := fun j => if j = i then x else f j
theorem upe_same {α : Type} (f : Fin 4 → α) (i : Fin 4) (x : α) : upe f i x i = x := if_pos rfl
theorem upe_other {α : Type} (f : Fin 4 → α) {i j : Fin 4} (x : α) (h : j ≠ i) : upe f i x j = f j := if_neg h
def ets (i : Fin 4) : TypeId := if i = 3 then 3 else 22
def hds (c t : Int) (v : Fin 4 → Value) : Array Value := #[.int .i64 c, .int .i64 t, .bool false, v 0, v 1, v 2, v 3]
theorem hds_set (c t : Int) (v : Fin 4 → Value) (i : Fin 4) (x : Value) : (hds c t v).setIfInBounds (3 + i.val) x = hds c t (upe v i x) := by
  obtain ⟨i, hi⟩ := i
  match i, hi with
  | 0, _ => rfl
  | 1, _ => rfl
  | 2, _ => rfl
  | 3, _ => rfl
def Own4 (p : Nat) (v : Fin 4 → Value) (g : Nat) : Prop := g = p ∨ ∃ i, (v i).ownBlock = some g
structure Sk (w : World) (p : Nat) (c t : Int) (v : Fin 4 → Value) (ct : Fin 4 → List Value) : Prop where
  hd : Blk w p 41 (hds c t v)
  row : ∀ i, Row w (ets i) (v i) (ct i)
  apart : ∀ i j, i ≠ j → ∀ g, (v i).ownBlock = some g → (v j).ownBlock ≠ some g
section
variable {w w' w1 : World} {p : Nat} {c t : Int} {v : Fin 4 → Value} {ct : Fin 4 → List Value} {S : Nat → Prop}
theorem Sk.off (h : Sk w p c t v ct) (i : Fin 4) : (v i).ownBlock ≠ some p :=
  (h.row i).block_ne (w2 := w) h.hd (by unfold ets; split <;> decide)
theorem Sk.lt (h : Sk w p c t v ct) {g : Nat} (hg : Own4 p v g) : g < w.heap.size := by
  rcases hg with rfl | ⟨i, hi⟩
  · exact h.hd.lt
  · exact (h.row i).lt g hi
theorem Sk.ch (h : Sk w p c t v ct) (hc : Ch w w' S) (hn : ∀ g, Own4 p v g → ¬ S g) : Sk w' p c t v ct :=
  ⟨hc.blk h.hd (hn p (.inl rfl)), fun i => (h.row i).ch hc fun g hg => hn g (.inr ⟨i, hg⟩), h.apart⟩
theorem Sk.alloc (h : Sk w p c t v ct) (o : Obj) : Sk (w.alloc o) p c t v ct := h.ch ((Ch.refl w Never).alloc o) fun _ _ h => h
/-- a row grows -/
theorem Sk.app (h : Sk w p c t v ct) (i : Fin 4) {v' : Value} {news : List Value} (hA : App w w1 0 (ets i) (v i) v' (ct i) news) (k : Nat) (hk : k = 3 + i.val) :
    Sk (w1.setCell ⟨p, k, none⟩ v') p c t (upe v i v') (upe ct i (ct i ++ news)) ∧ Ch w (w1.setCell ⟨p, k, none⟩ v') (Own4 p v) ∧ ∀ g, Own4 p (upe v i v') g → Own4 p v g ∨ w.heap.size ≤ g := by
  subst hk
  have hc := hA.ch
  have hp : Blk w1 p 41 (hds c t v) := hc.blk h.hd (h.off i)
  have hlt := h.hd.lt
  have far : ∀ e u zs, Row w1 e u zs → u.ownBlock ≠ some p → Row (w1.setCell ⟨p, 3 + i.val, none⟩ v') e u zs := fun e u zs hr hn =>
    hr.ch ((Ch.refl w1 (fun g => g = p)).set_ _ _ (.inl rfl)) fun g hg e => hn (by rw [hg, e])
  have hv' : ∀ g, v'.ownBlock = some g → (v i).ownBlock = some g ∨ w.heap.size ≤ g := fun g hg => by
    rcases hA.where_ with e | ⟨k, hk, e⟩
    · exact .inl (e ▸ hg)
    · right; rw [e] at hg; rw [← Option.some.inj hg]; exact hk
  refine ⟨⟨?_, fun j => ?_, fun j k hjk g hg hg2 => ?_⟩, ?_, fun g hg => ?_⟩
  · rw [← hds_set]; exact hp.set_ _ _
  · by_cases hj : j = i
    · subst hj
      rw [upe_same, upe_same]
      exact far _ _ _ hA.row' fun e => (hv' p e).elim (h.off j) (fun h2 => by omega)
    · rw [upe_other _ _ hj, upe_other _ _ hj]
      refine far _ _ _ ((h.row j).ch hc fun g hg e => h.apart j i hj g hg e) (h.off j)
  · by_cases hj : j = i
    · have hk : k ≠ i := fun e => hjk (hj.trans e.symm)
      rw [hj, upe_same] at hg
      rw [upe_other _ _ hk] at hg2
      rcases hv' g hg with e | e
      · exact h.apart i k (fun e => hk e.symm) g e hg2
      · have := (h.row k).lt g hg2; omega
    · rw [upe_other _ _ hj] at hg
      by_cases hk : k = i
      · rw [hk, upe_same] at hg2
        rcases hv' g hg2 with e | e
        · exact h.apart j i hj g hg e
        · have := (h.row j).lt g hg; omega
      · rw [upe_other _ _ hk] at hg2
        exact h.apart j k hjk g hg hg2
  · exact (hc.mono (S' := Own4 p v) fun g hg => .inr ⟨i, hg⟩).set_ _ _ (.inl (.inl rfl))
  · rcases hg with e | ⟨j, hj⟩
    · exact .inl (.inl e)
    · by_cases hji : j = i
      · rw [hji, upe_same] at hj
        exact (hv' g hj).imp (fun e => .inr ⟨i, e⟩) id
      · rw [upe_other _ _ hji] at hj
        exact .inl (.inr ⟨j, hj⟩)
end
end Go.Proofs.Ytolhfcefpjfobaa.Bk
end
section
namespace Go.Proofs.Ytolhfcefpjfobaa.Bk
open Go.RowKit Go.Proofs.YtolhfcefpjfobaaW.PrintWords Go.Proofs.Ytolhfcefpjfobaa.Lend Go.Proofs.Ytolhfcefpjfobaa.PR
set_option linter.unusedVariables false
set_option linter.unusedSimpArgs false
attribute [local go_sem] isSome_setCell
theorem C_of_row3 {w : World} {A : Option Addr} {n c : Nat} {rs : List S27} (h : Row3 w (.slice A n c) rs) : n = rs.length ∧ rs.length ≤ c ∧ Kd.C k27 w A rs.length rs := by
  rcases h.2 with ⟨e, h0⟩ | ⟨g, cap, cur, e, hb, hg, hn, hc, hs, ht⟩
  · obtain ⟨rfl, rfl, rfl⟩ := Value.slice.inj e
    have hx : rs = [] := List.eq_nil_of_length_eq_zero h0
    subst hx
    exact ⟨rfl, Nat.le_refl _, rfl, by decide, fun h => absurd h (Nat.lt_irrefl 0)⟩
  · obtain ⟨rfl, rfl, rfl⟩ := Value.slice.inj e
    have hB : Blk w g 27 cur := hg
    have ad : ∀ q, (⟨g, 0, none⟩ : Addr).add q = ⟨g, q, none⟩ := fun q => by
      unfold Addr.add; split <;> simp_all
    refine ⟨rfl, hn, rfl, by simp only [maxLen] at hc; omega, fun _ => ⟨_, rfl, fun j p hj => ⟨[.int .i64 p.f0, .int .i64 p.f1, .int .i64 p.f2], rfl, k27_mk w p, fun i u hu => ?_⟩⟩⟩
    have hj' : j < rs.length := (List.getElem?_eq_some_iff.1 hj).1
    have hp : rs[j] = p := (List.getElem?_eq_some_iff.1 hj).2
    have hfa := flat_at rs j hj'
    rw [hp] at hfa
    have key : ∀ q v, q < 3 → (flat rs)[3 * j + q]? = some v → w.cell? ⟨g, j * 3 + q, none⟩ = some v := by
      intro q v hq hv
      have hlen := flat_length rs
      rw [hB.cell, Nat.mul_comm j 3, ← Array.getElem?_toList]
      have h1 : (cur.toList.take (rs.length * 3))[3 * j + q]? = (flat rs)[3 * j + q]? := by rw [ht]
      rw [List.getElem?_take, if_pos (by omega)] at h1
      rw [h1]; exact hv
    show w.cell? ((⟨g, 0, none⟩ : Addr).add (j * 3 + i)) = some u
    rw [ad]
    match i, hu with
    | 0, hu => cases hu; exact key 0 _ (by decide) hfa.1
    | 1, hu => cases hu; exact key 1 _ (by decide) hfa.2.1
    | 2, hu => cases hu; exact key 2 _ (by decide) hfa.2.2
/-- two lists of lists of relocations, alike -/
def Pairs3 (w : World) (ls ws : List Value) : Prop := ls.length = ws.length ∧ ∀ (i : Nat) (l d : Value), ls[i]? = some l → ws[i]? = some d → ∃ rs, Row3 w l rs ∧ Row3 w d rs ∧ rs.length ≤ 1099511627776
theorem Pairs3.ch {w w' : World} {S : Nat → Prop} {ls ws : List Value} (h : Pairs3 w ls ws) (hc : Ch w w' S) (hn : ∀ u, u ∈ ls ∨ u ∈ ws → ∀ g, u.ownBlock = some g → ¬ S g) : Pairs3 w' ls ws :=
  ⟨h.1, fun i l d hl hd => by
    obtain ⟨xs, h1, h2, h3⟩ := h.2 i l d hl hd
    exact ⟨xs, own_ch h1 hc (hn l (.inl (List.mem_of_getElem? hl))), own_ch h2 hc (hn d (.inr (List.mem_of_getElem? hd))), h3⟩⟩
theorem Pairs3.never {w w' : World} {ls ws : List Value} (h : Pairs3 w ls ws) (hc : Ch w w' Never) : Pairs3 w' ls ws := h.ch hc fun _ _ _ _ h => h
theorem Ch.of_drawn {w w' : World} (h : Drawn0 w w') : Ch w w' Never := by
  obtain ⟨n, rfl⟩ := h
  exact (Ch.refl w Never).drewN n
/-- a list of a row of lists, by its place -/
theorem Sk.at_ {w : World} {p : Nat} {c t : Int} {v : Fin 4 → Value} {ct : Fin 4 → List Value} (h : Sk w p c t v ct) (i : Fin 4) (q : Nat) (hq : q = 3 + i.val) {j : Nat} {u : Value} (hu : (ct i)[j]? = some u) :
    ∃ g k, w.cell? ⟨p, q, none⟩ = some (.slice (some ⟨g, 0, none⟩) (ct i).length k) ∧ w.cell? ⟨g, j, none⟩ = some u ∧ (ct i).length ≤ k ∧ j < (ct i).length := by
  have hj : j < (ct i).length := (List.getElem?_eq_some_iff.1 hu).1
  obtain ⟨g, k, hv, hl, _, hc⟩ := (h.row i).at (by omega)
  refine ⟨g, k, ?_, ?_, hl, hj⟩
  · rw [← hv, h.hd.cell]
    subst hq
    obtain ⟨i, hi⟩ := i
    match i, hi with
    | 0, _ => rfl
    | 1, _ => rfl
    | 2, _ => rfl
    | 3, _ => rfl
  · have := (hc j hj).1
    rw [this, (List.getElem?_eq_some_iff.1 hu).2]
set_option maxHeartbeats 4000000 in
set_option maxRecDepth 100000 in
theorem untouched4_ (w : World) (p : Nat) (c t : Int) (v : Fin 4 → Value) (ct : Fin 4 → List Value) (h : Sk w p c t v ct) (hp : Pairs3 w (ct 0) (ct 1)) (hs : (ct 0).length ≤ 1000000000) :
    Calls Try.prog 37 #[.pointer (some ⟨p, 0, none⟩)] w fun e w' => e = .returned (.bool true) ∧ Ch w w' Never := by
  have H := Lib.hid h
  have HP := Lib.hid hp
  obtain ⟨n, hn⟩ : ∃ n, n = (ct 0).length := ⟨_, rfl⟩
  have HN := Lib.hid hn
  obtain ⟨A0, k0, hv0, _⟩ := (h.row 0).form
  have c3 := h.hd.cell 3
  simp only [hds, List.getElem?_toArray, List.getElem?_cons_zero, List.getElem?_cons_succ] at c3
  rw [hv0, ← hn] at c3
  rw [← hn] at hs
  have HC3 := Lib.hid c3
  clear h hp hn hv0 c3
  go_enter Try.func37, Try.ntmps37
  go_wp2
  go_loopw [3] (fun i wr => ∃ (k : Nat), k ≤ n ∧ i = .int .i64 (k : Int) ∧ Hid (Ch w wr Never)) (fun i _ => n - (RowKit.intOf i).toNat)
  case atStart => exact ⟨0, Nat.zero_le _, rfl, Lib.hid (Ch.refl _ _)⟩
  case round =>
    obtain ⟨k, hk, rfl, hC⟩ := hrel
    by_cases hlt : k < n
    · have H' := Lib.hid (H.out.ch hC.out fun _ _ h => h)
      have hl : k < (ct 0).length := by rw [← HN.out]; exact hlt
      have hl1 : k < (ct 1).length := by rw [← HP.out.1]; exact hl
      obtain ⟨rs, hr0, hr1, hrl⟩ := (HP.out.never hC.out).2 k _ _ (List.getElem?_eq_getElem hl) (List.getElem?_eq_getElem hl1)
      obtain ⟨l0, hl0⟩ : ∃ l, l = (ct 0)[k] := ⟨_, rfl⟩
      obtain ⟨l1, hl1e⟩ : ∃ l, l = (ct 1)[k] := ⟨_, rfl⟩
      obtain ⟨g0, k0, c3, a0, b0, _⟩ := H'.out.at_ 0 3 rfl (List.getElem?_eq_getElem hl)
      obtain ⟨g1, k1, c4, a1, b1, d1⟩ := H'.out.at_ 1 4 rfl (List.getElem?_eq_getElem hl1)
      rw [← hl0] at hr0 a0
      rw [← hl1e] at hr1 a1
      obtain ⟨B0, e0, rfl, _⟩ := own_form hr0
      obtain ⟨B1, e1, rfl, _⟩ := own_form hr1
      obtain ⟨_, q0, q1⟩ := C_of_row3 hr0
      obtain ⟨_, q2, q3⟩ := C_of_row3 hr1
      rw [← HN.out] at c3 b0
      rw [← HP.out.1, ← HN.out] at c4 b1 d1
      have HQ0 := Lib.hid q1
      have HQ1 := Lib.hid q3
      have HQ := Lib.hid (Facts.same_eq rs (by omega) (rs.length + 1) (by omega))
      clear hr0 hr1 q1 q3 hl0 hl1e
      go_wp2
      go_region_with (go_at_call 19; refine (spindlelaw11_SameRels.calls (rs.length + 1) B0 e0 rs B1 e1 rs true _ (Kd.C_drewN HQ0.out 1) q0 (Kd.C_drewN HQ1.out 1) q2 HQ.out).mono ?_; rintro e w2 ⟨rfl, hd⟩; have HD := Lib.hid (hC.out.drew.trans (Ch.of_drawn hd) fun _ h => h.elim); clear hd)
      all_goals
        go_wp2
        go_roundw
        case rel => exact ⟨k + 1, by omega, by go_num, HD⟩
        case measure => simp [RowKit.intOf]; omega
    · obtain rfl : k = n := by omega
      have c3 := hC.out.cell HC3.out (fun h => h)
      go_wp2
      go_ret
      exact ⟨rfl, hC.out⟩
end Go.Proofs.Ytolhfcefpjfobaa.Bk
end
section
namespace Go.Proofs.Ytolhfcefpjfobaa.Bk
open Go.RowKit Go.Proofs.YtolhfcefpjfobaaW.PrintWords Go.Proofs.Ytolhfcefpjfobaa.Lend Go.Proofs.Ytolhfcefpjfobaa.PR
set_option linter.unusedVariables false
set_option linter.unusedSimpArgs false
attribute [local go_sem] isSome_setCell
/-- a relocation of a row, cell by cell -/
theorem own3_at {w : World} {v : Value} {n : Nat} {rs : List S27} (h : w.ownsRow 0 27 3 v n (flat rs)) {j : Nat} (hj : j < n) : ∃ g cap x, v = .slice (some ⟨g, 0, none⟩) n cap ∧ n ≤ cap ∧ rs[j]? = some x ∧ w.cell? ⟨g, j * 3, none⟩ = some (.int .i64 x.f0) ∧ w.cell? ⟨g, j * 3 + 1, none⟩ = some (.int .i64 x.f1) ∧ w.cell? ⟨g, j * 3 + 2, none⟩ = some (.int .i64 x.f2) ∧ w.frozen? ⟨g, j * 3, none⟩ = false ∧ w.frozen? ⟨g, j * 3 + 1, none⟩ = false ∧ w.frozen? ⟨g, j * 3 + 2, none⟩ = false := by
  have hlen : rs.length = n := by have := h.1; rw [flat_length] at this; omega
  rcases h.2 with ⟨_, h0⟩ | ⟨g, cap, cur, hv, hb, hg, hn, hc, hs, ht⟩
  · omega
  · have hB : Blk w g 27 cur := hg
    have hfa := flat_at rs j (by omega)
    have hfl := flat_length rs
    have key : ∀ q v, q < 3 → (flat rs)[3 * j + q]? = some v → w.cell? ⟨g, j * 3 + q, none⟩ = some v := by
      intro q v hq hv
      rw [hB.cell, Nat.mul_comm j 3, ← Array.getElem?_toList]
      have h1 : (cur.toList.take (n * 3))[3 * j + q]? = (flat rs)[3 * j + q]? := by rw [ht]
      rw [List.getElem?_take, if_pos (by omega)] at h1
      rw [h1]; exact hv
    exact ⟨g, cap, rs[j]'(by omega), hv, hn, List.getElem?_eq_getElem _, key 0 _ (by decide) hfa.1, key 1 _ (by decide) hfa.2.1, key 2 _ (by decide) hfa.2.2, hB.frozen _, hB.frozen _, hB.frozen _⟩
/-- a relocation of a row is written over -/
theorem own3_set {w : World} {g n cap : Nat} {rs : List S27} (h : w.ownsRow 0 27 3 (.slice (some ⟨g, 0, none⟩) n cap) n (flat rs)) (j : Nat) (hj : j < n) (y : S27) :
    (((w.setCell ⟨g, j * 3, none⟩ (.int .i64 y.f0)).setCell ⟨g, j * 3 + 1, none⟩ (.int .i64 y.f1)).setCell ⟨g, j * 3 + 2, none⟩ (.int .i64 y.f2)).ownsRow 0 27 3 (.slice (some ⟨g, 0, none⟩) n cap) n (flat (rs.set j y)) := by
  have hlen : (flat rs).length = n * 3 := h.1
  refine ⟨by rw [flat_length, List.length_set, ← flat_length]; exact hlen, ?_⟩
  rcases h.2 with ⟨e, _⟩ | ⟨g', cap', cur, e, hb, hg, hn, hc, hs, ht⟩
  · cases e
  · injection e with a1 a2 a3
    injection a1 with a1
    injection a1 with a1 _ _
    subst a1
    subst a3
    have hB : Blk w g 27 cur := hg
    have h3 := ((hB.set_ (j * 3) (.int .i64 y.f0)).set_ (j * 3 + 1) (.int .i64 y.f1)).set_ (j * 3 + 2) (.int .i64 y.f2)
    refine .inr ⟨g, cap, _, rfl, hb, h3, hn, hc, by simpa using hs, ?_⟩
    rw [← flat_set, ← ht, Nat.mul_comm j 3]
    simp only [Array.toList_setIfInBounds, List.take_set]
def mkc (c : Int) (j : Nat) : Int := wrap64 (1000003 * wrap64 (c + j))
/-- lists of marks -/
def Marked (w : World) (ks ms : List Value) : Prop := ms.length = ks.length ∧ ∀ (i : Nat) (l u : Value), ks[i]? = some l → ms[i]? = some u → ∃ m n, u = .int .i64 m ∧ MRow w l n m ∧ n ≤ 4398046511104
theorem Marked.ch {w w' : World} {S : Nat → Prop} {ks ms : List Value} (h : Marked w ks ms) (hc : Ch w w' S) (hn : ∀ u, u ∈ ks → ∀ g, u.ownBlock = some g → ¬ S g) : Marked w' ks ms :=
  ⟨h.1, fun i l u hl hu => by
    obtain ⟨m, n, e, hr, hb⟩ := h.2 i l u hl hu
    exact ⟨m, n, e, own_ch hr hc (hn l (List.mem_of_getElem? hl)), hb⟩⟩
theorem Marked.never {w w' : World} {ks ms : List Value} (h : Marked w ks ms) (hc : Ch w w' Never) : Marked w' ks ms := h.ch hc fun _ _ _ _ h => h
/-- whose blocks the shelf reads or writes -/
def Foot4 (p : Nat) (v : Fin 4 → Value) (ct : Fin 4 → List Value) (g : Nat) : Prop := Own4 p v g ∨ Fb (ct 0) 0 g ∨ Fb (ct 1) 0 g ∨ Fb (ct 2) 0 g
structure Shelf (w : World) (p : Nat) (c t : Int) (v : Fin 4 → Value) (ct : Fin 4 → List Value) : Prop where
  sk : Sk w p c t v ct
  fw : Pairs3 w (ct 0) (ct 1)
  kw : Marked w (ct 2) (ct 3)
  apart : ∀ (i j : Nat) (u x : Value) (g : Nat), (ct 0)[i]? = some u → (ct 0)[j]? = some x → i ≠ j → u.ownBlock = some g → x.ownBlock ≠ some g
  far : ∀ g, Fb (ct 0) 0 g → ¬ Fb (ct 1) 0 g ∧ ¬ Fb (ct 2) 0 g
  small : ∀ u ∈ ct 0, sl u ≤ 549755813888
theorem own3_block_ne {w : World} {v : Value} {n s : Nat} {e : TypeId} {xs : List Value} (h : w.ownsRow 0 e s v n xs) {g t : Nat} {cs : Array Value} (hb : Blk w g t cs) (ht : t ≠ e) : v.ownBlock ≠ some g := by
  intro hg
  rcases h.2 with ⟨rfl, h0⟩ | ⟨g', cap, cur, rfl, _, hg', _⟩
  · simp [Value.ownBlock] at hg
  · have : g' = g := by simpa [Value.ownBlock] using hg
    subst this
    unfold Blk at hb
    rw [hb] at hg'
    exact ht (by simpa using (congrArg (fun x => match x with | some (Obj.cells _ t _) => t | _ => 0) hg'))
theorem own_other {w : World} {e e2 : TypeId} {s s2 n m : Nat} {a b : Value} {xs ys : List Value} (h : w.ownsRow 0 e s a n xs) (h2 : w.ownsRow 0 e2 s2 b m ys) (hne : e2 ≠ e) {g : Nat} (ha : a.ownBlock = some g) : b.ownBlock ≠ some g := by
  intro hg
  rcases h2.2 with ⟨rfl, h0⟩ | ⟨g', cap, cur, rfl, _, hg', _⟩
  · simp [Value.ownBlock] at hg
  · have : g' = g := by simpa [Value.ownBlock] using hg
    subst this
    exact own3_block_ne h hg' hne ha
theorem Sk.sep {w : World} {p : Nat} {c t : Int} {v : Fin 4 → Value} {ct : Fin 4 → List Value} (h : Sk w p c t v ct) {u : Value} {n : Nat} {zs : List Value} (hr : w.ownsRow 0 27 3 u n zs) {g : Nat} (hg : u.ownBlock = some g) : ¬ Own4 p v g := by
  rintro (rfl | ⟨i, hi⟩)
  · exact own3_block_ne hr h.hd (by decide) hg
  · exact own_other hr (h.row i) (by unfold ets; split <;> decide) hg hi
theorem Pairs3.rows {w : World} {ks ws : List Value} (h : Pairs3 w ks ws) {u : Value} (hu : u ∈ ks ∨ u ∈ ws) : ∃ xs, Row3 w u xs := by
  rcases hu with hu | hu
  · obtain ⟨i, hi⟩ := mem_at hu
    have hj : i < ws.length := by rw [← h.1]; exact (List.getElem?_eq_some_iff.1 hi).1
    obtain ⟨xs, h1, _⟩ := h.2 i u _ hi (List.getElem?_eq_getElem hj)
    exact ⟨xs, h1⟩
  · obtain ⟨i, hi⟩ := mem_at hu
    have hj : i < ks.length := by rw [h.1]; exact (List.getElem?_eq_some_iff.1 hi).1
    obtain ⟨xs, _, h1, _⟩ := h.2 i _ u (List.getElem?_eq_getElem hj) hi
    exact ⟨xs, h1⟩
theorem Marked.rows {w : World} {ks ms : List Value} (h : Marked w ks ms) {u : Value} (hu : u ∈ ks) : ∃ n m, MRow w u n m := by
  obtain ⟨i, hi⟩ := mem_at hu
  have hj : i < ms.length := by rw [h.1]; exact (List.getElem?_eq_some_iff.1 hi).1
  obtain ⟨m, n, _, h1, _⟩ := h.2 i u _ hi (List.getElem?_eq_getElem hj)
  exact ⟨n, m, h1⟩
/-- Kept and Marks, with these -/
def tz (ct : Fin 4 → List Value) (ks ms : List Value) : Fin 4 → List Value := upe (upe ct 2 ks) 3 ms
theorem tz_self (ct : Fin 4 → List Value) : tz ct (ct 2) (ct 3) = ct := by
  funext i
  unfold tz upe
  split
  · rename_i h; rw [h]
  · split
    · rename_i h; rw [h]
    · rfl
theorem tz_k (ct : Fin 4 → List Value) (ks ms ks' : List Value) : upe (tz ct ks ms) 2 ks' = tz ct ks' ms := by
  funext i
  obtain ⟨i, hi⟩ := i
  match i, hi with
  | 0, _ => rfl
  | 1, _ => rfl
  | 2, _ => rfl
  | 3, _ => rfl
theorem tz_m (ct : Fin 4 → List Value) (ks ms ms' : List Value) : upe (tz ct ks ms) 3 ms' = tz ct ks ms' := by
  funext i
  obtain ⟨i, hi⟩ := i
  match i, hi with
  | 0, _ => rfl
  | 1, _ => rfl
  | 2, _ => rfl
  | 3, _ => rfl
/-- emptied -/
def uz (ks ms : List Value) : Fin 4 → List Value := fun i => if i = 2 then ks else if i = 3 then ms else []
theorem uz_tz (ct : Fin 4 → List Value) (ks ms : List Value) : upe (upe (tz ct ks ms) 0 []) 1 [] = uz ks ms := by
  funext i
  obtain ⟨i, hi⟩ := i
  match i, hi with
  | 0, _ => rfl
  | 1, _ => rfl
  | 2, _ => rfl
  | 3, _ => rfl
def Wr4 (p : Nat) (v : Fin 4 → Value) (ct : Fin 4 → List Value) (g : Nat) : Prop := Own4 p v g ∨ Fb (ct 0) 0 g
/-- the state of the first loop -/
structure Fill4 (w0 wr : World) (c : Int) (ct : Fin 4 → List Value) (k : Nat) : Prop where
  ch : Ch w0 wr (Fb (ct 0) 0)
  all : ∀ (j : Nat) (u : Value), (ct 0)[j]? = some u → (∃ rs, Row3 wr u rs) ∧ (j < k → MRow wr u (sl u) (mkc c j))
/-- the state of the second loop: the lists from k on are still its own -/
structure Mid4 (w0 wr : World) (p : Nat) (c t : Int) (v : Fin 4 → Value) (ct : Fin 4 → List Value) (v' : Fin 4 → Value) (ks ms : List Value) (k : Nat) : Prop where
  ch : Ch w0 wr (Wr4 p v ct)
  sk : Sk wr p c t v' (tz ct ks ms)
  own : ∀ g, Own4 p v' g → Own4 p v g ∨ w0.heap.size ≤ g
  kw : Marked wr ks ms
  sep : ∀ u, u ∈ ks → ∀ g, u.ownBlock = some g → ¬ Fb (ct 0) k g ∧ (Foot4 p v ct g ∨ w0.heap.size ≤ g)
  fr : ∀ (j : Nat) (u : Value), k ≤ j → (ct 0)[j]? = some u → MRow wr u (sl u) (mkc c j)
section
variable {w0 wr w1 w2 : World} {p : Nat} {c t : Int} {v v' : Fin 4 → Value} {ct : Fin 4 → List Value} {k : Nat}
theorem Shelf.row0 (h : Shelf w0 p c t v ct) {j : Nat} {u : Value} (hu : (ct 0)[j]? = some u) : ∃ xs, Row3 w0 u xs := h.fw.rows (.inl (List.mem_of_getElem? hu))
theorem own3_lt {w : World} {v : Value} {b n s : Nat} {e : TypeId} {xs : List Value} (h : w.ownsRow b e s v n xs) : ∀ g, v.ownBlock = some g → g < w.heap.size := fun g hg => (World.ownsRow.lt h g hg).2
theorem Shelf.fbl (h : Shelf w0 p c t v ct) : ∀ g, Fb (ct 0) 0 g → g < w0.heap.size := fun g ⟨j, u, _, hu, hg⟩ => by
  obtain ⟨xs, hr⟩ := h.row0 hu
  exact own3_lt hr g hg
theorem Fill4.sk (h : Fill4 w0 wr c ct k) (hb : Shelf w0 p c t v ct) : Sk wr p c t v ct :=
  hb.sk.ch h.ch fun g ho ⟨j, u, _, hu, hg⟩ => by
    obtain ⟨xs, hr⟩ := hb.row0 hu
    exact hb.sk.sep hr hg ho
theorem Fill4.mid (h : Fill4 w0 wr c ct (ct 0).length) (hb : Shelf w0 p c t v ct) : Mid4 w0 wr p c t v ct v (ct 2) (ct 3) 0 := by
  have fb : ∀ (l : List Value) u g, u ∈ l → u.ownBlock = some g → Fb l 0 g := fun l u g hu hg => by
    obtain ⟨i, hi⟩ := mem_at hu
    exact ⟨i, u, Nat.zero_le _, hi, hg⟩
  refine ⟨h.ch.mono fun g hg => .inr hg, by rw [tz_self]; exact h.sk hb, fun g hg => .inl hg, hb.kw.ch h.ch fun u hu g hg e => (hb.far g e).2 (fb _ u g hu hg), fun u hu g hg => ⟨fun e => (hb.far g e).2 (fb _ u g hu hg), .inl (.inr (.inr (.inr (fb _ u g hu hg))))⟩, fun j u _ hu => (h.all j u hu).2 (List.getElem?_eq_some_iff.1 hu).1⟩
theorem Fill4.next (h : Fill4 w0 w1 c ct k) {u : Value} (hu : (ct 0)[k]? = some u) (hc : Ch w1 w2 (fun g => u.ownBlock = some g)) (hr : MRow w2 u (sl u) (mkc c k))
    (hap : ∀ (i j : Nat) (u x : Value) (g : Nat), (ct 0)[i]? = some u → (ct 0)[j]? = some x → i ≠ j → u.ownBlock = some g → x.ownBlock ≠ some g) : Fill4 w0 w2 c ct (k + 1) := by
  refine ⟨h.ch.trans hc fun g hg => .inl ⟨k, u, Nat.zero_le _, hu, hg⟩, fun j x hx => ?_⟩
  by_cases hjk : j = k
  · subst hjk
    rw [hu] at hx
    obtain rfl := Option.some.inj hx
    refine ⟨⟨mk3 (sl u) (mkc c j), ?_⟩, fun _ => hr⟩
    have h2 := hr
    show w2.ownsRow 0 27 3 u (mk3 (sl u) (mkc c j)).length _
    rw [mk3_length]; exact h2
  · have far : ∀ g, x.ownBlock = some g → ¬ u.ownBlock = some g := fun g hg e => hap k j u x g hu hx (fun e => hjk e.symm) e hg
    obtain ⟨⟨xs, h1⟩, h2⟩ := h.all j x hx
    exact ⟨⟨xs, own_ch h1 hc far⟩, fun hj => own_ch (h2 (by omega)) hc far⟩
theorem Fill4.never (h : Fill4 w0 w1 c ct k) (hc : Ch w1 w2 Never) : Fill4 w0 w2 c ct k :=
  ⟨h.ch.trans hc fun _ h => h.elim, fun j x hx => ⟨(h.all j x hx).1.imp fun xs hr => own_ch hr hc fun _ _ h => h, fun hj => own_ch ((h.all j x hx).2 hj) hc fun _ _ h => h⟩⟩
end
end Go.Proofs.Ytolhfcefpjfobaa.Bk
end
section
namespace Go.Proofs.Ytolhfcefpjfobaa.Bk
open Go.RowKit Go.Proofs.YtolhfcefpjfobaaW.PrintWords Go.Proofs.Ytolhfcefpjfobaa.Lend Go.Proofs.Ytolhfcefpjfobaa.PR
set_option linter.unusedVariables false
set_option linter.unusedSimpArgs false
attribute [local go_sem] isSome_setCell
theorem info22 : ∃ i, Try.prog.info? 22 = some i ∧ i.zero = some (.slice none 0 0) ∧ i.size = 1 ∧ i.bytes = 24 := info_parts (by kernel_rfl)
/-- what a round of write makes of a list: it and three grown ones -/
structure Quad (W w' : World) (p : Nat) (v v' : Fin 4 → Value) (l u1 u2 u3 : Value) (n K : Nat) (m : Int) : Prop where
  ch : Ch W w' (fun g => Own4 p v g ∨ l.ownBlock = some g)
  own : ∀ g, Own4 p v' g → Own4 p v g ∨ W.heap.size ≤ g
  r0 : MRow w' l n m
  r1 : MRow w' u1 (n + 1) m
  r2 : MRow w' u2 (n + 2) m
  r3 : MRow w' u3 (n + K) m
  o1 : ∀ g, u1.ownBlock = some g → l.ownBlock = some g ∨ W.heap.size ≤ g
  o2 : ∀ g, u2.ownBlock = some g → l.ownBlock = some g ∨ W.heap.size ≤ g
  o3 : ∀ g, u3.ownBlock = some g → l.ownBlock = some g ∨ W.heap.size ≤ g
/-- the worlds of the three calls -/
structure Trio (W w3 : World) (l u1 u2 u3 : Value) (n K : Nat) (m : Int) : Prop where
  ch : Ch W w3 (fun g => l.ownBlock = some g)
  r0 : MRow w3 l n m
  r1 : MRow w3 u1 (n + 1) m
  r2 : MRow w3 u2 (n + 2) m
  r3 : MRow w3 u3 (n + K) m
  o1 : ∀ g, u1.ownBlock = some g → l.ownBlock = some g ∨ W.heap.size ≤ g
  o2 : ∀ g, u2.ownBlock = some g → l.ownBlock = some g ∨ W.heap.size ≤ g
  o3 : ∀ g, u3.ownBlock = some g → l.ownBlock = some g ∨ W.heap.size ≤ g
theorem Gw.of_drew {W w1 : World} {l u : Value} {m : Int} {n : Nat} (h : Gw W.drew w1 l u m n) : Gw W w1 l u m n :=
  ⟨h.row, (((Ch.refl W Never).drew).mono fun _ h => h.elim).trans h.ch fun g hg => .inl hg, h.own, fun x q hx => h.keep x q (own_ch hx ((Ch.refl W Never).drew) fun _ _ h => h)⟩
theorem trio {W w1 w2 w3 : World} {l u1 u2 u3 : Value} {n K : Nat} {m : Int} (hr : MRow W l n m) (ga : Gw W w1 l u1 m (n + 1)) (gb : Gw w1 w2 l u2 m (n + 2)) (gc : Gw w2 w3 l u3 m (n + K)) : Trio W w3 l u1 u2 u3 n K m := by
  refine ⟨(ga.ch.trans gb.ch fun g h => .inl h).trans gc.ch fun g h => .inl h, gc.keep _ _ (gb.keep _ _ (ga.keep _ _ hr)), gc.keep _ _ (gb.keep _ _ ga.row), gc.keep _ _ gb.row, gc.row, ga.own, fun g hg => (gb.own g hg).imp id fun h => Nat.le_trans ga.ch.size h, fun g hg => (gc.own g hg).imp id fun h => Nat.le_trans (Nat.le_trans ga.ch.size gb.ch.size) h⟩
theorem quad {W w3 w4 : World} {p : Nat} {c t : Int} {v : Fin 4 → Value} {CT : Fin 4 → List Value} {l u1 u2 u3 v' : Value} {n K : Nat} {m : Int} {o : Obj} (h : Sk W p c t v CT) (hr : MRow W l n m) (ht : Trio W w3 l u1 u2 u3 n K m)
    (hA : App (w3.alloc o) w4 0 22 (v 2) v' (CT 2) [l, u1, u2, u3]) : Sk (w4.setCell ⟨p, 5, none⟩ v') p c t (upe v 2 v') (upe CT 2 (CT 2 ++ [l, u1, u2, u3])) ∧ Quad W (w4.setCell ⟨p, 5, none⟩ v') p v (upe v 2 v') l u1 u2 u3 n K m ∧ Blk w4 p 41 (hds c t v) := by
  have h3 : Sk w3 p c t v CT := h.ch ht.ch fun g hg e => h.sep hr e hg
  have hb := (h3.alloc o).app 2 hA 5 rfl
  have ha : Ch w3 (w3.alloc o) Never := (Ch.refl w3 Never).alloc o
  have mv : ∀ u q, MRow w3 u q m → MRow (w4.setCell ⟨p, 5, none⟩ v') u q m := fun u q hu => own_ch (own_ch hu ha fun _ _ h => h) hb.2.1 fun g hg e => h3.sep hu hg e
  refine ⟨hb.1, ⟨((ht.ch.mono (S' := fun g => Own4 p v g ∨ l.ownBlock = some g) fun g e => .inr e).alloc o).trans hb.2.1 fun g e => .inl (.inl e), fun g hg => (hb.2.2 g hg).imp id fun h2 => Nat.le_trans ht.ch.size (Nat.le_trans ha.size h2), mv _ _ ht.r0, mv _ _ ht.r1, mv _ _ ht.r2, mv _ _ ht.r3, ht.o1, ht.o2, ht.o3⟩, ?_⟩
  exact hA.ch.blk (h3.alloc o).hd fun e => (h3.alloc o).off 2 e
theorem step_quad {ops : Array Oper} {o : Oper} {a : Act} {C : Act → World → Prop} {Q : Exit → Act → World → Prop} {E : Prop} {W w3 : World} {p : Nat} {c t : Int} {v : Fin 4 → Value} {CT : Fin 4 → List Value} {l u1 u2 u3 : Value} {n K : Nat} {m : Int}
    (hg : o.guard = none) (ho : o.op = .call { callee := .builtin .append, args := #[.tmp 88, .tmp 104], argTypes := #[38, 38] })
    (hs : a.eval (.tmp 88) = v 2) (hx : a.eval (.tmp 104) = .slice (some ⟨w3.heap.size, 0, none⟩) 4 4)
    (h : Sk W p c t v CT) (hr : MRow W l n m) (ht : Trio W w3 l u1 u2 u3 n K m) (h2 : (CT 2).length ≤ 900000000) (e0 : l.oneCell' = true) (e1 : u1.oneCell' = true) (e2 : u2.oneCell' = true) (e3 : u3.oneCell' = true)
    (k : ∀ (A3 : Option Addr) (n3 k3 : Nat) (w4 : World), w4.cell? ⟨p, 5, none⟩ = some (v 2) → w4.frozen? ⟨p, 5, none⟩ = false → w4.cell? ⟨p, 1, none⟩ = some (.int .i64 t) →
      Hid (∃ v', Sk (w4.setCell ⟨p, 5, none⟩ (.slice A3 n3 k3)) p c t v' (upe CT 2 (CT 2 ++ [l, u1, u2, u3])) ∧ Quad W (w4.setCell ⟨p, 5, none⟩ (.slice A3 n3 k3)) p v v' l u1 u2 u3 n K m) → C (a.put o.dst (.slice A3 n3 k3)) w4) :
    if Region.wanted o (yielded ops a.tmps) = true then Oper.wp Try.prog o a (w3.alloc (.cells #[l, u1, u2, u3] 22)) C Q else E := by
  obtain ⟨i, hi, hz0, hz1, hz2⟩ := info22
  have h3 : Sk w3 p c t v CT := h.ch ht.ch fun g hg e => h.sep hr e hg
  refine step_app hg (.tmp 88) (.tmp 104) 38 ho 0 22 i (.slice none 0 0) 24 Try.underlying38 hi hz0 hz1 hz2 rfl (v 2) (CT 2) hs ((h3.alloc _).row 2) ⟨w3.heap.size, 0, none⟩ 4 4 [l, u1, u2, u3] hx rfl (by decide) (fun j u hu => new_at w3 [l, u1, u2, u3] 22 j u hu) (fun u hu => by
    simp only [List.mem_cons, List.not_mem_nil, or_false] at hu
    rcases hu with rfl | rfl | rfl | rfl <;> assumption) (by unfold maxLen; omega) (by omega) (Nat.zero_le _) ?_
  intro v' w4 hA
  obtain ⟨A3, k3, hv3, _⟩ := hA.row'.form
  have hq := quad h hr ht hA
  rw [hv3] at hq ⊢
  have h5 := hq.2.2.cell 5
  have h1 := hq.2.2.cell 1
  simp only [hds, List.getElem?_toArray, List.getElem?_cons_zero, List.getElem?_cons_succ] at h5 h1
  exact k A3 _ k3 w4 h5 (hq.2.2.frozen 5) h1 (Lib.hid ⟨_, hq.1, hq.2.1⟩)
def blockS (b : Code) : Code := inner (left (right (inner (inner (right (left (postC 2 b)))))))

set_option maxHeartbeats 8000000 in
set_option maxRecDepth 100000 in
theorem W14 (W : World) (p : Nat) (c t m : Int) (v : Fin 4 → Value) (CT : Fin 4 → List Value) (h : Sk W p c t v CT) (A : Option Addr) (n cl K : Nat) (hr : MRow W (.slice A n cl) n m) (hn : n ≤ 549755813888) (ht0 : 0 ≤ t) (ht : t ≤ 1099511627000) (hK : t + 70 = (K : Int)) (h2 : (CT 2).length ≤ 900000000) {y1 y2 y3 y4 y5 y8 y9 y10 y11 y12 y13 y14 y15 y16 y17 y18 y19 y20 y21 y22 y23 y24 y25 y26 y27 y28 y29 y30 y31 y32 y33 y34 y35 y36 y37 y38 y39 y40 y41 y42 y43 y44 y45 y46 y47 y48 y49 y50 y51 y52 y53 y54 y55 y56 y57 y58 y59 y60 y61 y62 y63 y64 y65 y66 y67 y68 y69 y70 y71 y72 y73 y74 y75 y76 y77 y78 y79 y80 y81 y82 y83 y84 y85 y86 y87 y88 y89 y90 y91 y92 y93 y94 y95 y96 y97 y98 y99 y100 y101 y102 y103 y104 y105 y106 y107 y108 y109 y110 y111 y112 y113 y114 y115 y116 y117 y118 y119 y120 y121 y122 y123 y124 y125 y126 y127 y128 y129 y130 y131 y132 y133 y134 y135 y136 y137 y138 y139 : Value} :
    Code.wp Try.prog (left (postC 2 (blockS (Try.f35.body.getD .skip)))) (Norm fun a w' => ∃ (e84 e85 e86 e87 e88 e89 e90 e91 e92 e93 e94 e95 e96 e97 e98 e99 e100 e101 e102 e103 e104 e105 e106 e107 : Value), a = { tmps := #[(.pointer (some ⟨p, 0, none⟩)), y1, y2, y3, y4, y5, (.int .i64 m), (.slice A n cl), y8, y9, y10, y11, y12, y13, y14, y15, y16, y17, y18, y19, y20, y21, y22, y23, y24, y25, y26, y27, y28, y29, y30, y31, y32, y33, y34, y35, y36, y37, y38, y39, y40, y41, y42, y43, y44, y45, y46, y47, y48, y49, y50, y51, y52, y53, y54, y55, y56, y57, y58, y59, y60, y61, y62, y63, y64, y65, y66, y67, y68, y69, y70, y71, y72, y73, y74, y75, y76, y77, y78, y79, y80, y81, y82, y83, e84, e85, e86, e87, e88, e89, e90, e91, e92, e93, e94, e95, e96, e97, e98, e99, e100, e101, e102, e103, e104, e105, e106, e107, y108, y109, y110, y111, y112, y113, y114, y115, y116, y117, y118, y119, y120, y121, y122, y123, y124, y125, y126, y127, y128, y129, y130, y131, y132, y133, y134, y135, y136, y137, y138, y139], defers := [] } ∧ Hid (∃ v' u1 u2 u3, Sk w' p c t v' (upe CT 2 (CT 2 ++ [.slice A n cl, u1, u2, u3])) ∧ Quad W w' p v v' (.slice A n cl) u1 u2 u3 n K m)) { tmps := #[(.pointer (some ⟨p, 0, none⟩)), y1, y2, y3, y4, y5, (.int .i64 m), (.slice A n cl), y8, y9, y10, y11, y12, y13, y14, y15, y16, y17, y18, y19, y20, y21, y22, y23, y24, y25, y26, y27, y28, y29, y30, y31, y32, y33, y34, y35, y36, y37, y38, y39, y40, y41, y42, y43, y44, y45, y46, y47, y48, y49, y50, y51, y52, y53, y54, y55, y56, y57, y58, y59, y60, y61, y62, y63, y64, y65, y66, y67, y68, y69, y70, y71, y72, y73, y74, y75, y76, y77, y78, y79, y80, y81, y82, y83, y84, y85, y86, y87, y88, y89, y90, y91, y92, y93, y94, y95, y96, y97, y98, y99, y100, y101, y102, y103, y104, y105, y106, y107, y108, y109, y110, y111, y112, y113, y114, y115, y116, y117, y118, y119, y120, y121, y122, y123, y124, y125, y126, y127, y128, y129, y130, y131, y132, y133, y134, y135, y136, y137, y138, y139], defers := [] } W := by
  have hK2 : K ≤ 1099511627776 := by omega
  have HG1 := Lib.hid (fun W' (hr : MRow W' (.slice A n cl) n m) => grown_ W' A n cl 1 m hr (by omega) (by omega))
  have HG2 := Lib.hid (fun W' (hr : MRow W' (.slice A n cl) n m) => grown_ W' A n cl 2 m hr (by omega) (by omega))
  have hKw : IntKind.i64.wrap (t + 70) = (K : Int) := by rw [Go.IntWalk.i64_left, ← hK]; unfold wrap64; omega
  have hg3 : ∀ W', MRow W' (.slice A n cl) n m → Calls Try.prog 45 #[.slice A n cl, .int .i64 m, .int .i64 (IntKind.i64.wrap (t + 70))] W' fun e w' => ∃ B d, e = .returned (.slice B (n + K) d) ∧ Gw W' w' (.slice A n cl) (.slice B (n + K) d) m (n + K) := fun W' hr => by
    rw [hKw]
    exact grown_ W' A n cl K m hr (by omega) hK2
  have HG3 := Lib.hid hg3
  clear hg3 hK hK2 hKw
  have c5 := h.hd.cell 5
  have c1 := h.hd.cell 1
  have f5 := h.hd.frozen 5
  simp only [hds, List.getElem?_toArray, List.getElem?_cons_zero, List.getElem?_cons_succ] at c5 c1
  have H := Lib.hid h
  have HR := Lib.hid hr
  have H2 := Lib.hid h2
  have HP := Lib.hid (show ¬ (Value.slice A n cl).ownBlock = some p from fun e => h.sep hr e (.inl rfl))
  clear h hr h2
  obtain ⟨x2, hx2⟩ : ∃ x, x = v 2 := ⟨_, rfl⟩
  rw [← hx2] at c5
  have HX := Lib.hid hx2
  clear hx2
  unfold Try.f35
  dsimp only [Option.getD, postC, left, right, inner, blockS]
  go_region_law (first | (go_simp; go_at_call 45; first | (refine (HG3.out w2 HR2.out).mono ?_; rintro e w3 ⟨B3, d3, rfl, hg⟩; have c5c := hg.ch.cell c5b HP.out; have HTR := Lib.hid (trio (W := W) HR.out HGA.out HGB.out hg); have c1c := hg.ch.cell c1b HP.out; have HS3 := Lib.hid (H.out.ch HTR.out.ch fun g hg e => H.out.sep HR.out e hg); have c5d := (HS3.out.alloc (.cells #[.slice A n cl, .slice B1 (n + 1) d1, .slice B2 (n + 2) d2, .slice B3 (n + K) d3] 22)).hd.cell 5; simp only [hds, List.getElem?_toArray, List.getElem?_cons_zero, List.getElem?_cons_succ] at c5d; rw [← HX.out] at c5d; clear hg) | (refine (HG2.out w1 HR1.out).mono ?_; rintro e w2 ⟨B2, d2, rfl, hg⟩; have c5b := hg.ch.cell c5a HP.out; have c1b := hg.ch.cell c1a HP.out; have HGB := Lib.hid hg; have HR2 := Lib.hid (hg.keep _ _ HR1.out); clear hg) | (refine (HG1.out W.drew HR.out).mono ?_; rintro e w1 ⟨B1, d1, rfl, hg⟩; have c5a := hg.ch.cell c5 HP.out; have c1a := hg.ch.cell c1 HP.out; have hga := hg.of_drew; have HGA := Lib.hid hga; have HR1 := Lib.hid (hga.keep _ _ HR.out); clear hg hga)) | (refine step_quad rfl rfl (HX.out ▸ rfl) rfl H.out HR.out HTR.out H2.out rfl rfl rfl rfl ?_; intro A3 n3 k3 w4 hp0 fp c1e HQ; have hp := HX.out ▸ hp0; clear hp0))
  all_goals
    refine Norm.mk ?_
    obtain ⟨v5, hq1, hq2⟩ := HQ.out
    exact ⟨_, _, _, _, _, _, _, _, _, _, _, _, _, _, _, _, _, _, _, _, _, _, _, _,  rfl, Lib.hid ⟨_, _, _, _, hq1, hq2⟩⟩

end Go.Proofs.Ytolhfcefpjfobaa.Bk
end
