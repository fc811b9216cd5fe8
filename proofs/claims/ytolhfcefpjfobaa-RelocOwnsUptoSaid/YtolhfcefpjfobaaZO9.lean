/- Parts of the proof, laid together by a program of this session (pack.py): LawRelocOwns. -/
import Derived.Test.YtolhfcefpjfobaaZO8
import Derived.Test.YtolhfcefpjfobaaRows
import Derived.WalkKit
import Derived.ProofKit
import Derived.OpenShut
import Derived.ShutString
import Derived.ChangeOld
import Derived.Below
import Derived.SizedLaws
import Derived.Deep.CondSized
section
-- The row of the second form for RelocOwns. The frame is the kit's print, turned to the second form by this session; walk, contracts of the book and the shelf and the pure law are this session's.
namespace Go.Proofs.Ytolhfcefpjfobaa.relocOwns
open Go.ChangeShapes Go.WideShapes Go.ChangeAt Go.RowKit Go.Proofs.YtolhfcefpjfobaaW.Open Go.Proofs.Ytolhfcefpjfobaa.PR Go.Proofs.YtolhfcefpjfobaaW.PrintWords
open Go.ChangeMaps (open_string shut_string)
open Go.Proofs.Ytolhfcefpjfobaa.Facts
set_option linter.unusedVariables false
set_option linter.unusedSimpArgs false
theorem own : ownKnob Try.prog.godebug = none := by kernel_rfl
theorem laidOut : laidOutB Try.prog = true := by kernel_rfl
def IsRow (k : IntKind) (w : World) (a : Option Addr) (len cap : Nat) (zs : List Int) : Prop :=
  (a = none ∧ len = 0 ∧ cap = 0 ∧ zs = []) ∨
  ∃ x, a = some x ∧ len ≤ cap ∧ cap ≤ maxLen ∧ zs.length = cap ∧ (∀ i, i < zs.length → w.cell? (x.add i) = some (.int k (zs.getD i 0))) ∧ ∀ n ∈ zs, (Lit.int k n).wf = true
theorem bulk_one {H : Type} (d : DataW H) : 1 ≤ Rows.uptoBulk d := by
  cases d with
  | lit l => cases l <;> simp [Rows.uptoBulk]
  | nil => simp [Rows.uptoBulk]
  | ptr d => simp [Rows.uptoBulk]
  | slice elems spare => simp [Rows.uptoBulk]
  | agg parts => simp [Rows.uptoBulk]
  | iface t d => simp [Rows.uptoBulk]
  | map entries => simp [Rows.uptoBulk]
  | held h => simp [Rows.uptoBulk]
theorem bulk_len {H : Type} (l : List (DataW H)) : l.length ≤ Rows.uptoBulkAll l := by
  induction l with
  | nil => simp [Rows.uptoBulkAll]
  | cons x r ih => have := bulk_one x; simp only [Rows.uptoBulkAll, List.length_cons]; omega
theorem whole (A : Option Addr) (rs : List S27) (c : Nat) (a1 : Option Addr) (len1 cap1 : Nat) (z1 : List Int) (w : World) (hc : Kd.C k27 w A rs.length rs) (hac : rs.length ≤ c) (hsz : rs.length ≤ 1048576) (w1 : IsRow .u8 w a1 len1 cap1 z1) (hsz1 : len1 ≤ 1048576) :
    Calls Try.prog 5 #[.slice A rs.length c, .slice a1 len1 cap1] w fun e w' => e = .returned (.bool true) ∧ Below w.heap.size w w' := by
  obtain ⟨a, rfl, hr1, hm1, hw1, hc1⟩ := ReadsInt.ofRowC w1
  have hb : Bytes a := by
    intro x hx
    have h' : 0 ≤ x ∧ x ≤ 255 := by simpa [Lit.wf, IntKind.min, IntKind.max, IntKind.signed, IntKind.bits] using hw1 x hx
    omega
  obtain ⟨x, x1, x2⟩ := wboth_eq rs (by omega) (10000000 + 40) (by omega)
  obtain ⟨y, y1, y2⟩ := both_eq a hb (by omega) (10000000 + 40) (by omega)
  have lx : x.1.length ≤ 20000000 := by
    obtain ⟨h1, h2⟩ := write_eq rs (10000000 + 40) (by omega) (by omega)
    by_cases hg : Facts.Good (-1) rs
    · have h3 := h1 hg
      rw [x1] at h3
      obtain rfl := Option.some.inj h3
      rw [Facts.encs_length]; omega
    · obtain ⟨e, h3, _⟩ := h2 hg
      rw [x1] at h3
      obtain rfl := Option.some.inj h3
      simp
  have ly : y.1.length ≤ 65537 := by
    obtain ⟨z', e, ha⟩ := read_eq a hb (by omega) (10000000 + 40) (by omega)
    rw [y1] at e
    obtain rfl := Option.some.inj e
    rcases ha with ⟨_, _, h3, _⟩ | ⟨h1, _⟩
    · have := good_length y.1 _ h3 (by omega) (by omega)
      omega
    · rw [h1]; simp
  exact Bk.owns_ (10000000 + 40) w A c rs a1 cap1 a x.1 x.2 y.1 y.2.1 y.2.2 hc hac (Kd.C_of_reads (d := (0 : Int)) (h1 := fun _ => rfl) hr1) hc1 (by omega)
    x2 x1 lx y2 y1 (by omega) (same_eq y.1 (by omega) _ (by omega)) (sameBytes_refl _) rfl rfl (awake_k _)
set_option maxRecDepth 100000 in
theorem lifted (os : Os) (started : os.Started) (H : Type) (enc : TypeId × Value → H) (F : Stop.Interp) :
    ReturnsInHanded {} Try.checked os 5 .any ((Rows.OpenSpec.upto Rows.relocOwnsSpec).pre6 enc Try.prog Try.f5 Rows.relocOwnsUptoRow.domain false) (((Rows.OpenSpec.upto Rows.relocOwnsSpec).at F).post enc Try.prog Try.f5 false true false false) := by
  refine returnsInHanded_of_cond_sized (C := Try.checked) (s := Rows.OpenSpec.upto Rows.relocOwnsSpec) (k := Rows.uptoSmall) rfl own started (by kernel_rfl) Try.func5
    (OpenSpec.witness (enc := enc) (C := Try.checked) (s := Rows.OpenSpec.upto Rows.relocOwnsSpec) (k := Rows.uptoSmall) rfl false ⟨#[], #[.slice none 0 0, .slice none 0 0], []⟩ 8 (by kernel_rfl) (by kernel_rfl) (by kernel_rfl)
      (x := ([.nil, .nil], [], [])) (by kernel_rfl) rfl (by kernel_rfl)) ?_
  intro W base args ds gs before hval0 hW hcnd hk hsz0 _
  have hsz : (DataW.weightsEach Try.prog (Try.f5.params.toList ++ (Rows.OpenSpec.upto Rows.relocOwnsSpec).bare.plain.varTypes Try.prog) (ds ++ gs)).all (· ≤ reachBytes) = true := hsz0
  have hval : ∀ (j : Nat) t v, Try.f5.params[j]? = some t → args[j]? = some v → Value.okWide Try.prog W .any base t v := hval0
  have hW' := hW
  obtain ⟨p, q, hA0, hV, rfl, hfz, hnd⟩ := hW
  have hA : DataW.TrodAll enc Try.prog W 0 (fun _ => true) true Try.f5.params.toList args.toList ds p := hA0
  rw [Try.params5] at hA hval hsz
  obtain ⟨v0, vs0, d0, ds0, p0, q0, hargs, rfl, rfl, h0, r0⟩ := trodAll_cons hA
  obtain ⟨v1, vs1, d1, ds1, p1, q1, rfl, rfl, rfl, h1, r1⟩ := trodAll_cons r0
  obtain ⟨rfl, rfl, rfl⟩ := trodAll_nil r1
  obtain rfl : args = #[v0, v1] := by cases args; simp_all
  obtain ⟨rfl, rfl⟩ := trodVars_none hV
  have k0 := h0
  have lt0 : ∀ x ∈ p0, x.block < W.heap.size := by obtain ⟨m, hm⟩ := k0; exact DataW.trod_lt m _ _ _ hm
  have k1 := h1
  have lt1 : ∀ x ∈ p1, x.block < W.heap.size := by obtain ⟨m, hm⟩ := k1; exact DataW.trod_lt m _ _ _ hm
  obtain ⟨a0, len0, cap0, rfl⟩ := okWide_slice Try.underlying22 (hval 0 22 v0 rfl rfl)
  obtain ⟨a1, len1, cap1, rfl⟩ := okWide_slice Try.underlying30 (hval 1 30 v1 rfl rfl)
  have hbulk : Rows.uptoBulk d0 + Rows.uptoBulk d1 ≤ 1048576 := by
    have h : Rows.uptoBulkAll ((d0 :: d1 :: []) ++ []) ≤ 1048576 := of_decide_eq_true hk
    rw [List.append_nil] at h
    simp only [Rows.uptoBulkAll] at h
    omega
  have y0 : len0 ≤ 1048576 := by
    obtain ⟨fuel, hf⟩ := k0
    rcases DataW.trod_slice Try.underlying22 hf with ⟨hcs, _⟩ | ⟨x, l, c, elems, rest, n, _, hcs, hd, _, _, _, hlen, _⟩
    · simp [Value.cells] at hcs
      omega
    · simp [Value.cells] at hcs
      obtain ⟨_, e1, _⟩ := hcs
      have hd0 : d0 = .slice (elems.map (·.1)) (rest.map (·.1)) := (Prod.mk.injEq .. ▸ hd).1
      subst hd0
      have h1 := bulk_len (H := H) (elems.map (·.1))
      simp only [Rows.uptoBulkAll, Rows.uptoBulk] at hbulk
      rw [List.length_map] at h1
      omega
  obtain ⟨z1, w1, y1⟩ : ∃ zs, IsRow .u8 W a1 len1 cap1 zs ∧ len1 ≤ 1048576 := by
    obtain ⟨fuel, hf⟩ := h1
    rcases open_ints Try.underlying30 Try.underlying5 (by kernel_rfl) hf with ⟨hcs, _⟩ | ⟨x, l, c, zs, hcs, _, hl, hm, hz, hd, hcell, hwz⟩
    · simp [Value.cells] at hcs
      obtain ⟨rfl, rfl, rfl⟩ := hcs
      exact ⟨[], .inl ⟨rfl, rfl, rfl, rfl⟩, Nat.zero_le _⟩
    · simp [Value.cells] at hcs
      obtain ⟨rfl, rfl, rfl⟩ := hcs
      refine ⟨zs, .inr ⟨_, rfl, hl, hm, by simpa using hz, hcell, hwz⟩, ?_⟩
      have hd1 : d1 = .slice (lits .u8 (zs.take len1)) (lits .u8 (zs.drop len1)) := (Prod.mk.injEq .. ▸ hd).1
      subst hd1
      have h1 := bulk_len (H := H) (lits .u8 (zs.take len1))
      simp only [Rows.uptoBulkAll, Rows.uptoBulk] at hbulk
      have h2 : (lits (H := H) .u8 (zs.take len1)).length = len1 := by
        have hz' : zs.length = cap1 := by simpa using hz
        simp [lits]; omega
      omega
  obtain ⟨l0, hK0, ok0⟩ := opn_arg (opn_slice Try.underlying22 (by kernel_rfl) (opnT27)) h0 hsz (j := 0) rfl rfl
  obtain ⟨A0, c0, e0, hc0, hr0⟩ := hK0
  simp only [Value.cells, List.cons.injEq, and_true, Value.slice.injEq] at e0
  obtain ⟨rfl, rfl, rfl⟩ := e0
  clear hA0 hval0 hsz0 hsz
  refine (whole _ l0 _ a1 len1 cap1 z1 W hr0 hc0 y0 w1 y1).mono fun e W' hq => ?_
  obtain ⟨rfl, bel⟩ := hq
  exact ⟨_, rfl, _, _, _, [], _, [], hW', trodAll_mk1 (shut_bool Try.underlying4 _), (trodAll_cons_mk (Below.trod laidOut (by kernel_rfl) (of_decide_eq_true (by kernel_rfl)) k0 bel lt0) (trodAll_cons_mk (Below.trod laidOut (by kernel_rfl) (of_decide_eq_true (by kernel_rfl)) k1 bel lt1) trodAll_mk0)), rfl, bel.frame _, fun h => by cases h⟩
theorem proved : Rows.RelocOwnsUptoSaid :=
  OpenClaim.holds_of_cond 5 Try.f5 rfl rfl rfl rfl rfl rfl rfl ⟨rfl, rfl, rfl, rfl, rfl⟩ rfl rfl rfl rfl rfl (by kernel_rfl) Try.func5 (by kernel_rfl)
    (of_decide_eq_true (by kernel_rfl)) (by unfold Func.isWrapper; first | (rw [if_pos (by decide +kernel)]; kernel_rfl) | (rw [if_neg (by decide +kernel)]; exact ⟨rfl, rfl⟩))
    (fun os started H enc _ F => lifted os started H enc F)
#print axioms proved
end Go.Proofs.Ytolhfcefpjfobaa.relocOwns
namespace Go.Proofs.Ytolhfcefpjfobaa
/-- The row, under a short name, for the claim. -/
theorem relocOwnsUpto_holds : Rows.RelocOwnsUptoSaid := relocOwns.proved
end Go.Proofs.Ytolhfcefpjfobaa
end
