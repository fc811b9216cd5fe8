-- The row of the second form for RelocWrites. The frame is the kit's print, turned to the second form by this session; walk, contracts of the tray and the pure law are this session's.
import Derived.Test.YtolhfcefpjfobaaRows
import Derived.Test.YtolhfcefpjfobaaTray4
import Derived.Test.YtolhfcefpjfobaaFactsW
import Derived.Test.YtolhfcefpjfobaaOkRelocBack
import Derived.WalkKit
import Derived.ProofKit
import Derived.OpenShut
import Derived.ShutString
import Derived.ChangeOld
import Derived.Below
import Derived.SizedLaws
import Derived.Deep.CondSized
namespace Go.Proofs.Ytolhfcefpjfobaa.relocWrites
open Go.ChangeShapes Go.WideShapes Go.ChangeAt Go.RowKit Go.Proofs.YtolhfcefpjfobaaW.Open Go.Proofs.Ytolhfcefpjfobaa.PR Go.Proofs.YtolhfcefpjfobaaW.PrintWords
open Go.ChangeMaps (open_string shut_string)
open Go.Proofs.Ytolhfcefpjfobaa.Facts
set_option linter.unusedVariables false
theorem own : ownKnob Try.prog.godebug = none := by kernel_rfl
theorem laidOut : laidOutB Try.prog = true := by kernel_rfl
theorem bulk_one {H : Type} (d : DataW H) : 1 ≤ Rows.uptoBulk d := by
  cases d with
  | lit l => cases l <;> simp [Rows.uptoBulk]
  | nil => simp [Rows.uptoBulk]
  | ptr d => simp [Rows.uptoBulk]
  | slice elems spare => simp [Rows.uptoBulk]
  | agg parts => simp [Rows.uptoBulk]
  | iface t d => simp [Rows.uptoBulk]
  | map entries => simp [Rows.uptoBulk]
  | held h => simp [Rows.uptoBulk]
theorem bulk_len {H : Type} (l : List (DataW H)) : l.length ≤ Rows.uptoBulkAll l := by
  induction l with
  | nil => simp [Rows.uptoBulkAll]
  | cons x r ih => have := bulk_one x; simp only [Rows.uptoBulkAll, List.length_cons]; omega
theorem whole (A : Option Addr) (rs : List S27) (c : Nat) (w : World) (hc : Kd.C k27 w A rs.length rs) (hac : rs.length ≤ c) (hsz : rs.length ≤ 1048576) :
    Calls Try.prog 3 #[.slice A rs.length c] w fun e w' => e = .returned (.bool true) ∧ Below w.heap.size w w' := by
  obtain ⟨x, x1, x2⟩ := wboth_eq rs (by omega) (10000000 + 40) (by omega)
  obtain ⟨y, y1, y2⟩ := wboth_eq (rs.map Lend.oth) (by simp; omega) (10000000 + 40) (by simp; omega)
  exact Lend.writes_ (10000000 + 40) w c A rs x.1 y.1 x.2 y.2 hsz hc hac
    y2 y1 (same_eq _ (by simp; omega) _ (by simp; omega)) (sameBytes_refl _) rfl
    x2 x1 (same_eq _ (by omega) _ (by omega)) (sameBytes_refl _) rfl (awake_k _)
set_option maxRecDepth 100000 in
theorem lifted (os : Os) (started : os.Started) (H : Type) (enc : TypeId × Value → H) (F : Stop.Interp) :
    ReturnsInHanded {} Try.checked os 3 .any ((Rows.OpenSpec.upto Rows.relocWritesSpec).pre6 enc Try.prog Try.f3 Rows.relocWritesUptoRow.domain false) (((Rows.OpenSpec.upto Rows.relocWritesSpec).at F).post enc Try.prog Try.f3 false true false false) := by
  refine returnsInHanded_of_cond_sized (C := Try.checked) (s := Rows.OpenSpec.upto Rows.relocWritesSpec) (k := Rows.uptoSmall) rfl own started (by kernel_rfl) Try.func3
    (OpenSpec.witness (enc := enc) (C := Try.checked) (s := Rows.OpenSpec.upto Rows.relocWritesSpec) (k := Rows.uptoSmall) rfl false ⟨#[], #[.slice none 0 0], []⟩ 8 (by kernel_rfl) (by kernel_rfl) (by kernel_rfl)
      (x := ([.nil], [], [])) (by kernel_rfl) rfl (by kernel_rfl)) ?_
  intro W base args ds gs before hval0 hW hcnd hk hsz0 _
  have hsz : (DataW.weightsEach Try.prog (Try.f3.params.toList ++ (Rows.OpenSpec.upto Rows.relocWritesSpec).bare.plain.varTypes Try.prog) (ds ++ gs)).all (· ≤ reachBytes) = true := hsz0
  have hval : ∀ (j : Nat) t v, Try.f3.params[j]? = some t → args[j]? = some v → Value.okWide Try.prog W .any base t v := hval0
  have hW' := hW
  obtain ⟨p, q, hA0, hV, rfl, hfz, hnd⟩ := hW
  have hA : DataW.TrodAll enc Try.prog W 0 (fun _ => true) true Try.f3.params.toList args.toList ds p := hA0
  rw [Try.params3] at hA hval hsz
  obtain ⟨v0, vs0, d0, ds0, p0, q0, hargs, rfl, rfl, h0, r0⟩ := trodAll_cons hA
  obtain ⟨rfl, rfl, rfl⟩ := trodAll_nil r0
  obtain rfl : args = #[v0] := by cases args; simp_all
  obtain ⟨rfl, rfl⟩ := trodVars_none hV
  have k0 := h0
  have lt0 : ∀ x ∈ p0, x.block < W.heap.size := by obtain ⟨m, hm⟩ := k0; exact DataW.trod_lt m _ _ _ hm
  obtain ⟨a0, len0, cap0, rfl⟩ := okWide_slice Try.underlying22 (hval 0 22 v0 rfl rfl)
  have y0 : len0 ≤ 1048576 := by
    have hbulk : Rows.uptoBulkAll ((d0 :: []) ++ []) ≤ 1048576 := of_decide_eq_true hk
    rw [List.append_nil] at hbulk
    obtain ⟨fuel, hf⟩ := k0
    rcases DataW.trod_slice Try.underlying22 hf with ⟨hcs, _⟩ | ⟨x, l, c, elems, rest, n, _, hcs, hd, _, _, _, hlen, _⟩
    · simp [Value.cells] at hcs
      omega
    · simp [Value.cells] at hcs
      obtain ⟨_, e1, _⟩ := hcs
      have hd0 : d0 = .slice (elems.map (·.1)) (rest.map (·.1)) := (Prod.mk.injEq .. ▸ hd).1
      subst hd0
      have h1 := bulk_len (H := H) (elems.map (·.1))
      simp only [Rows.uptoBulkAll, Rows.uptoBulk] at hbulk
      rw [List.length_map] at h1
      omega
  obtain ⟨l0, hK0, ok0⟩ := opn_arg (opn_slice Try.underlying22 (by kernel_rfl) (opnT27)) h0 hsz (j := 0) rfl rfl
  obtain ⟨A0, c0, e0, hc0, hr0⟩ := hK0
  simp only [Value.cells, List.cons.injEq, and_true, Value.slice.injEq] at e0
  obtain ⟨rfl, rfl, rfl⟩ := e0
  clear hA0 hval0 hsz0 hsz
  refine (whole _ l0 _ W hr0 hc0 y0).mono fun e W' hq => ?_
  obtain ⟨rfl, bel⟩ := hq
  exact ⟨_, rfl, _, _, _, [], _, [], hW', trodAll_mk1 (shut_bool Try.underlying4 _), (trodAll_cons_mk (Below.trod laidOut (by kernel_rfl) (of_decide_eq_true (by kernel_rfl)) k0 bel lt0) trodAll_mk0), rfl, bel.frame _, fun h => by cases h⟩
theorem proved : Rows.RelocWritesUptoSaid :=
  OpenClaim.holds_of_cond 3 Try.f3 rfl rfl rfl rfl rfl rfl rfl ⟨rfl, rfl, rfl, rfl, rfl⟩ rfl rfl rfl rfl rfl (by kernel_rfl) Try.func3 (by kernel_rfl)
    (of_decide_eq_true (by kernel_rfl)) (by unfold Func.isWrapper; first | (rw [if_pos (by decide +kernel)]; kernel_rfl) | (rw [if_neg (by decide +kernel)]; exact ⟨rfl, rfl⟩))
    (fun os started H enc _ F => lifted os started H enc F)
#print axioms proved
end Go.Proofs.Ytolhfcefpjfobaa.relocWrites
namespace Go.Proofs.Ytolhfcefpjfobaa
/-- The row, under a short name, for the claim. -/
theorem relocWritesUpto_holds : Rows.RelocWritesUptoSaid := relocWrites.proved
end Go.Proofs.Ytolhfcefpjfobaa
