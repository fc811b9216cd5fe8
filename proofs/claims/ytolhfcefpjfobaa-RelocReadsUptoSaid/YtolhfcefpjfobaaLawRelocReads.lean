-- The row of the second form for RelocReads. The frame is the kit's print, turned to the second form by this session; walk, contracts of the lender and the pure law are this session's.
import Derived.Test.YtolhfcefpjfobaaRows
import Derived.Test.YtolhfcefpjfobaaLend3
import Derived.Test.YtolhfcefpjfobaaFactsR
import Derived.WalkKit
import Derived.ProofKit
import Derived.OpenShut
import Derived.ShutString
import Derived.ChangeOld
import Derived.Below
import Derived.SizedLaws
import Derived.JoinedCond
import Derived.Test.YtolhfcefpjfobaaWSized
namespace Go.Proofs.Ytolhfcefpjfobaa.relocReads
open Go.ChangeShapes Go.WideShapes Go.ChangeAt Go.RowKit
open Go.ChangeMaps (open_string shut_string)
open Go.Proofs.Ytolhfcefpjfobaa.PR Go.Proofs.YtolhfcefpjfobaaW.PrintWords Go.Proofs.Ytolhfcefpjfobaa.Facts
set_option linter.unusedVariables false
theorem own : ownKnob Try.prog.godebug = none := by kernel_rfl
theorem laidOut : laidOutB Try.prog = true := by kernel_rfl
def IsRow (k : IntKind) (w : World) (a : Option Addr) (len cap : Nat) (zs : List Int) : Prop :=
  (a = none ∧ len = 0 ∧ cap = 0 ∧ zs = []) ∨
  ∃ x, a = some x ∧ len ≤ cap ∧ cap ≤ maxLen ∧ zs.length = cap ∧ (∀ i, i < zs.length → w.cell? (x.add i) = some (.int k (zs.getD i 0))) ∧ ∀ n ∈ zs, (Lit.int k n).wf = true
theorem copied (b : List Int) (h : b.length < 1000000000) : spindlelaw0_CopyBytes.f b = some b := by
  unfold spindlelaw0_CopyBytes.f
  rw [Option.bind_some, if_pos (by simp only [List.length_nil]; omega), List.nil_append]
theorem walk (a0 : Option Addr) (len0 cap0 : Nat) (z0 : List Int) (w : World) (w0 : IsRow .u8 w a0 len0 cap0 z0) (hsz : len0 ≤ 1048576) :
    Calls Try.prog 4 #[.slice a0 len0 cap0] w fun e w' => e = .returned (.bool true) ∧ Below w.heap.size w w' := by
  obtain ⟨a, rfl, hr0, hm0, hw0, hc0⟩ := ReadsInt.ofRowC w0
  have hb : Bytes a := by
    intro x hx
    have h' : 0 ≤ x ∧ x ≤ 255 := by simpa [Lit.wf, IntKind.min, IntKind.max, IntKind.signed, IntKind.bits] using hw0 x hx
    omega
  obtain ⟨b, t1, t2, t3⟩ := turned_eq a (by omega) hb (10000000 + 40) (by omega)
  obtain ⟨x, x1, x2⟩ := both_eq a hb (by omega) (10000000 + 40) (by omega)
  obtain ⟨y, y1, y2⟩ := both_eq b t3 (by omega) (10000000 + 40) (by omega)
  have sz : ∀ (c : List Int) (z : List S27 × Int × Int), Bytes c → c.length ≤ 1048576 → reloc_Read.f (10000000 + 40) c = some z → z.1.length ≤ 65537 := by
    intro c z hc hl h
    obtain ⟨z', e, ha⟩ := read_eq c hc (by omega) (10000000 + 40) (by omega)
    rw [h] at e
    obtain rfl := Option.some.inj e
    rcases ha with ⟨_, _, h3, _⟩ | ⟨h1, _⟩
    · have := good_length z.1 _ h3 (by omega) (by omega)
      omega
    · rw [h1]; simp
  have lx := sz a x hb hsz x1
  have ly := sz b y t3 (by omega) y1
  exact Lend.reads_ (10000000 + 40) w cap0 a0 a b x.1 y.1 x.2.1 x.2.2 y.2.1 y.2.2 hsz (by omega) (Kd.C_of_reads (d := (0 : Int)) (h1 := fun _ => rfl) hr0) hc0 t1
    (copied b (by omega)) y2 y1 (same_eq y.1 (by omega) _ (by omega)) rfl
    (copied a (by omega)) x2 x1 (same_eq x.1 (by omega) _ (by omega)) rfl (awake_k _)
theorem bulk_one {H : Type} (d : DataW H) : 1 ≤ Rows.uptoBulk d := by
  cases d with
  | lit l => cases l <;> simp [Rows.uptoBulk]
  | nil => simp [Rows.uptoBulk]
  | ptr d => simp [Rows.uptoBulk]
  | slice elems spare => simp [Rows.uptoBulk]
  | agg parts => simp [Rows.uptoBulk]
  | iface t d => simp [Rows.uptoBulk]
  | map entries => simp [Rows.uptoBulk]
  | held h => simp [Rows.uptoBulk]
theorem bulk_len {H : Type} (l : List (DataW H)) : l.length ≤ Rows.uptoBulkAll l := by
  induction l with
  | nil => simp [Rows.uptoBulkAll]
  | cons x r ih => have := bulk_one x; simp only [Rows.uptoBulkAll, List.length_cons]; omega
set_option maxRecDepth 100000 in
theorem lifted (os : Os) (started : os.Started) (H : Type) (enc : TypeId × Value → H) (F : Stop.Interp) :
    ReturnsInHanded {} Try.checked os 4 .any ((Rows.OpenSpec.upto Rows.relocReadsSpec).pre6 enc Try.prog Try.f4 Rows.relocReadsUptoRow.domain false) (((Rows.OpenSpec.upto Rows.relocReadsSpec).at F).post enc Try.prog Try.f4 false true false false) := by
  refine returnsInHanded_of_cond (C := Try.checked) (s := Rows.OpenSpec.upto Rows.relocReadsSpec) (k := Rows.uptoSmall) rfl own started (by kernel_rfl) Try.func4
    (OpenSpec.witness (enc := enc) (C := Try.checked) (s := Rows.OpenSpec.upto Rows.relocReadsSpec) (k := Rows.uptoSmall) rfl false ⟨#[], #[.slice none 0 0], []⟩ 8 (by kernel_rfl) (by kernel_rfl) (by kernel_rfl)
      (x := ([.nil], [], [])) (by kernel_rfl) rfl (by kernel_rfl)) ?_
  intro W base args ds gs before hval0 hW hcnd hk _
  have hval : ∀ (j : Nat) t v, Try.f4.params[j]? = some t → args[j]? = some v → Value.okWide Try.prog W .any base t v := hval0
  have hW' := hW
  obtain ⟨p, q, hA0, hV, rfl, hfz, hnd⟩ := hW
  have hA : DataW.TrodAll enc Try.prog W 0 (fun _ => true) true Try.f4.params.toList args.toList ds p := hA0
  rw [Try.params4] at hA hval
  obtain ⟨v0, vs0, d0, ds0, p0, q0, hargs, rfl, rfl, h0, r0⟩ := trodAll_cons hA
  obtain ⟨rfl, rfl, rfl⟩ := trodAll_nil r0
  obtain rfl : args = #[v0] := by cases args; simp_all
  obtain ⟨rfl, rfl⟩ := trodVars_none hV
  obtain ⟨a0, len0, cap0, rfl⟩ := okWide_slice Try.underlying30 (hval 0 30 v0 rfl rfl)
  have k0 := h0
  have lt0 : ∀ x ∈ p0, x.block < W.heap.size := by obtain ⟨m, hm⟩ := k0; exact DataW.trod_lt m _ _ _ hm
  have hbulk : Rows.uptoBulkAll (d0 :: []) ≤ 1048576 := by
    have h : Rows.uptoBulkAll ((d0 :: []) ++ []) ≤ 1048576 := of_decide_eq_true hk
    simpa only [List.append_nil] using h
  obtain ⟨z0, w0, y0⟩ : ∃ zs, IsRow .u8 W a0 len0 cap0 zs ∧ len0 ≤ 1048576 := by
    obtain ⟨fuel, hf⟩ := h0
    rcases open_ints Try.underlying30 Try.underlying5 (by kernel_rfl) hf with ⟨hcs, _⟩ | ⟨x, l, c, zs, hcs, _, hl, hm, hz, hd, hcell, hwz⟩
    · simp [Value.cells] at hcs
      obtain ⟨rfl, rfl, rfl⟩ := hcs
      exact ⟨[], .inl ⟨rfl, rfl, rfl, rfl⟩, Nat.zero_le _⟩
    · simp [Value.cells] at hcs
      obtain ⟨rfl, rfl, rfl⟩ := hcs
      refine ⟨zs, .inr ⟨_, rfl, hl, hm, by simpa using hz, hcell, hwz⟩, ?_⟩
      have hd0 : d0 = .slice (lits .u8 (zs.take len0)) (lits .u8 (zs.drop len0)) := (Prod.mk.injEq .. ▸ hd).1
      subst hd0
      have h1 := bulk_len (H := H) (lits .u8 (zs.take len0))
      simp only [Rows.uptoBulkAll, Rows.uptoBulk] at hbulk
      have h2 : (lits (H := H) .u8 (zs.take len0)).length = len0 := by
        have hz' : zs.length = cap0 := by simpa using hz
        simp [lits]; omega
      omega
  clear hA0 hval0 hbulk hk
  refine (walk a0 len0 cap0 z0 W w0 y0).mono fun e W' ⟨he, bel⟩ => ?_
  subst he
  exact ⟨_, rfl, _, _, _, [], _, [], hW', trodAll_mk1 (shut_bool Try.underlying4 _), (trodAll_cons_mk (Below.trod laidOut (by kernel_rfl) (of_decide_eq_true (by kernel_rfl)) k0 bel lt0) trodAll_mk0), rfl, bel.frame _, fun h => by cases h⟩
theorem proved : Rows.RelocReadsUptoSaid :=
  OpenClaim.holds_of_cond 4 Try.f4 rfl rfl rfl rfl rfl rfl rfl ⟨rfl, rfl, rfl, rfl, rfl⟩ rfl rfl rfl rfl rfl (by kernel_rfl) Try.func4 (by kernel_rfl)
    (of_decide_eq_true (by kernel_rfl)) (by unfold Func.isWrapper; first | (rw [if_pos (by decide +kernel)]; kernel_rfl) | (rw [if_neg (by decide +kernel)]; exact ⟨rfl, rfl⟩))
    (fun os started H enc _ F => lifted os started H enc F)
#print axioms proved
end Go.Proofs.Ytolhfcefpjfobaa.relocReads
namespace Go.Proofs.Ytolhfcefpjfobaa
/-- The row, under a short name, for the claim. -/
theorem relocReadsUpto_holds : Rows.RelocReadsUptoSaid := relocReads.proved
end Go.Proofs.Ytolhfcefpjfobaa
