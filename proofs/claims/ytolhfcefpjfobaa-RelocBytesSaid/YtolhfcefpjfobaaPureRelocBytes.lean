/- Write of what Read gives is the bytes; what Read refuses is refused at one of its places. No condition: every list of bytes. -/
import Derived.Test.YtolhfcefpjfobaaPRx8
import Derived.Test.YtolhfcefpjfobaaFactsB
namespace Go.Proofs.Ytolhfcefpjfobaa.Pure
open Go.RowKit Go.Proofs.Ytolhfcefpjfobaa.PR Go.Proofs.YtolhfcefpjfobaaW.PrintWords Go.Proofs.YtolhfcefpjfobaaW.PrintLast Go.Proofs.Ytolhfcefpjfobaa.Facts

theorem RelocBytes : spindlelaw11_RelocBytes.Pure := by
  intro b _ hl hw
  have hb : Bytes b := by
    intro x hx
    have h' : 0 ≤ x ∧ x ≤ 255 := by simpa [Lit.wf, IntKind.min, IntKind.max, IntKind.signed, IntKind.bits] using hw x hx
    omega
  obtain ⟨x, hx, ha⟩ := read_eq b hb (by omega) (b.length + 200000 + 40) (by omega)
  refine ⟨b.length + 200000 + 40, ?_⟩
  unfold spindlelaw11_RelocBytes.f
  rw [hx, Option.bind_some, awake_k]
  rcases ha with ⟨h1, h2, h3, h4⟩ | ⟨h1, h2, h3, h4, h5⟩
  · have hlen := good_length x.1 _ h3 (by omega) (by omega)
    rw [if_pos h1, (write_eq x.1 (b.length + 200000 + 40) (by omega) (by omega)).1 h3, Option.bind_some, if_pos rfl, if_pos h2, h4]
    unfold spindlelaw0_SameBytes.f
    rw [Option.bind_some, beq_self_eq_true, if_pos rfl, Option.bind_some]
  · have e4 : Int.tmod x.2.1 4 = 0 := by rw [Int.tmod_eq_emod_of_nonneg h2]; exact h4
    rw [if_neg (by omega), if_pos (by rw [h1]; rfl), if_pos h2, if_pos h3, if_pos e4]
    rcases h5 with h5 | ⟨h5, h6, h7⟩
    · rw [if_pos h5, Option.bind_some]
    · have e16 : Int.tmod x.2.1 16 = 0 := by rw [Int.tmod_eq_emod_of_nonneg h2]; exact h6
      rw [if_neg (by omega), if_pos h5, if_pos e16, if_pos h7, Option.bind_some]

end Go.Proofs.Ytolhfcefpjfobaa.Pure
