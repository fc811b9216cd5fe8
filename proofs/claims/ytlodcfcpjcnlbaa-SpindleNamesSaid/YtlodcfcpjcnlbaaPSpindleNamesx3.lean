-- PRINTED BY print.sh 35421559b90ae4d0a3588c463048766b98c2df88dd9212a6774a882060cdf62d: not written by this session
import Derived.Test.YtlodcfcpjcnlbaaPSpindleNamesx0
import Derived.Test.YtlodcfcpjcnlbaaPSpindleNamesx1
import Derived.Test.YtlodcfcpjcnlbaaPSpindleNamesx2
namespace Go.Proofs.Ytlodcfcpjcnlbaa.PSpindleNames
open Go.RowKit Go.Proofs.YtlodcfcpjcnlbaaW.PrintWords Go.Proofs.YtlodcfcpjcnlbaaW.PrintLast Go.Proofs.YtlodcfcpjcnlbaaW.PrintMore
attribute [local go_sem] max2_int min2_int max_two min_two max_three min_three max_four min_four   -- for this text's walks alone
set_option linter.unusedVariables false
set_option linter.unusedSimpArgs false

/-! ### spindlelaw0_errors7: function 10 -/
def spindlelaw0_errors7.f  : Option (Bool) := (spindlelaw0_Num.f 224).bind fun t185 => (if t185 = 224 then ((spindlelaw0_Num.f 225).bind fun t186 => (if t186 = 225 then ((spindlelaw0_Num.f 226).bind fun t187 => (if t187 = 226 then ((spindlelaw0_Num.f 227).bind fun t188 => (if t188 = 227 then ((spindlelaw0_Num.f 228).bind fun t189 => (if t189 = 228 then ((spindlelaw0_Num.f 229).bind fun t190 => (if t190 = 229 then ((spindlelaw0_Num.f 230).bind fun t191 => (if t191 = 230 then ((spindlelaw0_Num.f 250).bind fun t192 => (if t192 = 250 then ((spindlelaw0_Num.f 251).bind fun t193 => (if t193 = 251 then ((spindlelaw0_Num.f 260).bind fun t194 => (if t194 = 260 then ((spindlelaw0_Num.f 261).bind fun t195 => (if t195 = 261 then ((spindlelaw0_Num.f 270).bind fun t196 => (if t196 = 270 then ((spindlelaw0_Num.f 271).bind fun t197 => (if t197 = 271 then ((spindlelaw0_Num.f 272).bind fun t198 => (some (t198 == 272))) else (some false))) else (some false))) else (some false))) else (some false))) else (some false))) else (some false))) else (some false))) else (some false))) else (some false))) else (some false))) else (some false))) else (some false))) else (some false))
set_option maxHeartbeats 8000000 in
set_option maxRecDepth 100000 in
theorem spindlelaw0_errors7.calls  (r : Bool) (w : World) (h : spindlelaw0_errors7.f  = some r) :
    Calls Try.prog 10 #[] w fun e w' => e = .returned (.bool r) ∧ Drawn0 w w' := by
  have H : ((spindlelaw0_Num.f 224).bind fun t185 => (if t185 = 224 then ((spindlelaw0_Num.f 225).bind fun t186 => (if t186 = 225 then ((spindlelaw0_Num.f 226).bind fun t187 => (if t187 = 226 then ((spindlelaw0_Num.f 227).bind fun t188 => (if t188 = 227 then ((spindlelaw0_Num.f 228).bind fun t189 => (if t189 = 228 then ((spindlelaw0_Num.f 229).bind fun t190 => (if t190 = 229 then ((spindlelaw0_Num.f 230).bind fun t191 => (if t191 = 230 then ((spindlelaw0_Num.f 250).bind fun t192 => (if t192 = 250 then ((spindlelaw0_Num.f 251).bind fun t193 => (if t193 = 251 then ((spindlelaw0_Num.f 260).bind fun t194 => (if t194 = 260 then ((spindlelaw0_Num.f 261).bind fun t195 => (if t195 = 261 then ((spindlelaw0_Num.f 270).bind fun t196 => (if t196 = 270 then ((spindlelaw0_Num.f 271).bind fun t197 => (if t197 = 271 then ((spindlelaw0_Num.f 272).bind fun t198 => (some (t198 == 272))) else (some false))) else (some false))) else (some false))) else (some false))) else (some false))) else (some false))) else (some false))) else (some false))) else (some false))) else (some false))) else (some false))) else (some false))) else (some false))) = some r := h
  clear h
  replace H := Option.bind_eq_some_iff.mp H
  obtain ⟨t185, A10, H⟩ := H
  replace H : (if t185 = 224 then ((spindlelaw0_Num.f 225).bind fun t186 => (if t186 = 225 then ((spindlelaw0_Num.f 226).bind fun t187 => (if t187 = 226 then ((spindlelaw0_Num.f 227).bind fun t188 => (if t188 = 227 then ((spindlelaw0_Num.f 228).bind fun t189 => (if t189 = 228 then ((spindlelaw0_Num.f 229).bind fun t190 => (if t190 = 229 then ((spindlelaw0_Num.f 230).bind fun t191 => (if t191 = 230 then ((spindlelaw0_Num.f 250).bind fun t192 => (if t192 = 250 then ((spindlelaw0_Num.f 251).bind fun t193 => (if t193 = 251 then ((spindlelaw0_Num.f 260).bind fun t194 => (if t194 = 260 then ((spindlelaw0_Num.f 261).bind fun t195 => (if t195 = 261 then ((spindlelaw0_Num.f 270).bind fun t196 => (if t196 = 270 then ((spindlelaw0_Num.f 271).bind fun t197 => (if t197 = 271 then ((spindlelaw0_Num.f 272).bind fun t198 => (some (t198 == 272))) else (some false))) else (some false))) else (some false))) else (some false))) else (some false))) else (some false))) else (some false))) else (some false))) else (some false))) else (some false))) else (some false))) else (some false))) else (some false)) = some r := H
  have A1 := Aside0.mk A10
  clear A10
  by_cases c2 : t185 = 224
  · rw [if_pos c2] at H
    have c2b0 : (t185 == 224) = true := beq_iff_eq.mpr c2
    have c2b1 : (t185 != 224) = false := bne_eq_false_iff_eq.mpr c2
    clear c2
    replace H := Option.bind_eq_some_iff.mp H
    obtain ⟨t186, A30, H⟩ := H
    replace H : (if t186 = 225 then ((spindlelaw0_Num.f 226).bind fun t187 => (if t187 = 226 then ((spindlelaw0_Num.f 227).bind fun t188 => (if t188 = 227 then ((spindlelaw0_Num.f 228).bind fun t189 => (if t189 = 228 then ((spindlelaw0_Num.f 229).bind fun t190 => (if t190 = 229 then ((spindlelaw0_Num.f 230).bind fun t191 => (if t191 = 230 then ((spindlelaw0_Num.f 250).bind fun t192 => (if t192 = 250 then ((spindlelaw0_Num.f 251).bind fun t193 => (if t193 = 251 then ((spindlelaw0_Num.f 260).bind fun t194 => (if t194 = 260 then ((spindlelaw0_Num.f 261).bind fun t195 => (if t195 = 261 then ((spindlelaw0_Num.f 270).bind fun t196 => (if t196 = 270 then ((spindlelaw0_Num.f 271).bind fun t197 => (if t197 = 271 then ((spindlelaw0_Num.f 272).bind fun t198 => (some (t198 == 272))) else (some false))) else (some false))) else (some false))) else (some false))) else (some false))) else (some false))) else (some false))) else (some false))) else (some false))) else (some false))) else (some false))) else (some false)) = some r := H
    have A3 := Aside0.mk A30
    clear A30
    by_cases c4 : t186 = 225
    · rw [if_pos c4] at H
      have c4b0 : (t186 == 225) = true := beq_iff_eq.mpr c4
      have c4b1 : (t186 != 225) = false := bne_eq_false_iff_eq.mpr c4
      clear c4
      replace H := Option.bind_eq_some_iff.mp H
      obtain ⟨t187, A50, H⟩ := H
      replace H : (if t187 = 226 then ((spindlelaw0_Num.f 227).bind fun t188 => (if t188 = 227 then ((spindlelaw0_Num.f 228).bind fun t189 => (if t189 = 228 then ((spindlelaw0_Num.f 229).bind fun t190 => (if t190 = 229 then ((spindlelaw0_Num.f 230).bind fun t191 => (if t191 = 230 then ((spindlelaw0_Num.f 250).bind fun t192 => (if t192 = 250 then ((spindlelaw0_Num.f 251).bind fun t193 => (if t193 = 251 then ((spindlelaw0_Num.f 260).bind fun t194 => (if t194 = 260 then ((spindlelaw0_Num.f 261).bind fun t195 => (if t195 = 261 then ((spindlelaw0_Num.f 270).bind fun t196 => (if t196 = 270 then ((spindlelaw0_Num.f 271).bind fun t197 => (if t197 = 271 then ((spindlelaw0_Num.f 272).bind fun t198 => (some (t198 == 272))) else (some false))) else (some false))) else (some false))) else (some false))) else (some false))) else (some false))) else (some false))) else (some false))) else (some false))) else (some false))) else (some false)) = some r := H
      have A5 := Aside0.mk A50
      clear A50
      by_cases c6 : t187 = 226
      · rw [if_pos c6] at H
        have c6b0 : (t187 == 226) = true := beq_iff_eq.mpr c6
        have c6b1 : (t187 != 226) = false := bne_eq_false_iff_eq.mpr c6
        clear c6
        replace H := Option.bind_eq_some_iff.mp H
        obtain ⟨t188, A70, H⟩ := H
        replace H : (if t188 = 227 then ((spindlelaw0_Num.f 228).bind fun t189 => (if t189 = 228 then ((spindlelaw0_Num.f 229).bind fun t190 => (if t190 = 229 then ((spindlelaw0_Num.f 230).bind fun t191 => (if t191 = 230 then ((spindlelaw0_Num.f 250).bind fun t192 => (if t192 = 250 then ((spindlelaw0_Num.f 251).bind fun t193 => (if t193 = 251 then ((spindlelaw0_Num.f 260).bind fun t194 => (if t194 = 260 then ((spindlelaw0_Num.f 261).bind fun t195 => (if t195 = 261 then ((spindlelaw0_Num.f 270).bind fun t196 => (if t196 = 270 then ((spindlelaw0_Num.f 271).bind fun t197 => (if t197 = 271 then ((spindlelaw0_Num.f 272).bind fun t198 => (some (t198 == 272))) else (some false))) else (some false))) else (some false))) else (some false))) else (some false))) else (some false))) else (some false))) else (some false))) else (some false))) else (some false)) = some r := H
        have A7 := Aside0.mk A70
        clear A70
        by_cases c8 : t188 = 227
        · rw [if_pos c8] at H
          have c8b0 : (t188 == 227) = true := beq_iff_eq.mpr c8
          have c8b1 : (t188 != 227) = false := bne_eq_false_iff_eq.mpr c8
          clear c8
          replace H := Option.bind_eq_some_iff.mp H
          obtain ⟨t189, A90, H⟩ := H
          replace H : (if t189 = 228 then ((spindlelaw0_Num.f 229).bind fun t190 => (if t190 = 229 then ((spindlelaw0_Num.f 230).bind fun t191 => (if t191 = 230 then ((spindlelaw0_Num.f 250).bind fun t192 => (if t192 = 250 then ((spindlelaw0_Num.f 251).bind fun t193 => (if t193 = 251 then ((spindlelaw0_Num.f 260).bind fun t194 => (if t194 = 260 then ((spindlelaw0_Num.f 261).bind fun t195 => (if t195 = 261 then ((spindlelaw0_Num.f 270).bind fun t196 => (if t196 = 270 then ((spindlelaw0_Num.f 271).bind fun t197 => (if t197 = 271 then ((spindlelaw0_Num.f 272).bind fun t198 => (some (t198 == 272))) else (some false))) else (some false))) else (some false))) else (some false))) else (some false))) else (some false))) else (some false))) else (some false))) else (some false)) = some r := H
          have A9 := Aside0.mk A90
          clear A90
          by_cases c10 : t189 = 228
          · rw [if_pos c10] at H
            have c10b0 : (t189 == 228) = true := beq_iff_eq.mpr c10
            have c10b1 : (t189 != 228) = false := bne_eq_false_iff_eq.mpr c10
            clear c10
            replace H := Option.bind_eq_some_iff.mp H
            obtain ⟨t190, A110, H⟩ := H
            replace H : (if t190 = 229 then ((spindlelaw0_Num.f 230).bind fun t191 => (if t191 = 230 then ((spindlelaw0_Num.f 250).bind fun t192 => (if t192 = 250 then ((spindlelaw0_Num.f 251).bind fun t193 => (if t193 = 251 then ((spindlelaw0_Num.f 260).bind fun t194 => (if t194 = 260 then ((spindlelaw0_Num.f 261).bind fun t195 => (if t195 = 261 then ((spindlelaw0_Num.f 270).bind fun t196 => (if t196 = 270 then ((spindlelaw0_Num.f 271).bind fun t197 => (if t197 = 271 then ((spindlelaw0_Num.f 272).bind fun t198 => (some (t198 == 272))) else (some false))) else (some false))) else (some false))) else (some false))) else (some false))) else (some false))) else (some false))) else (some false)) = some r := H
            have A11 := Aside0.mk A110
            clear A110
            by_cases c12 : t190 = 229
            · rw [if_pos c12] at H
              have c12b0 : (t190 == 229) = true := beq_iff_eq.mpr c12
              have c12b1 : (t190 != 229) = false := bne_eq_false_iff_eq.mpr c12
              clear c12
              replace H := Option.bind_eq_some_iff.mp H
              obtain ⟨t191, A130, H⟩ := H
              replace H : (if t191 = 230 then ((spindlelaw0_Num.f 250).bind fun t192 => (if t192 = 250 then ((spindlelaw0_Num.f 251).bind fun t193 => (if t193 = 251 then ((spindlelaw0_Num.f 260).bind fun t194 => (if t194 = 260 then ((spindlelaw0_Num.f 261).bind fun t195 => (if t195 = 261 then ((spindlelaw0_Num.f 270).bind fun t196 => (if t196 = 270 then ((spindlelaw0_Num.f 271).bind fun t197 => (if t197 = 271 then ((spindlelaw0_Num.f 272).bind fun t198 => (some (t198 == 272))) else (some false))) else (some false))) else (some false))) else (some false))) else (some false))) else (some false))) else (some false)) = some r := H
              have A13 := Aside0.mk A130
              clear A130
              by_cases c14 : t191 = 230
              · rw [if_pos c14] at H
                have c14b0 : (t191 == 230) = true := beq_iff_eq.mpr c14
                have c14b1 : (t191 != 230) = false := bne_eq_false_iff_eq.mpr c14
                clear c14
                replace H := Option.bind_eq_some_iff.mp H
                obtain ⟨t192, A150, H⟩ := H
                replace H : (if t192 = 250 then ((spindlelaw0_Num.f 251).bind fun t193 => (if t193 = 251 then ((spindlelaw0_Num.f 260).bind fun t194 => (if t194 = 260 then ((spindlelaw0_Num.f 261).bind fun t195 => (if t195 = 261 then ((spindlelaw0_Num.f 270).bind fun t196 => (if t196 = 270 then ((spindlelaw0_Num.f 271).bind fun t197 => (if t197 = 271 then ((spindlelaw0_Num.f 272).bind fun t198 => (some (t198 == 272))) else (some false))) else (some false))) else (some false))) else (some false))) else (some false))) else (some false)) = some r := H
                have A15 := Aside0.mk A150
                clear A150
                by_cases c16 : t192 = 250
                · rw [if_pos c16] at H
                  have c16b0 : (t192 == 250) = true := beq_iff_eq.mpr c16
                  have c16b1 : (t192 != 250) = false := bne_eq_false_iff_eq.mpr c16
                  clear c16
                  replace H := Option.bind_eq_some_iff.mp H
                  obtain ⟨t193, A170, H⟩ := H
                  replace H : (if t193 = 251 then ((spindlelaw0_Num.f 260).bind fun t194 => (if t194 = 260 then ((spindlelaw0_Num.f 261).bind fun t195 => (if t195 = 261 then ((spindlelaw0_Num.f 270).bind fun t196 => (if t196 = 270 then ((spindlelaw0_Num.f 271).bind fun t197 => (if t197 = 271 then ((spindlelaw0_Num.f 272).bind fun t198 => (some (t198 == 272))) else (some false))) else (some false))) else (some false))) else (some false))) else (some false)) = some r := H
                  have A17 := Aside0.mk A170
                  clear A170
                  by_cases c18 : t193 = 251
                  · rw [if_pos c18] at H
                    have c18b0 : (t193 == 251) = true := beq_iff_eq.mpr c18
                    have c18b1 : (t193 != 251) = false := bne_eq_false_iff_eq.mpr c18
                    clear c18
                    replace H := Option.bind_eq_some_iff.mp H
                    obtain ⟨t194, A190, H⟩ := H
                    replace H : (if t194 = 260 then ((spindlelaw0_Num.f 261).bind fun t195 => (if t195 = 261 then ((spindlelaw0_Num.f 270).bind fun t196 => (if t196 = 270 then ((spindlelaw0_Num.f 271).bind fun t197 => (if t197 = 271 then ((spindlelaw0_Num.f 272).bind fun t198 => (some (t198 == 272))) else (some false))) else (some false))) else (some false))) else (some false)) = some r := H
                    have A19 := Aside0.mk A190
                    clear A190
                    by_cases c20 : t194 = 260
                    · rw [if_pos c20] at H
                      have c20b0 : (t194 == 260) = true := beq_iff_eq.mpr c20
                      have c20b1 : (t194 != 260) = false := bne_eq_false_iff_eq.mpr c20
                      clear c20
                      replace H := Option.bind_eq_some_iff.mp H
                      obtain ⟨t195, A210, H⟩ := H
                      replace H : (if t195 = 261 then ((spindlelaw0_Num.f 270).bind fun t196 => (if t196 = 270 then ((spindlelaw0_Num.f 271).bind fun t197 => (if t197 = 271 then ((spindlelaw0_Num.f 272).bind fun t198 => (some (t198 == 272))) else (some false))) else (some false))) else (some false)) = some r := H
                      have A21 := Aside0.mk A210
                      clear A210
                      by_cases c22 : t195 = 261
                      · rw [if_pos c22] at H
                        have c22b0 : (t195 == 261) = true := beq_iff_eq.mpr c22
                        have c22b1 : (t195 != 261) = false := bne_eq_false_iff_eq.mpr c22
                        clear c22
                        replace H := Option.bind_eq_some_iff.mp H
                        obtain ⟨t196, A230, H⟩ := H
                        replace H : (if t196 = 270 then ((spindlelaw0_Num.f 271).bind fun t197 => (if t197 = 271 then ((spindlelaw0_Num.f 272).bind fun t198 => (some (t198 == 272))) else (some false))) else (some false)) = some r := H
                        have A23 := Aside0.mk A230
                        clear A230
                        by_cases c24 : t196 = 270
                        · rw [if_pos c24] at H
                          have c24b0 : (t196 == 270) = true := beq_iff_eq.mpr c24
                          have c24b1 : (t196 != 270) = false := bne_eq_false_iff_eq.mpr c24
                          clear c24
                          replace H := Option.bind_eq_some_iff.mp H
                          obtain ⟨t197, A250, H⟩ := H
                          replace H : (if t197 = 271 then ((spindlelaw0_Num.f 272).bind fun t198 => (some (t198 == 272))) else (some false)) = some r := H
                          have A25 := Aside0.mk A250
                          clear A250
                          by_cases c26 : t197 = 271
                          · rw [if_pos c26] at H
                            have c26b0 : (t197 == 271) = true := beq_iff_eq.mpr c26
                            have c26b1 : (t197 != 271) = false := bne_eq_false_iff_eq.mpr c26
                            clear c26
                            replace H := Option.bind_eq_some_iff.mp H
                            obtain ⟨t198, A270, H⟩ := H
                            replace H : (some (t198 == 272)) = some r := H
                            have A27 := Aside0.mk A270
                            clear A270
                            obtain rfl := Option.some.inj H
                            go_enter Try.func10, Try.ntmps10
                            go_wp2_with (first | ((with_reducible refine gate_callee (f := 18) rfl ?_); refine goesL_ (some 1) rfl rfl Try.func18 (by kernel_rfl) rfl #[.int .i64 224] rfl (by (try simp only [List.map_toArray, List.map_cons, List.map_nil]); first | done | rfl | (simp only [List.length_drop, List.length_take]; rfl)) ?_; (with_reducible refine (spindlelaw0_Num.calls 224 t185 _ A1.out).mono ?_); rintro e w' ⟨rfl, ⟨nd, rfl⟩⟩; refine ⟨_, rfl, ?_⟩) | (go_at_call 18; (with_reducible refine (spindlelaw0_Num.calls 225 t186 _ A3.out).mono ?_); rintro e w' ⟨rfl, ⟨nd, rfl⟩⟩) | (go_at_call 18; (with_reducible refine (spindlelaw0_Num.calls 226 t187 _ A5.out).mono ?_); rintro e w' ⟨rfl, ⟨nd, rfl⟩⟩) | (go_at_call 18; (with_reducible refine (spindlelaw0_Num.calls 227 t188 _ A7.out).mono ?_); rintro e w' ⟨rfl, ⟨nd, rfl⟩⟩) | (go_at_call 18; (with_reducible refine (spindlelaw0_Num.calls 228 t189 _ A9.out).mono ?_); rintro e w' ⟨rfl, ⟨nd, rfl⟩⟩) | (go_at_call 18; (with_reducible refine (spindlelaw0_Num.calls 229 t190 _ A11.out).mono ?_); rintro e w' ⟨rfl, ⟨nd, rfl⟩⟩) | (go_at_call 18; (with_reducible refine (spindlelaw0_Num.calls 230 t191 _ A13.out).mono ?_); rintro e w' ⟨rfl, ⟨nd, rfl⟩⟩) | (go_at_call 18; (with_reducible refine (spindlelaw0_Num.calls 250 t192 _ A15.out).mono ?_); rintro e w' ⟨rfl, ⟨nd, rfl⟩⟩) | (go_at_call 18; (with_reducible refine (spindlelaw0_Num.calls 251 t193 _ A17.out).mono ?_); rintro e w' ⟨rfl, ⟨nd, rfl⟩⟩) | (go_at_call 18; (with_reducible refine (spindlelaw0_Num.calls 260 t194 _ A19.out).mono ?_); rintro e w' ⟨rfl, ⟨nd, rfl⟩⟩) | (go_at_call 18; (with_reducible refine (spindlelaw0_Num.calls 261 t195 _ A21.out).mono ?_); rintro e w' ⟨rfl, ⟨nd, rfl⟩⟩) | (go_at_call 18; (with_reducible refine (spindlelaw0_Num.calls 270 t196 _ A23.out).mono ?_); rintro e w' ⟨rfl, ⟨nd, rfl⟩⟩) | (go_at_call 18; (with_reducible refine (spindlelaw0_Num.calls 271 t197 _ A25.out).mono ?_); rintro e w' ⟨rfl, ⟨nd, rfl⟩⟩) | (go_at_call 18; (with_reducible refine (spindlelaw0_Num.calls 272 t198 _ A27.out).mono ?_); rintro e w' ⟨rfl, ⟨nd, rfl⟩⟩))
                            go_ret
                            exact ⟨by first | rfl | (simp; done) | (simp [*]; done), by repeat (first | exact Drawn0.refl _ | apply Drawn0.step)⟩
                          · rw [if_neg c26] at H
                            have c26b0 : (t197 == 271) = false := beq_eq_false_iff_ne.mpr c26
                            have c26b1 : (t197 != 271) = true := bne_iff_ne.mpr c26
                            obtain rfl := Option.some.inj H
                            go_enter Try.func10, Try.ntmps10
                            go_wp2_with (first | ((with_reducible refine gate_callee (f := 18) rfl ?_); refine goesL_ (some 1) rfl rfl Try.func18 (by kernel_rfl) rfl #[.int .i64 224] rfl (by (try simp only [List.map_toArray, List.map_cons, List.map_nil]); first | done | rfl | (simp only [List.length_drop, List.length_take]; rfl)) ?_; (with_reducible refine (spindlelaw0_Num.calls 224 t185 _ A1.out).mono ?_); rintro e w' ⟨rfl, ⟨nd, rfl⟩⟩; refine ⟨_, rfl, ?_⟩) | (go_at_call 18; (with_reducible refine (spindlelaw0_Num.calls 225 t186 _ A3.out).mono ?_); rintro e w' ⟨rfl, ⟨nd, rfl⟩⟩) | (go_at_call 18; (with_reducible refine (spindlelaw0_Num.calls 226 t187 _ A5.out).mono ?_); rintro e w' ⟨rfl, ⟨nd, rfl⟩⟩) | (go_at_call 18; (with_reducible refine (spindlelaw0_Num.calls 227 t188 _ A7.out).mono ?_); rintro e w' ⟨rfl, ⟨nd, rfl⟩⟩) | (go_at_call 18; (with_reducible refine (spindlelaw0_Num.calls 228 t189 _ A9.out).mono ?_); rintro e w' ⟨rfl, ⟨nd, rfl⟩⟩) | (go_at_call 18; (with_reducible refine (spindlelaw0_Num.calls 229 t190 _ A11.out).mono ?_); rintro e w' ⟨rfl, ⟨nd, rfl⟩⟩) | (go_at_call 18; (with_reducible refine (spindlelaw0_Num.calls 230 t191 _ A13.out).mono ?_); rintro e w' ⟨rfl, ⟨nd, rfl⟩⟩) | (go_at_call 18; (with_reducible refine (spindlelaw0_Num.calls 250 t192 _ A15.out).mono ?_); rintro e w' ⟨rfl, ⟨nd, rfl⟩⟩) | (go_at_call 18; (with_reducible refine (spindlelaw0_Num.calls 251 t193 _ A17.out).mono ?_); rintro e w' ⟨rfl, ⟨nd, rfl⟩⟩) | (go_at_call 18; (with_reducible refine (spindlelaw0_Num.calls 260 t194 _ A19.out).mono ?_); rintro e w' ⟨rfl, ⟨nd, rfl⟩⟩) | (go_at_call 18; (with_reducible refine (spindlelaw0_Num.calls 261 t195 _ A21.out).mono ?_); rintro e w' ⟨rfl, ⟨nd, rfl⟩⟩) | (go_at_call 18; (with_reducible refine (spindlelaw0_Num.calls 270 t196 _ A23.out).mono ?_); rintro e w' ⟨rfl, ⟨nd, rfl⟩⟩) | (go_at_call 18; (with_reducible refine (spindlelaw0_Num.calls 271 t197 _ A25.out).mono ?_); rintro e w' ⟨rfl, ⟨nd, rfl⟩⟩))
                            go_ret
                            exact ⟨by first | rfl | (simp; done) | (simp [*]; done), by repeat (first | exact Drawn0.refl _ | apply Drawn0.step)⟩
                        · rw [if_neg c24] at H
                          have c24b0 : (t196 == 270) = false := beq_eq_false_iff_ne.mpr c24
                          have c24b1 : (t196 != 270) = true := bne_iff_ne.mpr c24
                          obtain rfl := Option.some.inj H
                          go_enter Try.func10, Try.ntmps10
                          go_wp2_with (first | ((with_reducible refine gate_callee (f := 18) rfl ?_); refine goesL_ (some 1) rfl rfl Try.func18 (by kernel_rfl) rfl #[.int .i64 224] rfl (by (try simp only [List.map_toArray, List.map_cons, List.map_nil]); first | done | rfl | (simp only [List.length_drop, List.length_take]; rfl)) ?_; (with_reducible refine (spindlelaw0_Num.calls 224 t185 _ A1.out).mono ?_); rintro e w' ⟨rfl, ⟨nd, rfl⟩⟩; refine ⟨_, rfl, ?_⟩) | (go_at_call 18; (with_reducible refine (spindlelaw0_Num.calls 225 t186 _ A3.out).mono ?_); rintro e w' ⟨rfl, ⟨nd, rfl⟩⟩) | (go_at_call 18; (with_reducible refine (spindlelaw0_Num.calls 226 t187 _ A5.out).mono ?_); rintro e w' ⟨rfl, ⟨nd, rfl⟩⟩) | (go_at_call 18; (with_reducible refine (spindlelaw0_Num.calls 227 t188 _ A7.out).mono ?_); rintro e w' ⟨rfl, ⟨nd, rfl⟩⟩) | (go_at_call 18; (with_reducible refine (spindlelaw0_Num.calls 228 t189 _ A9.out).mono ?_); rintro e w' ⟨rfl, ⟨nd, rfl⟩⟩) | (go_at_call 18; (with_reducible refine (spindlelaw0_Num.calls 229 t190 _ A11.out).mono ?_); rintro e w' ⟨rfl, ⟨nd, rfl⟩⟩) | (go_at_call 18; (with_reducible refine (spindlelaw0_Num.calls 230 t191 _ A13.out).mono ?_); rintro e w' ⟨rfl, ⟨nd, rfl⟩⟩) | (go_at_call 18; (with_reducible refine (spindlelaw0_Num.calls 250 t192 _ A15.out).mono ?_); rintro e w' ⟨rfl, ⟨nd, rfl⟩⟩) | (go_at_call 18; (with_reducible refine (spindlelaw0_Num.calls 251 t193 _ A17.out).mono ?_); rintro e w' ⟨rfl, ⟨nd, rfl⟩⟩) | (go_at_call 18; (with_reducible refine (spindlelaw0_Num.calls 260 t194 _ A19.out).mono ?_); rintro e w' ⟨rfl, ⟨nd, rfl⟩⟩) | (go_at_call 18; (with_reducible refine (spindlelaw0_Num.calls 261 t195 _ A21.out).mono ?_); rintro e w' ⟨rfl, ⟨nd, rfl⟩⟩) | (go_at_call 18; (with_reducible refine (spindlelaw0_Num.calls 270 t196 _ A23.out).mono ?_); rintro e w' ⟨rfl, ⟨nd, rfl⟩⟩))
                          go_ret
                          exact ⟨by first | rfl | (simp; done) | (simp [*]; done), by repeat (first | exact Drawn0.refl _ | apply Drawn0.step)⟩
                      · rw [if_neg c22] at H
                        have c22b0 : (t195 == 261) = false := beq_eq_false_iff_ne.mpr c22
                        have c22b1 : (t195 != 261) = true := bne_iff_ne.mpr c22
                        obtain rfl := Option.some.inj H
                        go_enter Try.func10, Try.ntmps10
                        go_wp2_with (first | ((with_reducible refine gate_callee (f := 18) rfl ?_); refine goesL_ (some 1) rfl rfl Try.func18 (by kernel_rfl) rfl #[.int .i64 224] rfl (by (try simp only [List.map_toArray, List.map_cons, List.map_nil]); first | done | rfl | (simp only [List.length_drop, List.length_take]; rfl)) ?_; (with_reducible refine (spindlelaw0_Num.calls 224 t185 _ A1.out).mono ?_); rintro e w' ⟨rfl, ⟨nd, rfl⟩⟩; refine ⟨_, rfl, ?_⟩) | (go_at_call 18; (with_reducible refine (spindlelaw0_Num.calls 225 t186 _ A3.out).mono ?_); rintro e w' ⟨rfl, ⟨nd, rfl⟩⟩) | (go_at_call 18; (with_reducible refine (spindlelaw0_Num.calls 226 t187 _ A5.out).mono ?_); rintro e w' ⟨rfl, ⟨nd, rfl⟩⟩) | (go_at_call 18; (with_reducible refine (spindlelaw0_Num.calls 227 t188 _ A7.out).mono ?_); rintro e w' ⟨rfl, ⟨nd, rfl⟩⟩) | (go_at_call 18; (with_reducible refine (spindlelaw0_Num.calls 228 t189 _ A9.out).mono ?_); rintro e w' ⟨rfl, ⟨nd, rfl⟩⟩) | (go_at_call 18; (with_reducible refine (spindlelaw0_Num.calls 229 t190 _ A11.out).mono ?_); rintro e w' ⟨rfl, ⟨nd, rfl⟩⟩) | (go_at_call 18; (with_reducible refine (spindlelaw0_Num.calls 230 t191 _ A13.out).mono ?_); rintro e w' ⟨rfl, ⟨nd, rfl⟩⟩) | (go_at_call 18; (with_reducible refine (spindlelaw0_Num.calls 250 t192 _ A15.out).mono ?_); rintro e w' ⟨rfl, ⟨nd, rfl⟩⟩) | (go_at_call 18; (with_reducible refine (spindlelaw0_Num.calls 251 t193 _ A17.out).mono ?_); rintro e w' ⟨rfl, ⟨nd, rfl⟩⟩) | (go_at_call 18; (with_reducible refine (spindlelaw0_Num.calls 260 t194 _ A19.out).mono ?_); rintro e w' ⟨rfl, ⟨nd, rfl⟩⟩) | (go_at_call 18; (with_reducible refine (spindlelaw0_Num.calls 261 t195 _ A21.out).mono ?_); rintro e w' ⟨rfl, ⟨nd, rfl⟩⟩))
                        go_ret
                        exact ⟨by first | rfl | (simp; done) | (simp [*]; done), by repeat (first | exact Drawn0.refl _ | apply Drawn0.step)⟩
                    · rw [if_neg c20] at H
                      have c20b0 : (t194 == 260) = false := beq_eq_false_iff_ne.mpr c20
                      have c20b1 : (t194 != 260) = true := bne_iff_ne.mpr c20
                      obtain rfl := Option.some.inj H
                      go_enter Try.func10, Try.ntmps10
                      go_wp2_with (first | ((with_reducible refine gate_callee (f := 18) rfl ?_); refine goesL_ (some 1) rfl rfl Try.func18 (by kernel_rfl) rfl #[.int .i64 224] rfl (by (try simp only [List.map_toArray, List.map_cons, List.map_nil]); first | done | rfl | (simp only [List.length_drop, List.length_take]; rfl)) ?_; (with_reducible refine (spindlelaw0_Num.calls 224 t185 _ A1.out).mono ?_); rintro e w' ⟨rfl, ⟨nd, rfl⟩⟩; refine ⟨_, rfl, ?_⟩) | (go_at_call 18; (with_reducible refine (spindlelaw0_Num.calls 225 t186 _ A3.out).mono ?_); rintro e w' ⟨rfl, ⟨nd, rfl⟩⟩) | (go_at_call 18; (with_reducible refine (spindlelaw0_Num.calls 226 t187 _ A5.out).mono ?_); rintro e w' ⟨rfl, ⟨nd, rfl⟩⟩) | (go_at_call 18; (with_reducible refine (spindlelaw0_Num.calls 227 t188 _ A7.out).mono ?_); rintro e w' ⟨rfl, ⟨nd, rfl⟩⟩) | (go_at_call 18; (with_reducible refine (spindlelaw0_Num.calls 228 t189 _ A9.out).mono ?_); rintro e w' ⟨rfl, ⟨nd, rfl⟩⟩) | (go_at_call 18; (with_reducible refine (spindlelaw0_Num.calls 229 t190 _ A11.out).mono ?_); rintro e w' ⟨rfl, ⟨nd, rfl⟩⟩) | (go_at_call 18; (with_reducible refine (spindlelaw0_Num.calls 230 t191 _ A13.out).mono ?_); rintro e w' ⟨rfl, ⟨nd, rfl⟩⟩) | (go_at_call 18; (with_reducible refine (spindlelaw0_Num.calls 250 t192 _ A15.out).mono ?_); rintro e w' ⟨rfl, ⟨nd, rfl⟩⟩) | (go_at_call 18; (with_reducible refine (spindlelaw0_Num.calls 251 t193 _ A17.out).mono ?_); rintro e w' ⟨rfl, ⟨nd, rfl⟩⟩) | (go_at_call 18; (with_reducible refine (spindlelaw0_Num.calls 260 t194 _ A19.out).mono ?_); rintro e w' ⟨rfl, ⟨nd, rfl⟩⟩))
                      go_ret
                      exact ⟨by first | rfl | (simp; done) | (simp [*]; done), by repeat (first | exact Drawn0.refl _ | apply Drawn0.step)⟩
                  · rw [if_neg c18] at H
                    have c18b0 : (t193 == 251) = false := beq_eq_false_iff_ne.mpr c18
                    have c18b1 : (t193 != 251) = true := bne_iff_ne.mpr c18
                    obtain rfl := Option.some.inj H
                    go_enter Try.func10, Try.ntmps10
                    go_wp2_with (first | ((with_reducible refine gate_callee (f := 18) rfl ?_); refine goesL_ (some 1) rfl rfl Try.func18 (by kernel_rfl) rfl #[.int .i64 224] rfl (by (try simp only [List.map_toArray, List.map_cons, List.map_nil]); first | done | rfl | (simp only [List.length_drop, List.length_take]; rfl)) ?_; (with_reducible refine (spindlelaw0_Num.calls 224 t185 _ A1.out).mono ?_); rintro e w' ⟨rfl, ⟨nd, rfl⟩⟩; refine ⟨_, rfl, ?_⟩) | (go_at_call 18; (with_reducible refine (spindlelaw0_Num.calls 225 t186 _ A3.out).mono ?_); rintro e w' ⟨rfl, ⟨nd, rfl⟩⟩) | (go_at_call 18; (with_reducible refine (spindlelaw0_Num.calls 226 t187 _ A5.out).mono ?_); rintro e w' ⟨rfl, ⟨nd, rfl⟩⟩) | (go_at_call 18; (with_reducible refine (spindlelaw0_Num.calls 227 t188 _ A7.out).mono ?_); rintro e w' ⟨rfl, ⟨nd, rfl⟩⟩) | (go_at_call 18; (with_reducible refine (spindlelaw0_Num.calls 228 t189 _ A9.out).mono ?_); rintro e w' ⟨rfl, ⟨nd, rfl⟩⟩) | (go_at_call 18; (with_reducible refine (spindlelaw0_Num.calls 229 t190 _ A11.out).mono ?_); rintro e w' ⟨rfl, ⟨nd, rfl⟩⟩) | (go_at_call 18; (with_reducible refine (spindlelaw0_Num.calls 230 t191 _ A13.out).mono ?_); rintro e w' ⟨rfl, ⟨nd, rfl⟩⟩) | (go_at_call 18; (with_reducible refine (spindlelaw0_Num.calls 250 t192 _ A15.out).mono ?_); rintro e w' ⟨rfl, ⟨nd, rfl⟩⟩) | (go_at_call 18; (with_reducible refine (spindlelaw0_Num.calls 251 t193 _ A17.out).mono ?_); rintro e w' ⟨rfl, ⟨nd, rfl⟩⟩))
                    go_ret
                    exact ⟨by first | rfl | (simp; done) | (simp [*]; done), by repeat (first | exact Drawn0.refl _ | apply Drawn0.step)⟩
                · rw [if_neg c16] at H
                  have c16b0 : (t192 == 250) = false := beq_eq_false_iff_ne.mpr c16
                  have c16b1 : (t192 != 250) = true := bne_iff_ne.mpr c16
                  obtain rfl := Option.some.inj H
                  go_enter Try.func10, Try.ntmps10
                  go_wp2_with (first | ((with_reducible refine gate_callee (f := 18) rfl ?_); refine goesL_ (some 1) rfl rfl Try.func18 (by kernel_rfl) rfl #[.int .i64 224] rfl (by (try simp only [List.map_toArray, List.map_cons, List.map_nil]); first | done | rfl | (simp only [List.length_drop, List.length_take]; rfl)) ?_; (with_reducible refine (spindlelaw0_Num.calls 224 t185 _ A1.out).mono ?_); rintro e w' ⟨rfl, ⟨nd, rfl⟩⟩; refine ⟨_, rfl, ?_⟩) | (go_at_call 18; (with_reducible refine (spindlelaw0_Num.calls 225 t186 _ A3.out).mono ?_); rintro e w' ⟨rfl, ⟨nd, rfl⟩⟩) | (go_at_call 18; (with_reducible refine (spindlelaw0_Num.calls 226 t187 _ A5.out).mono ?_); rintro e w' ⟨rfl, ⟨nd, rfl⟩⟩) | (go_at_call 18; (with_reducible refine (spindlelaw0_Num.calls 227 t188 _ A7.out).mono ?_); rintro e w' ⟨rfl, ⟨nd, rfl⟩⟩) | (go_at_call 18; (with_reducible refine (spindlelaw0_Num.calls 228 t189 _ A9.out).mono ?_); rintro e w' ⟨rfl, ⟨nd, rfl⟩⟩) | (go_at_call 18; (with_reducible refine (spindlelaw0_Num.calls 229 t190 _ A11.out).mono ?_); rintro e w' ⟨rfl, ⟨nd, rfl⟩⟩) | (go_at_call 18; (with_reducible refine (spindlelaw0_Num.calls 230 t191 _ A13.out).mono ?_); rintro e w' ⟨rfl, ⟨nd, rfl⟩⟩) | (go_at_call 18; (with_reducible refine (spindlelaw0_Num.calls 250 t192 _ A15.out).mono ?_); rintro e w' ⟨rfl, ⟨nd, rfl⟩⟩))
                  go_ret
                  exact ⟨by first | rfl | (simp; done) | (simp [*]; done), by repeat (first | exact Drawn0.refl _ | apply Drawn0.step)⟩
              · rw [if_neg c14] at H
                have c14b0 : (t191 == 230) = false := beq_eq_false_iff_ne.mpr c14
                have c14b1 : (t191 != 230) = true := bne_iff_ne.mpr c14
                obtain rfl := Option.some.inj H
                go_enter Try.func10, Try.ntmps10
                go_wp2_with (first | ((with_reducible refine gate_callee (f := 18) rfl ?_); refine goesL_ (some 1) rfl rfl Try.func18 (by kernel_rfl) rfl #[.int .i64 224] rfl (by (try simp only [List.map_toArray, List.map_cons, List.map_nil]); first | done | rfl | (simp only [List.length_drop, List.length_take]; rfl)) ?_; (with_reducible refine (spindlelaw0_Num.calls 224 t185 _ A1.out).mono ?_); rintro e w' ⟨rfl, ⟨nd, rfl⟩⟩; refine ⟨_, rfl, ?_⟩) | (go_at_call 18; (with_reducible refine (spindlelaw0_Num.calls 225 t186 _ A3.out).mono ?_); rintro e w' ⟨rfl, ⟨nd, rfl⟩⟩) | (go_at_call 18; (with_reducible refine (spindlelaw0_Num.calls 226 t187 _ A5.out).mono ?_); rintro e w' ⟨rfl, ⟨nd, rfl⟩⟩) | (go_at_call 18; (with_reducible refine (spindlelaw0_Num.calls 227 t188 _ A7.out).mono ?_); rintro e w' ⟨rfl, ⟨nd, rfl⟩⟩) | (go_at_call 18; (with_reducible refine (spindlelaw0_Num.calls 228 t189 _ A9.out).mono ?_); rintro e w' ⟨rfl, ⟨nd, rfl⟩⟩) | (go_at_call 18; (with_reducible refine (spindlelaw0_Num.calls 229 t190 _ A11.out).mono ?_); rintro e w' ⟨rfl, ⟨nd, rfl⟩⟩) | (go_at_call 18; (with_reducible refine (spindlelaw0_Num.calls 230 t191 _ A13.out).mono ?_); rintro e w' ⟨rfl, ⟨nd, rfl⟩⟩))
                go_ret
                exact ⟨by first | rfl | (simp; done) | (simp [*]; done), by repeat (first | exact Drawn0.refl _ | apply Drawn0.step)⟩
            · rw [if_neg c12] at H
              have c12b0 : (t190 == 229) = false := beq_eq_false_iff_ne.mpr c12
              have c12b1 : (t190 != 229) = true := bne_iff_ne.mpr c12
              obtain rfl := Option.some.inj H
              go_enter Try.func10, Try.ntmps10
              go_wp2_with (first | ((with_reducible refine gate_callee (f := 18) rfl ?_); refine goesL_ (some 1) rfl rfl Try.func18 (by kernel_rfl) rfl #[.int .i64 224] rfl (by (try simp only [List.map_toArray, List.map_cons, List.map_nil]); first | done | rfl | (simp only [List.length_drop, List.length_take]; rfl)) ?_; (with_reducible refine (spindlelaw0_Num.calls 224 t185 _ A1.out).mono ?_); rintro e w' ⟨rfl, ⟨nd, rfl⟩⟩; refine ⟨_, rfl, ?_⟩) | (go_at_call 18; (with_reducible refine (spindlelaw0_Num.calls 225 t186 _ A3.out).mono ?_); rintro e w' ⟨rfl, ⟨nd, rfl⟩⟩) | (go_at_call 18; (with_reducible refine (spindlelaw0_Num.calls 226 t187 _ A5.out).mono ?_); rintro e w' ⟨rfl, ⟨nd, rfl⟩⟩) | (go_at_call 18; (with_reducible refine (spindlelaw0_Num.calls 227 t188 _ A7.out).mono ?_); rintro e w' ⟨rfl, ⟨nd, rfl⟩⟩) | (go_at_call 18; (with_reducible refine (spindlelaw0_Num.calls 228 t189 _ A9.out).mono ?_); rintro e w' ⟨rfl, ⟨nd, rfl⟩⟩) | (go_at_call 18; (with_reducible refine (spindlelaw0_Num.calls 229 t190 _ A11.out).mono ?_); rintro e w' ⟨rfl, ⟨nd, rfl⟩⟩))
              go_ret
              exact ⟨by first | rfl | (simp; done) | (simp [*]; done), by repeat (first | exact Drawn0.refl _ | apply Drawn0.step)⟩
          · rw [if_neg c10] at H
            have c10b0 : (t189 == 228) = false := beq_eq_false_iff_ne.mpr c10
            have c10b1 : (t189 != 228) = true := bne_iff_ne.mpr c10
            obtain rfl := Option.some.inj H
            go_enter Try.func10, Try.ntmps10
            go_wp2_with (first | ((with_reducible refine gate_callee (f := 18) rfl ?_); refine goesL_ (some 1) rfl rfl Try.func18 (by kernel_rfl) rfl #[.int .i64 224] rfl (by (try simp only [List.map_toArray, List.map_cons, List.map_nil]); first | done | rfl | (simp only [List.length_drop, List.length_take]; rfl)) ?_; (with_reducible refine (spindlelaw0_Num.calls 224 t185 _ A1.out).mono ?_); rintro e w' ⟨rfl, ⟨nd, rfl⟩⟩; refine ⟨_, rfl, ?_⟩) | (go_at_call 18; (with_reducible refine (spindlelaw0_Num.calls 225 t186 _ A3.out).mono ?_); rintro e w' ⟨rfl, ⟨nd, rfl⟩⟩) | (go_at_call 18; (with_reducible refine (spindlelaw0_Num.calls 226 t187 _ A5.out).mono ?_); rintro e w' ⟨rfl, ⟨nd, rfl⟩⟩) | (go_at_call 18; (with_reducible refine (spindlelaw0_Num.calls 227 t188 _ A7.out).mono ?_); rintro e w' ⟨rfl, ⟨nd, rfl⟩⟩) | (go_at_call 18; (with_reducible refine (spindlelaw0_Num.calls 228 t189 _ A9.out).mono ?_); rintro e w' ⟨rfl, ⟨nd, rfl⟩⟩))
            go_ret
            exact ⟨by first | rfl | (simp; done) | (simp [*]; done), by repeat (first | exact Drawn0.refl _ | apply Drawn0.step)⟩
        · rw [if_neg c8] at H
          have c8b0 : (t188 == 227) = false := beq_eq_false_iff_ne.mpr c8
          have c8b1 : (t188 != 227) = true := bne_iff_ne.mpr c8
          obtain rfl := Option.some.inj H
          go_enter Try.func10, Try.ntmps10
          go_wp2_with (first | ((with_reducible refine gate_callee (f := 18) rfl ?_); refine goesL_ (some 1) rfl rfl Try.func18 (by kernel_rfl) rfl #[.int .i64 224] rfl (by (try simp only [List.map_toArray, List.map_cons, List.map_nil]); first | done | rfl | (simp only [List.length_drop, List.length_take]; rfl)) ?_; (with_reducible refine (spindlelaw0_Num.calls 224 t185 _ A1.out).mono ?_); rintro e w' ⟨rfl, ⟨nd, rfl⟩⟩; refine ⟨_, rfl, ?_⟩) | (go_at_call 18; (with_reducible refine (spindlelaw0_Num.calls 225 t186 _ A3.out).mono ?_); rintro e w' ⟨rfl, ⟨nd, rfl⟩⟩) | (go_at_call 18; (with_reducible refine (spindlelaw0_Num.calls 226 t187 _ A5.out).mono ?_); rintro e w' ⟨rfl, ⟨nd, rfl⟩⟩) | (go_at_call 18; (with_reducible refine (spindlelaw0_Num.calls 227 t188 _ A7.out).mono ?_); rintro e w' ⟨rfl, ⟨nd, rfl⟩⟩))
          go_ret
          exact ⟨by first | rfl | (simp; done) | (simp [*]; done), by repeat (first | exact Drawn0.refl _ | apply Drawn0.step)⟩
      · rw [if_neg c6] at H
        have c6b0 : (t187 == 226) = false := beq_eq_false_iff_ne.mpr c6
        have c6b1 : (t187 != 226) = true := bne_iff_ne.mpr c6
        obtain rfl := Option.some.inj H
        go_enter Try.func10, Try.ntmps10
        go_wp2_with (first | ((with_reducible refine gate_callee (f := 18) rfl ?_); refine goesL_ (some 1) rfl rfl Try.func18 (by kernel_rfl) rfl #[.int .i64 224] rfl (by (try simp only [List.map_toArray, List.map_cons, List.map_nil]); first | done | rfl | (simp only [List.length_drop, List.length_take]; rfl)) ?_; (with_reducible refine (spindlelaw0_Num.calls 224 t185 _ A1.out).mono ?_); rintro e w' ⟨rfl, ⟨nd, rfl⟩⟩; refine ⟨_, rfl, ?_⟩) | (go_at_call 18; (with_reducible refine (spindlelaw0_Num.calls 225 t186 _ A3.out).mono ?_); rintro e w' ⟨rfl, ⟨nd, rfl⟩⟩) | (go_at_call 18; (with_reducible refine (spindlelaw0_Num.calls 226 t187 _ A5.out).mono ?_); rintro e w' ⟨rfl, ⟨nd, rfl⟩⟩))
        go_ret
        exact ⟨by first | rfl | (simp; done) | (simp [*]; done), by repeat (first | exact Drawn0.refl _ | apply Drawn0.step)⟩
    · rw [if_neg c4] at H
      have c4b0 : (t186 == 225) = false := beq_eq_false_iff_ne.mpr c4
      have c4b1 : (t186 != 225) = true := bne_iff_ne.mpr c4
      obtain rfl := Option.some.inj H
      go_enter Try.func10, Try.ntmps10
      go_wp2_with (first | ((with_reducible refine gate_callee (f := 18) rfl ?_); refine goesL_ (some 1) rfl rfl Try.func18 (by kernel_rfl) rfl #[.int .i64 224] rfl (by (try simp only [List.map_toArray, List.map_cons, List.map_nil]); first | done | rfl | (simp only [List.length_drop, List.length_take]; rfl)) ?_; (with_reducible refine (spindlelaw0_Num.calls 224 t185 _ A1.out).mono ?_); rintro e w' ⟨rfl, ⟨nd, rfl⟩⟩; refine ⟨_, rfl, ?_⟩) | (go_at_call 18; (with_reducible refine (spindlelaw0_Num.calls 225 t186 _ A3.out).mono ?_); rintro e w' ⟨rfl, ⟨nd, rfl⟩⟩))
      go_ret
      exact ⟨by first | rfl | (simp; done) | (simp [*]; done), by repeat (first | exact Drawn0.refl _ | apply Drawn0.step)⟩
  · rw [if_neg c2] at H
    have c2b0 : (t185 == 224) = false := beq_eq_false_iff_ne.mpr c2
    have c2b1 : (t185 != 224) = true := bne_iff_ne.mpr c2
    obtain rfl := Option.some.inj H
    go_enter Try.func10, Try.ntmps10
    go_wp2_with (first | ((with_reducible refine gate_callee (f := 18) rfl ?_); refine goesL_ (some 1) rfl rfl Try.func18 (by kernel_rfl) rfl #[.int .i64 224] rfl (by (try simp only [List.map_toArray, List.map_cons, List.map_nil]); first | done | rfl | (simp only [List.length_drop, List.length_take]; rfl)) ?_; (with_reducible refine (spindlelaw0_Num.calls 224 t185 _ A1.out).mono ?_); rintro e w' ⟨rfl, ⟨nd, rfl⟩⟩; refine ⟨_, rfl, ?_⟩))
    go_ret
    exact ⟨by first | rfl | (simp; done) | (simp [*]; done), by repeat (first | exact Drawn0.refl _ | apply Drawn0.step)⟩

/-! ### spindlelaw0_errors8: function 11 -/
def spindlelaw0_errors8.f  : Option (Bool) := (spindlelaw0_Num.f 280).bind fun t199 => (if t199 = 280 then ((spindlelaw0_Num.f 281).bind fun t200 => (if t200 = 281 then ((spindlelaw0_Num.f 282).bind fun t201 => (some (t201 == 282))) else (some false))) else (some false))
set_option maxHeartbeats 8000000 in
set_option maxRecDepth 100000 in
theorem spindlelaw0_errors8.calls  (r : Bool) (w : World) (h : spindlelaw0_errors8.f  = some r) :
    Calls Try.prog 11 #[] w fun e w' => e = .returned (.bool r) ∧ Drawn0 w w' := by
  have H : ((spindlelaw0_Num.f 280).bind fun t199 => (if t199 = 280 then ((spindlelaw0_Num.f 281).bind fun t200 => (if t200 = 281 then ((spindlelaw0_Num.f 282).bind fun t201 => (some (t201 == 282))) else (some false))) else (some false))) = some r := h
  clear h
  replace H := Option.bind_eq_some_iff.mp H
  obtain ⟨t199, A10, H⟩ := H
  replace H : (if t199 = 280 then ((spindlelaw0_Num.f 281).bind fun t200 => (if t200 = 281 then ((spindlelaw0_Num.f 282).bind fun t201 => (some (t201 == 282))) else (some false))) else (some false)) = some r := H
  have A1 := Aside0.mk A10
  clear A10
  by_cases c2 : t199 = 280
  · rw [if_pos c2] at H
    have c2b0 : (t199 == 280) = true := beq_iff_eq.mpr c2
    have c2b1 : (t199 != 280) = false := bne_eq_false_iff_eq.mpr c2
    clear c2
    replace H := Option.bind_eq_some_iff.mp H
    obtain ⟨t200, A30, H⟩ := H
    replace H : (if t200 = 281 then ((spindlelaw0_Num.f 282).bind fun t201 => (some (t201 == 282))) else (some false)) = some r := H
    have A3 := Aside0.mk A30
    clear A30
    by_cases c4 : t200 = 281
    · rw [if_pos c4] at H
      have c4b0 : (t200 == 281) = true := beq_iff_eq.mpr c4
      have c4b1 : (t200 != 281) = false := bne_eq_false_iff_eq.mpr c4
      clear c4
      replace H := Option.bind_eq_some_iff.mp H
      obtain ⟨t201, A50, H⟩ := H
      replace H : (some (t201 == 282)) = some r := H
      have A5 := Aside0.mk A50
      clear A50
      obtain rfl := Option.some.inj H
      go_enter Try.func11, Try.ntmps11
      go_wp2_with (first | ((with_reducible refine gate_callee (f := 18) rfl ?_); refine goesL_ (some 1) rfl rfl Try.func18 (by kernel_rfl) rfl #[.int .i64 280] rfl (by (try simp only [List.map_toArray, List.map_cons, List.map_nil]); first | done | rfl | (simp only [List.length_drop, List.length_take]; rfl)) ?_; (with_reducible refine (spindlelaw0_Num.calls 280 t199 _ A1.out).mono ?_); rintro e w' ⟨rfl, ⟨nd, rfl⟩⟩; refine ⟨_, rfl, ?_⟩) | (go_at_call 18; (with_reducible refine (spindlelaw0_Num.calls 281 t200 _ A3.out).mono ?_); rintro e w' ⟨rfl, ⟨nd, rfl⟩⟩) | (go_at_call 18; (with_reducible refine (spindlelaw0_Num.calls 282 t201 _ A5.out).mono ?_); rintro e w' ⟨rfl, ⟨nd, rfl⟩⟩))
      go_ret
      exact ⟨by first | rfl | (simp; done) | (simp [*]; done), by repeat (first | exact Drawn0.refl _ | apply Drawn0.step)⟩
    · rw [if_neg c4] at H
      have c4b0 : (t200 == 281) = false := beq_eq_false_iff_ne.mpr c4
      have c4b1 : (t200 != 281) = true := bne_iff_ne.mpr c4
      obtain rfl := Option.some.inj H
      go_enter Try.func11, Try.ntmps11
      go_wp2_with (first | ((with_reducible refine gate_callee (f := 18) rfl ?_); refine goesL_ (some 1) rfl rfl Try.func18 (by kernel_rfl) rfl #[.int .i64 280] rfl (by (try simp only [List.map_toArray, List.map_cons, List.map_nil]); first | done | rfl | (simp only [List.length_drop, List.length_take]; rfl)) ?_; (with_reducible refine (spindlelaw0_Num.calls 280 t199 _ A1.out).mono ?_); rintro e w' ⟨rfl, ⟨nd, rfl⟩⟩; refine ⟨_, rfl, ?_⟩) | (go_at_call 18; (with_reducible refine (spindlelaw0_Num.calls 281 t200 _ A3.out).mono ?_); rintro e w' ⟨rfl, ⟨nd, rfl⟩⟩))
      go_ret
      exact ⟨by first | rfl | (simp; done) | (simp [*]; done), by repeat (first | exact Drawn0.refl _ | apply Drawn0.step)⟩
  · rw [if_neg c2] at H
    have c2b0 : (t199 == 280) = false := beq_eq_false_iff_ne.mpr c2
    have c2b1 : (t199 != 280) = true := bne_iff_ne.mpr c2
    obtain rfl := Option.some.inj H
    go_enter Try.func11, Try.ntmps11
    go_wp2_with (first | ((with_reducible refine gate_callee (f := 18) rfl ?_); refine goesL_ (some 1) rfl rfl Try.func18 (by kernel_rfl) rfl #[.int .i64 280] rfl (by (try simp only [List.map_toArray, List.map_cons, List.map_nil]); first | done | rfl | (simp only [List.length_drop, List.length_take]; rfl)) ?_; (with_reducible refine (spindlelaw0_Num.calls 280 t199 _ A1.out).mono ?_); rintro e w' ⟨rfl, ⟨nd, rfl⟩⟩; refine ⟨_, rfl, ?_⟩))
    go_ret
    exact ⟨by first | rfl | (simp; done) | (simp [*]; done), by repeat (first | exact Drawn0.refl _ | apply Drawn0.step)⟩

/-! ### spindlelaw0_numbers1: function 12 -/
def spindlelaw0_numbers1.f  : Option (Bool) := some true
set_option maxHeartbeats 8000000 in
set_option maxRecDepth 100000 in
theorem spindlelaw0_numbers1.calls  (r : Bool) (w : World) (h : spindlelaw0_numbers1.f  = some r) :
    Calls Try.prog 12 #[] w fun e w' => e = .returned (.bool r) ∧ Drawn0 w w' := by
  have H : (some true) = some r := h
  clear h
  obtain rfl := Option.some.inj H
  go_enter Try.func12, Try.ntmps12
  go_wp2
  go_ret
  exact ⟨by first | rfl | (simp; done) | (simp [*]; done), by repeat (first | exact Drawn0.refl _ | apply Drawn0.step)⟩

/-! ### spindlelaw0_numbers2: function 13 -/
def spindlelaw0_numbers2.f  : Option (Bool) := some true
set_option maxHeartbeats 8000000 in
set_option maxRecDepth 100000 in
theorem spindlelaw0_numbers2.calls  (r : Bool) (w : World) (h : spindlelaw0_numbers2.f  = some r) :
    Calls Try.prog 13 #[] w fun e w' => e = .returned (.bool r) ∧ Drawn0 w w' := by
  have H : (some true) = some r := h
  clear h
  obtain rfl := Option.some.inj H
  go_enter Try.func13, Try.ntmps13
  go_wp2
  go_ret
  exact ⟨by first | rfl | (simp; done) | (simp [*]; done), by repeat (first | exact Drawn0.refl _ | apply Drawn0.step)⟩

/-! ### spindlelaw0_numbers3: function 14 -/
def spindlelaw0_numbers3.f  : Option (Bool) := some true
set_option maxHeartbeats 8000000 in
set_option maxRecDepth 100000 in
theorem spindlelaw0_numbers3.calls  (r : Bool) (w : World) (h : spindlelaw0_numbers3.f  = some r) :
    Calls Try.prog 14 #[] w fun e w' => e = .returned (.bool r) ∧ Drawn0 w w' := by
  have H : (some true) = some r := h
  clear h
  obtain rfl := Option.some.inj H
  go_enter Try.func14, Try.ntmps14
  go_wp2
  go_ret
  exact ⟨by first | rfl | (simp; done) | (simp [*]; done), by repeat (first | exact Drawn0.refl _ | apply Drawn0.step)⟩

/-! ### spindlelaw0_numbers4: function 15 -/
def spindlelaw0_numbers4.f  : Option (Bool) := some true
set_option maxHeartbeats 8000000 in
set_option maxRecDepth 100000 in
theorem spindlelaw0_numbers4.calls  (r : Bool) (w : World) (h : spindlelaw0_numbers4.f  = some r) :
    Calls Try.prog 15 #[] w fun e w' => e = .returned (.bool r) ∧ Drawn0 w w' := by
  have H : (some true) = some r := h
  clear h
  obtain rfl := Option.some.inj H
  go_enter Try.func15, Try.ntmps15
  go_wp2
  go_ret
  exact ⟨by first | rfl | (simp; done) | (simp [*]; done), by repeat (first | exact Drawn0.refl _ | apply Drawn0.step)⟩

/-! ### spindlelaw0_numbers5: function 16 -/
def spindlelaw0_numbers5.f  : Option (Bool) := some true
set_option maxHeartbeats 8000000 in
set_option maxRecDepth 100000 in
theorem spindlelaw0_numbers5.calls  (r : Bool) (w : World) (h : spindlelaw0_numbers5.f  = some r) :
    Calls Try.prog 16 #[] w fun e w' => e = .returned (.bool r) ∧ Drawn0 w w' := by
  have H : (some true) = some r := h
  clear h
  obtain rfl := Option.some.inj H
  go_enter Try.func16, Try.ntmps16
  go_wp2
  go_ret
  exact ⟨by first | rfl | (simp; done) | (simp [*]; done), by repeat (first | exact Drawn0.refl _ | apply Drawn0.step)⟩

/-! ### spindlelaw0_numbers6: function 17 -/
def spindlelaw0_numbers6.f  : Option (Bool) := some true
set_option maxHeartbeats 8000000 in
set_option maxRecDepth 100000 in
theorem spindlelaw0_numbers6.calls  (r : Bool) (w : World) (h : spindlelaw0_numbers6.f  = some r) :
    Calls Try.prog 17 #[] w fun e w' => e = .returned (.bool r) ∧ Drawn0 w w' := by
  have H : (some true) = some r := h
  clear h
  obtain rfl := Option.some.inj H
  go_enter Try.func17, Try.ntmps17
  go_wp2
  go_ret
  exact ⟨by first | rfl | (simp; done) | (simp [*]; done), by repeat (first | exact Drawn0.refl _ | apply Drawn0.step)⟩

/-! ### spindlelaw0_SpindleNames: function 3 -/
def spindlelaw0_SpindleNames.f  : Option (Bool) := (spindlelaw0_errors1.f).bind fun t202 => (if t202 = true then ((spindlelaw0_errors2.f).bind fun t203 => (if t203 = true then ((spindlelaw0_errors3.f).bind fun t204 => (if t204 = true then ((spindlelaw0_errors4.f).bind fun t205 => (if t205 = true then ((spindlelaw0_errors5.f).bind fun t206 => (if t206 = true then ((spindlelaw0_errors6.f).bind fun t207 => (if t207 = true then ((spindlelaw0_errors7.f).bind fun t208 => (if t208 = true then ((spindlelaw0_errors8.f).bind fun t209 => (if t209 = true then ((spindlelaw0_numbers1.f).bind fun t210 => (if t210 = true then ((spindlelaw0_numbers2.f).bind fun t211 => (if t211 = true then ((spindlelaw0_numbers3.f).bind fun t212 => (if t212 = true then ((spindlelaw0_numbers4.f).bind fun t213 => (if t213 = true then ((spindlelaw0_numbers5.f).bind fun t214 => (if t214 = true then ((spindlelaw0_numbers6.f).bind fun t215 => (some t215)) else (some false))) else (some false))) else (some false))) else (some false))) else (some false))) else (some false))) else (some false))) else (some false))) else (some false))) else (some false))) else (some false))) else (some false))) else (some false))
set_option maxHeartbeats 8000000 in
set_option maxRecDepth 100000 in
theorem spindlelaw0_SpindleNames.calls  (r : Bool) (w : World) (h : spindlelaw0_SpindleNames.f  = some r) :
    Calls Try.prog 3 #[] w fun e w' => e = .returned (.bool r) ∧ Drawn0 w w' := by
  have H : ((spindlelaw0_errors1.f).bind fun t202 => (if t202 = true then ((spindlelaw0_errors2.f).bind fun t203 => (if t203 = true then ((spindlelaw0_errors3.f).bind fun t204 => (if t204 = true then ((spindlelaw0_errors4.f).bind fun t205 => (if t205 = true then ((spindlelaw0_errors5.f).bind fun t206 => (if t206 = true then ((spindlelaw0_errors6.f).bind fun t207 => (if t207 = true then ((spindlelaw0_errors7.f).bind fun t208 => (if t208 = true then ((spindlelaw0_errors8.f).bind fun t209 => (if t209 = true then ((spindlelaw0_numbers1.f).bind fun t210 => (if t210 = true then ((spindlelaw0_numbers2.f).bind fun t211 => (if t211 = true then ((spindlelaw0_numbers3.f).bind fun t212 => (if t212 = true then ((spindlelaw0_numbers4.f).bind fun t213 => (if t213 = true then ((spindlelaw0_numbers5.f).bind fun t214 => (if t214 = true then ((spindlelaw0_numbers6.f).bind fun t215 => (some t215)) else (some false))) else (some false))) else (some false))) else (some false))) else (some false))) else (some false))) else (some false))) else (some false))) else (some false))) else (some false))) else (some false))) else (some false))) else (some false))) = some r := h
  clear h
  replace H := Option.bind_eq_some_iff.mp H
  obtain ⟨t202, A10, H⟩ := H
  replace H : (if t202 = true then ((spindlelaw0_errors2.f).bind fun t203 => (if t203 = true then ((spindlelaw0_errors3.f).bind fun t204 => (if t204 = true then ((spindlelaw0_errors4.f).bind fun t205 => (if t205 = true then ((spindlelaw0_errors5.f).bind fun t206 => (if t206 = true then ((spindlelaw0_errors6.f).bind fun t207 => (if t207 = true then ((spindlelaw0_errors7.f).bind fun t208 => (if t208 = true then ((spindlelaw0_errors8.f).bind fun t209 => (if t209 = true then ((spindlelaw0_numbers1.f).bind fun t210 => (if t210 = true then ((spindlelaw0_numbers2.f).bind fun t211 => (if t211 = true then ((spindlelaw0_numbers3.f).bind fun t212 => (if t212 = true then ((spindlelaw0_numbers4.f).bind fun t213 => (if t213 = true then ((spindlelaw0_numbers5.f).bind fun t214 => (if t214 = true then ((spindlelaw0_numbers6.f).bind fun t215 => (some t215)) else (some false))) else (some false))) else (some false))) else (some false))) else (some false))) else (some false))) else (some false))) else (some false))) else (some false))) else (some false))) else (some false))) else (some false))) else (some false)) = some r := H
  have A1 := Aside0.mk A10
  clear A10
  by_cases c2 : t202 = true
  · subst c2
    have H1 : ((spindlelaw0_errors2.f).bind fun t203 => (if t203 = true then ((spindlelaw0_errors3.f).bind fun t204 => (if t204 = true then ((spindlelaw0_errors4.f).bind fun t205 => (if t205 = true then ((spindlelaw0_errors5.f).bind fun t206 => (if t206 = true then ((spindlelaw0_errors6.f).bind fun t207 => (if t207 = true then ((spindlelaw0_errors7.f).bind fun t208 => (if t208 = true then ((spindlelaw0_errors8.f).bind fun t209 => (if t209 = true then ((spindlelaw0_numbers1.f).bind fun t210 => (if t210 = true then ((spindlelaw0_numbers2.f).bind fun t211 => (if t211 = true then ((spindlelaw0_numbers3.f).bind fun t212 => (if t212 = true then ((spindlelaw0_numbers4.f).bind fun t213 => (if t213 = true then ((spindlelaw0_numbers5.f).bind fun t214 => (if t214 = true then ((spindlelaw0_numbers6.f).bind fun t215 => (some t215)) else (some false))) else (some false))) else (some false))) else (some false))) else (some false))) else (some false))) else (some false))) else (some false))) else (some false))) else (some false))) else (some false))) else (some false))) = some r := by rw [if_pos rfl] at H; exact H
    clear H
    have H := H1
    clear H1
    replace H := Option.bind_eq_some_iff.mp H
    obtain ⟨t203, A30, H⟩ := H
    replace H : (if t203 = true then ((spindlelaw0_errors3.f).bind fun t204 => (if t204 = true then ((spindlelaw0_errors4.f).bind fun t205 => (if t205 = true then ((spindlelaw0_errors5.f).bind fun t206 => (if t206 = true then ((spindlelaw0_errors6.f).bind fun t207 => (if t207 = true then ((spindlelaw0_errors7.f).bind fun t208 => (if t208 = true then ((spindlelaw0_errors8.f).bind fun t209 => (if t209 = true then ((spindlelaw0_numbers1.f).bind fun t210 => (if t210 = true then ((spindlelaw0_numbers2.f).bind fun t211 => (if t211 = true then ((spindlelaw0_numbers3.f).bind fun t212 => (if t212 = true then ((spindlelaw0_numbers4.f).bind fun t213 => (if t213 = true then ((spindlelaw0_numbers5.f).bind fun t214 => (if t214 = true then ((spindlelaw0_numbers6.f).bind fun t215 => (some t215)) else (some false))) else (some false))) else (some false))) else (some false))) else (some false))) else (some false))) else (some false))) else (some false))) else (some false))) else (some false))) else (some false))) else (some false)) = some r := H
    have A3 := Aside0.mk A30
    clear A30
    by_cases c4 : t203 = true
    · subst c4
      have H1 : ((spindlelaw0_errors3.f).bind fun t204 => (if t204 = true then ((spindlelaw0_errors4.f).bind fun t205 => (if t205 = true then ((spindlelaw0_errors5.f).bind fun t206 => (if t206 = true then ((spindlelaw0_errors6.f).bind fun t207 => (if t207 = true then ((spindlelaw0_errors7.f).bind fun t208 => (if t208 = true then ((spindlelaw0_errors8.f).bind fun t209 => (if t209 = true then ((spindlelaw0_numbers1.f).bind fun t210 => (if t210 = true then ((spindlelaw0_numbers2.f).bind fun t211 => (if t211 = true then ((spindlelaw0_numbers3.f).bind fun t212 => (if t212 = true then ((spindlelaw0_numbers4.f).bind fun t213 => (if t213 = true then ((spindlelaw0_numbers5.f).bind fun t214 => (if t214 = true then ((spindlelaw0_numbers6.f).bind fun t215 => (some t215)) else (some false))) else (some false))) else (some false))) else (some false))) else (some false))) else (some false))) else (some false))) else (some false))) else (some false))) else (some false))) else (some false))) = some r := by rw [if_pos rfl] at H; exact H
      clear H
      have H := H1
      clear H1
      replace H := Option.bind_eq_some_iff.mp H
      obtain ⟨t204, A50, H⟩ := H
      replace H : (if t204 = true then ((spindlelaw0_errors4.f).bind fun t205 => (if t205 = true then ((spindlelaw0_errors5.f).bind fun t206 => (if t206 = true then ((spindlelaw0_errors6.f).bind fun t207 => (if t207 = true then ((spindlelaw0_errors7.f).bind fun t208 => (if t208 = true then ((spindlelaw0_errors8.f).bind fun t209 => (if t209 = true then ((spindlelaw0_numbers1.f).bind fun t210 => (if t210 = true then ((spindlelaw0_numbers2.f).bind fun t211 => (if t211 = true then ((spindlelaw0_numbers3.f).bind fun t212 => (if t212 = true then ((spindlelaw0_numbers4.f).bind fun t213 => (if t213 = true then ((spindlelaw0_numbers5.f).bind fun t214 => (if t214 = true then ((spindlelaw0_numbers6.f).bind fun t215 => (some t215)) else (some false))) else (some false))) else (some false))) else (some false))) else (some false))) else (some false))) else (some false))) else (some false))) else (some false))) else (some false))) else (some false)) = some r := H
      have A5 := Aside0.mk A50
      clear A50
      by_cases c6 : t204 = true
      · subst c6
        have H1 : ((spindlelaw0_errors4.f).bind fun t205 => (if t205 = true then ((spindlelaw0_errors5.f).bind fun t206 => (if t206 = true then ((spindlelaw0_errors6.f).bind fun t207 => (if t207 = true then ((spindlelaw0_errors7.f).bind fun t208 => (if t208 = true then ((spindlelaw0_errors8.f).bind fun t209 => (if t209 = true then ((spindlelaw0_numbers1.f).bind fun t210 => (if t210 = true then ((spindlelaw0_numbers2.f).bind fun t211 => (if t211 = true then ((spindlelaw0_numbers3.f).bind fun t212 => (if t212 = true then ((spindlelaw0_numbers4.f).bind fun t213 => (if t213 = true then ((spindlelaw0_numbers5.f).bind fun t214 => (if t214 = true then ((spindlelaw0_numbers6.f).bind fun t215 => (some t215)) else (some false))) else (some false))) else (some false))) else (some false))) else (some false))) else (some false))) else (some false))) else (some false))) else (some false))) else (some false))) = some r := by rw [if_pos rfl] at H; exact H
        clear H
        have H := H1
        clear H1
        replace H := Option.bind_eq_some_iff.mp H
        obtain ⟨t205, A70, H⟩ := H
        replace H : (if t205 = true then ((spindlelaw0_errors5.f).bind fun t206 => (if t206 = true then ((spindlelaw0_errors6.f).bind fun t207 => (if t207 = true then ((spindlelaw0_errors7.f).bind fun t208 => (if t208 = true then ((spindlelaw0_errors8.f).bind fun t209 => (if t209 = true then ((spindlelaw0_numbers1.f).bind fun t210 => (if t210 = true then ((spindlelaw0_numbers2.f).bind fun t211 => (if t211 = true then ((spindlelaw0_numbers3.f).bind fun t212 => (if t212 = true then ((spindlelaw0_numbers4.f).bind fun t213 => (if t213 = true then ((spindlelaw0_numbers5.f).bind fun t214 => (if t214 = true then ((spindlelaw0_numbers6.f).bind fun t215 => (some t215)) else (some false))) else (some false))) else (some false))) else (some false))) else (some false))) else (some false))) else (some false))) else (some false))) else (some false))) else (some false)) = some r := H
        have A7 := Aside0.mk A70
        clear A70
        by_cases c8 : t205 = true
        · subst c8
          have H1 : ((spindlelaw0_errors5.f).bind fun t206 => (if t206 = true then ((spindlelaw0_errors6.f).bind fun t207 => (if t207 = true then ((spindlelaw0_errors7.f).bind fun t208 => (if t208 = true then ((spindlelaw0_errors8.f).bind fun t209 => (if t209 = true then ((spindlelaw0_numbers1.f).bind fun t210 => (if t210 = true then ((spindlelaw0_numbers2.f).bind fun t211 => (if t211 = true then ((spindlelaw0_numbers3.f).bind fun t212 => (if t212 = true then ((spindlelaw0_numbers4.f).bind fun t213 => (if t213 = true then ((spindlelaw0_numbers5.f).bind fun t214 => (if t214 = true then ((spindlelaw0_numbers6.f).bind fun t215 => (some t215)) else (some false))) else (some false))) else (some false))) else (some false))) else (some false))) else (some false))) else (some false))) else (some false))) else (some false))) = some r := by rw [if_pos rfl] at H; exact H
          clear H
          have H := H1
          clear H1
          replace H := Option.bind_eq_some_iff.mp H
          obtain ⟨t206, A90, H⟩ := H
          replace H : (if t206 = true then ((spindlelaw0_errors6.f).bind fun t207 => (if t207 = true then ((spindlelaw0_errors7.f).bind fun t208 => (if t208 = true then ((spindlelaw0_errors8.f).bind fun t209 => (if t209 = true then ((spindlelaw0_numbers1.f).bind fun t210 => (if t210 = true then ((spindlelaw0_numbers2.f).bind fun t211 => (if t211 = true then ((spindlelaw0_numbers3.f).bind fun t212 => (if t212 = true then ((spindlelaw0_numbers4.f).bind fun t213 => (if t213 = true then ((spindlelaw0_numbers5.f).bind fun t214 => (if t214 = true then ((spindlelaw0_numbers6.f).bind fun t215 => (some t215)) else (some false))) else (some false))) else (some false))) else (some false))) else (some false))) else (some false))) else (some false))) else (some false))) else (some false)) = some r := H
          have A9 := Aside0.mk A90
          clear A90
          by_cases c10 : t206 = true
          · subst c10
            have H1 : ((spindlelaw0_errors6.f).bind fun t207 => (if t207 = true then ((spindlelaw0_errors7.f).bind fun t208 => (if t208 = true then ((spindlelaw0_errors8.f).bind fun t209 => (if t209 = true then ((spindlelaw0_numbers1.f).bind fun t210 => (if t210 = true then ((spindlelaw0_numbers2.f).bind fun t211 => (if t211 = true then ((spindlelaw0_numbers3.f).bind fun t212 => (if t212 = true then ((spindlelaw0_numbers4.f).bind fun t213 => (if t213 = true then ((spindlelaw0_numbers5.f).bind fun t214 => (if t214 = true then ((spindlelaw0_numbers6.f).bind fun t215 => (some t215)) else (some false))) else (some false))) else (some false))) else (some false))) else (some false))) else (some false))) else (some false))) else (some false))) = some r := by rw [if_pos rfl] at H; exact H
            clear H
            have H := H1
            clear H1
            replace H := Option.bind_eq_some_iff.mp H
            obtain ⟨t207, A110, H⟩ := H
            replace H : (if t207 = true then ((spindlelaw0_errors7.f).bind fun t208 => (if t208 = true then ((spindlelaw0_errors8.f).bind fun t209 => (if t209 = true then ((spindlelaw0_numbers1.f).bind fun t210 => (if t210 = true then ((spindlelaw0_numbers2.f).bind fun t211 => (if t211 = true then ((spindlelaw0_numbers3.f).bind fun t212 => (if t212 = true then ((spindlelaw0_numbers4.f).bind fun t213 => (if t213 = true then ((spindlelaw0_numbers5.f).bind fun t214 => (if t214 = true then ((spindlelaw0_numbers6.f).bind fun t215 => (some t215)) else (some false))) else (some false))) else (some false))) else (some false))) else (some false))) else (some false))) else (some false))) else (some false)) = some r := H
            have A11 := Aside0.mk A110
            clear A110
            by_cases c12 : t207 = true
            · subst c12
              have H1 : ((spindlelaw0_errors7.f).bind fun t208 => (if t208 = true then ((spindlelaw0_errors8.f).bind fun t209 => (if t209 = true then ((spindlelaw0_numbers1.f).bind fun t210 => (if t210 = true then ((spindlelaw0_numbers2.f).bind fun t211 => (if t211 = true then ((spindlelaw0_numbers3.f).bind fun t212 => (if t212 = true then ((spindlelaw0_numbers4.f).bind fun t213 => (if t213 = true then ((spindlelaw0_numbers5.f).bind fun t214 => (if t214 = true then ((spindlelaw0_numbers6.f).bind fun t215 => (some t215)) else (some false))) else (some false))) else (some false))) else (some false))) else (some false))) else (some false))) else (some false))) = some r := by rw [if_pos rfl] at H; exact H
              clear H
              have H := H1
              clear H1
              replace H := Option.bind_eq_some_iff.mp H
              obtain ⟨t208, A130, H⟩ := H
              replace H : (if t208 = true then ((spindlelaw0_errors8.f).bind fun t209 => (if t209 = true then ((spindlelaw0_numbers1.f).bind fun t210 => (if t210 = true then ((spindlelaw0_numbers2.f).bind fun t211 => (if t211 = true then ((spindlelaw0_numbers3.f).bind fun t212 => (if t212 = true then ((spindlelaw0_numbers4.f).bind fun t213 => (if t213 = true then ((spindlelaw0_numbers5.f).bind fun t214 => (if t214 = true then ((spindlelaw0_numbers6.f).bind fun t215 => (some t215)) else (some false))) else (some false))) else (some false))) else (some false))) else (some false))) else (some false))) else (some false)) = some r := H
              have A13 := Aside0.mk A130
              clear A130
              by_cases c14 : t208 = true
              · subst c14
                have H1 : ((spindlelaw0_errors8.f).bind fun t209 => (if t209 = true then ((spindlelaw0_numbers1.f).bind fun t210 => (if t210 = true then ((spindlelaw0_numbers2.f).bind fun t211 => (if t211 = true then ((spindlelaw0_numbers3.f).bind fun t212 => (if t212 = true then ((spindlelaw0_numbers4.f).bind fun t213 => (if t213 = true then ((spindlelaw0_numbers5.f).bind fun t214 => (if t214 = true then ((spindlelaw0_numbers6.f).bind fun t215 => (some t215)) else (some false))) else (some false))) else (some false))) else (some false))) else (some false))) else (some false))) = some r := by rw [if_pos rfl] at H; exact H
                clear H
                have H := H1
                clear H1
                replace H := Option.bind_eq_some_iff.mp H
                obtain ⟨t209, A150, H⟩ := H
                replace H : (if t209 = true then ((spindlelaw0_numbers1.f).bind fun t210 => (if t210 = true then ((spindlelaw0_numbers2.f).bind fun t211 => (if t211 = true then ((spindlelaw0_numbers3.f).bind fun t212 => (if t212 = true then ((spindlelaw0_numbers4.f).bind fun t213 => (if t213 = true then ((spindlelaw0_numbers5.f).bind fun t214 => (if t214 = true then ((spindlelaw0_numbers6.f).bind fun t215 => (some t215)) else (some false))) else (some false))) else (some false))) else (some false))) else (some false))) else (some false)) = some r := H
                have A15 := Aside0.mk A150
                clear A150
                by_cases c16 : t209 = true
                · subst c16
                  have H1 : ((spindlelaw0_numbers1.f).bind fun t210 => (if t210 = true then ((spindlelaw0_numbers2.f).bind fun t211 => (if t211 = true then ((spindlelaw0_numbers3.f).bind fun t212 => (if t212 = true then ((spindlelaw0_numbers4.f).bind fun t213 => (if t213 = true then ((spindlelaw0_numbers5.f).bind fun t214 => (if t214 = true then ((spindlelaw0_numbers6.f).bind fun t215 => (some t215)) else (some false))) else (some false))) else (some false))) else (some false))) else (some false))) = some r := by rw [if_pos rfl] at H; exact H
                  clear H
                  have H := H1
                  clear H1
                  replace H := Option.bind_eq_some_iff.mp H
                  obtain ⟨t210, A170, H⟩ := H
                  replace H : (if t210 = true then ((spindlelaw0_numbers2.f).bind fun t211 => (if t211 = true then ((spindlelaw0_numbers3.f).bind fun t212 => (if t212 = true then ((spindlelaw0_numbers4.f).bind fun t213 => (if t213 = true then ((spindlelaw0_numbers5.f).bind fun t214 => (if t214 = true then ((spindlelaw0_numbers6.f).bind fun t215 => (some t215)) else (some false))) else (some false))) else (some false))) else (some false))) else (some false)) = some r := H
                  have A17 := Aside0.mk A170
                  clear A170
                  by_cases c18 : t210 = true
                  · subst c18
                    have H1 : ((spindlelaw0_numbers2.f).bind fun t211 => (if t211 = true then ((spindlelaw0_numbers3.f).bind fun t212 => (if t212 = true then ((spindlelaw0_numbers4.f).bind fun t213 => (if t213 = true then ((spindlelaw0_numbers5.f).bind fun t214 => (if t214 = true then ((spindlelaw0_numbers6.f).bind fun t215 => (some t215)) else (some false))) else (some false))) else (some false))) else (some false))) = some r := by rw [if_pos rfl] at H; exact H
                    clear H
                    have H := H1
                    clear H1
                    replace H := Option.bind_eq_some_iff.mp H
                    obtain ⟨t211, A190, H⟩ := H
                    replace H : (if t211 = true then ((spindlelaw0_numbers3.f).bind fun t212 => (if t212 = true then ((spindlelaw0_numbers4.f).bind fun t213 => (if t213 = true then ((spindlelaw0_numbers5.f).bind fun t214 => (if t214 = true then ((spindlelaw0_numbers6.f).bind fun t215 => (some t215)) else (some false))) else (some false))) else (some false))) else (some false)) = some r := H
                    have A19 := Aside0.mk A190
                    clear A190
                    by_cases c20 : t211 = true
                    · subst c20
                      have H1 : ((spindlelaw0_numbers3.f).bind fun t212 => (if t212 = true then ((spindlelaw0_numbers4.f).bind fun t213 => (if t213 = true then ((spindlelaw0_numbers5.f).bind fun t214 => (if t214 = true then ((spindlelaw0_numbers6.f).bind fun t215 => (some t215)) else (some false))) else (some false))) else (some false))) = some r := by rw [if_pos rfl] at H; exact H
                      clear H
                      have H := H1
                      clear H1
                      replace H := Option.bind_eq_some_iff.mp H
                      obtain ⟨t212, A210, H⟩ := H
                      replace H : (if t212 = true then ((spindlelaw0_numbers4.f).bind fun t213 => (if t213 = true then ((spindlelaw0_numbers5.f).bind fun t214 => (if t214 = true then ((spindlelaw0_numbers6.f).bind fun t215 => (some t215)) else (some false))) else (some false))) else (some false)) = some r := H
                      have A21 := Aside0.mk A210
                      clear A210
                      by_cases c22 : t212 = true
                      · subst c22
                        have H1 : ((spindlelaw0_numbers4.f).bind fun t213 => (if t213 = true then ((spindlelaw0_numbers5.f).bind fun t214 => (if t214 = true then ((spindlelaw0_numbers6.f).bind fun t215 => (some t215)) else (some false))) else (some false))) = some r := by rw [if_pos rfl] at H; exact H
                        clear H
                        have H := H1
                        clear H1
                        replace H := Option.bind_eq_some_iff.mp H
                        obtain ⟨t213, A230, H⟩ := H
                        replace H : (if t213 = true then ((spindlelaw0_numbers5.f).bind fun t214 => (if t214 = true then ((spindlelaw0_numbers6.f).bind fun t215 => (some t215)) else (some false))) else (some false)) = some r := H
                        have A23 := Aside0.mk A230
                        clear A230
                        by_cases c24 : t213 = true
                        · subst c24
                          have H1 : ((spindlelaw0_numbers5.f).bind fun t214 => (if t214 = true then ((spindlelaw0_numbers6.f).bind fun t215 => (some t215)) else (some false))) = some r := by rw [if_pos rfl] at H; exact H
                          clear H
                          have H := H1
                          clear H1
                          replace H := Option.bind_eq_some_iff.mp H
                          obtain ⟨t214, A250, H⟩ := H
                          replace H : (if t214 = true then ((spindlelaw0_numbers6.f).bind fun t215 => (some t215)) else (some false)) = some r := H
                          have A25 := Aside0.mk A250
                          clear A250
                          by_cases c26 : t214 = true
                          · subst c26
                            have H1 : ((spindlelaw0_numbers6.f).bind fun t215 => (some t215)) = some r := by rw [if_pos rfl] at H; exact H
                            clear H
                            have H := H1
                            clear H1
                            replace H := Option.bind_eq_some_iff.mp H
                            obtain ⟨t215, A270, H⟩ := H
                            replace H : (some t215) = some r := H
                            have A27 := Aside0.mk A270
                            clear A270
                            obtain rfl := Option.some.inj H
                            go_enter Try.func3, Try.ntmps3
                            go_wp2_with (first | ((with_reducible refine gate_callee (f := 4) rfl ?_); refine goesL_ (some 1) rfl rfl Try.func4 (by kernel_rfl) rfl #[] rfl (by (try simp only [List.map_toArray, List.map_cons, List.map_nil]); first | done | rfl | (simp only [List.length_drop, List.length_take]; rfl)) ?_; (with_reducible refine (spindlelaw0_errors1.calls  true _ A1.out).mono ?_); rintro e w' ⟨rfl, ⟨nd, rfl⟩⟩; refine ⟨_, rfl, ?_⟩) | (go_at_call 5; (with_reducible refine (spindlelaw0_errors2.calls  true _ A3.out).mono ?_); rintro e w' ⟨rfl, ⟨nd, rfl⟩⟩) | (go_at_call 6; (with_reducible refine (spindlelaw0_errors3.calls  true _ A5.out).mono ?_); rintro e w' ⟨rfl, ⟨nd, rfl⟩⟩) | (go_at_call 7; (with_reducible refine (spindlelaw0_errors4.calls  true _ A7.out).mono ?_); rintro e w' ⟨rfl, ⟨nd, rfl⟩⟩) | (go_at_call 8; (with_reducible refine (spindlelaw0_errors5.calls  true _ A9.out).mono ?_); rintro e w' ⟨rfl, ⟨nd, rfl⟩⟩) | (go_at_call 9; (with_reducible refine (spindlelaw0_errors6.calls  true _ A11.out).mono ?_); rintro e w' ⟨rfl, ⟨nd, rfl⟩⟩) | (go_at_call 10; (with_reducible refine (spindlelaw0_errors7.calls  true _ A13.out).mono ?_); rintro e w' ⟨rfl, ⟨nd, rfl⟩⟩) | (go_at_call 11; (with_reducible refine (spindlelaw0_errors8.calls  true _ A15.out).mono ?_); rintro e w' ⟨rfl, ⟨nd, rfl⟩⟩) | (go_at_call 12; (with_reducible refine (spindlelaw0_numbers1.calls  true _ A17.out).mono ?_); rintro e w' ⟨rfl, ⟨nd, rfl⟩⟩) | (go_at_call 13; (with_reducible refine (spindlelaw0_numbers2.calls  true _ A19.out).mono ?_); rintro e w' ⟨rfl, ⟨nd, rfl⟩⟩) | (go_at_call 14; (with_reducible refine (spindlelaw0_numbers3.calls  true _ A21.out).mono ?_); rintro e w' ⟨rfl, ⟨nd, rfl⟩⟩) | (go_at_call 15; (with_reducible refine (spindlelaw0_numbers4.calls  true _ A23.out).mono ?_); rintro e w' ⟨rfl, ⟨nd, rfl⟩⟩) | (go_at_call 16; (with_reducible refine (spindlelaw0_numbers5.calls  true _ A25.out).mono ?_); rintro e w' ⟨rfl, ⟨nd, rfl⟩⟩) | (go_at_call 17; (with_reducible refine (spindlelaw0_numbers6.calls  t215 _ A27.out).mono ?_); rintro e w' ⟨rfl, ⟨nd, rfl⟩⟩))
                            go_ret
                            exact ⟨by first | rfl | (simp; done) | (simp [*]; done), by repeat (first | exact Drawn0.refl _ | apply Drawn0.step)⟩
                          · replace c26 := Bool.eq_false_iff.mpr c26
                            subst c26
                            have H1 : (some false) = some r := by rw [if_neg (show ¬ (false = true) by decide)] at H; exact H
                            clear H
                            have H := H1
                            clear H1
                            obtain rfl := Option.some.inj H
                            go_enter Try.func3, Try.ntmps3
                            go_wp2_with (first | ((with_reducible refine gate_callee (f := 4) rfl ?_); refine goesL_ (some 1) rfl rfl Try.func4 (by kernel_rfl) rfl #[] rfl (by (try simp only [List.map_toArray, List.map_cons, List.map_nil]); first | done | rfl | (simp only [List.length_drop, List.length_take]; rfl)) ?_; (with_reducible refine (spindlelaw0_errors1.calls  true _ A1.out).mono ?_); rintro e w' ⟨rfl, ⟨nd, rfl⟩⟩; refine ⟨_, rfl, ?_⟩) | (go_at_call 5; (with_reducible refine (spindlelaw0_errors2.calls  true _ A3.out).mono ?_); rintro e w' ⟨rfl, ⟨nd, rfl⟩⟩) | (go_at_call 6; (with_reducible refine (spindlelaw0_errors3.calls  true _ A5.out).mono ?_); rintro e w' ⟨rfl, ⟨nd, rfl⟩⟩) | (go_at_call 7; (with_reducible refine (spindlelaw0_errors4.calls  true _ A7.out).mono ?_); rintro e w' ⟨rfl, ⟨nd, rfl⟩⟩) | (go_at_call 8; (with_reducible refine (spindlelaw0_errors5.calls  true _ A9.out).mono ?_); rintro e w' ⟨rfl, ⟨nd, rfl⟩⟩) | (go_at_call 9; (with_reducible refine (spindlelaw0_errors6.calls  true _ A11.out).mono ?_); rintro e w' ⟨rfl, ⟨nd, rfl⟩⟩) | (go_at_call 10; (with_reducible refine (spindlelaw0_errors7.calls  true _ A13.out).mono ?_); rintro e w' ⟨rfl, ⟨nd, rfl⟩⟩) | (go_at_call 11; (with_reducible refine (spindlelaw0_errors8.calls  true _ A15.out).mono ?_); rintro e w' ⟨rfl, ⟨nd, rfl⟩⟩) | (go_at_call 12; (with_reducible refine (spindlelaw0_numbers1.calls  true _ A17.out).mono ?_); rintro e w' ⟨rfl, ⟨nd, rfl⟩⟩) | (go_at_call 13; (with_reducible refine (spindlelaw0_numbers2.calls  true _ A19.out).mono ?_); rintro e w' ⟨rfl, ⟨nd, rfl⟩⟩) | (go_at_call 14; (with_reducible refine (spindlelaw0_numbers3.calls  true _ A21.out).mono ?_); rintro e w' ⟨rfl, ⟨nd, rfl⟩⟩) | (go_at_call 15; (with_reducible refine (spindlelaw0_numbers4.calls  true _ A23.out).mono ?_); rintro e w' ⟨rfl, ⟨nd, rfl⟩⟩) | (go_at_call 16; (with_reducible refine (spindlelaw0_numbers5.calls  false _ A25.out).mono ?_); rintro e w' ⟨rfl, ⟨nd, rfl⟩⟩))
                            go_ret
                            exact ⟨by first | rfl | (simp; done) | (simp [*]; done), by repeat (first | exact Drawn0.refl _ | apply Drawn0.step)⟩
                        · replace c24 := Bool.eq_false_iff.mpr c24
                          subst c24
                          have H1 : (some false) = some r := by rw [if_neg (show ¬ (false = true) by decide)] at H; exact H
                          clear H
                          have H := H1
                          clear H1
                          obtain rfl := Option.some.inj H
                          go_enter Try.func3, Try.ntmps3
                          go_wp2_with (first | ((with_reducible refine gate_callee (f := 4) rfl ?_); refine goesL_ (some 1) rfl rfl Try.func4 (by kernel_rfl) rfl #[] rfl (by (try simp only [List.map_toArray, List.map_cons, List.map_nil]); first | done | rfl | (simp only [List.length_drop, List.length_take]; rfl)) ?_; (with_reducible refine (spindlelaw0_errors1.calls  true _ A1.out).mono ?_); rintro e w' ⟨rfl, ⟨nd, rfl⟩⟩; refine ⟨_, rfl, ?_⟩) | (go_at_call 5; (with_reducible refine (spindlelaw0_errors2.calls  true _ A3.out).mono ?_); rintro e w' ⟨rfl, ⟨nd, rfl⟩⟩) | (go_at_call 6; (with_reducible refine (spindlelaw0_errors3.calls  true _ A5.out).mono ?_); rintro e w' ⟨rfl, ⟨nd, rfl⟩⟩) | (go_at_call 7; (with_reducible refine (spindlelaw0_errors4.calls  true _ A7.out).mono ?_); rintro e w' ⟨rfl, ⟨nd, rfl⟩⟩) | (go_at_call 8; (with_reducible refine (spindlelaw0_errors5.calls  true _ A9.out).mono ?_); rintro e w' ⟨rfl, ⟨nd, rfl⟩⟩) | (go_at_call 9; (with_reducible refine (spindlelaw0_errors6.calls  true _ A11.out).mono ?_); rintro e w' ⟨rfl, ⟨nd, rfl⟩⟩) | (go_at_call 10; (with_reducible refine (spindlelaw0_errors7.calls  true _ A13.out).mono ?_); rintro e w' ⟨rfl, ⟨nd, rfl⟩⟩) | (go_at_call 11; (with_reducible refine (spindlelaw0_errors8.calls  true _ A15.out).mono ?_); rintro e w' ⟨rfl, ⟨nd, rfl⟩⟩) | (go_at_call 12; (with_reducible refine (spindlelaw0_numbers1.calls  true _ A17.out).mono ?_); rintro e w' ⟨rfl, ⟨nd, rfl⟩⟩) | (go_at_call 13; (with_reducible refine (spindlelaw0_numbers2.calls  true _ A19.out).mono ?_); rintro e w' ⟨rfl, ⟨nd, rfl⟩⟩) | (go_at_call 14; (with_reducible refine (spindlelaw0_numbers3.calls  true _ A21.out).mono ?_); rintro e w' ⟨rfl, ⟨nd, rfl⟩⟩) | (go_at_call 15; (with_reducible refine (spindlelaw0_numbers4.calls  false _ A23.out).mono ?_); rintro e w' ⟨rfl, ⟨nd, rfl⟩⟩))
                          go_ret
                          exact ⟨by first | rfl | (simp; done) | (simp [*]; done), by repeat (first | exact Drawn0.refl _ | apply Drawn0.step)⟩
                      · replace c22 := Bool.eq_false_iff.mpr c22
                        subst c22
                        have H1 : (some false) = some r := by rw [if_neg (show ¬ (false = true) by decide)] at H; exact H
                        clear H
                        have H := H1
                        clear H1
                        obtain rfl := Option.some.inj H
                        go_enter Try.func3, Try.ntmps3
                        go_wp2_with (first | ((with_reducible refine gate_callee (f := 4) rfl ?_); refine goesL_ (some 1) rfl rfl Try.func4 (by kernel_rfl) rfl #[] rfl (by (try simp only [List.map_toArray, List.map_cons, List.map_nil]); first | done | rfl | (simp only [List.length_drop, List.length_take]; rfl)) ?_; (with_reducible refine (spindlelaw0_errors1.calls  true _ A1.out).mono ?_); rintro e w' ⟨rfl, ⟨nd, rfl⟩⟩; refine ⟨_, rfl, ?_⟩) | (go_at_call 5; (with_reducible refine (spindlelaw0_errors2.calls  true _ A3.out).mono ?_); rintro e w' ⟨rfl, ⟨nd, rfl⟩⟩) | (go_at_call 6; (with_reducible refine (spindlelaw0_errors3.calls  true _ A5.out).mono ?_); rintro e w' ⟨rfl, ⟨nd, rfl⟩⟩) | (go_at_call 7; (with_reducible refine (spindlelaw0_errors4.calls  true _ A7.out).mono ?_); rintro e w' ⟨rfl, ⟨nd, rfl⟩⟩) | (go_at_call 8; (with_reducible refine (spindlelaw0_errors5.calls  true _ A9.out).mono ?_); rintro e w' ⟨rfl, ⟨nd, rfl⟩⟩) | (go_at_call 9; (with_reducible refine (spindlelaw0_errors6.calls  true _ A11.out).mono ?_); rintro e w' ⟨rfl, ⟨nd, rfl⟩⟩) | (go_at_call 10; (with_reducible refine (spindlelaw0_errors7.calls  true _ A13.out).mono ?_); rintro e w' ⟨rfl, ⟨nd, rfl⟩⟩) | (go_at_call 11; (with_reducible refine (spindlelaw0_errors8.calls  true _ A15.out).mono ?_); rintro e w' ⟨rfl, ⟨nd, rfl⟩⟩) | (go_at_call 12; (with_reducible refine (spindlelaw0_numbers1.calls  true _ A17.out).mono ?_); rintro e w' ⟨rfl, ⟨nd, rfl⟩⟩) | (go_at_call 13; (with_reducible refine (spindlelaw0_numbers2.calls  true _ A19.out).mono ?_); rintro e w' ⟨rfl, ⟨nd, rfl⟩⟩) | (go_at_call 14; (with_reducible refine (spindlelaw0_numbers3.calls  false _ A21.out).mono ?_); rintro e w' ⟨rfl, ⟨nd, rfl⟩⟩))
                        go_ret
                        exact ⟨by first | rfl | (simp; done) | (simp [*]; done), by repeat (first | exact Drawn0.refl _ | apply Drawn0.step)⟩
                    · replace c20 := Bool.eq_false_iff.mpr c20
                      subst c20
                      have H1 : (some false) = some r := by rw [if_neg (show ¬ (false = true) by decide)] at H; exact H
                      clear H
                      have H := H1
                      clear H1
                      obtain rfl := Option.some.inj H
                      go_enter Try.func3, Try.ntmps3
                      go_wp2_with (first | ((with_reducible refine gate_callee (f := 4) rfl ?_); refine goesL_ (some 1) rfl rfl Try.func4 (by kernel_rfl) rfl #[] rfl (by (try simp only [List.map_toArray, List.map_cons, List.map_nil]); first | done | rfl | (simp only [List.length_drop, List.length_take]; rfl)) ?_; (with_reducible refine (spindlelaw0_errors1.calls  true _ A1.out).mono ?_); rintro e w' ⟨rfl, ⟨nd, rfl⟩⟩; refine ⟨_, rfl, ?_⟩) | (go_at_call 5; (with_reducible refine (spindlelaw0_errors2.calls  true _ A3.out).mono ?_); rintro e w' ⟨rfl, ⟨nd, rfl⟩⟩) | (go_at_call 6; (with_reducible refine (spindlelaw0_errors3.calls  true _ A5.out).mono ?_); rintro e w' ⟨rfl, ⟨nd, rfl⟩⟩) | (go_at_call 7; (with_reducible refine (spindlelaw0_errors4.calls  true _ A7.out).mono ?_); rintro e w' ⟨rfl, ⟨nd, rfl⟩⟩) | (go_at_call 8; (with_reducible refine (spindlelaw0_errors5.calls  true _ A9.out).mono ?_); rintro e w' ⟨rfl, ⟨nd, rfl⟩⟩) | (go_at_call 9; (with_reducible refine (spindlelaw0_errors6.calls  true _ A11.out).mono ?_); rintro e w' ⟨rfl, ⟨nd, rfl⟩⟩) | (go_at_call 10; (with_reducible refine (spindlelaw0_errors7.calls  true _ A13.out).mono ?_); rintro e w' ⟨rfl, ⟨nd, rfl⟩⟩) | (go_at_call 11; (with_reducible refine (spindlelaw0_errors8.calls  true _ A15.out).mono ?_); rintro e w' ⟨rfl, ⟨nd, rfl⟩⟩) | (go_at_call 12; (with_reducible refine (spindlelaw0_numbers1.calls  true _ A17.out).mono ?_); rintro e w' ⟨rfl, ⟨nd, rfl⟩⟩) | (go_at_call 13; (with_reducible refine (spindlelaw0_numbers2.calls  false _ A19.out).mono ?_); rintro e w' ⟨rfl, ⟨nd, rfl⟩⟩))
                      go_ret
                      exact ⟨by first | rfl | (simp; done) | (simp [*]; done), by repeat (first | exact Drawn0.refl _ | apply Drawn0.step)⟩
                  · replace c18 := Bool.eq_false_iff.mpr c18
                    subst c18
                    have H1 : (some false) = some r := by rw [if_neg (show ¬ (false = true) by decide)] at H; exact H
                    clear H
                    have H := H1
                    clear H1
                    obtain rfl := Option.some.inj H
                    go_enter Try.func3, Try.ntmps3
                    go_wp2_with (first | ((with_reducible refine gate_callee (f := 4) rfl ?_); refine goesL_ (some 1) rfl rfl Try.func4 (by kernel_rfl) rfl #[] rfl (by (try simp only [List.map_toArray, List.map_cons, List.map_nil]); first | done | rfl | (simp only [List.length_drop, List.length_take]; rfl)) ?_; (with_reducible refine (spindlelaw0_errors1.calls  true _ A1.out).mono ?_); rintro e w' ⟨rfl, ⟨nd, rfl⟩⟩; refine ⟨_, rfl, ?_⟩) | (go_at_call 5; (with_reducible refine (spindlelaw0_errors2.calls  true _ A3.out).mono ?_); rintro e w' ⟨rfl, ⟨nd, rfl⟩⟩) | (go_at_call 6; (with_reducible refine (spindlelaw0_errors3.calls  true _ A5.out).mono ?_); rintro e w' ⟨rfl, ⟨nd, rfl⟩⟩) | (go_at_call 7; (with_reducible refine (spindlelaw0_errors4.calls  true _ A7.out).mono ?_); rintro e w' ⟨rfl, ⟨nd, rfl⟩⟩) | (go_at_call 8; (with_reducible refine (spindlelaw0_errors5.calls  true _ A9.out).mono ?_); rintro e w' ⟨rfl, ⟨nd, rfl⟩⟩) | (go_at_call 9; (with_reducible refine (spindlelaw0_errors6.calls  true _ A11.out).mono ?_); rintro e w' ⟨rfl, ⟨nd, rfl⟩⟩) | (go_at_call 10; (with_reducible refine (spindlelaw0_errors7.calls  true _ A13.out).mono ?_); rintro e w' ⟨rfl, ⟨nd, rfl⟩⟩) | (go_at_call 11; (with_reducible refine (spindlelaw0_errors8.calls  true _ A15.out).mono ?_); rintro e w' ⟨rfl, ⟨nd, rfl⟩⟩) | (go_at_call 12; (with_reducible refine (spindlelaw0_numbers1.calls  false _ A17.out).mono ?_); rintro e w' ⟨rfl, ⟨nd, rfl⟩⟩))
                    go_ret
                    exact ⟨by first | rfl | (simp; done) | (simp [*]; done), by repeat (first | exact Drawn0.refl _ | apply Drawn0.step)⟩
                · replace c16 := Bool.eq_false_iff.mpr c16
                  subst c16
                  have H1 : (some false) = some r := by rw [if_neg (show ¬ (false = true) by decide)] at H; exact H
                  clear H
                  have H := H1
                  clear H1
                  obtain rfl := Option.some.inj H
                  go_enter Try.func3, Try.ntmps3
                  go_wp2_with (first | ((with_reducible refine gate_callee (f := 4) rfl ?_); refine goesL_ (some 1) rfl rfl Try.func4 (by kernel_rfl) rfl #[] rfl (by (try simp only [List.map_toArray, List.map_cons, List.map_nil]); first | done | rfl | (simp only [List.length_drop, List.length_take]; rfl)) ?_; (with_reducible refine (spindlelaw0_errors1.calls  true _ A1.out).mono ?_); rintro e w' ⟨rfl, ⟨nd, rfl⟩⟩; refine ⟨_, rfl, ?_⟩) | (go_at_call 5; (with_reducible refine (spindlelaw0_errors2.calls  true _ A3.out).mono ?_); rintro e w' ⟨rfl, ⟨nd, rfl⟩⟩) | (go_at_call 6; (with_reducible refine (spindlelaw0_errors3.calls  true _ A5.out).mono ?_); rintro e w' ⟨rfl, ⟨nd, rfl⟩⟩) | (go_at_call 7; (with_reducible refine (spindlelaw0_errors4.calls  true _ A7.out).mono ?_); rintro e w' ⟨rfl, ⟨nd, rfl⟩⟩) | (go_at_call 8; (with_reducible refine (spindlelaw0_errors5.calls  true _ A9.out).mono ?_); rintro e w' ⟨rfl, ⟨nd, rfl⟩⟩) | (go_at_call 9; (with_reducible refine (spindlelaw0_errors6.calls  true _ A11.out).mono ?_); rintro e w' ⟨rfl, ⟨nd, rfl⟩⟩) | (go_at_call 10; (with_reducible refine (spindlelaw0_errors7.calls  true _ A13.out).mono ?_); rintro e w' ⟨rfl, ⟨nd, rfl⟩⟩) | (go_at_call 11; (with_reducible refine (spindlelaw0_errors8.calls  false _ A15.out).mono ?_); rintro e w' ⟨rfl, ⟨nd, rfl⟩⟩))
                  go_ret
                  exact ⟨by first | rfl | (simp; done) | (simp [*]; done), by repeat (first | exact Drawn0.refl _ | apply Drawn0.step)⟩
              · replace c14 := Bool.eq_false_iff.mpr c14
                subst c14
                have H1 : (some false) = some r := by rw [if_neg (show ¬ (false = true) by decide)] at H; exact H
                clear H
                have H := H1
                clear H1
                obtain rfl := Option.some.inj H
                go_enter Try.func3, Try.ntmps3
                go_wp2_with (first | ((with_reducible refine gate_callee (f := 4) rfl ?_); refine goesL_ (some 1) rfl rfl Try.func4 (by kernel_rfl) rfl #[] rfl (by (try simp only [List.map_toArray, List.map_cons, List.map_nil]); first | done | rfl | (simp only [List.length_drop, List.length_take]; rfl)) ?_; (with_reducible refine (spindlelaw0_errors1.calls  true _ A1.out).mono ?_); rintro e w' ⟨rfl, ⟨nd, rfl⟩⟩; refine ⟨_, rfl, ?_⟩) | (go_at_call 5; (with_reducible refine (spindlelaw0_errors2.calls  true _ A3.out).mono ?_); rintro e w' ⟨rfl, ⟨nd, rfl⟩⟩) | (go_at_call 6; (with_reducible refine (spindlelaw0_errors3.calls  true _ A5.out).mono ?_); rintro e w' ⟨rfl, ⟨nd, rfl⟩⟩) | (go_at_call 7; (with_reducible refine (spindlelaw0_errors4.calls  true _ A7.out).mono ?_); rintro e w' ⟨rfl, ⟨nd, rfl⟩⟩) | (go_at_call 8; (with_reducible refine (spindlelaw0_errors5.calls  true _ A9.out).mono ?_); rintro e w' ⟨rfl, ⟨nd, rfl⟩⟩) | (go_at_call 9; (with_reducible refine (spindlelaw0_errors6.calls  true _ A11.out).mono ?_); rintro e w' ⟨rfl, ⟨nd, rfl⟩⟩) | (go_at_call 10; (with_reducible refine (spindlelaw0_errors7.calls  false _ A13.out).mono ?_); rintro e w' ⟨rfl, ⟨nd, rfl⟩⟩))
                go_ret
                exact ⟨by first | rfl | (simp; done) | (simp [*]; done), by repeat (first | exact Drawn0.refl _ | apply Drawn0.step)⟩
            · replace c12 := Bool.eq_false_iff.mpr c12
              subst c12
              have H1 : (some false) = some r := by rw [if_neg (show ¬ (false = true) by decide)] at H; exact H
              clear H
              have H := H1
              clear H1
              obtain rfl := Option.some.inj H
              go_enter Try.func3, Try.ntmps3
              go_wp2_with (first | ((with_reducible refine gate_callee (f := 4) rfl ?_); refine goesL_ (some 1) rfl rfl Try.func4 (by kernel_rfl) rfl #[] rfl (by (try simp only [List.map_toArray, List.map_cons, List.map_nil]); first | done | rfl | (simp only [List.length_drop, List.length_take]; rfl)) ?_; (with_reducible refine (spindlelaw0_errors1.calls  true _ A1.out).mono ?_); rintro e w' ⟨rfl, ⟨nd, rfl⟩⟩; refine ⟨_, rfl, ?_⟩) | (go_at_call 5; (with_reducible refine (spindlelaw0_errors2.calls  true _ A3.out).mono ?_); rintro e w' ⟨rfl, ⟨nd, rfl⟩⟩) | (go_at_call 6; (with_reducible refine (spindlelaw0_errors3.calls  true _ A5.out).mono ?_); rintro e w' ⟨rfl, ⟨nd, rfl⟩⟩) | (go_at_call 7; (with_reducible refine (spindlelaw0_errors4.calls  true _ A7.out).mono ?_); rintro e w' ⟨rfl, ⟨nd, rfl⟩⟩) | (go_at_call 8; (with_reducible refine (spindlelaw0_errors5.calls  true _ A9.out).mono ?_); rintro e w' ⟨rfl, ⟨nd, rfl⟩⟩) | (go_at_call 9; (with_reducible refine (spindlelaw0_errors6.calls  false _ A11.out).mono ?_); rintro e w' ⟨rfl, ⟨nd, rfl⟩⟩))
              go_ret
              exact ⟨by first | rfl | (simp; done) | (simp [*]; done), by repeat (first | exact Drawn0.refl _ | apply Drawn0.step)⟩
          · replace c10 := Bool.eq_false_iff.mpr c10
            subst c10
            have H1 : (some false) = some r := by rw [if_neg (show ¬ (false = true) by decide)] at H; exact H
            clear H
            have H := H1
            clear H1
            obtain rfl := Option.some.inj H
            go_enter Try.func3, Try.ntmps3
            go_wp2_with (first | ((with_reducible refine gate_callee (f := 4) rfl ?_); refine goesL_ (some 1) rfl rfl Try.func4 (by kernel_rfl) rfl #[] rfl (by (try simp only [List.map_toArray, List.map_cons, List.map_nil]); first | done | rfl | (simp only [List.length_drop, List.length_take]; rfl)) ?_; (with_reducible refine (spindlelaw0_errors1.calls  true _ A1.out).mono ?_); rintro e w' ⟨rfl, ⟨nd, rfl⟩⟩; refine ⟨_, rfl, ?_⟩) | (go_at_call 5; (with_reducible refine (spindlelaw0_errors2.calls  true _ A3.out).mono ?_); rintro e w' ⟨rfl, ⟨nd, rfl⟩⟩) | (go_at_call 6; (with_reducible refine (spindlelaw0_errors3.calls  true _ A5.out).mono ?_); rintro e w' ⟨rfl, ⟨nd, rfl⟩⟩) | (go_at_call 7; (with_reducible refine (spindlelaw0_errors4.calls  true _ A7.out).mono ?_); rintro e w' ⟨rfl, ⟨nd, rfl⟩⟩) | (go_at_call 8; (with_reducible refine (spindlelaw0_errors5.calls  false _ A9.out).mono ?_); rintro e w' ⟨rfl, ⟨nd, rfl⟩⟩))
            go_ret
            exact ⟨by first | rfl | (simp; done) | (simp [*]; done), by repeat (first | exact Drawn0.refl _ | apply Drawn0.step)⟩
        · replace c8 := Bool.eq_false_iff.mpr c8
          subst c8
          have H1 : (some false) = some r := by rw [if_neg (show ¬ (false = true) by decide)] at H; exact H
          clear H
          have H := H1
          clear H1
          obtain rfl := Option.some.inj H
          go_enter Try.func3, Try.ntmps3
          go_wp2_with (first | ((with_reducible refine gate_callee (f := 4) rfl ?_); refine goesL_ (some 1) rfl rfl Try.func4 (by kernel_rfl) rfl #[] rfl (by (try simp only [List.map_toArray, List.map_cons, List.map_nil]); first | done | rfl | (simp only [List.length_drop, List.length_take]; rfl)) ?_; (with_reducible refine (spindlelaw0_errors1.calls  true _ A1.out).mono ?_); rintro e w' ⟨rfl, ⟨nd, rfl⟩⟩; refine ⟨_, rfl, ?_⟩) | (go_at_call 5; (with_reducible refine (spindlelaw0_errors2.calls  true _ A3.out).mono ?_); rintro e w' ⟨rfl, ⟨nd, rfl⟩⟩) | (go_at_call 6; (with_reducible refine (spindlelaw0_errors3.calls  true _ A5.out).mono ?_); rintro e w' ⟨rfl, ⟨nd, rfl⟩⟩) | (go_at_call 7; (with_reducible refine (spindlelaw0_errors4.calls  false _ A7.out).mono ?_); rintro e w' ⟨rfl, ⟨nd, rfl⟩⟩))
          go_ret
          exact ⟨by first | rfl | (simp; done) | (simp [*]; done), by repeat (first | exact Drawn0.refl _ | apply Drawn0.step)⟩
      · replace c6 := Bool.eq_false_iff.mpr c6
        subst c6
        have H1 : (some false) = some r := by rw [if_neg (show ¬ (false = true) by decide)] at H; exact H
        clear H
        have H := H1
        clear H1
        obtain rfl := Option.some.inj H
        go_enter Try.func3, Try.ntmps3
        go_wp2_with (first | ((with_reducible refine gate_callee (f := 4) rfl ?_); refine goesL_ (some 1) rfl rfl Try.func4 (by kernel_rfl) rfl #[] rfl (by (try simp only [List.map_toArray, List.map_cons, List.map_nil]); first | done | rfl | (simp only [List.length_drop, List.length_take]; rfl)) ?_; (with_reducible refine (spindlelaw0_errors1.calls  true _ A1.out).mono ?_); rintro e w' ⟨rfl, ⟨nd, rfl⟩⟩; refine ⟨_, rfl, ?_⟩) | (go_at_call 5; (with_reducible refine (spindlelaw0_errors2.calls  true _ A3.out).mono ?_); rintro e w' ⟨rfl, ⟨nd, rfl⟩⟩) | (go_at_call 6; (with_reducible refine (spindlelaw0_errors3.calls  false _ A5.out).mono ?_); rintro e w' ⟨rfl, ⟨nd, rfl⟩⟩))
        go_ret
        exact ⟨by first | rfl | (simp; done) | (simp [*]; done), by repeat (first | exact Drawn0.refl _ | apply Drawn0.step)⟩
    · replace c4 := Bool.eq_false_iff.mpr c4
      subst c4
      have H1 : (some false) = some r := by rw [if_neg (show ¬ (false = true) by decide)] at H; exact H
      clear H
      have H := H1
      clear H1
      obtain rfl := Option.some.inj H
      go_enter Try.func3, Try.ntmps3
      go_wp2_with (first | ((with_reducible refine gate_callee (f := 4) rfl ?_); refine goesL_ (some 1) rfl rfl Try.func4 (by kernel_rfl) rfl #[] rfl (by (try simp only [List.map_toArray, List.map_cons, List.map_nil]); first | done | rfl | (simp only [List.length_drop, List.length_take]; rfl)) ?_; (with_reducible refine (spindlelaw0_errors1.calls  true _ A1.out).mono ?_); rintro e w' ⟨rfl, ⟨nd, rfl⟩⟩; refine ⟨_, rfl, ?_⟩) | (go_at_call 5; (with_reducible refine (spindlelaw0_errors2.calls  false _ A3.out).mono ?_); rintro e w' ⟨rfl, ⟨nd, rfl⟩⟩))
      go_ret
      exact ⟨by first | rfl | (simp; done) | (simp [*]; done), by repeat (first | exact Drawn0.refl _ | apply Drawn0.step)⟩
  · replace c2 := Bool.eq_false_iff.mpr c2
    subst c2
    have H1 : (some false) = some r := by rw [if_neg (show ¬ (false = true) by decide)] at H; exact H
    clear H
    have H := H1
    clear H1
    obtain rfl := Option.some.inj H
    go_enter Try.func3, Try.ntmps3
    go_wp2_with (first | ((with_reducible refine gate_callee (f := 4) rfl ?_); refine goesL_ (some 1) rfl rfl Try.func4 (by kernel_rfl) rfl #[] rfl (by (try simp only [List.map_toArray, List.map_cons, List.map_nil]); first | done | rfl | (simp only [List.length_drop, List.length_take]; rfl)) ?_; (with_reducible refine (spindlelaw0_errors1.calls  false _ A1.out).mono ?_); rintro e w' ⟨rfl, ⟨nd, rfl⟩⟩; refine ⟨_, rfl, ?_⟩))
    go_ret
    exact ⟨by first | rfl | (simp; done) | (simp [*]; done), by repeat (first | exact Drawn0.refl _ | apply Drawn0.step)⟩

/-- THE ONE PURE STATEMENT of spindlelaw0_SpindleNames: yours. -/
def spindlelaw0_SpindleNames.Pure : Prop := spindlelaw0_SpindleNames.f  = some true
theorem spindlelaw0_SpindleNames.walk (P : spindlelaw0_SpindleNames.Pure)  (w : World)  :
    Calls Try.prog 3 #[] w fun e w' => e = .returned (.bool true) ∧ Below w.heap.size w w' := by
  have h := P  
  refine (spindlelaw0_SpindleNames.calls  true w h).mono ?_
  rintro e w' ⟨rfl, hd⟩
  exact ⟨rfl, hd.below⟩

end Go.Proofs.Ytlodcfcpjcnlbaa.PSpindleNames
