-- PRINTED BY print.sh 35421559b90ae4d0a3588c463048766b98c2df88dd9212a6774a882060cdf62d: not written by this session
import Derived.Test.YtlodcfcpjcnlbaaPSpindleNamesx0
import Derived.Test.YtlodcfcpjcnlbaaPSpindleNamesx1
namespace Go.Proofs.Ytlodcfcpjcnlbaa.PSpindleNames
open Go.RowKit Go.Proofs.YtlodcfcpjcnlbaaW.PrintWords Go.Proofs.YtlodcfcpjcnlbaaW.PrintLast Go.Proofs.YtlodcfcpjcnlbaaW.PrintMore
attribute [local go_sem] max2_int min2_int max_two min_two max_three min_three max_four min_four   -- for this text's walks alone
set_option linter.unusedVariables false
set_option linter.unusedSimpArgs false

/-! ### spindlelaw0_errors4: function 7 -/
def spindlelaw0_errors4.f  : Option (Bool) := (spindlelaw0_Num.f 128).bind fun t143 => (if t143 = 128 then ((spindlelaw0_Num.f 130).bind fun t144 => (if t144 = 130 then ((spindlelaw0_Num.f 131).bind fun t145 => (if t145 = 131 then ((spindlelaw0_Num.f 132).bind fun t146 => (if t146 = 132 then ((spindlelaw0_Num.f 140).bind fun t147 => (if t147 = 140 then ((spindlelaw0_Num.f 160).bind fun t148 => (if t148 = 160 then ((spindlelaw0_Num.f 161).bind fun t149 => (if t149 = 161 then ((spindlelaw0_Num.f 162).bind fun t150 => (if t150 = 162 then ((spindlelaw0_Num.f 163).bind fun t151 => (if t151 = 163 then ((spindlelaw0_Num.f 164).bind fun t152 => (if t152 = 164 then ((spindlelaw0_Num.f 165).bind fun t153 => (if t153 = 165 then ((spindlelaw0_Num.f 166).bind fun t154 => (if t154 = 166 then ((spindlelaw0_Num.f 170).bind fun t155 => (if t155 = 170 then ((spindlelaw0_Num.f 171).bind fun t156 => (some (t156 == 171))) else (some false))) else (some false))) else (some false))) else (some false))) else (some false))) else (some false))) else (some false))) else (some false))) else (some false))) else (some false))) else (some false))) else (some false))) else (some false))
set_option maxHeartbeats 8000000 in
set_option maxRecDepth 100000 in
theorem spindlelaw0_errors4.calls  (r : Bool) (w : World) (h : spindlelaw0_errors4.f  = some r) :
    Calls Try.prog 7 #[] w fun e w' => e = .returned (.bool r) ∧ Drawn0 w w' := by
  have H : ((spindlelaw0_Num.f 128).bind fun t143 => (if t143 = 128 then ((spindlelaw0_Num.f 130).bind fun t144 => (if t144 = 130 then ((spindlelaw0_Num.f 131).bind fun t145 => (if t145 = 131 then ((spindlelaw0_Num.f 132).bind fun t146 => (if t146 = 132 then ((spindlelaw0_Num.f 140).bind fun t147 => (if t147 = 140 then ((spindlelaw0_Num.f 160).bind fun t148 => (if t148 = 160 then ((spindlelaw0_Num.f 161).bind fun t149 => (if t149 = 161 then ((spindlelaw0_Num.f 162).bind fun t150 => (if t150 = 162 then ((spindlelaw0_Num.f 163).bind fun t151 => (if t151 = 163 then ((spindlelaw0_Num.f 164).bind fun t152 => (if t152 = 164 then ((spindlelaw0_Num.f 165).bind fun t153 => (if t153 = 165 then ((spindlelaw0_Num.f 166).bind fun t154 => (if t154 = 166 then ((spindlelaw0_Num.f 170).bind fun t155 => (if t155 = 170 then ((spindlelaw0_Num.f 171).bind fun t156 => (some (t156 == 171))) else (some false))) else (some false))) else (some false))) else (some false))) else (some false))) else (some false))) else (some false))) else (some false))) else (some false))) else (some false))) else (some false))) else (some false))) else (some false))) = some r := h
  clear h
  replace H := Option.bind_eq_some_iff.mp H
  obtain ⟨t143, A10, H⟩ := H
  replace H : (if t143 = 128 then ((spindlelaw0_Num.f 130).bind fun t144 => (if t144 = 130 then ((spindlelaw0_Num.f 131).bind fun t145 => (if t145 = 131 then ((spindlelaw0_Num.f 132).bind fun t146 => (if t146 = 132 then ((spindlelaw0_Num.f 140).bind fun t147 => (if t147 = 140 then ((spindlelaw0_Num.f 160).bind fun t148 => (if t148 = 160 then ((spindlelaw0_Num.f 161).bind fun t149 => (if t149 = 161 then ((spindlelaw0_Num.f 162).bind fun t150 => (if t150 = 162 then ((spindlelaw0_Num.f 163).bind fun t151 => (if t151 = 163 then ((spindlelaw0_Num.f 164).bind fun t152 => (if t152 = 164 then ((spindlelaw0_Num.f 165).bind fun t153 => (if t153 = 165 then ((spindlelaw0_Num.f 166).bind fun t154 => (if t154 = 166 then ((spindlelaw0_Num.f 170).bind fun t155 => (if t155 = 170 then ((spindlelaw0_Num.f 171).bind fun t156 => (some (t156 == 171))) else (some false))) else (some false))) else (some false))) else (some false))) else (some false))) else (some false))) else (some false))) else (some false))) else (some false))) else (some false))) else (some false))) else (some false))) else (some false)) = some r := H
  have A1 := Aside0.mk A10
  clear A10
  by_cases c2 : t143 = 128
  · rw [if_pos c2] at H
    have c2b0 : (t143 == 128) = true := beq_iff_eq.mpr c2
    have c2b1 : (t143 != 128) = false := bne_eq_false_iff_eq.mpr c2
    clear c2
    replace H := Option.bind_eq_some_iff.mp H
    obtain ⟨t144, A30, H⟩ := H
    replace H : (if t144 = 130 then ((spindlelaw0_Num.f 131).bind fun t145 => (if t145 = 131 then ((spindlelaw0_Num.f 132).bind fun t146 => (if t146 = 132 then ((spindlelaw0_Num.f 140).bind fun t147 => (if t147 = 140 then ((spindlelaw0_Num.f 160).bind fun t148 => (if t148 = 160 then ((spindlelaw0_Num.f 161).bind fun t149 => (if t149 = 161 then ((spindlelaw0_Num.f 162).bind fun t150 => (if t150 = 162 then ((spindlelaw0_Num.f 163).bind fun t151 => (if t151 = 163 then ((spindlelaw0_Num.f 164).bind fun t152 => (if t152 = 164 then ((spindlelaw0_Num.f 165).bind fun t153 => (if t153 = 165 then ((spindlelaw0_Num.f 166).bind fun t154 => (if t154 = 166 then ((spindlelaw0_Num.f 170).bind fun t155 => (if t155 = 170 then ((spindlelaw0_Num.f 171).bind fun t156 => (some (t156 == 171))) else (some false))) else (some false))) else (some false))) else (some false))) else (some false))) else (some false))) else (some false))) else (some false))) else (some false))) else (some false))) else (some false))) else (some false)) = some r := H
    have A3 := Aside0.mk A30
    clear A30
    by_cases c4 : t144 = 130
    · rw [if_pos c4] at H
      have c4b0 : (t144 == 130) = true := beq_iff_eq.mpr c4
      have c4b1 : (t144 != 130) = false := bne_eq_false_iff_eq.mpr c4
      clear c4
      replace H := Option.bind_eq_some_iff.mp H
      obtain ⟨t145, A50, H⟩ := H
      replace H : (if t145 = 131 then ((spindlelaw0_Num.f 132).bind fun t146 => (if t146 = 132 then ((spindlelaw0_Num.f 140).bind fun t147 => (if t147 = 140 then ((spindlelaw0_Num.f 160).bind fun t148 => (if t148 = 160 then ((spindlelaw0_Num.f 161).bind fun t149 => (if t149 = 161 then ((spindlelaw0_Num.f 162).bind fun t150 => (if t150 = 162 then ((spindlelaw0_Num.f 163).bind fun t151 => (if t151 = 163 then ((spindlelaw0_Num.f 164).bind fun t152 => (if t152 = 164 then ((spindlelaw0_Num.f 165).bind fun t153 => (if t153 = 165 then ((spindlelaw0_Num.f 166).bind fun t154 => (if t154 = 166 then ((spindlelaw0_Num.f 170).bind fun t155 => (if t155 = 170 then ((spindlelaw0_Num.f 171).bind fun t156 => (some (t156 == 171))) else (some false))) else (some false))) else (some false))) else (some false))) else (some false))) else (some false))) else (some false))) else (some false))) else (some false))) else (some false))) else (some false)) = some r := H
      have A5 := Aside0.mk A50
      clear A50
      by_cases c6 : t145 = 131
      · rw [if_pos c6] at H
        have c6b0 : (t145 == 131) = true := beq_iff_eq.mpr c6
        have c6b1 : (t145 != 131) = false := bne_eq_false_iff_eq.mpr c6
        clear c6
        replace H := Option.bind_eq_some_iff.mp H
        obtain ⟨t146, A70, H⟩ := H
        replace H : (if t146 = 132 then ((spindlelaw0_Num.f 140).bind fun t147 => (if t147 = 140 then ((spindlelaw0_Num.f 160).bind fun t148 => (if t148 = 160 then ((spindlelaw0_Num.f 161).bind fun t149 => (if t149 = 161 then ((spindlelaw0_Num.f 162).bind fun t150 => (if t150 = 162 then ((spindlelaw0_Num.f 163).bind fun t151 => (if t151 = 163 then ((spindlelaw0_Num.f 164).bind fun t152 => (if t152 = 164 then ((spindlelaw0_Num.f 165).bind fun t153 => (if t153 = 165 then ((spindlelaw0_Num.f 166).bind fun t154 => (if t154 = 166 then ((spindlelaw0_Num.f 170).bind fun t155 => (if t155 = 170 then ((spindlelaw0_Num.f 171).bind fun t156 => (some (t156 == 171))) else (some false))) else (some false))) else (some false))) else (some false))) else (some false))) else (some false))) else (some false))) else (some false))) else (some false))) else (some false)) = some r := H
        have A7 := Aside0.mk A70
        clear A70
        by_cases c8 : t146 = 132
        · rw [if_pos c8] at H
          have c8b0 : (t146 == 132) = true := beq_iff_eq.mpr c8
          have c8b1 : (t146 != 132) = false := bne_eq_false_iff_eq.mpr c8
          clear c8
          replace H := Option.bind_eq_some_iff.mp H
          obtain ⟨t147, A90, H⟩ := H
          replace H : (if t147 = 140 then ((spindlelaw0_Num.f 160).bind fun t148 => (if t148 = 160 then ((spindlelaw0_Num.f 161).bind fun t149 => (if t149 = 161 then ((spindlelaw0_Num.f 162).bind fun t150 => (if t150 = 162 then ((spindlelaw0_Num.f 163).bind fun t151 => (if t151 = 163 then ((spindlelaw0_Num.f 164).bind fun t152 => (if t152 = 164 then ((spindlelaw0_Num.f 165).bind fun t153 => (if t153 = 165 then ((spindlelaw0_Num.f 166).bind fun t154 => (if t154 = 166 then ((spindlelaw0_Num.f 170).bind fun t155 => (if t155 = 170 then ((spindlelaw0_Num.f 171).bind fun t156 => (some (t156 == 171))) else (some false))) else (some false))) else (some false))) else (some false))) else (some false))) else (some false))) else (some false))) else (some false))) else (some false)) = some r := H
          have A9 := Aside0.mk A90
          clear A90
          by_cases c10 : t147 = 140
          · rw [if_pos c10] at H
            have c10b0 : (t147 == 140) = true := beq_iff_eq.mpr c10
            have c10b1 : (t147 != 140) = false := bne_eq_false_iff_eq.mpr c10
            clear c10
            replace H := Option.bind_eq_some_iff.mp H
            obtain ⟨t148, A110, H⟩ := H
            replace H : (if t148 = 160 then ((spindlelaw0_Num.f 161).bind fun t149 => (if t149 = 161 then ((spindlelaw0_Num.f 162).bind fun t150 => (if t150 = 162 then ((spindlelaw0_Num.f 163).bind fun t151 => (if t151 = 163 then ((spindlelaw0_Num.f 164).bind fun t152 => (if t152 = 164 then ((spindlelaw0_Num.f 165).bind fun t153 => (if t153 = 165 then ((spindlelaw0_Num.f 166).bind fun t154 => (if t154 = 166 then ((spindlelaw0_Num.f 170).bind fun t155 => (if t155 = 170 then ((spindlelaw0_Num.f 171).bind fun t156 => (some (t156 == 171))) else (some false))) else (some false))) else (some false))) else (some false))) else (some false))) else (some false))) else (some false))) else (some false)) = some r := H
            have A11 := Aside0.mk A110
            clear A110
            by_cases c12 : t148 = 160
            · rw [if_pos c12] at H
              have c12b0 : (t148 == 160) = true := beq_iff_eq.mpr c12
              have c12b1 : (t148 != 160) = false := bne_eq_false_iff_eq.mpr c12
              clear c12
              replace H := Option.bind_eq_some_iff.mp H
              obtain ⟨t149, A130, H⟩ := H
              replace H : (if t149 = 161 then ((spindlelaw0_Num.f 162).bind fun t150 => (if t150 = 162 then ((spindlelaw0_Num.f 163).bind fun t151 => (if t151 = 163 then ((spindlelaw0_Num.f 164).bind fun t152 => (if t152 = 164 then ((spindlelaw0_Num.f 165).bind fun t153 => (if t153 = 165 then ((spindlelaw0_Num.f 166).bind fun t154 => (if t154 = 166 then ((spindlelaw0_Num.f 170).bind fun t155 => (if t155 = 170 then ((spindlelaw0_Num.f 171).bind fun t156 => (some (t156 == 171))) else (some false))) else (some false))) else (some false))) else (some false))) else (some false))) else (some false))) else (some false)) = some r := H
              have A13 := Aside0.mk A130
              clear A130
              by_cases c14 : t149 = 161
              · rw [if_pos c14] at H
                have c14b0 : (t149 == 161) = true := beq_iff_eq.mpr c14
                have c14b1 : (t149 != 161) = false := bne_eq_false_iff_eq.mpr c14
                clear c14
                replace H := Option.bind_eq_some_iff.mp H
                obtain ⟨t150, A150, H⟩ := H
                replace H : (if t150 = 162 then ((spindlelaw0_Num.f 163).bind fun t151 => (if t151 = 163 then ((spindlelaw0_Num.f 164).bind fun t152 => (if t152 = 164 then ((spindlelaw0_Num.f 165).bind fun t153 => (if t153 = 165 then ((spindlelaw0_Num.f 166).bind fun t154 => (if t154 = 166 then ((spindlelaw0_Num.f 170).bind fun t155 => (if t155 = 170 then ((spindlelaw0_Num.f 171).bind fun t156 => (some (t156 == 171))) else (some false))) else (some false))) else (some false))) else (some false))) else (some false))) else (some false)) = some r := H
                have A15 := Aside0.mk A150
                clear A150
                by_cases c16 : t150 = 162
                · rw [if_pos c16] at H
                  have c16b0 : (t150 == 162) = true := beq_iff_eq.mpr c16
                  have c16b1 : (t150 != 162) = false := bne_eq_false_iff_eq.mpr c16
                  clear c16
                  replace H := Option.bind_eq_some_iff.mp H
                  obtain ⟨t151, A170, H⟩ := H
                  replace H : (if t151 = 163 then ((spindlelaw0_Num.f 164).bind fun t152 => (if t152 = 164 then ((spindlelaw0_Num.f 165).bind fun t153 => (if t153 = 165 then ((spindlelaw0_Num.f 166).bind fun t154 => (if t154 = 166 then ((spindlelaw0_Num.f 170).bind fun t155 => (if t155 = 170 then ((spindlelaw0_Num.f 171).bind fun t156 => (some (t156 == 171))) else (some false))) else (some false))) else (some false))) else (some false))) else (some false)) = some r := H
                  have A17 := Aside0.mk A170
                  clear A170
                  by_cases c18 : t151 = 163
                  · rw [if_pos c18] at H
                    have c18b0 : (t151 == 163) = true := beq_iff_eq.mpr c18
                    have c18b1 : (t151 != 163) = false := bne_eq_false_iff_eq.mpr c18
                    clear c18
                    replace H := Option.bind_eq_some_iff.mp H
                    obtain ⟨t152, A190, H⟩ := H
                    replace H : (if t152 = 164 then ((spindlelaw0_Num.f 165).bind fun t153 => (if t153 = 165 then ((spindlelaw0_Num.f 166).bind fun t154 => (if t154 = 166 then ((spindlelaw0_Num.f 170).bind fun t155 => (if t155 = 170 then ((spindlelaw0_Num.f 171).bind fun t156 => (some (t156 == 171))) else (some false))) else (some false))) else (some false))) else (some false)) = some r := H
                    have A19 := Aside0.mk A190
                    clear A190
                    by_cases c20 : t152 = 164
                    · rw [if_pos c20] at H
                      have c20b0 : (t152 == 164) = true := beq_iff_eq.mpr c20
                      have c20b1 : (t152 != 164) = false := bne_eq_false_iff_eq.mpr c20
                      clear c20
                      replace H := Option.bind_eq_some_iff.mp H
                      obtain ⟨t153, A210, H⟩ := H
                      replace H : (if t153 = 165 then ((spindlelaw0_Num.f 166).bind fun t154 => (if t154 = 166 then ((spindlelaw0_Num.f 170).bind fun t155 => (if t155 = 170 then ((spindlelaw0_Num.f 171).bind fun t156 => (some (t156 == 171))) else (some false))) else (some false))) else (some false)) = some r := H
                      have A21 := Aside0.mk A210
                      clear A210
                      by_cases c22 : t153 = 165
                      · rw [if_pos c22] at H
                        have c22b0 : (t153 == 165) = true := beq_iff_eq.mpr c22
                        have c22b1 : (t153 != 165) = false := bne_eq_false_iff_eq.mpr c22
                        clear c22
                        replace H := Option.bind_eq_some_iff.mp H
                        obtain ⟨t154, A230, H⟩ := H
                        replace H : (if t154 = 166 then ((spindlelaw0_Num.f 170).bind fun t155 => (if t155 = 170 then ((spindlelaw0_Num.f 171).bind fun t156 => (some (t156 == 171))) else (some false))) else (some false)) = some r := H
                        have A23 := Aside0.mk A230
                        clear A230
                        by_cases c24 : t154 = 166
                        · rw [if_pos c24] at H
                          have c24b0 : (t154 == 166) = true := beq_iff_eq.mpr c24
                          have c24b1 : (t154 != 166) = false := bne_eq_false_iff_eq.mpr c24
                          clear c24
                          replace H := Option.bind_eq_some_iff.mp H
                          obtain ⟨t155, A250, H⟩ := H
                          replace H : (if t155 = 170 then ((spindlelaw0_Num.f 171).bind fun t156 => (some (t156 == 171))) else (some false)) = some r := H
                          have A25 := Aside0.mk A250
                          clear A250
                          by_cases c26 : t155 = 170
                          · rw [if_pos c26] at H
                            have c26b0 : (t155 == 170) = true := beq_iff_eq.mpr c26
                            have c26b1 : (t155 != 170) = false := bne_eq_false_iff_eq.mpr c26
                            clear c26
                            replace H := Option.bind_eq_some_iff.mp H
                            obtain ⟨t156, A270, H⟩ := H
                            replace H : (some (t156 == 171)) = some r := H
                            have A27 := Aside0.mk A270
                            clear A270
                            obtain rfl := Option.some.inj H
                            go_enter Try.func7, Try.ntmps7
                            go_wp2_with (first | ((with_reducible refine gate_callee (f := 18) rfl ?_); refine goesL_ (some 1) rfl rfl Try.func18 (by kernel_rfl) rfl #[.int .i64 128] rfl (by (try simp only [List.map_toArray, List.map_cons, List.map_nil]); first | done | rfl | (simp only [List.length_drop, List.length_take]; rfl)) ?_; (with_reducible refine (spindlelaw0_Num.calls 128 t143 _ A1.out).mono ?_); rintro e w' ⟨rfl, ⟨nd, rfl⟩⟩; refine ⟨_, rfl, ?_⟩) | (go_at_call 18; (with_reducible refine (spindlelaw0_Num.calls 130 t144 _ A3.out).mono ?_); rintro e w' ⟨rfl, ⟨nd, rfl⟩⟩) | (go_at_call 18; (with_reducible refine (spindlelaw0_Num.calls 131 t145 _ A5.out).mono ?_); rintro e w' ⟨rfl, ⟨nd, rfl⟩⟩) | (go_at_call 18; (with_reducible refine (spindlelaw0_Num.calls 132 t146 _ A7.out).mono ?_); rintro e w' ⟨rfl, ⟨nd, rfl⟩⟩) | (go_at_call 18; (with_reducible refine (spindlelaw0_Num.calls 140 t147 _ A9.out).mono ?_); rintro e w' ⟨rfl, ⟨nd, rfl⟩⟩) | (go_at_call 18; (with_reducible refine (spindlelaw0_Num.calls 160 t148 _ A11.out).mono ?_); rintro e w' ⟨rfl, ⟨nd, rfl⟩⟩) | (go_at_call 18; (with_reducible refine (spindlelaw0_Num.calls 161 t149 _ A13.out).mono ?_); rintro e w' ⟨rfl, ⟨nd, rfl⟩⟩) | (go_at_call 18; (with_reducible refine (spindlelaw0_Num.calls 162 t150 _ A15.out).mono ?_); rintro e w' ⟨rfl, ⟨nd, rfl⟩⟩) | (go_at_call 18; (with_reducible refine (spindlelaw0_Num.calls 163 t151 _ A17.out).mono ?_); rintro e w' ⟨rfl, ⟨nd, rfl⟩⟩) | (go_at_call 18; (with_reducible refine (spindlelaw0_Num.calls 164 t152 _ A19.out).mono ?_); rintro e w' ⟨rfl, ⟨nd, rfl⟩⟩) | (go_at_call 18; (with_reducible refine (spindlelaw0_Num.calls 165 t153 _ A21.out).mono ?_); rintro e w' ⟨rfl, ⟨nd, rfl⟩⟩) | (go_at_call 18; (with_reducible refine (spindlelaw0_Num.calls 166 t154 _ A23.out).mono ?_); rintro e w' ⟨rfl, ⟨nd, rfl⟩⟩) | (go_at_call 18; (with_reducible refine (spindlelaw0_Num.calls 170 t155 _ A25.out).mono ?_); rintro e w' ⟨rfl, ⟨nd, rfl⟩⟩) | (go_at_call 18; (with_reducible refine (spindlelaw0_Num.calls 171 t156 _ A27.out).mono ?_); rintro e w' ⟨rfl, ⟨nd, rfl⟩⟩))
                            go_ret
                            exact ⟨by first | rfl | (simp; done) | (simp [*]; done), by repeat (first | exact Drawn0.refl _ | apply Drawn0.step)⟩
                          · rw [if_neg c26] at H
                            have c26b0 : (t155 == 170) = false := beq_eq_false_iff_ne.mpr c26
                            have c26b1 : (t155 != 170) = true := bne_iff_ne.mpr c26
                            obtain rfl := Option.some.inj H
                            go_enter Try.func7, Try.ntmps7
                            go_wp2_with (first | ((with_reducible refine gate_callee (f := 18) rfl ?_); refine goesL_ (some 1) rfl rfl Try.func18 (by kernel_rfl) rfl #[.int .i64 128] rfl (by (try simp only [List.map_toArray, List.map_cons, List.map_nil]); first | done | rfl | (simp only [List.length_drop, List.length_take]; rfl)) ?_; (with_reducible refine (spindlelaw0_Num.calls 128 t143 _ A1.out).mono ?_); rintro e w' ⟨rfl, ⟨nd, rfl⟩⟩; refine ⟨_, rfl, ?_⟩) | (go_at_call 18; (with_reducible refine (spindlelaw0_Num.calls 130 t144 _ A3.out).mono ?_); rintro e w' ⟨rfl, ⟨nd, rfl⟩⟩) | (go_at_call 18; (with_reducible refine (spindlelaw0_Num.calls 131 t145 _ A5.out).mono ?_); rintro e w' ⟨rfl, ⟨nd, rfl⟩⟩) | (go_at_call 18; (with_reducible refine (spindlelaw0_Num.calls 132 t146 _ A7.out).mono ?_); rintro e w' ⟨rfl, ⟨nd, rfl⟩⟩) | (go_at_call 18; (with_reducible refine (spindlelaw0_Num.calls 140 t147 _ A9.out).mono ?_); rintro e w' ⟨rfl, ⟨nd, rfl⟩⟩) | (go_at_call 18; (with_reducible refine (spindlelaw0_Num.calls 160 t148 _ A11.out).mono ?_); rintro e w' ⟨rfl, ⟨nd, rfl⟩⟩) | (go_at_call 18; (with_reducible refine (spindlelaw0_Num.calls 161 t149 _ A13.out).mono ?_); rintro e w' ⟨rfl, ⟨nd, rfl⟩⟩) | (go_at_call 18; (with_reducible refine (spindlelaw0_Num.calls 162 t150 _ A15.out).mono ?_); rintro e w' ⟨rfl, ⟨nd, rfl⟩⟩) | (go_at_call 18; (with_reducible refine (spindlelaw0_Num.calls 163 t151 _ A17.out).mono ?_); rintro e w' ⟨rfl, ⟨nd, rfl⟩⟩) | (go_at_call 18; (with_reducible refine (spindlelaw0_Num.calls 164 t152 _ A19.out).mono ?_); rintro e w' ⟨rfl, ⟨nd, rfl⟩⟩) | (go_at_call 18; (with_reducible refine (spindlelaw0_Num.calls 165 t153 _ A21.out).mono ?_); rintro e w' ⟨rfl, ⟨nd, rfl⟩⟩) | (go_at_call 18; (with_reducible refine (spindlelaw0_Num.calls 166 t154 _ A23.out).mono ?_); rintro e w' ⟨rfl, ⟨nd, rfl⟩⟩) | (go_at_call 18; (with_reducible refine (spindlelaw0_Num.calls 170 t155 _ A25.out).mono ?_); rintro e w' ⟨rfl, ⟨nd, rfl⟩⟩))
                            go_ret
                            exact ⟨by first | rfl | (simp; done) | (simp [*]; done), by repeat (first | exact Drawn0.refl _ | apply Drawn0.step)⟩
                        · rw [if_neg c24] at H
                          have c24b0 : (t154 == 166) = false := beq_eq_false_iff_ne.mpr c24
                          have c24b1 : (t154 != 166) = true := bne_iff_ne.mpr c24
                          obtain rfl := Option.some.inj H
                          go_enter Try.func7, Try.ntmps7
                          go_wp2_with (first | ((with_reducible refine gate_callee (f := 18) rfl ?_); refine goesL_ (some 1) rfl rfl Try.func18 (by kernel_rfl) rfl #[.int .i64 128] rfl (by (try simp only [List.map_toArray, List.map_cons, List.map_nil]); first | done | rfl | (simp only [List.length_drop, List.length_take]; rfl)) ?_; (with_reducible refine (spindlelaw0_Num.calls 128 t143 _ A1.out).mono ?_); rintro e w' ⟨rfl, ⟨nd, rfl⟩⟩; refine ⟨_, rfl, ?_⟩) | (go_at_call 18; (with_reducible refine (spindlelaw0_Num.calls 130 t144 _ A3.out).mono ?_); rintro e w' ⟨rfl, ⟨nd, rfl⟩⟩) | (go_at_call 18; (with_reducible refine (spindlelaw0_Num.calls 131 t145 _ A5.out).mono ?_); rintro e w' ⟨rfl, ⟨nd, rfl⟩⟩) | (go_at_call 18; (with_reducible refine (spindlelaw0_Num.calls 132 t146 _ A7.out).mono ?_); rintro e w' ⟨rfl, ⟨nd, rfl⟩⟩) | (go_at_call 18; (with_reducible refine (spindlelaw0_Num.calls 140 t147 _ A9.out).mono ?_); rintro e w' ⟨rfl, ⟨nd, rfl⟩⟩) | (go_at_call 18; (with_reducible refine (spindlelaw0_Num.calls 160 t148 _ A11.out).mono ?_); rintro e w' ⟨rfl, ⟨nd, rfl⟩⟩) | (go_at_call 18; (with_reducible refine (spindlelaw0_Num.calls 161 t149 _ A13.out).mono ?_); rintro e w' ⟨rfl, ⟨nd, rfl⟩⟩) | (go_at_call 18; (with_reducible refine (spindlelaw0_Num.calls 162 t150 _ A15.out).mono ?_); rintro e w' ⟨rfl, ⟨nd, rfl⟩⟩) | (go_at_call 18; (with_reducible refine (spindlelaw0_Num.calls 163 t151 _ A17.out).mono ?_); rintro e w' ⟨rfl, ⟨nd, rfl⟩⟩) | (go_at_call 18; (with_reducible refine (spindlelaw0_Num.calls 164 t152 _ A19.out).mono ?_); rintro e w' ⟨rfl, ⟨nd, rfl⟩⟩) | (go_at_call 18; (with_reducible refine (spindlelaw0_Num.calls 165 t153 _ A21.out).mono ?_); rintro e w' ⟨rfl, ⟨nd, rfl⟩⟩) | (go_at_call 18; (with_reducible refine (spindlelaw0_Num.calls 166 t154 _ A23.out).mono ?_); rintro e w' ⟨rfl, ⟨nd, rfl⟩⟩))
                          go_ret
                          exact ⟨by first | rfl | (simp; done) | (simp [*]; done), by repeat (first | exact Drawn0.refl _ | apply Drawn0.step)⟩
                      · rw [if_neg c22] at H
                        have c22b0 : (t153 == 165) = false := beq_eq_false_iff_ne.mpr c22
                        have c22b1 : (t153 != 165) = true := bne_iff_ne.mpr c22
                        obtain rfl := Option.some.inj H
                        go_enter Try.func7, Try.ntmps7
                        go_wp2_with (first | ((with_reducible refine gate_callee (f := 18) rfl ?_); refine goesL_ (some 1) rfl rfl Try.func18 (by kernel_rfl) rfl #[.int .i64 128] rfl (by (try simp only [List.map_toArray, List.map_cons, List.map_nil]); first | done | rfl | (simp only [List.length_drop, List.length_take]; rfl)) ?_; (with_reducible refine (spindlelaw0_Num.calls 128 t143 _ A1.out).mono ?_); rintro e w' ⟨rfl, ⟨nd, rfl⟩⟩; refine ⟨_, rfl, ?_⟩) | (go_at_call 18; (with_reducible refine (spindlelaw0_Num.calls 130 t144 _ A3.out).mono ?_); rintro e w' ⟨rfl, ⟨nd, rfl⟩⟩) | (go_at_call 18; (with_reducible refine (spindlelaw0_Num.calls 131 t145 _ A5.out).mono ?_); rintro e w' ⟨rfl, ⟨nd, rfl⟩⟩) | (go_at_call 18; (with_reducible refine (spindlelaw0_Num.calls 132 t146 _ A7.out).mono ?_); rintro e w' ⟨rfl, ⟨nd, rfl⟩⟩) | (go_at_call 18; (with_reducible refine (spindlelaw0_Num.calls 140 t147 _ A9.out).mono ?_); rintro e w' ⟨rfl, ⟨nd, rfl⟩⟩) | (go_at_call 18; (with_reducible refine (spindlelaw0_Num.calls 160 t148 _ A11.out).mono ?_); rintro e w' ⟨rfl, ⟨nd, rfl⟩⟩) | (go_at_call 18; (with_reducible refine (spindlelaw0_Num.calls 161 t149 _ A13.out).mono ?_); rintro e w' ⟨rfl, ⟨nd, rfl⟩⟩) | (go_at_call 18; (with_reducible refine (spindlelaw0_Num.calls 162 t150 _ A15.out).mono ?_); rintro e w' ⟨rfl, ⟨nd, rfl⟩⟩) | (go_at_call 18; (with_reducible refine (spindlelaw0_Num.calls 163 t151 _ A17.out).mono ?_); rintro e w' ⟨rfl, ⟨nd, rfl⟩⟩) | (go_at_call 18; (with_reducible refine (spindlelaw0_Num.calls 164 t152 _ A19.out).mono ?_); rintro e w' ⟨rfl, ⟨nd, rfl⟩⟩) | (go_at_call 18; (with_reducible refine (spindlelaw0_Num.calls 165 t153 _ A21.out).mono ?_); rintro e w' ⟨rfl, ⟨nd, rfl⟩⟩))
                        go_ret
                        exact ⟨by first | rfl | (simp; done) | (simp [*]; done), by repeat (first | exact Drawn0.refl _ | apply Drawn0.step)⟩
                    · rw [if_neg c20] at H
                      have c20b0 : (t152 == 164) = false := beq_eq_false_iff_ne.mpr c20
                      have c20b1 : (t152 != 164) = true := bne_iff_ne.mpr c20
                      obtain rfl := Option.some.inj H
                      go_enter Try.func7, Try.ntmps7
                      go_wp2_with (first | ((with_reducible refine gate_callee (f := 18) rfl ?_); refine goesL_ (some 1) rfl rfl Try.func18 (by kernel_rfl) rfl #[.int .i64 128] rfl (by (try simp only [List.map_toArray, List.map_cons, List.map_nil]); first | done | rfl | (simp only [List.length_drop, List.length_take]; rfl)) ?_; (with_reducible refine (spindlelaw0_Num.calls 128 t143 _ A1.out).mono ?_); rintro e w' ⟨rfl, ⟨nd, rfl⟩⟩; refine ⟨_, rfl, ?_⟩) | (go_at_call 18; (with_reducible refine (spindlelaw0_Num.calls 130 t144 _ A3.out).mono ?_); rintro e w' ⟨rfl, ⟨nd, rfl⟩⟩) | (go_at_call 18; (with_reducible refine (spindlelaw0_Num.calls 131 t145 _ A5.out).mono ?_); rintro e w' ⟨rfl, ⟨nd, rfl⟩⟩) | (go_at_call 18; (with_reducible refine (spindlelaw0_Num.calls 132 t146 _ A7.out).mono ?_); rintro e w' ⟨rfl, ⟨nd, rfl⟩⟩) | (go_at_call 18; (with_reducible refine (spindlelaw0_Num.calls 140 t147 _ A9.out).mono ?_); rintro e w' ⟨rfl, ⟨nd, rfl⟩⟩) | (go_at_call 18; (with_reducible refine (spindlelaw0_Num.calls 160 t148 _ A11.out).mono ?_); rintro e w' ⟨rfl, ⟨nd, rfl⟩⟩) | (go_at_call 18; (with_reducible refine (spindlelaw0_Num.calls 161 t149 _ A13.out).mono ?_); rintro e w' ⟨rfl, ⟨nd, rfl⟩⟩) | (go_at_call 18; (with_reducible refine (spindlelaw0_Num.calls 162 t150 _ A15.out).mono ?_); rintro e w' ⟨rfl, ⟨nd, rfl⟩⟩) | (go_at_call 18; (with_reducible refine (spindlelaw0_Num.calls 163 t151 _ A17.out).mono ?_); rintro e w' ⟨rfl, ⟨nd, rfl⟩⟩) | (go_at_call 18; (with_reducible refine (spindlelaw0_Num.calls 164 t152 _ A19.out).mono ?_); rintro e w' ⟨rfl, ⟨nd, rfl⟩⟩))
                      go_ret
                      exact ⟨by first | rfl | (simp; done) | (simp [*]; done), by repeat (first | exact Drawn0.refl _ | apply Drawn0.step)⟩
                  · rw [if_neg c18] at H
                    have c18b0 : (t151 == 163) = false := beq_eq_false_iff_ne.mpr c18
                    have c18b1 : (t151 != 163) = true := bne_iff_ne.mpr c18
                    obtain rfl := Option.some.inj H
                    go_enter Try.func7, Try.ntmps7
                    go_wp2_with (first | ((with_reducible refine gate_callee (f := 18) rfl ?_); refine goesL_ (some 1) rfl rfl Try.func18 (by kernel_rfl) rfl #[.int .i64 128] rfl (by (try simp only [List.map_toArray, List.map_cons, List.map_nil]); first | done | rfl | (simp only [List.length_drop, List.length_take]; rfl)) ?_; (with_reducible refine (spindlelaw0_Num.calls 128 t143 _ A1.out).mono ?_); rintro e w' ⟨rfl, ⟨nd, rfl⟩⟩; refine ⟨_, rfl, ?_⟩) | (go_at_call 18; (with_reducible refine (spindlelaw0_Num.calls 130 t144 _ A3.out).mono ?_); rintro e w' ⟨rfl, ⟨nd, rfl⟩⟩) | (go_at_call 18; (with_reducible refine (spindlelaw0_Num.calls 131 t145 _ A5.out).mono ?_); rintro e w' ⟨rfl, ⟨nd, rfl⟩⟩) | (go_at_call 18; (with_reducible refine (spindlelaw0_Num.calls 132 t146 _ A7.out).mono ?_); rintro e w' ⟨rfl, ⟨nd, rfl⟩⟩) | (go_at_call 18; (with_reducible refine (spindlelaw0_Num.calls 140 t147 _ A9.out).mono ?_); rintro e w' ⟨rfl, ⟨nd, rfl⟩⟩) | (go_at_call 18; (with_reducible refine (spindlelaw0_Num.calls 160 t148 _ A11.out).mono ?_); rintro e w' ⟨rfl, ⟨nd, rfl⟩⟩) | (go_at_call 18; (with_reducible refine (spindlelaw0_Num.calls 161 t149 _ A13.out).mono ?_); rintro e w' ⟨rfl, ⟨nd, rfl⟩⟩) | (go_at_call 18; (with_reducible refine (spindlelaw0_Num.calls 162 t150 _ A15.out).mono ?_); rintro e w' ⟨rfl, ⟨nd, rfl⟩⟩) | (go_at_call 18; (with_reducible refine (spindlelaw0_Num.calls 163 t151 _ A17.out).mono ?_); rintro e w' ⟨rfl, ⟨nd, rfl⟩⟩))
                    go_ret
                    exact ⟨by first | rfl | (simp; done) | (simp [*]; done), by repeat (first | exact Drawn0.refl _ | apply Drawn0.step)⟩
                · rw [if_neg c16] at H
                  have c16b0 : (t150 == 162) = false := beq_eq_false_iff_ne.mpr c16
                  have c16b1 : (t150 != 162) = true := bne_iff_ne.mpr c16
                  obtain rfl := Option.some.inj H
                  go_enter Try.func7, Try.ntmps7
                  go_wp2_with (first | ((with_reducible refine gate_callee (f := 18) rfl ?_); refine goesL_ (some 1) rfl rfl Try.func18 (by kernel_rfl) rfl #[.int .i64 128] rfl (by (try simp only [List.map_toArray, List.map_cons, List.map_nil]); first | done | rfl | (simp only [List.length_drop, List.length_take]; rfl)) ?_; (with_reducible refine (spindlelaw0_Num.calls 128 t143 _ A1.out).mono ?_); rintro e w' ⟨rfl, ⟨nd, rfl⟩⟩; refine ⟨_, rfl, ?_⟩) | (go_at_call 18; (with_reducible refine (spindlelaw0_Num.calls 130 t144 _ A3.out).mono ?_); rintro e w' ⟨rfl, ⟨nd, rfl⟩⟩) | (go_at_call 18; (with_reducible refine (spindlelaw0_Num.calls 131 t145 _ A5.out).mono ?_); rintro e w' ⟨rfl, ⟨nd, rfl⟩⟩) | (go_at_call 18; (with_reducible refine (spindlelaw0_Num.calls 132 t146 _ A7.out).mono ?_); rintro e w' ⟨rfl, ⟨nd, rfl⟩⟩) | (go_at_call 18; (with_reducible refine (spindlelaw0_Num.calls 140 t147 _ A9.out).mono ?_); rintro e w' ⟨rfl, ⟨nd, rfl⟩⟩) | (go_at_call 18; (with_reducible refine (spindlelaw0_Num.calls 160 t148 _ A11.out).mono ?_); rintro e w' ⟨rfl, ⟨nd, rfl⟩⟩) | (go_at_call 18; (with_reducible refine (spindlelaw0_Num.calls 161 t149 _ A13.out).mono ?_); rintro e w' ⟨rfl, ⟨nd, rfl⟩⟩) | (go_at_call 18; (with_reducible refine (spindlelaw0_Num.calls 162 t150 _ A15.out).mono ?_); rintro e w' ⟨rfl, ⟨nd, rfl⟩⟩))
                  go_ret
                  exact ⟨by first | rfl | (simp; done) | (simp [*]; done), by repeat (first | exact Drawn0.refl _ | apply Drawn0.step)⟩
              · rw [if_neg c14] at H
                have c14b0 : (t149 == 161) = false := beq_eq_false_iff_ne.mpr c14
                have c14b1 : (t149 != 161) = true := bne_iff_ne.mpr c14
                obtain rfl := Option.some.inj H
                go_enter Try.func7, Try.ntmps7
                go_wp2_with (first | ((with_reducible refine gate_callee (f := 18) rfl ?_); refine goesL_ (some 1) rfl rfl Try.func18 (by kernel_rfl) rfl #[.int .i64 128] rfl (by (try simp only [List.map_toArray, List.map_cons, List.map_nil]); first | done | rfl | (simp only [List.length_drop, List.length_take]; rfl)) ?_; (with_reducible refine (spindlelaw0_Num.calls 128 t143 _ A1.out).mono ?_); rintro e w' ⟨rfl, ⟨nd, rfl⟩⟩; refine ⟨_, rfl, ?_⟩) | (go_at_call 18; (with_reducible refine (spindlelaw0_Num.calls 130 t144 _ A3.out).mono ?_); rintro e w' ⟨rfl, ⟨nd, rfl⟩⟩) | (go_at_call 18; (with_reducible refine (spindlelaw0_Num.calls 131 t145 _ A5.out).mono ?_); rintro e w' ⟨rfl, ⟨nd, rfl⟩⟩) | (go_at_call 18; (with_reducible refine (spindlelaw0_Num.calls 132 t146 _ A7.out).mono ?_); rintro e w' ⟨rfl, ⟨nd, rfl⟩⟩) | (go_at_call 18; (with_reducible refine (spindlelaw0_Num.calls 140 t147 _ A9.out).mono ?_); rintro e w' ⟨rfl, ⟨nd, rfl⟩⟩) | (go_at_call 18; (with_reducible refine (spindlelaw0_Num.calls 160 t148 _ A11.out).mono ?_); rintro e w' ⟨rfl, ⟨nd, rfl⟩⟩) | (go_at_call 18; (with_reducible refine (spindlelaw0_Num.calls 161 t149 _ A13.out).mono ?_); rintro e w' ⟨rfl, ⟨nd, rfl⟩⟩))
                go_ret
                exact ⟨by first | rfl | (simp; done) | (simp [*]; done), by repeat (first | exact Drawn0.refl _ | apply Drawn0.step)⟩
            · rw [if_neg c12] at H
              have c12b0 : (t148 == 160) = false := beq_eq_false_iff_ne.mpr c12
              have c12b1 : (t148 != 160) = true := bne_iff_ne.mpr c12
              obtain rfl := Option.some.inj H
              go_enter Try.func7, Try.ntmps7
              go_wp2_with (first | ((with_reducible refine gate_callee (f := 18) rfl ?_); refine goesL_ (some 1) rfl rfl Try.func18 (by kernel_rfl) rfl #[.int .i64 128] rfl (by (try simp only [List.map_toArray, List.map_cons, List.map_nil]); first | done | rfl | (simp only [List.length_drop, List.length_take]; rfl)) ?_; (with_reducible refine (spindlelaw0_Num.calls 128 t143 _ A1.out).mono ?_); rintro e w' ⟨rfl, ⟨nd, rfl⟩⟩; refine ⟨_, rfl, ?_⟩) | (go_at_call 18; (with_reducible refine (spindlelaw0_Num.calls 130 t144 _ A3.out).mono ?_); rintro e w' ⟨rfl, ⟨nd, rfl⟩⟩) | (go_at_call 18; (with_reducible refine (spindlelaw0_Num.calls 131 t145 _ A5.out).mono ?_); rintro e w' ⟨rfl, ⟨nd, rfl⟩⟩) | (go_at_call 18; (with_reducible refine (spindlelaw0_Num.calls 132 t146 _ A7.out).mono ?_); rintro e w' ⟨rfl, ⟨nd, rfl⟩⟩) | (go_at_call 18; (with_reducible refine (spindlelaw0_Num.calls 140 t147 _ A9.out).mono ?_); rintro e w' ⟨rfl, ⟨nd, rfl⟩⟩) | (go_at_call 18; (with_reducible refine (spindlelaw0_Num.calls 160 t148 _ A11.out).mono ?_); rintro e w' ⟨rfl, ⟨nd, rfl⟩⟩))
              go_ret
              exact ⟨by first | rfl | (simp; done) | (simp [*]; done), by repeat (first | exact Drawn0.refl _ | apply Drawn0.step)⟩
          · rw [if_neg c10] at H
            have c10b0 : (t147 == 140) = false := beq_eq_false_iff_ne.mpr c10
            have c10b1 : (t147 != 140) = true := bne_iff_ne.mpr c10
            obtain rfl := Option.some.inj H
            go_enter Try.func7, Try.ntmps7
            go_wp2_with (first | ((with_reducible refine gate_callee (f := 18) rfl ?_); refine goesL_ (some 1) rfl rfl Try.func18 (by kernel_rfl) rfl #[.int .i64 128] rfl (by (try simp only [List.map_toArray, List.map_cons, List.map_nil]); first | done | rfl | (simp only [List.length_drop, List.length_take]; rfl)) ?_; (with_reducible refine (spindlelaw0_Num.calls 128 t143 _ A1.out).mono ?_); rintro e w' ⟨rfl, ⟨nd, rfl⟩⟩; refine ⟨_, rfl, ?_⟩) | (go_at_call 18; (with_reducible refine (spindlelaw0_Num.calls 130 t144 _ A3.out).mono ?_); rintro e w' ⟨rfl, ⟨nd, rfl⟩⟩) | (go_at_call 18; (with_reducible refine (spindlelaw0_Num.calls 131 t145 _ A5.out).mono ?_); rintro e w' ⟨rfl, ⟨nd, rfl⟩⟩) | (go_at_call 18; (with_reducible refine (spindlelaw0_Num.calls 132 t146 _ A7.out).mono ?_); rintro e w' ⟨rfl, ⟨nd, rfl⟩⟩) | (go_at_call 18; (with_reducible refine (spindlelaw0_Num.calls 140 t147 _ A9.out).mono ?_); rintro e w' ⟨rfl, ⟨nd, rfl⟩⟩))
            go_ret
            exact ⟨by first | rfl | (simp; done) | (simp [*]; done), by repeat (first | exact Drawn0.refl _ | apply Drawn0.step)⟩
        · rw [if_neg c8] at H
          have c8b0 : (t146 == 132) = false := beq_eq_false_iff_ne.mpr c8
          have c8b1 : (t146 != 132) = true := bne_iff_ne.mpr c8
          obtain rfl := Option.some.inj H
          go_enter Try.func7, Try.ntmps7
          go_wp2_with (first | ((with_reducible refine gate_callee (f := 18) rfl ?_); refine goesL_ (some 1) rfl rfl Try.func18 (by kernel_rfl) rfl #[.int .i64 128] rfl (by (try simp only [List.map_toArray, List.map_cons, List.map_nil]); first | done | rfl | (simp only [List.length_drop, List.length_take]; rfl)) ?_; (with_reducible refine (spindlelaw0_Num.calls 128 t143 _ A1.out).mono ?_); rintro e w' ⟨rfl, ⟨nd, rfl⟩⟩; refine ⟨_, rfl, ?_⟩) | (go_at_call 18; (with_reducible refine (spindlelaw0_Num.calls 130 t144 _ A3.out).mono ?_); rintro e w' ⟨rfl, ⟨nd, rfl⟩⟩) | (go_at_call 18; (with_reducible refine (spindlelaw0_Num.calls 131 t145 _ A5.out).mono ?_); rintro e w' ⟨rfl, ⟨nd, rfl⟩⟩) | (go_at_call 18; (with_reducible refine (spindlelaw0_Num.calls 132 t146 _ A7.out).mono ?_); rintro e w' ⟨rfl, ⟨nd, rfl⟩⟩))
          go_ret
          exact ⟨by first | rfl | (simp; done) | (simp [*]; done), by repeat (first | exact Drawn0.refl _ | apply Drawn0.step)⟩
      · rw [if_neg c6] at H
        have c6b0 : (t145 == 131) = false := beq_eq_false_iff_ne.mpr c6
        have c6b1 : (t145 != 131) = true := bne_iff_ne.mpr c6
        obtain rfl := Option.some.inj H
        go_enter Try.func7, Try.ntmps7
        go_wp2_with (first | ((with_reducible refine gate_callee (f := 18) rfl ?_); refine goesL_ (some 1) rfl rfl Try.func18 (by kernel_rfl) rfl #[.int .i64 128] rfl (by (try simp only [List.map_toArray, List.map_cons, List.map_nil]); first | done | rfl | (simp only [List.length_drop, List.length_take]; rfl)) ?_; (with_reducible refine (spindlelaw0_Num.calls 128 t143 _ A1.out).mono ?_); rintro e w' ⟨rfl, ⟨nd, rfl⟩⟩; refine ⟨_, rfl, ?_⟩) | (go_at_call 18; (with_reducible refine (spindlelaw0_Num.calls 130 t144 _ A3.out).mono ?_); rintro e w' ⟨rfl, ⟨nd, rfl⟩⟩) | (go_at_call 18; (with_reducible refine (spindlelaw0_Num.calls 131 t145 _ A5.out).mono ?_); rintro e w' ⟨rfl, ⟨nd, rfl⟩⟩))
        go_ret
        exact ⟨by first | rfl | (simp; done) | (simp [*]; done), by repeat (first | exact Drawn0.refl _ | apply Drawn0.step)⟩
    · rw [if_neg c4] at H
      have c4b0 : (t144 == 130) = false := beq_eq_false_iff_ne.mpr c4
      have c4b1 : (t144 != 130) = true := bne_iff_ne.mpr c4
      obtain rfl := Option.some.inj H
      go_enter Try.func7, Try.ntmps7
      go_wp2_with (first | ((with_reducible refine gate_callee (f := 18) rfl ?_); refine goesL_ (some 1) rfl rfl Try.func18 (by kernel_rfl) rfl #[.int .i64 128] rfl (by (try simp only [List.map_toArray, List.map_cons, List.map_nil]); first | done | rfl | (simp only [List.length_drop, List.length_take]; rfl)) ?_; (with_reducible refine (spindlelaw0_Num.calls 128 t143 _ A1.out).mono ?_); rintro e w' ⟨rfl, ⟨nd, rfl⟩⟩; refine ⟨_, rfl, ?_⟩) | (go_at_call 18; (with_reducible refine (spindlelaw0_Num.calls 130 t144 _ A3.out).mono ?_); rintro e w' ⟨rfl, ⟨nd, rfl⟩⟩))
      go_ret
      exact ⟨by first | rfl | (simp; done) | (simp [*]; done), by repeat (first | exact Drawn0.refl _ | apply Drawn0.step)⟩
  · rw [if_neg c2] at H
    have c2b0 : (t143 == 128) = false := beq_eq_false_iff_ne.mpr c2
    have c2b1 : (t143 != 128) = true := bne_iff_ne.mpr c2
    obtain rfl := Option.some.inj H
    go_enter Try.func7, Try.ntmps7
    go_wp2_with (first | ((with_reducible refine gate_callee (f := 18) rfl ?_); refine goesL_ (some 1) rfl rfl Try.func18 (by kernel_rfl) rfl #[.int .i64 128] rfl (by (try simp only [List.map_toArray, List.map_cons, List.map_nil]); first | done | rfl | (simp only [List.length_drop, List.length_take]; rfl)) ?_; (with_reducible refine (spindlelaw0_Num.calls 128 t143 _ A1.out).mono ?_); rintro e w' ⟨rfl, ⟨nd, rfl⟩⟩; refine ⟨_, rfl, ?_⟩))
    go_ret
    exact ⟨by first | rfl | (simp; done) | (simp [*]; done), by repeat (first | exact Drawn0.refl _ | apply Drawn0.step)⟩

/-! ### spindlelaw0_errors5: function 8 -/
def spindlelaw0_errors5.f  : Option (Bool) := (spindlelaw0_Num.f 172).bind fun t157 => (if t157 = 172 then ((spindlelaw0_Num.f 173).bind fun t158 => (if t158 = 173 then ((spindlelaw0_Num.f 174).bind fun t159 => (if t159 = 174 then ((spindlelaw0_Num.f 175).bind fun t160 => (if t160 = 175 then ((spindlelaw0_Num.f 176).bind fun t161 => (if t161 = 176 then ((spindlelaw0_Num.f 180).bind fun t162 => (if t162 = 180 then ((spindlelaw0_Num.f 190).bind fun t163 => (if t163 = 190 then ((spindlelaw0_Num.f 191).bind fun t164 => (if t164 = 191 then ((spindlelaw0_Num.f 192).bind fun t165 => (if t165 = 192 then ((spindlelaw0_Num.f 193).bind fun t166 => (if t166 = 193 then ((spindlelaw0_Num.f 194).bind fun t167 => (if t167 = 194 then ((spindlelaw0_Num.f 195).bind fun t168 => (if t168 = 195 then ((spindlelaw0_Num.f 196).bind fun t169 => (if t169 = 196 then ((spindlelaw0_Num.f 197).bind fun t170 => (some (t170 == 197))) else (some false))) else (some false))) else (some false))) else (some false))) else (some false))) else (some false))) else (some false))) else (some false))) else (some false))) else (some false))) else (some false))) else (some false))) else (some false))
set_option maxHeartbeats 8000000 in
set_option maxRecDepth 100000 in
theorem spindlelaw0_errors5.calls  (r : Bool) (w : World) (h : spindlelaw0_errors5.f  = some r) :
    Calls Try.prog 8 #[] w fun e w' => e = .returned (.bool r) ∧ Drawn0 w w' := by
  have H : ((spindlelaw0_Num.f 172).bind fun t157 => (if t157 = 172 then ((spindlelaw0_Num.f 173).bind fun t158 => (if t158 = 173 then ((spindlelaw0_Num.f 174).bind fun t159 => (if t159 = 174 then ((spindlelaw0_Num.f 175).bind fun t160 => (if t160 = 175 then ((spindlelaw0_Num.f 176).bind fun t161 => (if t161 = 176 then ((spindlelaw0_Num.f 180).bind fun t162 => (if t162 = 180 then ((spindlelaw0_Num.f 190).bind fun t163 => (if t163 = 190 then ((spindlelaw0_Num.f 191).bind fun t164 => (if t164 = 191 then ((spindlelaw0_Num.f 192).bind fun t165 => (if t165 = 192 then ((spindlelaw0_Num.f 193).bind fun t166 => (if t166 = 193 then ((spindlelaw0_Num.f 194).bind fun t167 => (if t167 = 194 then ((spindlelaw0_Num.f 195).bind fun t168 => (if t168 = 195 then ((spindlelaw0_Num.f 196).bind fun t169 => (if t169 = 196 then ((spindlelaw0_Num.f 197).bind fun t170 => (some (t170 == 197))) else (some false))) else (some false))) else (some false))) else (some false))) else (some false))) else (some false))) else (some false))) else (some false))) else (some false))) else (some false))) else (some false))) else (some false))) else (some false))) = some r := h
  clear h
  replace H := Option.bind_eq_some_iff.mp H
  obtain ⟨t157, A10, H⟩ := H
  replace H : (if t157 = 172 then ((spindlelaw0_Num.f 173).bind fun t158 => (if t158 = 173 then ((spindlelaw0_Num.f 174).bind fun t159 => (if t159 = 174 then ((spindlelaw0_Num.f 175).bind fun t160 => (if t160 = 175 then ((spindlelaw0_Num.f 176).bind fun t161 => (if t161 = 176 then ((spindlelaw0_Num.f 180).bind fun t162 => (if t162 = 180 then ((spindlelaw0_Num.f 190).bind fun t163 => (if t163 = 190 then ((spindlelaw0_Num.f 191).bind fun t164 => (if t164 = 191 then ((spindlelaw0_Num.f 192).bind fun t165 => (if t165 = 192 then ((spindlelaw0_Num.f 193).bind fun t166 => (if t166 = 193 then ((spindlelaw0_Num.f 194).bind fun t167 => (if t167 = 194 then ((spindlelaw0_Num.f 195).bind fun t168 => (if t168 = 195 then ((spindlelaw0_Num.f 196).bind fun t169 => (if t169 = 196 then ((spindlelaw0_Num.f 197).bind fun t170 => (some (t170 == 197))) else (some false))) else (some false))) else (some false))) else (some false))) else (some false))) else (some false))) else (some false))) else (some false))) else (some false))) else (some false))) else (some false))) else (some false))) else (some false)) = some r := H
  have A1 := Aside0.mk A10
  clear A10
  by_cases c2 : t157 = 172
  · rw [if_pos c2] at H
    have c2b0 : (t157 == 172) = true := beq_iff_eq.mpr c2
    have c2b1 : (t157 != 172) = false := bne_eq_false_iff_eq.mpr c2
    clear c2
    replace H := Option.bind_eq_some_iff.mp H
    obtain ⟨t158, A30, H⟩ := H
    replace H : (if t158 = 173 then ((spindlelaw0_Num.f 174).bind fun t159 => (if t159 = 174 then ((spindlelaw0_Num.f 175).bind fun t160 => (if t160 = 175 then ((spindlelaw0_Num.f 176).bind fun t161 => (if t161 = 176 then ((spindlelaw0_Num.f 180).bind fun t162 => (if t162 = 180 then ((spindlelaw0_Num.f 190).bind fun t163 => (if t163 = 190 then ((spindlelaw0_Num.f 191).bind fun t164 => (if t164 = 191 then ((spindlelaw0_Num.f 192).bind fun t165 => (if t165 = 192 then ((spindlelaw0_Num.f 193).bind fun t166 => (if t166 = 193 then ((spindlelaw0_Num.f 194).bind fun t167 => (if t167 = 194 then ((spindlelaw0_Num.f 195).bind fun t168 => (if t168 = 195 then ((spindlelaw0_Num.f 196).bind fun t169 => (if t169 = 196 then ((spindlelaw0_Num.f 197).bind fun t170 => (some (t170 == 197))) else (some false))) else (some false))) else (some false))) else (some false))) else (some false))) else (some false))) else (some false))) else (some false))) else (some false))) else (some false))) else (some false))) else (some false)) = some r := H
    have A3 := Aside0.mk A30
    clear A30
    by_cases c4 : t158 = 173
    · rw [if_pos c4] at H
      have c4b0 : (t158 == 173) = true := beq_iff_eq.mpr c4
      have c4b1 : (t158 != 173) = false := bne_eq_false_iff_eq.mpr c4
      clear c4
      replace H := Option.bind_eq_some_iff.mp H
      obtain ⟨t159, A50, H⟩ := H
      replace H : (if t159 = 174 then ((spindlelaw0_Num.f 175).bind fun t160 => (if t160 = 175 then ((spindlelaw0_Num.f 176).bind fun t161 => (if t161 = 176 then ((spindlelaw0_Num.f 180).bind fun t162 => (if t162 = 180 then ((spindlelaw0_Num.f 190).bind fun t163 => (if t163 = 190 then ((spindlelaw0_Num.f 191).bind fun t164 => (if t164 = 191 then ((spindlelaw0_Num.f 192).bind fun t165 => (if t165 = 192 then ((spindlelaw0_Num.f 193).bind fun t166 => (if t166 = 193 then ((spindlelaw0_Num.f 194).bind fun t167 => (if t167 = 194 then ((spindlelaw0_Num.f 195).bind fun t168 => (if t168 = 195 then ((spindlelaw0_Num.f 196).bind fun t169 => (if t169 = 196 then ((spindlelaw0_Num.f 197).bind fun t170 => (some (t170 == 197))) else (some false))) else (some false))) else (some false))) else (some false))) else (some false))) else (some false))) else (some false))) else (some false))) else (some false))) else (some false))) else (some false)) = some r := H
      have A5 := Aside0.mk A50
      clear A50
      by_cases c6 : t159 = 174
      · rw [if_pos c6] at H
        have c6b0 : (t159 == 174) = true := beq_iff_eq.mpr c6
        have c6b1 : (t159 != 174) = false := bne_eq_false_iff_eq.mpr c6
        clear c6
        replace H := Option.bind_eq_some_iff.mp H
        obtain ⟨t160, A70, H⟩ := H
        replace H : (if t160 = 175 then ((spindlelaw0_Num.f 176).bind fun t161 => (if t161 = 176 then ((spindlelaw0_Num.f 180).bind fun t162 => (if t162 = 180 then ((spindlelaw0_Num.f 190).bind fun t163 => (if t163 = 190 then ((spindlelaw0_Num.f 191).bind fun t164 => (if t164 = 191 then ((spindlelaw0_Num.f 192).bind fun t165 => (if t165 = 192 then ((spindlelaw0_Num.f 193).bind fun t166 => (if t166 = 193 then ((spindlelaw0_Num.f 194).bind fun t167 => (if t167 = 194 then ((spindlelaw0_Num.f 195).bind fun t168 => (if t168 = 195 then ((spindlelaw0_Num.f 196).bind fun t169 => (if t169 = 196 then ((spindlelaw0_Num.f 197).bind fun t170 => (some (t170 == 197))) else (some false))) else (some false))) else (some false))) else (some false))) else (some false))) else (some false))) else (some false))) else (some false))) else (some false))) else (some false)) = some r := H
        have A7 := Aside0.mk A70
        clear A70
        by_cases c8 : t160 = 175
        · rw [if_pos c8] at H
          have c8b0 : (t160 == 175) = true := beq_iff_eq.mpr c8
          have c8b1 : (t160 != 175) = false := bne_eq_false_iff_eq.mpr c8
          clear c8
          replace H := Option.bind_eq_some_iff.mp H
          obtain ⟨t161, A90, H⟩ := H
          replace H : (if t161 = 176 then ((spindlelaw0_Num.f 180).bind fun t162 => (if t162 = 180 then ((spindlelaw0_Num.f 190).bind fun t163 => (if t163 = 190 then ((spindlelaw0_Num.f 191).bind fun t164 => (if t164 = 191 then ((spindlelaw0_Num.f 192).bind fun t165 => (if t165 = 192 then ((spindlelaw0_Num.f 193).bind fun t166 => (if t166 = 193 then ((spindlelaw0_Num.f 194).bind fun t167 => (if t167 = 194 then ((spindlelaw0_Num.f 195).bind fun t168 => (if t168 = 195 then ((spindlelaw0_Num.f 196).bind fun t169 => (if t169 = 196 then ((spindlelaw0_Num.f 197).bind fun t170 => (some (t170 == 197))) else (some false))) else (some false))) else (some false))) else (some false))) else (some false))) else (some false))) else (some false))) else (some false))) else (some false)) = some r := H
          have A9 := Aside0.mk A90
          clear A90
          by_cases c10 : t161 = 176
          · rw [if_pos c10] at H
            have c10b0 : (t161 == 176) = true := beq_iff_eq.mpr c10
            have c10b1 : (t161 != 176) = false := bne_eq_false_iff_eq.mpr c10
            clear c10
            replace H := Option.bind_eq_some_iff.mp H
            obtain ⟨t162, A110, H⟩ := H
            replace H : (if t162 = 180 then ((spindlelaw0_Num.f 190).bind fun t163 => (if t163 = 190 then ((spindlelaw0_Num.f 191).bind fun t164 => (if t164 = 191 then ((spindlelaw0_Num.f 192).bind fun t165 => (if t165 = 192 then ((spindlelaw0_Num.f 193).bind fun t166 => (if t166 = 193 then ((spindlelaw0_Num.f 194).bind fun t167 => (if t167 = 194 then ((spindlelaw0_Num.f 195).bind fun t168 => (if t168 = 195 then ((spindlelaw0_Num.f 196).bind fun t169 => (if t169 = 196 then ((spindlelaw0_Num.f 197).bind fun t170 => (some (t170 == 197))) else (some false))) else (some false))) else (some false))) else (some false))) else (some false))) else (some false))) else (some false))) else (some false)) = some r := H
            have A11 := Aside0.mk A110
            clear A110
            by_cases c12 : t162 = 180
            · rw [if_pos c12] at H
              have c12b0 : (t162 == 180) = true := beq_iff_eq.mpr c12
              have c12b1 : (t162 != 180) = false := bne_eq_false_iff_eq.mpr c12
              clear c12
              replace H := Option.bind_eq_some_iff.mp H
              obtain ⟨t163, A130, H⟩ := H
              replace H : (if t163 = 190 then ((spindlelaw0_Num.f 191).bind fun t164 => (if t164 = 191 then ((spindlelaw0_Num.f 192).bind fun t165 => (if t165 = 192 then ((spindlelaw0_Num.f 193).bind fun t166 => (if t166 = 193 then ((spindlelaw0_Num.f 194).bind fun t167 => (if t167 = 194 then ((spindlelaw0_Num.f 195).bind fun t168 => (if t168 = 195 then ((spindlelaw0_Num.f 196).bind fun t169 => (if t169 = 196 then ((spindlelaw0_Num.f 197).bind fun t170 => (some (t170 == 197))) else (some false))) else (some false))) else (some false))) else (some false))) else (some false))) else (some false))) else (some false)) = some r := H
              have A13 := Aside0.mk A130
              clear A130
              by_cases c14 : t163 = 190
              · rw [if_pos c14] at H
                have c14b0 : (t163 == 190) = true := beq_iff_eq.mpr c14
                have c14b1 : (t163 != 190) = false := bne_eq_false_iff_eq.mpr c14
                clear c14
                replace H := Option.bind_eq_some_iff.mp H
                obtain ⟨t164, A150, H⟩ := H
                replace H : (if t164 = 191 then ((spindlelaw0_Num.f 192).bind fun t165 => (if t165 = 192 then ((spindlelaw0_Num.f 193).bind fun t166 => (if t166 = 193 then ((spindlelaw0_Num.f 194).bind fun t167 => (if t167 = 194 then ((spindlelaw0_Num.f 195).bind fun t168 => (if t168 = 195 then ((spindlelaw0_Num.f 196).bind fun t169 => (if t169 = 196 then ((spindlelaw0_Num.f 197).bind fun t170 => (some (t170 == 197))) else (some false))) else (some false))) else (some false))) else (some false))) else (some false))) else (some false)) = some r := H
                have A15 := Aside0.mk A150
                clear A150
                by_cases c16 : t164 = 191
                · rw [if_pos c16] at H
                  have c16b0 : (t164 == 191) = true := beq_iff_eq.mpr c16
                  have c16b1 : (t164 != 191) = false := bne_eq_false_iff_eq.mpr c16
                  clear c16
                  replace H := Option.bind_eq_some_iff.mp H
                  obtain ⟨t165, A170, H⟩ := H
                  replace H : (if t165 = 192 then ((spindlelaw0_Num.f 193).bind fun t166 => (if t166 = 193 then ((spindlelaw0_Num.f 194).bind fun t167 => (if t167 = 194 then ((spindlelaw0_Num.f 195).bind fun t168 => (if t168 = 195 then ((spindlelaw0_Num.f 196).bind fun t169 => (if t169 = 196 then ((spindlelaw0_Num.f 197).bind fun t170 => (some (t170 == 197))) else (some false))) else (some false))) else (some false))) else (some false))) else (some false)) = some r := H
                  have A17 := Aside0.mk A170
                  clear A170
                  by_cases c18 : t165 = 192
                  · rw [if_pos c18] at H
                    have c18b0 : (t165 == 192) = true := beq_iff_eq.mpr c18
                    have c18b1 : (t165 != 192) = false := bne_eq_false_iff_eq.mpr c18
                    clear c18
                    replace H := Option.bind_eq_some_iff.mp H
                    obtain ⟨t166, A190, H⟩ := H
                    replace H : (if t166 = 193 then ((spindlelaw0_Num.f 194).bind fun t167 => (if t167 = 194 then ((spindlelaw0_Num.f 195).bind fun t168 => (if t168 = 195 then ((spindlelaw0_Num.f 196).bind fun t169 => (if t169 = 196 then ((spindlelaw0_Num.f 197).bind fun t170 => (some (t170 == 197))) else (some false))) else (some false))) else (some false))) else (some false)) = some r := H
                    have A19 := Aside0.mk A190
                    clear A190
                    by_cases c20 : t166 = 193
                    · rw [if_pos c20] at H
                      have c20b0 : (t166 == 193) = true := beq_iff_eq.mpr c20
                      have c20b1 : (t166 != 193) = false := bne_eq_false_iff_eq.mpr c20
                      clear c20
                      replace H := Option.bind_eq_some_iff.mp H
                      obtain ⟨t167, A210, H⟩ := H
                      replace H : (if t167 = 194 then ((spindlelaw0_Num.f 195).bind fun t168 => (if t168 = 195 then ((spindlelaw0_Num.f 196).bind fun t169 => (if t169 = 196 then ((spindlelaw0_Num.f 197).bind fun t170 => (some (t170 == 197))) else (some false))) else (some false))) else (some false)) = some r := H
                      have A21 := Aside0.mk A210
                      clear A210
                      by_cases c22 : t167 = 194
                      · rw [if_pos c22] at H
                        have c22b0 : (t167 == 194) = true := beq_iff_eq.mpr c22
                        have c22b1 : (t167 != 194) = false := bne_eq_false_iff_eq.mpr c22
                        clear c22
                        replace H := Option.bind_eq_some_iff.mp H
                        obtain ⟨t168, A230, H⟩ := H
                        replace H : (if t168 = 195 then ((spindlelaw0_Num.f 196).bind fun t169 => (if t169 = 196 then ((spindlelaw0_Num.f 197).bind fun t170 => (some (t170 == 197))) else (some false))) else (some false)) = some r := H
                        have A23 := Aside0.mk A230
                        clear A230
                        by_cases c24 : t168 = 195
                        · rw [if_pos c24] at H
                          have c24b0 : (t168 == 195) = true := beq_iff_eq.mpr c24
                          have c24b1 : (t168 != 195) = false := bne_eq_false_iff_eq.mpr c24
                          clear c24
                          replace H := Option.bind_eq_some_iff.mp H
                          obtain ⟨t169, A250, H⟩ := H
                          replace H : (if t169 = 196 then ((spindlelaw0_Num.f 197).bind fun t170 => (some (t170 == 197))) else (some false)) = some r := H
                          have A25 := Aside0.mk A250
                          clear A250
                          by_cases c26 : t169 = 196
                          · rw [if_pos c26] at H
                            have c26b0 : (t169 == 196) = true := beq_iff_eq.mpr c26
                            have c26b1 : (t169 != 196) = false := bne_eq_false_iff_eq.mpr c26
                            clear c26
                            replace H := Option.bind_eq_some_iff.mp H
                            obtain ⟨t170, A270, H⟩ := H
                            replace H : (some (t170 == 197)) = some r := H
                            have A27 := Aside0.mk A270
                            clear A270
                            obtain rfl := Option.some.inj H
                            go_enter Try.func8, Try.ntmps8
                            go_wp2_with (first | ((with_reducible refine gate_callee (f := 18) rfl ?_); refine goesL_ (some 1) rfl rfl Try.func18 (by kernel_rfl) rfl #[.int .i64 172] rfl (by (try simp only [List.map_toArray, List.map_cons, List.map_nil]); first | done | rfl | (simp only [List.length_drop, List.length_take]; rfl)) ?_; (with_reducible refine (spindlelaw0_Num.calls 172 t157 _ A1.out).mono ?_); rintro e w' ⟨rfl, ⟨nd, rfl⟩⟩; refine ⟨_, rfl, ?_⟩) | (go_at_call 18; (with_reducible refine (spindlelaw0_Num.calls 173 t158 _ A3.out).mono ?_); rintro e w' ⟨rfl, ⟨nd, rfl⟩⟩) | (go_at_call 18; (with_reducible refine (spindlelaw0_Num.calls 174 t159 _ A5.out).mono ?_); rintro e w' ⟨rfl, ⟨nd, rfl⟩⟩) | (go_at_call 18; (with_reducible refine (spindlelaw0_Num.calls 175 t160 _ A7.out).mono ?_); rintro e w' ⟨rfl, ⟨nd, rfl⟩⟩) | (go_at_call 18; (with_reducible refine (spindlelaw0_Num.calls 176 t161 _ A9.out).mono ?_); rintro e w' ⟨rfl, ⟨nd, rfl⟩⟩) | (go_at_call 18; (with_reducible refine (spindlelaw0_Num.calls 180 t162 _ A11.out).mono ?_); rintro e w' ⟨rfl, ⟨nd, rfl⟩⟩) | (go_at_call 18; (with_reducible refine (spindlelaw0_Num.calls 190 t163 _ A13.out).mono ?_); rintro e w' ⟨rfl, ⟨nd, rfl⟩⟩) | (go_at_call 18; (with_reducible refine (spindlelaw0_Num.calls 191 t164 _ A15.out).mono ?_); rintro e w' ⟨rfl, ⟨nd, rfl⟩⟩) | (go_at_call 18; (with_reducible refine (spindlelaw0_Num.calls 192 t165 _ A17.out).mono ?_); rintro e w' ⟨rfl, ⟨nd, rfl⟩⟩) | (go_at_call 18; (with_reducible refine (spindlelaw0_Num.calls 193 t166 _ A19.out).mono ?_); rintro e w' ⟨rfl, ⟨nd, rfl⟩⟩) | (go_at_call 18; (with_reducible refine (spindlelaw0_Num.calls 194 t167 _ A21.out).mono ?_); rintro e w' ⟨rfl, ⟨nd, rfl⟩⟩) | (go_at_call 18; (with_reducible refine (spindlelaw0_Num.calls 195 t168 _ A23.out).mono ?_); rintro e w' ⟨rfl, ⟨nd, rfl⟩⟩) | (go_at_call 18; (with_reducible refine (spindlelaw0_Num.calls 196 t169 _ A25.out).mono ?_); rintro e w' ⟨rfl, ⟨nd, rfl⟩⟩) | (go_at_call 18; (with_reducible refine (spindlelaw0_Num.calls 197 t170 _ A27.out).mono ?_); rintro e w' ⟨rfl, ⟨nd, rfl⟩⟩))
                            go_ret
                            exact ⟨by first | rfl | (simp; done) | (simp [*]; done), by repeat (first | exact Drawn0.refl _ | apply Drawn0.step)⟩
                          · rw [if_neg c26] at H
                            have c26b0 : (t169 == 196) = false := beq_eq_false_iff_ne.mpr c26
                            have c26b1 : (t169 != 196) = true := bne_iff_ne.mpr c26
                            obtain rfl := Option.some.inj H
                            go_enter Try.func8, Try.ntmps8
                            go_wp2_with (first | ((with_reducible refine gate_callee (f := 18) rfl ?_); refine goesL_ (some 1) rfl rfl Try.func18 (by kernel_rfl) rfl #[.int .i64 172] rfl (by (try simp only [List.map_toArray, List.map_cons, List.map_nil]); first | done | rfl | (simp only [List.length_drop, List.length_take]; rfl)) ?_; (with_reducible refine (spindlelaw0_Num.calls 172 t157 _ A1.out).mono ?_); rintro e w' ⟨rfl, ⟨nd, rfl⟩⟩; refine ⟨_, rfl, ?_⟩) | (go_at_call 18; (with_reducible refine (spindlelaw0_Num.calls 173 t158 _ A3.out).mono ?_); rintro e w' ⟨rfl, ⟨nd, rfl⟩⟩) | (go_at_call 18; (with_reducible refine (spindlelaw0_Num.calls 174 t159 _ A5.out).mono ?_); rintro e w' ⟨rfl, ⟨nd, rfl⟩⟩) | (go_at_call 18; (with_reducible refine (spindlelaw0_Num.calls 175 t160 _ A7.out).mono ?_); rintro e w' ⟨rfl, ⟨nd, rfl⟩⟩) | (go_at_call 18; (with_reducible refine (spindlelaw0_Num.calls 176 t161 _ A9.out).mono ?_); rintro e w' ⟨rfl, ⟨nd, rfl⟩⟩) | (go_at_call 18; (with_reducible refine (spindlelaw0_Num.calls 180 t162 _ A11.out).mono ?_); rintro e w' ⟨rfl, ⟨nd, rfl⟩⟩) | (go_at_call 18; (with_reducible refine (spindlelaw0_Num.calls 190 t163 _ A13.out).mono ?_); rintro e w' ⟨rfl, ⟨nd, rfl⟩⟩) | (go_at_call 18; (with_reducible refine (spindlelaw0_Num.calls 191 t164 _ A15.out).mono ?_); rintro e w' ⟨rfl, ⟨nd, rfl⟩⟩) | (go_at_call 18; (with_reducible refine (spindlelaw0_Num.calls 192 t165 _ A17.out).mono ?_); rintro e w' ⟨rfl, ⟨nd, rfl⟩⟩) | (go_at_call 18; (with_reducible refine (spindlelaw0_Num.calls 193 t166 _ A19.out).mono ?_); rintro e w' ⟨rfl, ⟨nd, rfl⟩⟩) | (go_at_call 18; (with_reducible refine (spindlelaw0_Num.calls 194 t167 _ A21.out).mono ?_); rintro e w' ⟨rfl, ⟨nd, rfl⟩⟩) | (go_at_call 18; (with_reducible refine (spindlelaw0_Num.calls 195 t168 _ A23.out).mono ?_); rintro e w' ⟨rfl, ⟨nd, rfl⟩⟩) | (go_at_call 18; (with_reducible refine (spindlelaw0_Num.calls 196 t169 _ A25.out).mono ?_); rintro e w' ⟨rfl, ⟨nd, rfl⟩⟩))
                            go_ret
                            exact ⟨by first | rfl | (simp; done) | (simp [*]; done), by repeat (first | exact Drawn0.refl _ | apply Drawn0.step)⟩
                        · rw [if_neg c24] at H
                          have c24b0 : (t168 == 195) = false := beq_eq_false_iff_ne.mpr c24
                          have c24b1 : (t168 != 195) = true := bne_iff_ne.mpr c24
                          obtain rfl := Option.some.inj H
                          go_enter Try.func8, Try.ntmps8
                          go_wp2_with (first | ((with_reducible refine gate_callee (f := 18) rfl ?_); refine goesL_ (some 1) rfl rfl Try.func18 (by kernel_rfl) rfl #[.int .i64 172] rfl (by (try simp only [List.map_toArray, List.map_cons, List.map_nil]); first | done | rfl | (simp only [List.length_drop, List.length_take]; rfl)) ?_; (with_reducible refine (spindlelaw0_Num.calls 172 t157 _ A1.out).mono ?_); rintro e w' ⟨rfl, ⟨nd, rfl⟩⟩; refine ⟨_, rfl, ?_⟩) | (go_at_call 18; (with_reducible refine (spindlelaw0_Num.calls 173 t158 _ A3.out).mono ?_); rintro e w' ⟨rfl, ⟨nd, rfl⟩⟩) | (go_at_call 18; (with_reducible refine (spindlelaw0_Num.calls 174 t159 _ A5.out).mono ?_); rintro e w' ⟨rfl, ⟨nd, rfl⟩⟩) | (go_at_call 18; (with_reducible refine (spindlelaw0_Num.calls 175 t160 _ A7.out).mono ?_); rintro e w' ⟨rfl, ⟨nd, rfl⟩⟩) | (go_at_call 18; (with_reducible refine (spindlelaw0_Num.calls 176 t161 _ A9.out).mono ?_); rintro e w' ⟨rfl, ⟨nd, rfl⟩⟩) | (go_at_call 18; (with_reducible refine (spindlelaw0_Num.calls 180 t162 _ A11.out).mono ?_); rintro e w' ⟨rfl, ⟨nd, rfl⟩⟩) | (go_at_call 18; (with_reducible refine (spindlelaw0_Num.calls 190 t163 _ A13.out).mono ?_); rintro e w' ⟨rfl, ⟨nd, rfl⟩⟩) | (go_at_call 18; (with_reducible refine (spindlelaw0_Num.calls 191 t164 _ A15.out).mono ?_); rintro e w' ⟨rfl, ⟨nd, rfl⟩⟩) | (go_at_call 18; (with_reducible refine (spindlelaw0_Num.calls 192 t165 _ A17.out).mono ?_); rintro e w' ⟨rfl, ⟨nd, rfl⟩⟩) | (go_at_call 18; (with_reducible refine (spindlelaw0_Num.calls 193 t166 _ A19.out).mono ?_); rintro e w' ⟨rfl, ⟨nd, rfl⟩⟩) | (go_at_call 18; (with_reducible refine (spindlelaw0_Num.calls 194 t167 _ A21.out).mono ?_); rintro e w' ⟨rfl, ⟨nd, rfl⟩⟩) | (go_at_call 18; (with_reducible refine (spindlelaw0_Num.calls 195 t168 _ A23.out).mono ?_); rintro e w' ⟨rfl, ⟨nd, rfl⟩⟩))
                          go_ret
                          exact ⟨by first | rfl | (simp; done) | (simp [*]; done), by repeat (first | exact Drawn0.refl _ | apply Drawn0.step)⟩
                      · rw [if_neg c22] at H
                        have c22b0 : (t167 == 194) = false := beq_eq_false_iff_ne.mpr c22
                        have c22b1 : (t167 != 194) = true := bne_iff_ne.mpr c22
                        obtain rfl := Option.some.inj H
                        go_enter Try.func8, Try.ntmps8
                        go_wp2_with (first | ((with_reducible refine gate_callee (f := 18) rfl ?_); refine goesL_ (some 1) rfl rfl Try.func18 (by kernel_rfl) rfl #[.int .i64 172] rfl (by (try simp only [List.map_toArray, List.map_cons, List.map_nil]); first | done | rfl | (simp only [List.length_drop, List.length_take]; rfl)) ?_; (with_reducible refine (spindlelaw0_Num.calls 172 t157 _ A1.out).mono ?_); rintro e w' ⟨rfl, ⟨nd, rfl⟩⟩; refine ⟨_, rfl, ?_⟩) | (go_at_call 18; (with_reducible refine (spindlelaw0_Num.calls 173 t158 _ A3.out).mono ?_); rintro e w' ⟨rfl, ⟨nd, rfl⟩⟩) | (go_at_call 18; (with_reducible refine (spindlelaw0_Num.calls 174 t159 _ A5.out).mono ?_); rintro e w' ⟨rfl, ⟨nd, rfl⟩⟩) | (go_at_call 18; (with_reducible refine (spindlelaw0_Num.calls 175 t160 _ A7.out).mono ?_); rintro e w' ⟨rfl, ⟨nd, rfl⟩⟩) | (go_at_call 18; (with_reducible refine (spindlelaw0_Num.calls 176 t161 _ A9.out).mono ?_); rintro e w' ⟨rfl, ⟨nd, rfl⟩⟩) | (go_at_call 18; (with_reducible refine (spindlelaw0_Num.calls 180 t162 _ A11.out).mono ?_); rintro e w' ⟨rfl, ⟨nd, rfl⟩⟩) | (go_at_call 18; (with_reducible refine (spindlelaw0_Num.calls 190 t163 _ A13.out).mono ?_); rintro e w' ⟨rfl, ⟨nd, rfl⟩⟩) | (go_at_call 18; (with_reducible refine (spindlelaw0_Num.calls 191 t164 _ A15.out).mono ?_); rintro e w' ⟨rfl, ⟨nd, rfl⟩⟩) | (go_at_call 18; (with_reducible refine (spindlelaw0_Num.calls 192 t165 _ A17.out).mono ?_); rintro e w' ⟨rfl, ⟨nd, rfl⟩⟩) | (go_at_call 18; (with_reducible refine (spindlelaw0_Num.calls 193 t166 _ A19.out).mono ?_); rintro e w' ⟨rfl, ⟨nd, rfl⟩⟩) | (go_at_call 18; (with_reducible refine (spindlelaw0_Num.calls 194 t167 _ A21.out).mono ?_); rintro e w' ⟨rfl, ⟨nd, rfl⟩⟩))
                        go_ret
                        exact ⟨by first | rfl | (simp; done) | (simp [*]; done), by repeat (first | exact Drawn0.refl _ | apply Drawn0.step)⟩
                    · rw [if_neg c20] at H
                      have c20b0 : (t166 == 193) = false := beq_eq_false_iff_ne.mpr c20
                      have c20b1 : (t166 != 193) = true := bne_iff_ne.mpr c20
                      obtain rfl := Option.some.inj H
                      go_enter Try.func8, Try.ntmps8
                      go_wp2_with (first | ((with_reducible refine gate_callee (f := 18) rfl ?_); refine goesL_ (some 1) rfl rfl Try.func18 (by kernel_rfl) rfl #[.int .i64 172] rfl (by (try simp only [List.map_toArray, List.map_cons, List.map_nil]); first | done | rfl | (simp only [List.length_drop, List.length_take]; rfl)) ?_; (with_reducible refine (spindlelaw0_Num.calls 172 t157 _ A1.out).mono ?_); rintro e w' ⟨rfl, ⟨nd, rfl⟩⟩; refine ⟨_, rfl, ?_⟩) | (go_at_call 18; (with_reducible refine (spindlelaw0_Num.calls 173 t158 _ A3.out).mono ?_); rintro e w' ⟨rfl, ⟨nd, rfl⟩⟩) | (go_at_call 18; (with_reducible refine (spindlelaw0_Num.calls 174 t159 _ A5.out).mono ?_); rintro e w' ⟨rfl, ⟨nd, rfl⟩⟩) | (go_at_call 18; (with_reducible refine (spindlelaw0_Num.calls 175 t160 _ A7.out).mono ?_); rintro e w' ⟨rfl, ⟨nd, rfl⟩⟩) | (go_at_call 18; (with_reducible refine (spindlelaw0_Num.calls 176 t161 _ A9.out).mono ?_); rintro e w' ⟨rfl, ⟨nd, rfl⟩⟩) | (go_at_call 18; (with_reducible refine (spindlelaw0_Num.calls 180 t162 _ A11.out).mono ?_); rintro e w' ⟨rfl, ⟨nd, rfl⟩⟩) | (go_at_call 18; (with_reducible refine (spindlelaw0_Num.calls 190 t163 _ A13.out).mono ?_); rintro e w' ⟨rfl, ⟨nd, rfl⟩⟩) | (go_at_call 18; (with_reducible refine (spindlelaw0_Num.calls 191 t164 _ A15.out).mono ?_); rintro e w' ⟨rfl, ⟨nd, rfl⟩⟩) | (go_at_call 18; (with_reducible refine (spindlelaw0_Num.calls 192 t165 _ A17.out).mono ?_); rintro e w' ⟨rfl, ⟨nd, rfl⟩⟩) | (go_at_call 18; (with_reducible refine (spindlelaw0_Num.calls 193 t166 _ A19.out).mono ?_); rintro e w' ⟨rfl, ⟨nd, rfl⟩⟩))
                      go_ret
                      exact ⟨by first | rfl | (simp; done) | (simp [*]; done), by repeat (first | exact Drawn0.refl _ | apply Drawn0.step)⟩
                  · rw [if_neg c18] at H
                    have c18b0 : (t165 == 192) = false := beq_eq_false_iff_ne.mpr c18
                    have c18b1 : (t165 != 192) = true := bne_iff_ne.mpr c18
                    obtain rfl := Option.some.inj H
                    go_enter Try.func8, Try.ntmps8
                    go_wp2_with (first | ((with_reducible refine gate_callee (f := 18) rfl ?_); refine goesL_ (some 1) rfl rfl Try.func18 (by kernel_rfl) rfl #[.int .i64 172] rfl (by (try simp only [List.map_toArray, List.map_cons, List.map_nil]); first | done | rfl | (simp only [List.length_drop, List.length_take]; rfl)) ?_; (with_reducible refine (spindlelaw0_Num.calls 172 t157 _ A1.out).mono ?_); rintro e w' ⟨rfl, ⟨nd, rfl⟩⟩; refine ⟨_, rfl, ?_⟩) | (go_at_call 18; (with_reducible refine (spindlelaw0_Num.calls 173 t158 _ A3.out).mono ?_); rintro e w' ⟨rfl, ⟨nd, rfl⟩⟩) | (go_at_call 18; (with_reducible refine (spindlelaw0_Num.calls 174 t159 _ A5.out).mono ?_); rintro e w' ⟨rfl, ⟨nd, rfl⟩⟩) | (go_at_call 18; (with_reducible refine (spindlelaw0_Num.calls 175 t160 _ A7.out).mono ?_); rintro e w' ⟨rfl, ⟨nd, rfl⟩⟩) | (go_at_call 18; (with_reducible refine (spindlelaw0_Num.calls 176 t161 _ A9.out).mono ?_); rintro e w' ⟨rfl, ⟨nd, rfl⟩⟩) | (go_at_call 18; (with_reducible refine (spindlelaw0_Num.calls 180 t162 _ A11.out).mono ?_); rintro e w' ⟨rfl, ⟨nd, rfl⟩⟩) | (go_at_call 18; (with_reducible refine (spindlelaw0_Num.calls 190 t163 _ A13.out).mono ?_); rintro e w' ⟨rfl, ⟨nd, rfl⟩⟩) | (go_at_call 18; (with_reducible refine (spindlelaw0_Num.calls 191 t164 _ A15.out).mono ?_); rintro e w' ⟨rfl, ⟨nd, rfl⟩⟩) | (go_at_call 18; (with_reducible refine (spindlelaw0_Num.calls 192 t165 _ A17.out).mono ?_); rintro e w' ⟨rfl, ⟨nd, rfl⟩⟩))
                    go_ret
                    exact ⟨by first | rfl | (simp; done) | (simp [*]; done), by repeat (first | exact Drawn0.refl _ | apply Drawn0.step)⟩
                · rw [if_neg c16] at H
                  have c16b0 : (t164 == 191) = false := beq_eq_false_iff_ne.mpr c16
                  have c16b1 : (t164 != 191) = true := bne_iff_ne.mpr c16
                  obtain rfl := Option.some.inj H
                  go_enter Try.func8, Try.ntmps8
                  go_wp2_with (first | ((with_reducible refine gate_callee (f := 18) rfl ?_); refine goesL_ (some 1) rfl rfl Try.func18 (by kernel_rfl) rfl #[.int .i64 172] rfl (by (try simp only [List.map_toArray, List.map_cons, List.map_nil]); first | done | rfl | (simp only [List.length_drop, List.length_take]; rfl)) ?_; (with_reducible refine (spindlelaw0_Num.calls 172 t157 _ A1.out).mono ?_); rintro e w' ⟨rfl, ⟨nd, rfl⟩⟩; refine ⟨_, rfl, ?_⟩) | (go_at_call 18; (with_reducible refine (spindlelaw0_Num.calls 173 t158 _ A3.out).mono ?_); rintro e w' ⟨rfl, ⟨nd, rfl⟩⟩) | (go_at_call 18; (with_reducible refine (spindlelaw0_Num.calls 174 t159 _ A5.out).mono ?_); rintro e w' ⟨rfl, ⟨nd, rfl⟩⟩) | (go_at_call 18; (with_reducible refine (spindlelaw0_Num.calls 175 t160 _ A7.out).mono ?_); rintro e w' ⟨rfl, ⟨nd, rfl⟩⟩) | (go_at_call 18; (with_reducible refine (spindlelaw0_Num.calls 176 t161 _ A9.out).mono ?_); rintro e w' ⟨rfl, ⟨nd, rfl⟩⟩) | (go_at_call 18; (with_reducible refine (spindlelaw0_Num.calls 180 t162 _ A11.out).mono ?_); rintro e w' ⟨rfl, ⟨nd, rfl⟩⟩) | (go_at_call 18; (with_reducible refine (spindlelaw0_Num.calls 190 t163 _ A13.out).mono ?_); rintro e w' ⟨rfl, ⟨nd, rfl⟩⟩) | (go_at_call 18; (with_reducible refine (spindlelaw0_Num.calls 191 t164 _ A15.out).mono ?_); rintro e w' ⟨rfl, ⟨nd, rfl⟩⟩))
                  go_ret
                  exact ⟨by first | rfl | (simp; done) | (simp [*]; done), by repeat (first | exact Drawn0.refl _ | apply Drawn0.step)⟩
              · rw [if_neg c14] at H
                have c14b0 : (t163 == 190) = false := beq_eq_false_iff_ne.mpr c14
                have c14b1 : (t163 != 190) = true := bne_iff_ne.mpr c14
                obtain rfl := Option.some.inj H
                go_enter Try.func8, Try.ntmps8
                go_wp2_with (first | ((with_reducible refine gate_callee (f := 18) rfl ?_); refine goesL_ (some 1) rfl rfl Try.func18 (by kernel_rfl) rfl #[.int .i64 172] rfl (by (try simp only [List.map_toArray, List.map_cons, List.map_nil]); first | done | rfl | (simp only [List.length_drop, List.length_take]; rfl)) ?_; (with_reducible refine (spindlelaw0_Num.calls 172 t157 _ A1.out).mono ?_); rintro e w' ⟨rfl, ⟨nd, rfl⟩⟩; refine ⟨_, rfl, ?_⟩) | (go_at_call 18; (with_reducible refine (spindlelaw0_Num.calls 173 t158 _ A3.out).mono ?_); rintro e w' ⟨rfl, ⟨nd, rfl⟩⟩) | (go_at_call 18; (with_reducible refine (spindlelaw0_Num.calls 174 t159 _ A5.out).mono ?_); rintro e w' ⟨rfl, ⟨nd, rfl⟩⟩) | (go_at_call 18; (with_reducible refine (spindlelaw0_Num.calls 175 t160 _ A7.out).mono ?_); rintro e w' ⟨rfl, ⟨nd, rfl⟩⟩) | (go_at_call 18; (with_reducible refine (spindlelaw0_Num.calls 176 t161 _ A9.out).mono ?_); rintro e w' ⟨rfl, ⟨nd, rfl⟩⟩) | (go_at_call 18; (with_reducible refine (spindlelaw0_Num.calls 180 t162 _ A11.out).mono ?_); rintro e w' ⟨rfl, ⟨nd, rfl⟩⟩) | (go_at_call 18; (with_reducible refine (spindlelaw0_Num.calls 190 t163 _ A13.out).mono ?_); rintro e w' ⟨rfl, ⟨nd, rfl⟩⟩))
                go_ret
                exact ⟨by first | rfl | (simp; done) | (simp [*]; done), by repeat (first | exact Drawn0.refl _ | apply Drawn0.step)⟩
            · rw [if_neg c12] at H
              have c12b0 : (t162 == 180) = false := beq_eq_false_iff_ne.mpr c12
              have c12b1 : (t162 != 180) = true := bne_iff_ne.mpr c12
              obtain rfl := Option.some.inj H
              go_enter Try.func8, Try.ntmps8
              go_wp2_with (first | ((with_reducible refine gate_callee (f := 18) rfl ?_); refine goesL_ (some 1) rfl rfl Try.func18 (by kernel_rfl) rfl #[.int .i64 172] rfl (by (try simp only [List.map_toArray, List.map_cons, List.map_nil]); first | done | rfl | (simp only [List.length_drop, List.length_take]; rfl)) ?_; (with_reducible refine (spindlelaw0_Num.calls 172 t157 _ A1.out).mono ?_); rintro e w' ⟨rfl, ⟨nd, rfl⟩⟩; refine ⟨_, rfl, ?_⟩) | (go_at_call 18; (with_reducible refine (spindlelaw0_Num.calls 173 t158 _ A3.out).mono ?_); rintro e w' ⟨rfl, ⟨nd, rfl⟩⟩) | (go_at_call 18; (with_reducible refine (spindlelaw0_Num.calls 174 t159 _ A5.out).mono ?_); rintro e w' ⟨rfl, ⟨nd, rfl⟩⟩) | (go_at_call 18; (with_reducible refine (spindlelaw0_Num.calls 175 t160 _ A7.out).mono ?_); rintro e w' ⟨rfl, ⟨nd, rfl⟩⟩) | (go_at_call 18; (with_reducible refine (spindlelaw0_Num.calls 176 t161 _ A9.out).mono ?_); rintro e w' ⟨rfl, ⟨nd, rfl⟩⟩) | (go_at_call 18; (with_reducible refine (spindlelaw0_Num.calls 180 t162 _ A11.out).mono ?_); rintro e w' ⟨rfl, ⟨nd, rfl⟩⟩))
              go_ret
              exact ⟨by first | rfl | (simp; done) | (simp [*]; done), by repeat (first | exact Drawn0.refl _ | apply Drawn0.step)⟩
          · rw [if_neg c10] at H
            have c10b0 : (t161 == 176) = false := beq_eq_false_iff_ne.mpr c10
            have c10b1 : (t161 != 176) = true := bne_iff_ne.mpr c10
            obtain rfl := Option.some.inj H
            go_enter Try.func8, Try.ntmps8
            go_wp2_with (first | ((with_reducible refine gate_callee (f := 18) rfl ?_); refine goesL_ (some 1) rfl rfl Try.func18 (by kernel_rfl) rfl #[.int .i64 172] rfl (by (try simp only [List.map_toArray, List.map_cons, List.map_nil]); first | done | rfl | (simp only [List.length_drop, List.length_take]; rfl)) ?_; (with_reducible refine (spindlelaw0_Num.calls 172 t157 _ A1.out).mono ?_); rintro e w' ⟨rfl, ⟨nd, rfl⟩⟩; refine ⟨_, rfl, ?_⟩) | (go_at_call 18; (with_reducible refine (spindlelaw0_Num.calls 173 t158 _ A3.out).mono ?_); rintro e w' ⟨rfl, ⟨nd, rfl⟩⟩) | (go_at_call 18; (with_reducible refine (spindlelaw0_Num.calls 174 t159 _ A5.out).mono ?_); rintro e w' ⟨rfl, ⟨nd, rfl⟩⟩) | (go_at_call 18; (with_reducible refine (spindlelaw0_Num.calls 175 t160 _ A7.out).mono ?_); rintro e w' ⟨rfl, ⟨nd, rfl⟩⟩) | (go_at_call 18; (with_reducible refine (spindlelaw0_Num.calls 176 t161 _ A9.out).mono ?_); rintro e w' ⟨rfl, ⟨nd, rfl⟩⟩))
            go_ret
            exact ⟨by first | rfl | (simp; done) | (simp [*]; done), by repeat (first | exact Drawn0.refl _ | apply Drawn0.step)⟩
        · rw [if_neg c8] at H
          have c8b0 : (t160 == 175) = false := beq_eq_false_iff_ne.mpr c8
          have c8b1 : (t160 != 175) = true := bne_iff_ne.mpr c8
          obtain rfl := Option.some.inj H
          go_enter Try.func8, Try.ntmps8
          go_wp2_with (first | ((with_reducible refine gate_callee (f := 18) rfl ?_); refine goesL_ (some 1) rfl rfl Try.func18 (by kernel_rfl) rfl #[.int .i64 172] rfl (by (try simp only [List.map_toArray, List.map_cons, List.map_nil]); first | done | rfl | (simp only [List.length_drop, List.length_take]; rfl)) ?_; (with_reducible refine (spindlelaw0_Num.calls 172 t157 _ A1.out).mono ?_); rintro e w' ⟨rfl, ⟨nd, rfl⟩⟩; refine ⟨_, rfl, ?_⟩) | (go_at_call 18; (with_reducible refine (spindlelaw0_Num.calls 173 t158 _ A3.out).mono ?_); rintro e w' ⟨rfl, ⟨nd, rfl⟩⟩) | (go_at_call 18; (with_reducible refine (spindlelaw0_Num.calls 174 t159 _ A5.out).mono ?_); rintro e w' ⟨rfl, ⟨nd, rfl⟩⟩) | (go_at_call 18; (with_reducible refine (spindlelaw0_Num.calls 175 t160 _ A7.out).mono ?_); rintro e w' ⟨rfl, ⟨nd, rfl⟩⟩))
          go_ret
          exact ⟨by first | rfl | (simp; done) | (simp [*]; done), by repeat (first | exact Drawn0.refl _ | apply Drawn0.step)⟩
      · rw [if_neg c6] at H
        have c6b0 : (t159 == 174) = false := beq_eq_false_iff_ne.mpr c6
        have c6b1 : (t159 != 174) = true := bne_iff_ne.mpr c6
        obtain rfl := Option.some.inj H
        go_enter Try.func8, Try.ntmps8
        go_wp2_with (first | ((with_reducible refine gate_callee (f := 18) rfl ?_); refine goesL_ (some 1) rfl rfl Try.func18 (by kernel_rfl) rfl #[.int .i64 172] rfl (by (try simp only [List.map_toArray, List.map_cons, List.map_nil]); first | done | rfl | (simp only [List.length_drop, List.length_take]; rfl)) ?_; (with_reducible refine (spindlelaw0_Num.calls 172 t157 _ A1.out).mono ?_); rintro e w' ⟨rfl, ⟨nd, rfl⟩⟩; refine ⟨_, rfl, ?_⟩) | (go_at_call 18; (with_reducible refine (spindlelaw0_Num.calls 173 t158 _ A3.out).mono ?_); rintro e w' ⟨rfl, ⟨nd, rfl⟩⟩) | (go_at_call 18; (with_reducible refine (spindlelaw0_Num.calls 174 t159 _ A5.out).mono ?_); rintro e w' ⟨rfl, ⟨nd, rfl⟩⟩))
        go_ret
        exact ⟨by first | rfl | (simp; done) | (simp [*]; done), by repeat (first | exact Drawn0.refl _ | apply Drawn0.step)⟩
    · rw [if_neg c4] at H
      have c4b0 : (t158 == 173) = false := beq_eq_false_iff_ne.mpr c4
      have c4b1 : (t158 != 173) = true := bne_iff_ne.mpr c4
      obtain rfl := Option.some.inj H
      go_enter Try.func8, Try.ntmps8
      go_wp2_with (first | ((with_reducible refine gate_callee (f := 18) rfl ?_); refine goesL_ (some 1) rfl rfl Try.func18 (by kernel_rfl) rfl #[.int .i64 172] rfl (by (try simp only [List.map_toArray, List.map_cons, List.map_nil]); first | done | rfl | (simp only [List.length_drop, List.length_take]; rfl)) ?_; (with_reducible refine (spindlelaw0_Num.calls 172 t157 _ A1.out).mono ?_); rintro e w' ⟨rfl, ⟨nd, rfl⟩⟩; refine ⟨_, rfl, ?_⟩) | (go_at_call 18; (with_reducible refine (spindlelaw0_Num.calls 173 t158 _ A3.out).mono ?_); rintro e w' ⟨rfl, ⟨nd, rfl⟩⟩))
      go_ret
      exact ⟨by first | rfl | (simp; done) | (simp [*]; done), by repeat (first | exact Drawn0.refl _ | apply Drawn0.step)⟩
  · rw [if_neg c2] at H
    have c2b0 : (t157 == 172) = false := beq_eq_false_iff_ne.mpr c2
    have c2b1 : (t157 != 172) = true := bne_iff_ne.mpr c2
    obtain rfl := Option.some.inj H
    go_enter Try.func8, Try.ntmps8
    go_wp2_with (first | ((with_reducible refine gate_callee (f := 18) rfl ?_); refine goesL_ (some 1) rfl rfl Try.func18 (by kernel_rfl) rfl #[.int .i64 172] rfl (by (try simp only [List.map_toArray, List.map_cons, List.map_nil]); first | done | rfl | (simp only [List.length_drop, List.length_take]; rfl)) ?_; (with_reducible refine (spindlelaw0_Num.calls 172 t157 _ A1.out).mono ?_); rintro e w' ⟨rfl, ⟨nd, rfl⟩⟩; refine ⟨_, rfl, ?_⟩))
    go_ret
    exact ⟨by first | rfl | (simp; done) | (simp [*]; done), by repeat (first | exact Drawn0.refl _ | apply Drawn0.step)⟩

/-! ### spindlelaw0_errors6: function 9 -/
def spindlelaw0_errors6.f  : Option (Bool) := (spindlelaw0_Num.f 198).bind fun t171 => (if t171 = 198 then ((spindlelaw0_Num.f 200).bind fun t172 => (if t172 = 200 then ((spindlelaw0_Num.f 201).bind fun t173 => (if t173 = 201 then ((spindlelaw0_Num.f 210).bind fun t174 => (if t174 = 210 then ((spindlelaw0_Num.f 211).bind fun t175 => (if t175 = 211 then ((spindlelaw0_Num.f 212).bind fun t176 => (if t176 = 212 then ((spindlelaw0_Num.f 213).bind fun t177 => (if t177 = 213 then ((spindlelaw0_Num.f 214).bind fun t178 => (if t178 = 214 then ((spindlelaw0_Num.f 215).bind fun t179 => (if t179 = 215 then ((spindlelaw0_Num.f 216).bind fun t180 => (if t180 = 216 then ((spindlelaw0_Num.f 220).bind fun t181 => (if t181 = 220 then ((spindlelaw0_Num.f 221).bind fun t182 => (if t182 = 221 then ((spindlelaw0_Num.f 222).bind fun t183 => (if t183 = 222 then ((spindlelaw0_Num.f 223).bind fun t184 => (some (t184 == 223))) else (some false))) else (some false))) else (some false))) else (some false))) else (some false))) else (some false))) else (some false))) else (some false))) else (some false))) else (some false))) else (some false))) else (some false))) else (some false))
set_option maxHeartbeats 8000000 in
set_option maxRecDepth 100000 in
theorem spindlelaw0_errors6.calls  (r : Bool) (w : World) (h : spindlelaw0_errors6.f  = some r) :
    Calls Try.prog 9 #[] w fun e w' => e = .returned (.bool r) ∧ Drawn0 w w' := by
  have H : ((spindlelaw0_Num.f 198).bind fun t171 => (if t171 = 198 then ((spindlelaw0_Num.f 200).bind fun t172 => (if t172 = 200 then ((spindlelaw0_Num.f 201).bind fun t173 => (if t173 = 201 then ((spindlelaw0_Num.f 210).bind fun t174 => (if t174 = 210 then ((spindlelaw0_Num.f 211).bind fun t175 => (if t175 = 211 then ((spindlelaw0_Num.f 212).bind fun t176 => (if t176 = 212 then ((spindlelaw0_Num.f 213).bind fun t177 => (if t177 = 213 then ((spindlelaw0_Num.f 214).bind fun t178 => (if t178 = 214 then ((spindlelaw0_Num.f 215).bind fun t179 => (if t179 = 215 then ((spindlelaw0_Num.f 216).bind fun t180 => (if t180 = 216 then ((spindlelaw0_Num.f 220).bind fun t181 => (if t181 = 220 then ((spindlelaw0_Num.f 221).bind fun t182 => (if t182 = 221 then ((spindlelaw0_Num.f 222).bind fun t183 => (if t183 = 222 then ((spindlelaw0_Num.f 223).bind fun t184 => (some (t184 == 223))) else (some false))) else (some false))) else (some false))) else (some false))) else (some false))) else (some false))) else (some false))) else (some false))) else (some false))) else (some false))) else (some false))) else (some false))) else (some false))) = some r := h
  clear h
  replace H := Option.bind_eq_some_iff.mp H
  obtain ⟨t171, A10, H⟩ := H
  replace H : (if t171 = 198 then ((spindlelaw0_Num.f 200).bind fun t172 => (if t172 = 200 then ((spindlelaw0_Num.f 201).bind fun t173 => (if t173 = 201 then ((spindlelaw0_Num.f 210).bind fun t174 => (if t174 = 210 then ((spindlelaw0_Num.f 211).bind fun t175 => (if t175 = 211 then ((spindlelaw0_Num.f 212).bind fun t176 => (if t176 = 212 then ((spindlelaw0_Num.f 213).bind fun t177 => (if t177 = 213 then ((spindlelaw0_Num.f 214).bind fun t178 => (if t178 = 214 then ((spindlelaw0_Num.f 215).bind fun t179 => (if t179 = 215 then ((spindlelaw0_Num.f 216).bind fun t180 => (if t180 = 216 then ((spindlelaw0_Num.f 220).bind fun t181 => (if t181 = 220 then ((spindlelaw0_Num.f 221).bind fun t182 => (if t182 = 221 then ((spindlelaw0_Num.f 222).bind fun t183 => (if t183 = 222 then ((spindlelaw0_Num.f 223).bind fun t184 => (some (t184 == 223))) else (some false))) else (some false))) else (some false))) else (some false))) else (some false))) else (some false))) else (some false))) else (some false))) else (some false))) else (some false))) else (some false))) else (some false))) else (some false)) = some r := H
  have A1 := Aside0.mk A10
  clear A10
  by_cases c2 : t171 = 198
  · rw [if_pos c2] at H
    have c2b0 : (t171 == 198) = true := beq_iff_eq.mpr c2
    have c2b1 : (t171 != 198) = false := bne_eq_false_iff_eq.mpr c2
    clear c2
    replace H := Option.bind_eq_some_iff.mp H
    obtain ⟨t172, A30, H⟩ := H
    replace H : (if t172 = 200 then ((spindlelaw0_Num.f 201).bind fun t173 => (if t173 = 201 then ((spindlelaw0_Num.f 210).bind fun t174 => (if t174 = 210 then ((spindlelaw0_Num.f 211).bind fun t175 => (if t175 = 211 then ((spindlelaw0_Num.f 212).bind fun t176 => (if t176 = 212 then ((spindlelaw0_Num.f 213).bind fun t177 => (if t177 = 213 then ((spindlelaw0_Num.f 214).bind fun t178 => (if t178 = 214 then ((spindlelaw0_Num.f 215).bind fun t179 => (if t179 = 215 then ((spindlelaw0_Num.f 216).bind fun t180 => (if t180 = 216 then ((spindlelaw0_Num.f 220).bind fun t181 => (if t181 = 220 then ((spindlelaw0_Num.f 221).bind fun t182 => (if t182 = 221 then ((spindlelaw0_Num.f 222).bind fun t183 => (if t183 = 222 then ((spindlelaw0_Num.f 223).bind fun t184 => (some (t184 == 223))) else (some false))) else (some false))) else (some false))) else (some false))) else (some false))) else (some false))) else (some false))) else (some false))) else (some false))) else (some false))) else (some false))) else (some false)) = some r := H
    have A3 := Aside0.mk A30
    clear A30
    by_cases c4 : t172 = 200
    · rw [if_pos c4] at H
      have c4b0 : (t172 == 200) = true := beq_iff_eq.mpr c4
      have c4b1 : (t172 != 200) = false := bne_eq_false_iff_eq.mpr c4
      clear c4
      replace H := Option.bind_eq_some_iff.mp H
      obtain ⟨t173, A50, H⟩ := H
      replace H : (if t173 = 201 then ((spindlelaw0_Num.f 210).bind fun t174 => (if t174 = 210 then ((spindlelaw0_Num.f 211).bind fun t175 => (if t175 = 211 then ((spindlelaw0_Num.f 212).bind fun t176 => (if t176 = 212 then ((spindlelaw0_Num.f 213).bind fun t177 => (if t177 = 213 then ((spindlelaw0_Num.f 214).bind fun t178 => (if t178 = 214 then ((spindlelaw0_Num.f 215).bind fun t179 => (if t179 = 215 then ((spindlelaw0_Num.f 216).bind fun t180 => (if t180 = 216 then ((spindlelaw0_Num.f 220).bind fun t181 => (if t181 = 220 then ((spindlelaw0_Num.f 221).bind fun t182 => (if t182 = 221 then ((spindlelaw0_Num.f 222).bind fun t183 => (if t183 = 222 then ((spindlelaw0_Num.f 223).bind fun t184 => (some (t184 == 223))) else (some false))) else (some false))) else (some false))) else (some false))) else (some false))) else (some false))) else (some false))) else (some false))) else (some false))) else (some false))) else (some false)) = some r := H
      have A5 := Aside0.mk A50
      clear A50
      by_cases c6 : t173 = 201
      · rw [if_pos c6] at H
        have c6b0 : (t173 == 201) = true := beq_iff_eq.mpr c6
        have c6b1 : (t173 != 201) = false := bne_eq_false_iff_eq.mpr c6
        clear c6
        replace H := Option.bind_eq_some_iff.mp H
        obtain ⟨t174, A70, H⟩ := H
        replace H : (if t174 = 210 then ((spindlelaw0_Num.f 211).bind fun t175 => (if t175 = 211 then ((spindlelaw0_Num.f 212).bind fun t176 => (if t176 = 212 then ((spindlelaw0_Num.f 213).bind fun t177 => (if t177 = 213 then ((spindlelaw0_Num.f 214).bind fun t178 => (if t178 = 214 then ((spindlelaw0_Num.f 215).bind fun t179 => (if t179 = 215 then ((spindlelaw0_Num.f 216).bind fun t180 => (if t180 = 216 then ((spindlelaw0_Num.f 220).bind fun t181 => (if t181 = 220 then ((spindlelaw0_Num.f 221).bind fun t182 => (if t182 = 221 then ((spindlelaw0_Num.f 222).bind fun t183 => (if t183 = 222 then ((spindlelaw0_Num.f 223).bind fun t184 => (some (t184 == 223))) else (some false))) else (some false))) else (some false))) else (some false))) else (some false))) else (some false))) else (some false))) else (some false))) else (some false))) else (some false)) = some r := H
        have A7 := Aside0.mk A70
        clear A70
        by_cases c8 : t174 = 210
        · rw [if_pos c8] at H
          have c8b0 : (t174 == 210) = true := beq_iff_eq.mpr c8
          have c8b1 : (t174 != 210) = false := bne_eq_false_iff_eq.mpr c8
          clear c8
          replace H := Option.bind_eq_some_iff.mp H
          obtain ⟨t175, A90, H⟩ := H
          replace H : (if t175 = 211 then ((spindlelaw0_Num.f 212).bind fun t176 => (if t176 = 212 then ((spindlelaw0_Num.f 213).bind fun t177 => (if t177 = 213 then ((spindlelaw0_Num.f 214).bind fun t178 => (if t178 = 214 then ((spindlelaw0_Num.f 215).bind fun t179 => (if t179 = 215 then ((spindlelaw0_Num.f 216).bind fun t180 => (if t180 = 216 then ((spindlelaw0_Num.f 220).bind fun t181 => (if t181 = 220 then ((spindlelaw0_Num.f 221).bind fun t182 => (if t182 = 221 then ((spindlelaw0_Num.f 222).bind fun t183 => (if t183 = 222 then ((spindlelaw0_Num.f 223).bind fun t184 => (some (t184 == 223))) else (some false))) else (some false))) else (some false))) else (some false))) else (some false))) else (some false))) else (some false))) else (some false))) else (some false)) = some r := H
          have A9 := Aside0.mk A90
          clear A90
          by_cases c10 : t175 = 211
          · rw [if_pos c10] at H
            have c10b0 : (t175 == 211) = true := beq_iff_eq.mpr c10
            have c10b1 : (t175 != 211) = false := bne_eq_false_iff_eq.mpr c10
            clear c10
            replace H := Option.bind_eq_some_iff.mp H
            obtain ⟨t176, A110, H⟩ := H
            replace H : (if t176 = 212 then ((spindlelaw0_Num.f 213).bind fun t177 => (if t177 = 213 then ((spindlelaw0_Num.f 214).bind fun t178 => (if t178 = 214 then ((spindlelaw0_Num.f 215).bind fun t179 => (if t179 = 215 then ((spindlelaw0_Num.f 216).bind fun t180 => (if t180 = 216 then ((spindlelaw0_Num.f 220).bind fun t181 => (if t181 = 220 then ((spindlelaw0_Num.f 221).bind fun t182 => (if t182 = 221 then ((spindlelaw0_Num.f 222).bind fun t183 => (if t183 = 222 then ((spindlelaw0_Num.f 223).bind fun t184 => (some (t184 == 223))) else (some false))) else (some false))) else (some false))) else (some false))) else (some false))) else (some false))) else (some false))) else (some false)) = some r := H
            have A11 := Aside0.mk A110
            clear A110
            by_cases c12 : t176 = 212
            · rw [if_pos c12] at H
              have c12b0 : (t176 == 212) = true := beq_iff_eq.mpr c12
              have c12b1 : (t176 != 212) = false := bne_eq_false_iff_eq.mpr c12
              clear c12
              replace H := Option.bind_eq_some_iff.mp H
              obtain ⟨t177, A130, H⟩ := H
              replace H : (if t177 = 213 then ((spindlelaw0_Num.f 214).bind fun t178 => (if t178 = 214 then ((spindlelaw0_Num.f 215).bind fun t179 => (if t179 = 215 then ((spindlelaw0_Num.f 216).bind fun t180 => (if t180 = 216 then ((spindlelaw0_Num.f 220).bind fun t181 => (if t181 = 220 then ((spindlelaw0_Num.f 221).bind fun t182 => (if t182 = 221 then ((spindlelaw0_Num.f 222).bind fun t183 => (if t183 = 222 then ((spindlelaw0_Num.f 223).bind fun t184 => (some (t184 == 223))) else (some false))) else (some false))) else (some false))) else (some false))) else (some false))) else (some false))) else (some false)) = some r := H
              have A13 := Aside0.mk A130
              clear A130
              by_cases c14 : t177 = 213
              · rw [if_pos c14] at H
                have c14b0 : (t177 == 213) = true := beq_iff_eq.mpr c14
                have c14b1 : (t177 != 213) = false := bne_eq_false_iff_eq.mpr c14
                clear c14
                replace H := Option.bind_eq_some_iff.mp H
                obtain ⟨t178, A150, H⟩ := H
                replace H : (if t178 = 214 then ((spindlelaw0_Num.f 215).bind fun t179 => (if t179 = 215 then ((spindlelaw0_Num.f 216).bind fun t180 => (if t180 = 216 then ((spindlelaw0_Num.f 220).bind fun t181 => (if t181 = 220 then ((spindlelaw0_Num.f 221).bind fun t182 => (if t182 = 221 then ((spindlelaw0_Num.f 222).bind fun t183 => (if t183 = 222 then ((spindlelaw0_Num.f 223).bind fun t184 => (some (t184 == 223))) else (some false))) else (some false))) else (some false))) else (some false))) else (some false))) else (some false)) = some r := H
                have A15 := Aside0.mk A150
                clear A150
                by_cases c16 : t178 = 214
                · rw [if_pos c16] at H
                  have c16b0 : (t178 == 214) = true := beq_iff_eq.mpr c16
                  have c16b1 : (t178 != 214) = false := bne_eq_false_iff_eq.mpr c16
                  clear c16
                  replace H := Option.bind_eq_some_iff.mp H
                  obtain ⟨t179, A170, H⟩ := H
                  replace H : (if t179 = 215 then ((spindlelaw0_Num.f 216).bind fun t180 => (if t180 = 216 then ((spindlelaw0_Num.f 220).bind fun t181 => (if t181 = 220 then ((spindlelaw0_Num.f 221).bind fun t182 => (if t182 = 221 then ((spindlelaw0_Num.f 222).bind fun t183 => (if t183 = 222 then ((spindlelaw0_Num.f 223).bind fun t184 => (some (t184 == 223))) else (some false))) else (some false))) else (some false))) else (some false))) else (some false)) = some r := H
                  have A17 := Aside0.mk A170
                  clear A170
                  by_cases c18 : t179 = 215
                  · rw [if_pos c18] at H
                    have c18b0 : (t179 == 215) = true := beq_iff_eq.mpr c18
                    have c18b1 : (t179 != 215) = false := bne_eq_false_iff_eq.mpr c18
                    clear c18
                    replace H := Option.bind_eq_some_iff.mp H
                    obtain ⟨t180, A190, H⟩ := H
                    replace H : (if t180 = 216 then ((spindlelaw0_Num.f 220).bind fun t181 => (if t181 = 220 then ((spindlelaw0_Num.f 221).bind fun t182 => (if t182 = 221 then ((spindlelaw0_Num.f 222).bind fun t183 => (if t183 = 222 then ((spindlelaw0_Num.f 223).bind fun t184 => (some (t184 == 223))) else (some false))) else (some false))) else (some false))) else (some false)) = some r := H
                    have A19 := Aside0.mk A190
                    clear A190
                    by_cases c20 : t180 = 216
                    · rw [if_pos c20] at H
                      have c20b0 : (t180 == 216) = true := beq_iff_eq.mpr c20
                      have c20b1 : (t180 != 216) = false := bne_eq_false_iff_eq.mpr c20
                      clear c20
                      replace H := Option.bind_eq_some_iff.mp H
                      obtain ⟨t181, A210, H⟩ := H
                      replace H : (if t181 = 220 then ((spindlelaw0_Num.f 221).bind fun t182 => (if t182 = 221 then ((spindlelaw0_Num.f 222).bind fun t183 => (if t183 = 222 then ((spindlelaw0_Num.f 223).bind fun t184 => (some (t184 == 223))) else (some false))) else (some false))) else (some false)) = some r := H
                      have A21 := Aside0.mk A210
                      clear A210
                      by_cases c22 : t181 = 220
                      · rw [if_pos c22] at H
                        have c22b0 : (t181 == 220) = true := beq_iff_eq.mpr c22
                        have c22b1 : (t181 != 220) = false := bne_eq_false_iff_eq.mpr c22
                        clear c22
                        replace H := Option.bind_eq_some_iff.mp H
                        obtain ⟨t182, A230, H⟩ := H
                        replace H : (if t182 = 221 then ((spindlelaw0_Num.f 222).bind fun t183 => (if t183 = 222 then ((spindlelaw0_Num.f 223).bind fun t184 => (some (t184 == 223))) else (some false))) else (some false)) = some r := H
                        have A23 := Aside0.mk A230
                        clear A230
                        by_cases c24 : t182 = 221
                        · rw [if_pos c24] at H
                          have c24b0 : (t182 == 221) = true := beq_iff_eq.mpr c24
                          have c24b1 : (t182 != 221) = false := bne_eq_false_iff_eq.mpr c24
                          clear c24
                          replace H := Option.bind_eq_some_iff.mp H
                          obtain ⟨t183, A250, H⟩ := H
                          replace H : (if t183 = 222 then ((spindlelaw0_Num.f 223).bind fun t184 => (some (t184 == 223))) else (some false)) = some r := H
                          have A25 := Aside0.mk A250
                          clear A250
                          by_cases c26 : t183 = 222
                          · rw [if_pos c26] at H
                            have c26b0 : (t183 == 222) = true := beq_iff_eq.mpr c26
                            have c26b1 : (t183 != 222) = false := bne_eq_false_iff_eq.mpr c26
                            clear c26
                            replace H := Option.bind_eq_some_iff.mp H
                            obtain ⟨t184, A270, H⟩ := H
                            replace H : (some (t184 == 223)) = some r := H
                            have A27 := Aside0.mk A270
                            clear A270
                            obtain rfl := Option.some.inj H
                            go_enter Try.func9, Try.ntmps9
                            go_wp2_with (first | ((with_reducible refine gate_callee (f := 18) rfl ?_); refine goesL_ (some 1) rfl rfl Try.func18 (by kernel_rfl) rfl #[.int .i64 198] rfl (by (try simp only [List.map_toArray, List.map_cons, List.map_nil]); first | done | rfl | (simp only [List.length_drop, List.length_take]; rfl)) ?_; (with_reducible refine (spindlelaw0_Num.calls 198 t171 _ A1.out).mono ?_); rintro e w' ⟨rfl, ⟨nd, rfl⟩⟩; refine ⟨_, rfl, ?_⟩) | (go_at_call 18; (with_reducible refine (spindlelaw0_Num.calls 200 t172 _ A3.out).mono ?_); rintro e w' ⟨rfl, ⟨nd, rfl⟩⟩) | (go_at_call 18; (with_reducible refine (spindlelaw0_Num.calls 201 t173 _ A5.out).mono ?_); rintro e w' ⟨rfl, ⟨nd, rfl⟩⟩) | (go_at_call 18; (with_reducible refine (spindlelaw0_Num.calls 210 t174 _ A7.out).mono ?_); rintro e w' ⟨rfl, ⟨nd, rfl⟩⟩) | (go_at_call 18; (with_reducible refine (spindlelaw0_Num.calls 211 t175 _ A9.out).mono ?_); rintro e w' ⟨rfl, ⟨nd, rfl⟩⟩) | (go_at_call 18; (with_reducible refine (spindlelaw0_Num.calls 212 t176 _ A11.out).mono ?_); rintro e w' ⟨rfl, ⟨nd, rfl⟩⟩) | (go_at_call 18; (with_reducible refine (spindlelaw0_Num.calls 213 t177 _ A13.out).mono ?_); rintro e w' ⟨rfl, ⟨nd, rfl⟩⟩) | (go_at_call 18; (with_reducible refine (spindlelaw0_Num.calls 214 t178 _ A15.out).mono ?_); rintro e w' ⟨rfl, ⟨nd, rfl⟩⟩) | (go_at_call 18; (with_reducible refine (spindlelaw0_Num.calls 215 t179 _ A17.out).mono ?_); rintro e w' ⟨rfl, ⟨nd, rfl⟩⟩) | (go_at_call 18; (with_reducible refine (spindlelaw0_Num.calls 216 t180 _ A19.out).mono ?_); rintro e w' ⟨rfl, ⟨nd, rfl⟩⟩) | (go_at_call 18; (with_reducible refine (spindlelaw0_Num.calls 220 t181 _ A21.out).mono ?_); rintro e w' ⟨rfl, ⟨nd, rfl⟩⟩) | (go_at_call 18; (with_reducible refine (spindlelaw0_Num.calls 221 t182 _ A23.out).mono ?_); rintro e w' ⟨rfl, ⟨nd, rfl⟩⟩) | (go_at_call 18; (with_reducible refine (spindlelaw0_Num.calls 222 t183 _ A25.out).mono ?_); rintro e w' ⟨rfl, ⟨nd, rfl⟩⟩) | (go_at_call 18; (with_reducible refine (spindlelaw0_Num.calls 223 t184 _ A27.out).mono ?_); rintro e w' ⟨rfl, ⟨nd, rfl⟩⟩))
                            go_ret
                            exact ⟨by first | rfl | (simp; done) | (simp [*]; done), by repeat (first | exact Drawn0.refl _ | apply Drawn0.step)⟩
                          · rw [if_neg c26] at H
                            have c26b0 : (t183 == 222) = false := beq_eq_false_iff_ne.mpr c26
                            have c26b1 : (t183 != 222) = true := bne_iff_ne.mpr c26
                            obtain rfl := Option.some.inj H
                            go_enter Try.func9, Try.ntmps9
                            go_wp2_with (first | ((with_reducible refine gate_callee (f := 18) rfl ?_); refine goesL_ (some 1) rfl rfl Try.func18 (by kernel_rfl) rfl #[.int .i64 198] rfl (by (try simp only [List.map_toArray, List.map_cons, List.map_nil]); first | done | rfl | (simp only [List.length_drop, List.length_take]; rfl)) ?_; (with_reducible refine (spindlelaw0_Num.calls 198 t171 _ A1.out).mono ?_); rintro e w' ⟨rfl, ⟨nd, rfl⟩⟩; refine ⟨_, rfl, ?_⟩) | (go_at_call 18; (with_reducible refine (spindlelaw0_Num.calls 200 t172 _ A3.out).mono ?_); rintro e w' ⟨rfl, ⟨nd, rfl⟩⟩) | (go_at_call 18; (with_reducible refine (spindlelaw0_Num.calls 201 t173 _ A5.out).mono ?_); rintro e w' ⟨rfl, ⟨nd, rfl⟩⟩) | (go_at_call 18; (with_reducible refine (spindlelaw0_Num.calls 210 t174 _ A7.out).mono ?_); rintro e w' ⟨rfl, ⟨nd, rfl⟩⟩) | (go_at_call 18; (with_reducible refine (spindlelaw0_Num.calls 211 t175 _ A9.out).mono ?_); rintro e w' ⟨rfl, ⟨nd, rfl⟩⟩) | (go_at_call 18; (with_reducible refine (spindlelaw0_Num.calls 212 t176 _ A11.out).mono ?_); rintro e w' ⟨rfl, ⟨nd, rfl⟩⟩) | (go_at_call 18; (with_reducible refine (spindlelaw0_Num.calls 213 t177 _ A13.out).mono ?_); rintro e w' ⟨rfl, ⟨nd, rfl⟩⟩) | (go_at_call 18; (with_reducible refine (spindlelaw0_Num.calls 214 t178 _ A15.out).mono ?_); rintro e w' ⟨rfl, ⟨nd, rfl⟩⟩) | (go_at_call 18; (with_reducible refine (spindlelaw0_Num.calls 215 t179 _ A17.out).mono ?_); rintro e w' ⟨rfl, ⟨nd, rfl⟩⟩) | (go_at_call 18; (with_reducible refine (spindlelaw0_Num.calls 216 t180 _ A19.out).mono ?_); rintro e w' ⟨rfl, ⟨nd, rfl⟩⟩) | (go_at_call 18; (with_reducible refine (spindlelaw0_Num.calls 220 t181 _ A21.out).mono ?_); rintro e w' ⟨rfl, ⟨nd, rfl⟩⟩) | (go_at_call 18; (with_reducible refine (spindlelaw0_Num.calls 221 t182 _ A23.out).mono ?_); rintro e w' ⟨rfl, ⟨nd, rfl⟩⟩) | (go_at_call 18; (with_reducible refine (spindlelaw0_Num.calls 222 t183 _ A25.out).mono ?_); rintro e w' ⟨rfl, ⟨nd, rfl⟩⟩))
                            go_ret
                            exact ⟨by first | rfl | (simp; done) | (simp [*]; done), by repeat (first | exact Drawn0.refl _ | apply Drawn0.step)⟩
                        · rw [if_neg c24] at H
                          have c24b0 : (t182 == 221) = false := beq_eq_false_iff_ne.mpr c24
                          have c24b1 : (t182 != 221) = true := bne_iff_ne.mpr c24
                          obtain rfl := Option.some.inj H
                          go_enter Try.func9, Try.ntmps9
                          go_wp2_with (first | ((with_reducible refine gate_callee (f := 18) rfl ?_); refine goesL_ (some 1) rfl rfl Try.func18 (by kernel_rfl) rfl #[.int .i64 198] rfl (by (try simp only [List.map_toArray, List.map_cons, List.map_nil]); first | done | rfl | (simp only [List.length_drop, List.length_take]; rfl)) ?_; (with_reducible refine (spindlelaw0_Num.calls 198 t171 _ A1.out).mono ?_); rintro e w' ⟨rfl, ⟨nd, rfl⟩⟩; refine ⟨_, rfl, ?_⟩) | (go_at_call 18; (with_reducible refine (spindlelaw0_Num.calls 200 t172 _ A3.out).mono ?_); rintro e w' ⟨rfl, ⟨nd, rfl⟩⟩) | (go_at_call 18; (with_reducible refine (spindlelaw0_Num.calls 201 t173 _ A5.out).mono ?_); rintro e w' ⟨rfl, ⟨nd, rfl⟩⟩) | (go_at_call 18; (with_reducible refine (spindlelaw0_Num.calls 210 t174 _ A7.out).mono ?_); rintro e w' ⟨rfl, ⟨nd, rfl⟩⟩) | (go_at_call 18; (with_reducible refine (spindlelaw0_Num.calls 211 t175 _ A9.out).mono ?_); rintro e w' ⟨rfl, ⟨nd, rfl⟩⟩) | (go_at_call 18; (with_reducible refine (spindlelaw0_Num.calls 212 t176 _ A11.out).mono ?_); rintro e w' ⟨rfl, ⟨nd, rfl⟩⟩) | (go_at_call 18; (with_reducible refine (spindlelaw0_Num.calls 213 t177 _ A13.out).mono ?_); rintro e w' ⟨rfl, ⟨nd, rfl⟩⟩) | (go_at_call 18; (with_reducible refine (spindlelaw0_Num.calls 214 t178 _ A15.out).mono ?_); rintro e w' ⟨rfl, ⟨nd, rfl⟩⟩) | (go_at_call 18; (with_reducible refine (spindlelaw0_Num.calls 215 t179 _ A17.out).mono ?_); rintro e w' ⟨rfl, ⟨nd, rfl⟩⟩) | (go_at_call 18; (with_reducible refine (spindlelaw0_Num.calls 216 t180 _ A19.out).mono ?_); rintro e w' ⟨rfl, ⟨nd, rfl⟩⟩) | (go_at_call 18; (with_reducible refine (spindlelaw0_Num.calls 220 t181 _ A21.out).mono ?_); rintro e w' ⟨rfl, ⟨nd, rfl⟩⟩) | (go_at_call 18; (with_reducible refine (spindlelaw0_Num.calls 221 t182 _ A23.out).mono ?_); rintro e w' ⟨rfl, ⟨nd, rfl⟩⟩))
                          go_ret
                          exact ⟨by first | rfl | (simp; done) | (simp [*]; done), by repeat (first | exact Drawn0.refl _ | apply Drawn0.step)⟩
                      · rw [if_neg c22] at H
                        have c22b0 : (t181 == 220) = false := beq_eq_false_iff_ne.mpr c22
                        have c22b1 : (t181 != 220) = true := bne_iff_ne.mpr c22
                        obtain rfl := Option.some.inj H
                        go_enter Try.func9, Try.ntmps9
                        go_wp2_with (first | ((with_reducible refine gate_callee (f := 18) rfl ?_); refine goesL_ (some 1) rfl rfl Try.func18 (by kernel_rfl) rfl #[.int .i64 198] rfl (by (try simp only [List.map_toArray, List.map_cons, List.map_nil]); first | done | rfl | (simp only [List.length_drop, List.length_take]; rfl)) ?_; (with_reducible refine (spindlelaw0_Num.calls 198 t171 _ A1.out).mono ?_); rintro e w' ⟨rfl, ⟨nd, rfl⟩⟩; refine ⟨_, rfl, ?_⟩) | (go_at_call 18; (with_reducible refine (spindlelaw0_Num.calls 200 t172 _ A3.out).mono ?_); rintro e w' ⟨rfl, ⟨nd, rfl⟩⟩) | (go_at_call 18; (with_reducible refine (spindlelaw0_Num.calls 201 t173 _ A5.out).mono ?_); rintro e w' ⟨rfl, ⟨nd, rfl⟩⟩) | (go_at_call 18; (with_reducible refine (spindlelaw0_Num.calls 210 t174 _ A7.out).mono ?_); rintro e w' ⟨rfl, ⟨nd, rfl⟩⟩) | (go_at_call 18; (with_reducible refine (spindlelaw0_Num.calls 211 t175 _ A9.out).mono ?_); rintro e w' ⟨rfl, ⟨nd, rfl⟩⟩) | (go_at_call 18; (with_reducible refine (spindlelaw0_Num.calls 212 t176 _ A11.out).mono ?_); rintro e w' ⟨rfl, ⟨nd, rfl⟩⟩) | (go_at_call 18; (with_reducible refine (spindlelaw0_Num.calls 213 t177 _ A13.out).mono ?_); rintro e w' ⟨rfl, ⟨nd, rfl⟩⟩) | (go_at_call 18; (with_reducible refine (spindlelaw0_Num.calls 214 t178 _ A15.out).mono ?_); rintro e w' ⟨rfl, ⟨nd, rfl⟩⟩) | (go_at_call 18; (with_reducible refine (spindlelaw0_Num.calls 215 t179 _ A17.out).mono ?_); rintro e w' ⟨rfl, ⟨nd, rfl⟩⟩) | (go_at_call 18; (with_reducible refine (spindlelaw0_Num.calls 216 t180 _ A19.out).mono ?_); rintro e w' ⟨rfl, ⟨nd, rfl⟩⟩) | (go_at_call 18; (with_reducible refine (spindlelaw0_Num.calls 220 t181 _ A21.out).mono ?_); rintro e w' ⟨rfl, ⟨nd, rfl⟩⟩))
                        go_ret
                        exact ⟨by first | rfl | (simp; done) | (simp [*]; done), by repeat (first | exact Drawn0.refl _ | apply Drawn0.step)⟩
                    · rw [if_neg c20] at H
                      have c20b0 : (t180 == 216) = false := beq_eq_false_iff_ne.mpr c20
                      have c20b1 : (t180 != 216) = true := bne_iff_ne.mpr c20
                      obtain rfl := Option.some.inj H
                      go_enter Try.func9, Try.ntmps9
                      go_wp2_with (first | ((with_reducible refine gate_callee (f := 18) rfl ?_); refine goesL_ (some 1) rfl rfl Try.func18 (by kernel_rfl) rfl #[.int .i64 198] rfl (by (try simp only [List.map_toArray, List.map_cons, List.map_nil]); first | done | rfl | (simp only [List.length_drop, List.length_take]; rfl)) ?_; (with_reducible refine (spindlelaw0_Num.calls 198 t171 _ A1.out).mono ?_); rintro e w' ⟨rfl, ⟨nd, rfl⟩⟩; refine ⟨_, rfl, ?_⟩) | (go_at_call 18; (with_reducible refine (spindlelaw0_Num.calls 200 t172 _ A3.out).mono ?_); rintro e w' ⟨rfl, ⟨nd, rfl⟩⟩) | (go_at_call 18; (with_reducible refine (spindlelaw0_Num.calls 201 t173 _ A5.out).mono ?_); rintro e w' ⟨rfl, ⟨nd, rfl⟩⟩) | (go_at_call 18; (with_reducible refine (spindlelaw0_Num.calls 210 t174 _ A7.out).mono ?_); rintro e w' ⟨rfl, ⟨nd, rfl⟩⟩) | (go_at_call 18; (with_reducible refine (spindlelaw0_Num.calls 211 t175 _ A9.out).mono ?_); rintro e w' ⟨rfl, ⟨nd, rfl⟩⟩) | (go_at_call 18; (with_reducible refine (spindlelaw0_Num.calls 212 t176 _ A11.out).mono ?_); rintro e w' ⟨rfl, ⟨nd, rfl⟩⟩) | (go_at_call 18; (with_reducible refine (spindlelaw0_Num.calls 213 t177 _ A13.out).mono ?_); rintro e w' ⟨rfl, ⟨nd, rfl⟩⟩) | (go_at_call 18; (with_reducible refine (spindlelaw0_Num.calls 214 t178 _ A15.out).mono ?_); rintro e w' ⟨rfl, ⟨nd, rfl⟩⟩) | (go_at_call 18; (with_reducible refine (spindlelaw0_Num.calls 215 t179 _ A17.out).mono ?_); rintro e w' ⟨rfl, ⟨nd, rfl⟩⟩) | (go_at_call 18; (with_reducible refine (spindlelaw0_Num.calls 216 t180 _ A19.out).mono ?_); rintro e w' ⟨rfl, ⟨nd, rfl⟩⟩))
                      go_ret
                      exact ⟨by first | rfl | (simp; done) | (simp [*]; done), by repeat (first | exact Drawn0.refl _ | apply Drawn0.step)⟩
                  · rw [if_neg c18] at H
                    have c18b0 : (t179 == 215) = false := beq_eq_false_iff_ne.mpr c18
                    have c18b1 : (t179 != 215) = true := bne_iff_ne.mpr c18
                    obtain rfl := Option.some.inj H
                    go_enter Try.func9, Try.ntmps9
                    go_wp2_with (first | ((with_reducible refine gate_callee (f := 18) rfl ?_); refine goesL_ (some 1) rfl rfl Try.func18 (by kernel_rfl) rfl #[.int .i64 198] rfl (by (try simp only [List.map_toArray, List.map_cons, List.map_nil]); first | done | rfl | (simp only [List.length_drop, List.length_take]; rfl)) ?_; (with_reducible refine (spindlelaw0_Num.calls 198 t171 _ A1.out).mono ?_); rintro e w' ⟨rfl, ⟨nd, rfl⟩⟩; refine ⟨_, rfl, ?_⟩) | (go_at_call 18; (with_reducible refine (spindlelaw0_Num.calls 200 t172 _ A3.out).mono ?_); rintro e w' ⟨rfl, ⟨nd, rfl⟩⟩) | (go_at_call 18; (with_reducible refine (spindlelaw0_Num.calls 201 t173 _ A5.out).mono ?_); rintro e w' ⟨rfl, ⟨nd, rfl⟩⟩) | (go_at_call 18; (with_reducible refine (spindlelaw0_Num.calls 210 t174 _ A7.out).mono ?_); rintro e w' ⟨rfl, ⟨nd, rfl⟩⟩) | (go_at_call 18; (with_reducible refine (spindlelaw0_Num.calls 211 t175 _ A9.out).mono ?_); rintro e w' ⟨rfl, ⟨nd, rfl⟩⟩) | (go_at_call 18; (with_reducible refine (spindlelaw0_Num.calls 212 t176 _ A11.out).mono ?_); rintro e w' ⟨rfl, ⟨nd, rfl⟩⟩) | (go_at_call 18; (with_reducible refine (spindlelaw0_Num.calls 213 t177 _ A13.out).mono ?_); rintro e w' ⟨rfl, ⟨nd, rfl⟩⟩) | (go_at_call 18; (with_reducible refine (spindlelaw0_Num.calls 214 t178 _ A15.out).mono ?_); rintro e w' ⟨rfl, ⟨nd, rfl⟩⟩) | (go_at_call 18; (with_reducible refine (spindlelaw0_Num.calls 215 t179 _ A17.out).mono ?_); rintro e w' ⟨rfl, ⟨nd, rfl⟩⟩))
                    go_ret
                    exact ⟨by first | rfl | (simp; done) | (simp [*]; done), by repeat (first | exact Drawn0.refl _ | apply Drawn0.step)⟩
                · rw [if_neg c16] at H
                  have c16b0 : (t178 == 214) = false := beq_eq_false_iff_ne.mpr c16
                  have c16b1 : (t178 != 214) = true := bne_iff_ne.mpr c16
                  obtain rfl := Option.some.inj H
                  go_enter Try.func9, Try.ntmps9
                  go_wp2_with (first | ((with_reducible refine gate_callee (f := 18) rfl ?_); refine goesL_ (some 1) rfl rfl Try.func18 (by kernel_rfl) rfl #[.int .i64 198] rfl (by (try simp only [List.map_toArray, List.map_cons, List.map_nil]); first | done | rfl | (simp only [List.length_drop, List.length_take]; rfl)) ?_; (with_reducible refine (spindlelaw0_Num.calls 198 t171 _ A1.out).mono ?_); rintro e w' ⟨rfl, ⟨nd, rfl⟩⟩; refine ⟨_, rfl, ?_⟩) | (go_at_call 18; (with_reducible refine (spindlelaw0_Num.calls 200 t172 _ A3.out).mono ?_); rintro e w' ⟨rfl, ⟨nd, rfl⟩⟩) | (go_at_call 18; (with_reducible refine (spindlelaw0_Num.calls 201 t173 _ A5.out).mono ?_); rintro e w' ⟨rfl, ⟨nd, rfl⟩⟩) | (go_at_call 18; (with_reducible refine (spindlelaw0_Num.calls 210 t174 _ A7.out).mono ?_); rintro e w' ⟨rfl, ⟨nd, rfl⟩⟩) | (go_at_call 18; (with_reducible refine (spindlelaw0_Num.calls 211 t175 _ A9.out).mono ?_); rintro e w' ⟨rfl, ⟨nd, rfl⟩⟩) | (go_at_call 18; (with_reducible refine (spindlelaw0_Num.calls 212 t176 _ A11.out).mono ?_); rintro e w' ⟨rfl, ⟨nd, rfl⟩⟩) | (go_at_call 18; (with_reducible refine (spindlelaw0_Num.calls 213 t177 _ A13.out).mono ?_); rintro e w' ⟨rfl, ⟨nd, rfl⟩⟩) | (go_at_call 18; (with_reducible refine (spindlelaw0_Num.calls 214 t178 _ A15.out).mono ?_); rintro e w' ⟨rfl, ⟨nd, rfl⟩⟩))
                  go_ret
                  exact ⟨by first | rfl | (simp; done) | (simp [*]; done), by repeat (first | exact Drawn0.refl _ | apply Drawn0.step)⟩
              · rw [if_neg c14] at H
                have c14b0 : (t177 == 213) = false := beq_eq_false_iff_ne.mpr c14
                have c14b1 : (t177 != 213) = true := bne_iff_ne.mpr c14
                obtain rfl := Option.some.inj H
                go_enter Try.func9, Try.ntmps9
                go_wp2_with (first | ((with_reducible refine gate_callee (f := 18) rfl ?_); refine goesL_ (some 1) rfl rfl Try.func18 (by kernel_rfl) rfl #[.int .i64 198] rfl (by (try simp only [List.map_toArray, List.map_cons, List.map_nil]); first | done | rfl | (simp only [List.length_drop, List.length_take]; rfl)) ?_; (with_reducible refine (spindlelaw0_Num.calls 198 t171 _ A1.out).mono ?_); rintro e w' ⟨rfl, ⟨nd, rfl⟩⟩; refine ⟨_, rfl, ?_⟩) | (go_at_call 18; (with_reducible refine (spindlelaw0_Num.calls 200 t172 _ A3.out).mono ?_); rintro e w' ⟨rfl, ⟨nd, rfl⟩⟩) | (go_at_call 18; (with_reducible refine (spindlelaw0_Num.calls 201 t173 _ A5.out).mono ?_); rintro e w' ⟨rfl, ⟨nd, rfl⟩⟩) | (go_at_call 18; (with_reducible refine (spindlelaw0_Num.calls 210 t174 _ A7.out).mono ?_); rintro e w' ⟨rfl, ⟨nd, rfl⟩⟩) | (go_at_call 18; (with_reducible refine (spindlelaw0_Num.calls 211 t175 _ A9.out).mono ?_); rintro e w' ⟨rfl, ⟨nd, rfl⟩⟩) | (go_at_call 18; (with_reducible refine (spindlelaw0_Num.calls 212 t176 _ A11.out).mono ?_); rintro e w' ⟨rfl, ⟨nd, rfl⟩⟩) | (go_at_call 18; (with_reducible refine (spindlelaw0_Num.calls 213 t177 _ A13.out).mono ?_); rintro e w' ⟨rfl, ⟨nd, rfl⟩⟩))
                go_ret
                exact ⟨by first | rfl | (simp; done) | (simp [*]; done), by repeat (first | exact Drawn0.refl _ | apply Drawn0.step)⟩
            · rw [if_neg c12] at H
              have c12b0 : (t176 == 212) = false := beq_eq_false_iff_ne.mpr c12
              have c12b1 : (t176 != 212) = true := bne_iff_ne.mpr c12
              obtain rfl := Option.some.inj H
              go_enter Try.func9, Try.ntmps9
              go_wp2_with (first | ((with_reducible refine gate_callee (f := 18) rfl ?_); refine goesL_ (some 1) rfl rfl Try.func18 (by kernel_rfl) rfl #[.int .i64 198] rfl (by (try simp only [List.map_toArray, List.map_cons, List.map_nil]); first | done | rfl | (simp only [List.length_drop, List.length_take]; rfl)) ?_; (with_reducible refine (spindlelaw0_Num.calls 198 t171 _ A1.out).mono ?_); rintro e w' ⟨rfl, ⟨nd, rfl⟩⟩; refine ⟨_, rfl, ?_⟩) | (go_at_call 18; (with_reducible refine (spindlelaw0_Num.calls 200 t172 _ A3.out).mono ?_); rintro e w' ⟨rfl, ⟨nd, rfl⟩⟩) | (go_at_call 18; (with_reducible refine (spindlelaw0_Num.calls 201 t173 _ A5.out).mono ?_); rintro e w' ⟨rfl, ⟨nd, rfl⟩⟩) | (go_at_call 18; (with_reducible refine (spindlelaw0_Num.calls 210 t174 _ A7.out).mono ?_); rintro e w' ⟨rfl, ⟨nd, rfl⟩⟩) | (go_at_call 18; (with_reducible refine (spindlelaw0_Num.calls 211 t175 _ A9.out).mono ?_); rintro e w' ⟨rfl, ⟨nd, rfl⟩⟩) | (go_at_call 18; (with_reducible refine (spindlelaw0_Num.calls 212 t176 _ A11.out).mono ?_); rintro e w' ⟨rfl, ⟨nd, rfl⟩⟩))
              go_ret
              exact ⟨by first | rfl | (simp; done) | (simp [*]; done), by repeat (first | exact Drawn0.refl _ | apply Drawn0.step)⟩
          · rw [if_neg c10] at H
            have c10b0 : (t175 == 211) = false := beq_eq_false_iff_ne.mpr c10
            have c10b1 : (t175 != 211) = true := bne_iff_ne.mpr c10
            obtain rfl := Option.some.inj H
            go_enter Try.func9, Try.ntmps9
            go_wp2_with (first | ((with_reducible refine gate_callee (f := 18) rfl ?_); refine goesL_ (some 1) rfl rfl Try.func18 (by kernel_rfl) rfl #[.int .i64 198] rfl (by (try simp only [List.map_toArray, List.map_cons, List.map_nil]); first | done | rfl | (simp only [List.length_drop, List.length_take]; rfl)) ?_; (with_reducible refine (spindlelaw0_Num.calls 198 t171 _ A1.out).mono ?_); rintro e w' ⟨rfl, ⟨nd, rfl⟩⟩; refine ⟨_, rfl, ?_⟩) | (go_at_call 18; (with_reducible refine (spindlelaw0_Num.calls 200 t172 _ A3.out).mono ?_); rintro e w' ⟨rfl, ⟨nd, rfl⟩⟩) | (go_at_call 18; (with_reducible refine (spindlelaw0_Num.calls 201 t173 _ A5.out).mono ?_); rintro e w' ⟨rfl, ⟨nd, rfl⟩⟩) | (go_at_call 18; (with_reducible refine (spindlelaw0_Num.calls 210 t174 _ A7.out).mono ?_); rintro e w' ⟨rfl, ⟨nd, rfl⟩⟩) | (go_at_call 18; (with_reducible refine (spindlelaw0_Num.calls 211 t175 _ A9.out).mono ?_); rintro e w' ⟨rfl, ⟨nd, rfl⟩⟩))
            go_ret
            exact ⟨by first | rfl | (simp; done) | (simp [*]; done), by repeat (first | exact Drawn0.refl _ | apply Drawn0.step)⟩
        · rw [if_neg c8] at H
          have c8b0 : (t174 == 210) = false := beq_eq_false_iff_ne.mpr c8
          have c8b1 : (t174 != 210) = true := bne_iff_ne.mpr c8
          obtain rfl := Option.some.inj H
          go_enter Try.func9, Try.ntmps9
          go_wp2_with (first | ((with_reducible refine gate_callee (f := 18) rfl ?_); refine goesL_ (some 1) rfl rfl Try.func18 (by kernel_rfl) rfl #[.int .i64 198] rfl (by (try simp only [List.map_toArray, List.map_cons, List.map_nil]); first | done | rfl | (simp only [List.length_drop, List.length_take]; rfl)) ?_; (with_reducible refine (spindlelaw0_Num.calls 198 t171 _ A1.out).mono ?_); rintro e w' ⟨rfl, ⟨nd, rfl⟩⟩; refine ⟨_, rfl, ?_⟩) | (go_at_call 18; (with_reducible refine (spindlelaw0_Num.calls 200 t172 _ A3.out).mono ?_); rintro e w' ⟨rfl, ⟨nd, rfl⟩⟩) | (go_at_call 18; (with_reducible refine (spindlelaw0_Num.calls 201 t173 _ A5.out).mono ?_); rintro e w' ⟨rfl, ⟨nd, rfl⟩⟩) | (go_at_call 18; (with_reducible refine (spindlelaw0_Num.calls 210 t174 _ A7.out).mono ?_); rintro e w' ⟨rfl, ⟨nd, rfl⟩⟩))
          go_ret
          exact ⟨by first | rfl | (simp; done) | (simp [*]; done), by repeat (first | exact Drawn0.refl _ | apply Drawn0.step)⟩
      · rw [if_neg c6] at H
        have c6b0 : (t173 == 201) = false := beq_eq_false_iff_ne.mpr c6
        have c6b1 : (t173 != 201) = true := bne_iff_ne.mpr c6
        obtain rfl := Option.some.inj H
        go_enter Try.func9, Try.ntmps9
        go_wp2_with (first | ((with_reducible refine gate_callee (f := 18) rfl ?_); refine goesL_ (some 1) rfl rfl Try.func18 (by kernel_rfl) rfl #[.int .i64 198] rfl (by (try simp only [List.map_toArray, List.map_cons, List.map_nil]); first | done | rfl | (simp only [List.length_drop, List.length_take]; rfl)) ?_; (with_reducible refine (spindlelaw0_Num.calls 198 t171 _ A1.out).mono ?_); rintro e w' ⟨rfl, ⟨nd, rfl⟩⟩; refine ⟨_, rfl, ?_⟩) | (go_at_call 18; (with_reducible refine (spindlelaw0_Num.calls 200 t172 _ A3.out).mono ?_); rintro e w' ⟨rfl, ⟨nd, rfl⟩⟩) | (go_at_call 18; (with_reducible refine (spindlelaw0_Num.calls 201 t173 _ A5.out).mono ?_); rintro e w' ⟨rfl, ⟨nd, rfl⟩⟩))
        go_ret
        exact ⟨by first | rfl | (simp; done) | (simp [*]; done), by repeat (first | exact Drawn0.refl _ | apply Drawn0.step)⟩
    · rw [if_neg c4] at H
      have c4b0 : (t172 == 200) = false := beq_eq_false_iff_ne.mpr c4
      have c4b1 : (t172 != 200) = true := bne_iff_ne.mpr c4
      obtain rfl := Option.some.inj H
      go_enter Try.func9, Try.ntmps9
      go_wp2_with (first | ((with_reducible refine gate_callee (f := 18) rfl ?_); refine goesL_ (some 1) rfl rfl Try.func18 (by kernel_rfl) rfl #[.int .i64 198] rfl (by (try simp only [List.map_toArray, List.map_cons, List.map_nil]); first | done | rfl | (simp only [List.length_drop, List.length_take]; rfl)) ?_; (with_reducible refine (spindlelaw0_Num.calls 198 t171 _ A1.out).mono ?_); rintro e w' ⟨rfl, ⟨nd, rfl⟩⟩; refine ⟨_, rfl, ?_⟩) | (go_at_call 18; (with_reducible refine (spindlelaw0_Num.calls 200 t172 _ A3.out).mono ?_); rintro e w' ⟨rfl, ⟨nd, rfl⟩⟩))
      go_ret
      exact ⟨by first | rfl | (simp; done) | (simp [*]; done), by repeat (first | exact Drawn0.refl _ | apply Drawn0.step)⟩
  · rw [if_neg c2] at H
    have c2b0 : (t171 == 198) = false := beq_eq_false_iff_ne.mpr c2
    have c2b1 : (t171 != 198) = true := bne_iff_ne.mpr c2
    obtain rfl := Option.some.inj H
    go_enter Try.func9, Try.ntmps9
    go_wp2_with (first | ((with_reducible refine gate_callee (f := 18) rfl ?_); refine goesL_ (some 1) rfl rfl Try.func18 (by kernel_rfl) rfl #[.int .i64 198] rfl (by (try simp only [List.map_toArray, List.map_cons, List.map_nil]); first | done | rfl | (simp only [List.length_drop, List.length_take]; rfl)) ?_; (with_reducible refine (spindlelaw0_Num.calls 198 t171 _ A1.out).mono ?_); rintro e w' ⟨rfl, ⟨nd, rfl⟩⟩; refine ⟨_, rfl, ?_⟩))
    go_ret
    exact ⟨by first | rfl | (simp; done) | (simp [*]; done), by repeat (first | exact Drawn0.refl _ | apply Drawn0.step)⟩

end Go.Proofs.Ytlodcfcpjcnlbaa.PSpindleNames
