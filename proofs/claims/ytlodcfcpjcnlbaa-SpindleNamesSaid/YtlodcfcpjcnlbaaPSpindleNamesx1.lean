-- PRINTED BY print.sh 35421559b90ae4d0a3588c463048766b98c2df88dd9212a6774a882060cdf62d: not written by this session
import Derived.Test.YtlodcfcpjcnlbaaPSpindleNamesx0
namespace Go.Proofs.Ytlodcfcpjcnlbaa.PSpindleNames
open Go.RowKit Go.Proofs.YtlodcfcpjcnlbaaW.PrintWords Go.Proofs.YtlodcfcpjcnlbaaW.PrintLast Go.Proofs.YtlodcfcpjcnlbaaW.PrintMore
attribute [local go_sem] max2_int min2_int max_two min_two max_three min_three max_four min_four   -- for this text's walks alone
set_option linter.unusedVariables false
set_option linter.unusedSimpArgs false

/-! ### spindlelaw0_Num: function 18 -/
def spindlelaw0_Num.f (a0 : Int) : Option (Int) := some a0
set_option maxHeartbeats 8000000 in
set_option maxRecDepth 100000 in
theorem spindlelaw0_Num.calls (a0 : Int) (r : Int) (w : World) (h : spindlelaw0_Num.f a0 = some r) :
    Calls Try.prog 18 #[.int .i64 a0] w fun e w' => e = .returned (.int .i64 r) ∧ Drawn0 w w' := by
  have H : (some a0) = some r := h
  clear h
  obtain rfl := Option.some.inj H
  go_enter Try.func18, Try.ntmps18
  go_wp2
  go_ret
  exact ⟨by first | rfl | (simp; done) | (simp [*]; done), by repeat (first | exact Drawn0.refl _ | apply Drawn0.step)⟩

/-! ### spindlelaw0_errors1: function 4 -/
def spindlelaw0_errors1.f  : Option (Bool) := (spindlelaw0_Num.f 0).bind fun t101 => (if t101 = 0 then ((spindlelaw0_Num.f 1).bind fun t102 => (if t102 = 1 then ((spindlelaw0_Num.f 20).bind fun t103 => (if t103 = 20 then ((spindlelaw0_Num.f 21).bind fun t104 => (if t104 = 21 then ((spindlelaw0_Num.f 30).bind fun t105 => (if t105 = 30 then ((spindlelaw0_Num.f 31).bind fun t106 => (if t106 = 31 then ((spindlelaw0_Num.f 32).bind fun t107 => (if t107 = 32 then ((spindlelaw0_Num.f 40).bind fun t108 => (if t108 = 40 then ((spindlelaw0_Num.f 41).bind fun t109 => (if t109 = 41 then ((spindlelaw0_Num.f 42).bind fun t110 => (if t110 = 42 then ((spindlelaw0_Num.f 50).bind fun t111 => (if t111 = 50 then ((spindlelaw0_Num.f 51).bind fun t112 => (if t112 = 51 then ((spindlelaw0_Num.f 52).bind fun t113 => (if t113 = 52 then ((spindlelaw0_Num.f 53).bind fun t114 => (some (t114 == 53))) else (some false))) else (some false))) else (some false))) else (some false))) else (some false))) else (some false))) else (some false))) else (some false))) else (some false))) else (some false))) else (some false))) else (some false))) else (some false))
set_option maxHeartbeats 8000000 in
set_option maxRecDepth 100000 in
theorem spindlelaw0_errors1.calls  (r : Bool) (w : World) (h : spindlelaw0_errors1.f  = some r) :
    Calls Try.prog 4 #[] w fun e w' => e = .returned (.bool r) ∧ Drawn0 w w' := by
  have H : ((spindlelaw0_Num.f 0).bind fun t101 => (if t101 = 0 then ((spindlelaw0_Num.f 1).bind fun t102 => (if t102 = 1 then ((spindlelaw0_Num.f 20).bind fun t103 => (if t103 = 20 then ((spindlelaw0_Num.f 21).bind fun t104 => (if t104 = 21 then ((spindlelaw0_Num.f 30).bind fun t105 => (if t105 = 30 then ((spindlelaw0_Num.f 31).bind fun t106 => (if t106 = 31 then ((spindlelaw0_Num.f 32).bind fun t107 => (if t107 = 32 then ((spindlelaw0_Num.f 40).bind fun t108 => (if t108 = 40 then ((spindlelaw0_Num.f 41).bind fun t109 => (if t109 = 41 then ((spindlelaw0_Num.f 42).bind fun t110 => (if t110 = 42 then ((spindlelaw0_Num.f 50).bind fun t111 => (if t111 = 50 then ((spindlelaw0_Num.f 51).bind fun t112 => (if t112 = 51 then ((spindlelaw0_Num.f 52).bind fun t113 => (if t113 = 52 then ((spindlelaw0_Num.f 53).bind fun t114 => (some (t114 == 53))) else (some false))) else (some false))) else (some false))) else (some false))) else (some false))) else (some false))) else (some false))) else (some false))) else (some false))) else (some false))) else (some false))) else (some false))) else (some false))) = some r := h
  clear h
  replace H := Option.bind_eq_some_iff.mp H
  obtain ⟨t101, A10, H⟩ := H
  replace H : (if t101 = 0 then ((spindlelaw0_Num.f 1).bind fun t102 => (if t102 = 1 then ((spindlelaw0_Num.f 20).bind fun t103 => (if t103 = 20 then ((spindlelaw0_Num.f 21).bind fun t104 => (if t104 = 21 then ((spindlelaw0_Num.f 30).bind fun t105 => (if t105 = 30 then ((spindlelaw0_Num.f 31).bind fun t106 => (if t106 = 31 then ((spindlelaw0_Num.f 32).bind fun t107 => (if t107 = 32 then ((spindlelaw0_Num.f 40).bind fun t108 => (if t108 = 40 then ((spindlelaw0_Num.f 41).bind fun t109 => (if t109 = 41 then ((spindlelaw0_Num.f 42).bind fun t110 => (if t110 = 42 then ((spindlelaw0_Num.f 50).bind fun t111 => (if t111 = 50 then ((spindlelaw0_Num.f 51).bind fun t112 => (if t112 = 51 then ((spindlelaw0_Num.f 52).bind fun t113 => (if t113 = 52 then ((spindlelaw0_Num.f 53).bind fun t114 => (some (t114 == 53))) else (some false))) else (some false))) else (some false))) else (some false))) else (some false))) else (some false))) else (some false))) else (some false))) else (some false))) else (some false))) else (some false))) else (some false))) else (some false)) = some r := H
  have A1 := Aside0.mk A10
  clear A10
  by_cases c2 : t101 = 0
  · rw [if_pos c2] at H
    have c2b0 : (t101 == 0) = true := beq_iff_eq.mpr c2
    have c2b1 : (t101 != 0) = false := bne_eq_false_iff_eq.mpr c2
    clear c2
    replace H := Option.bind_eq_some_iff.mp H
    obtain ⟨t102, A30, H⟩ := H
    replace H : (if t102 = 1 then ((spindlelaw0_Num.f 20).bind fun t103 => (if t103 = 20 then ((spindlelaw0_Num.f 21).bind fun t104 => (if t104 = 21 then ((spindlelaw0_Num.f 30).bind fun t105 => (if t105 = 30 then ((spindlelaw0_Num.f 31).bind fun t106 => (if t106 = 31 then ((spindlelaw0_Num.f 32).bind fun t107 => (if t107 = 32 then ((spindlelaw0_Num.f 40).bind fun t108 => (if t108 = 40 then ((spindlelaw0_Num.f 41).bind fun t109 => (if t109 = 41 then ((spindlelaw0_Num.f 42).bind fun t110 => (if t110 = 42 then ((spindlelaw0_Num.f 50).bind fun t111 => (if t111 = 50 then ((spindlelaw0_Num.f 51).bind fun t112 => (if t112 = 51 then ((spindlelaw0_Num.f 52).bind fun t113 => (if t113 = 52 then ((spindlelaw0_Num.f 53).bind fun t114 => (some (t114 == 53))) else (some false))) else (some false))) else (some false))) else (some false))) else (some false))) else (some false))) else (some false))) else (some false))) else (some false))) else (some false))) else (some false))) else (some false)) = some r := H
    have A3 := Aside0.mk A30
    clear A30
    by_cases c4 : t102 = 1
    · rw [if_pos c4] at H
      have c4b0 : (t102 == 1) = true := beq_iff_eq.mpr c4
      have c4b1 : (t102 != 1) = false := bne_eq_false_iff_eq.mpr c4
      clear c4
      replace H := Option.bind_eq_some_iff.mp H
      obtain ⟨t103, A50, H⟩ := H
      replace H : (if t103 = 20 then ((spindlelaw0_Num.f 21).bind fun t104 => (if t104 = 21 then ((spindlelaw0_Num.f 30).bind fun t105 => (if t105 = 30 then ((spindlelaw0_Num.f 31).bind fun t106 => (if t106 = 31 then ((spindlelaw0_Num.f 32).bind fun t107 => (if t107 = 32 then ((spindlelaw0_Num.f 40).bind fun t108 => (if t108 = 40 then ((spindlelaw0_Num.f 41).bind fun t109 => (if t109 = 41 then ((spindlelaw0_Num.f 42).bind fun t110 => (if t110 = 42 then ((spindlelaw0_Num.f 50).bind fun t111 => (if t111 = 50 then ((spindlelaw0_Num.f 51).bind fun t112 => (if t112 = 51 then ((spindlelaw0_Num.f 52).bind fun t113 => (if t113 = 52 then ((spindlelaw0_Num.f 53).bind fun t114 => (some (t114 == 53))) else (some false))) else (some false))) else (some false))) else (some false))) else (some false))) else (some false))) else (some false))) else (some false))) else (some false))) else (some false))) else (some false)) = some r := H
      have A5 := Aside0.mk A50
      clear A50
      by_cases c6 : t103 = 20
      · rw [if_pos c6] at H
        have c6b0 : (t103 == 20) = true := beq_iff_eq.mpr c6
        have c6b1 : (t103 != 20) = false := bne_eq_false_iff_eq.mpr c6
        clear c6
        replace H := Option.bind_eq_some_iff.mp H
        obtain ⟨t104, A70, H⟩ := H
        replace H : (if t104 = 21 then ((spindlelaw0_Num.f 30).bind fun t105 => (if t105 = 30 then ((spindlelaw0_Num.f 31).bind fun t106 => (if t106 = 31 then ((spindlelaw0_Num.f 32).bind fun t107 => (if t107 = 32 then ((spindlelaw0_Num.f 40).bind fun t108 => (if t108 = 40 then ((spindlelaw0_Num.f 41).bind fun t109 => (if t109 = 41 then ((spindlelaw0_Num.f 42).bind fun t110 => (if t110 = 42 then ((spindlelaw0_Num.f 50).bind fun t111 => (if t111 = 50 then ((spindlelaw0_Num.f 51).bind fun t112 => (if t112 = 51 then ((spindlelaw0_Num.f 52).bind fun t113 => (if t113 = 52 then ((spindlelaw0_Num.f 53).bind fun t114 => (some (t114 == 53))) else (some false))) else (some false))) else (some false))) else (some false))) else (some false))) else (some false))) else (some false))) else (some false))) else (some false))) else (some false)) = some r := H
        have A7 := Aside0.mk A70
        clear A70
        by_cases c8 : t104 = 21
        · rw [if_pos c8] at H
          have c8b0 : (t104 == 21) = true := beq_iff_eq.mpr c8
          have c8b1 : (t104 != 21) = false := bne_eq_false_iff_eq.mpr c8
          clear c8
          replace H := Option.bind_eq_some_iff.mp H
          obtain ⟨t105, A90, H⟩ := H
          replace H : (if t105 = 30 then ((spindlelaw0_Num.f 31).bind fun t106 => (if t106 = 31 then ((spindlelaw0_Num.f 32).bind fun t107 => (if t107 = 32 then ((spindlelaw0_Num.f 40).bind fun t108 => (if t108 = 40 then ((spindlelaw0_Num.f 41).bind fun t109 => (if t109 = 41 then ((spindlelaw0_Num.f 42).bind fun t110 => (if t110 = 42 then ((spindlelaw0_Num.f 50).bind fun t111 => (if t111 = 50 then ((spindlelaw0_Num.f 51).bind fun t112 => (if t112 = 51 then ((spindlelaw0_Num.f 52).bind fun t113 => (if t113 = 52 then ((spindlelaw0_Num.f 53).bind fun t114 => (some (t114 == 53))) else (some false))) else (some false))) else (some false))) else (some false))) else (some false))) else (some false))) else (some false))) else (some false))) else (some false)) = some r := H
          have A9 := Aside0.mk A90
          clear A90
          by_cases c10 : t105 = 30
          · rw [if_pos c10] at H
            have c10b0 : (t105 == 30) = true := beq_iff_eq.mpr c10
            have c10b1 : (t105 != 30) = false := bne_eq_false_iff_eq.mpr c10
            clear c10
            replace H := Option.bind_eq_some_iff.mp H
            obtain ⟨t106, A110, H⟩ := H
            replace H : (if t106 = 31 then ((spindlelaw0_Num.f 32).bind fun t107 => (if t107 = 32 then ((spindlelaw0_Num.f 40).bind fun t108 => (if t108 = 40 then ((spindlelaw0_Num.f 41).bind fun t109 => (if t109 = 41 then ((spindlelaw0_Num.f 42).bind fun t110 => (if t110 = 42 then ((spindlelaw0_Num.f 50).bind fun t111 => (if t111 = 50 then ((spindlelaw0_Num.f 51).bind fun t112 => (if t112 = 51 then ((spindlelaw0_Num.f 52).bind fun t113 => (if t113 = 52 then ((spindlelaw0_Num.f 53).bind fun t114 => (some (t114 == 53))) else (some false))) else (some false))) else (some false))) else (some false))) else (some false))) else (some false))) else (some false))) else (some false)) = some r := H
            have A11 := Aside0.mk A110
            clear A110
            by_cases c12 : t106 = 31
            · rw [if_pos c12] at H
              have c12b0 : (t106 == 31) = true := beq_iff_eq.mpr c12
              have c12b1 : (t106 != 31) = false := bne_eq_false_iff_eq.mpr c12
              clear c12
              replace H := Option.bind_eq_some_iff.mp H
              obtain ⟨t107, A130, H⟩ := H
              replace H : (if t107 = 32 then ((spindlelaw0_Num.f 40).bind fun t108 => (if t108 = 40 then ((spindlelaw0_Num.f 41).bind fun t109 => (if t109 = 41 then ((spindlelaw0_Num.f 42).bind fun t110 => (if t110 = 42 then ((spindlelaw0_Num.f 50).bind fun t111 => (if t111 = 50 then ((spindlelaw0_Num.f 51).bind fun t112 => (if t112 = 51 then ((spindlelaw0_Num.f 52).bind fun t113 => (if t113 = 52 then ((spindlelaw0_Num.f 53).bind fun t114 => (some (t114 == 53))) else (some false))) else (some false))) else (some false))) else (some false))) else (some false))) else (some false))) else (some false)) = some r := H
              have A13 := Aside0.mk A130
              clear A130
              by_cases c14 : t107 = 32
              · rw [if_pos c14] at H
                have c14b0 : (t107 == 32) = true := beq_iff_eq.mpr c14
                have c14b1 : (t107 != 32) = false := bne_eq_false_iff_eq.mpr c14
                clear c14
                replace H := Option.bind_eq_some_iff.mp H
                obtain ⟨t108, A150, H⟩ := H
                replace H : (if t108 = 40 then ((spindlelaw0_Num.f 41).bind fun t109 => (if t109 = 41 then ((spindlelaw0_Num.f 42).bind fun t110 => (if t110 = 42 then ((spindlelaw0_Num.f 50).bind fun t111 => (if t111 = 50 then ((spindlelaw0_Num.f 51).bind fun t112 => (if t112 = 51 then ((spindlelaw0_Num.f 52).bind fun t113 => (if t113 = 52 then ((spindlelaw0_Num.f 53).bind fun t114 => (some (t114 == 53))) else (some false))) else (some false))) else (some false))) else (some false))) else (some false))) else (some false)) = some r := H
                have A15 := Aside0.mk A150
                clear A150
                by_cases c16 : t108 = 40
                · rw [if_pos c16] at H
                  have c16b0 : (t108 == 40) = true := beq_iff_eq.mpr c16
                  have c16b1 : (t108 != 40) = false := bne_eq_false_iff_eq.mpr c16
                  clear c16
                  replace H := Option.bind_eq_some_iff.mp H
                  obtain ⟨t109, A170, H⟩ := H
                  replace H : (if t109 = 41 then ((spindlelaw0_Num.f 42).bind fun t110 => (if t110 = 42 then ((spindlelaw0_Num.f 50).bind fun t111 => (if t111 = 50 then ((spindlelaw0_Num.f 51).bind fun t112 => (if t112 = 51 then ((spindlelaw0_Num.f 52).bind fun t113 => (if t113 = 52 then ((spindlelaw0_Num.f 53).bind fun t114 => (some (t114 == 53))) else (some false))) else (some false))) else (some false))) else (some false))) else (some false)) = some r := H
                  have A17 := Aside0.mk A170
                  clear A170
                  by_cases c18 : t109 = 41
                  · rw [if_pos c18] at H
                    have c18b0 : (t109 == 41) = true := beq_iff_eq.mpr c18
                    have c18b1 : (t109 != 41) = false := bne_eq_false_iff_eq.mpr c18
                    clear c18
                    replace H := Option.bind_eq_some_iff.mp H
                    obtain ⟨t110, A190, H⟩ := H
                    replace H : (if t110 = 42 then ((spindlelaw0_Num.f 50).bind fun t111 => (if t111 = 50 then ((spindlelaw0_Num.f 51).bind fun t112 => (if t112 = 51 then ((spindlelaw0_Num.f 52).bind fun t113 => (if t113 = 52 then ((spindlelaw0_Num.f 53).bind fun t114 => (some (t114 == 53))) else (some false))) else (some false))) else (some false))) else (some false)) = some r := H
                    have A19 := Aside0.mk A190
                    clear A190
                    by_cases c20 : t110 = 42
                    · rw [if_pos c20] at H
                      have c20b0 : (t110 == 42) = true := beq_iff_eq.mpr c20
                      have c20b1 : (t110 != 42) = false := bne_eq_false_iff_eq.mpr c20
                      clear c20
                      replace H := Option.bind_eq_some_iff.mp H
                      obtain ⟨t111, A210, H⟩ := H
                      replace H : (if t111 = 50 then ((spindlelaw0_Num.f 51).bind fun t112 => (if t112 = 51 then ((spindlelaw0_Num.f 52).bind fun t113 => (if t113 = 52 then ((spindlelaw0_Num.f 53).bind fun t114 => (some (t114 == 53))) else (some false))) else (some false))) else (some false)) = some r := H
                      have A21 := Aside0.mk A210
                      clear A210
                      by_cases c22 : t111 = 50
                      · rw [if_pos c22] at H
                        have c22b0 : (t111 == 50) = true := beq_iff_eq.mpr c22
                        have c22b1 : (t111 != 50) = false := bne_eq_false_iff_eq.mpr c22
                        clear c22
                        replace H := Option.bind_eq_some_iff.mp H
                        obtain ⟨t112, A230, H⟩ := H
                        replace H : (if t112 = 51 then ((spindlelaw0_Num.f 52).bind fun t113 => (if t113 = 52 then ((spindlelaw0_Num.f 53).bind fun t114 => (some (t114 == 53))) else (some false))) else (some false)) = some r := H
                        have A23 := Aside0.mk A230
                        clear A230
                        by_cases c24 : t112 = 51
                        · rw [if_pos c24] at H
                          have c24b0 : (t112 == 51) = true := beq_iff_eq.mpr c24
                          have c24b1 : (t112 != 51) = false := bne_eq_false_iff_eq.mpr c24
                          clear c24
                          replace H := Option.bind_eq_some_iff.mp H
                          obtain ⟨t113, A250, H⟩ := H
                          replace H : (if t113 = 52 then ((spindlelaw0_Num.f 53).bind fun t114 => (some (t114 == 53))) else (some false)) = some r := H
                          have A25 := Aside0.mk A250
                          clear A250
                          by_cases c26 : t113 = 52
                          · rw [if_pos c26] at H
                            have c26b0 : (t113 == 52) = true := beq_iff_eq.mpr c26
                            have c26b1 : (t113 != 52) = false := bne_eq_false_iff_eq.mpr c26
                            clear c26
                            replace H := Option.bind_eq_some_iff.mp H
                            obtain ⟨t114, A270, H⟩ := H
                            replace H : (some (t114 == 53)) = some r := H
                            have A27 := Aside0.mk A270
                            clear A270
                            obtain rfl := Option.some.inj H
                            go_enter Try.func4, Try.ntmps4
                            go_wp2_with (first | ((with_reducible refine gate_callee (f := 18) rfl ?_); refine goesL_ (some 1) rfl rfl Try.func18 (by kernel_rfl) rfl #[.int .i64 0] rfl (by (try simp only [List.map_toArray, List.map_cons, List.map_nil]); first | done | rfl | (simp only [List.length_drop, List.length_take]; rfl)) ?_; (with_reducible refine (spindlelaw0_Num.calls 0 t101 _ A1.out).mono ?_); rintro e w' ⟨rfl, ⟨nd, rfl⟩⟩; refine ⟨_, rfl, ?_⟩) | (go_at_call 18; (with_reducible refine (spindlelaw0_Num.calls 1 t102 _ A3.out).mono ?_); rintro e w' ⟨rfl, ⟨nd, rfl⟩⟩) | (go_at_call 18; (with_reducible refine (spindlelaw0_Num.calls 20 t103 _ A5.out).mono ?_); rintro e w' ⟨rfl, ⟨nd, rfl⟩⟩) | (go_at_call 18; (with_reducible refine (spindlelaw0_Num.calls 21 t104 _ A7.out).mono ?_); rintro e w' ⟨rfl, ⟨nd, rfl⟩⟩) | (go_at_call 18; (with_reducible refine (spindlelaw0_Num.calls 30 t105 _ A9.out).mono ?_); rintro e w' ⟨rfl, ⟨nd, rfl⟩⟩) | (go_at_call 18; (with_reducible refine (spindlelaw0_Num.calls 31 t106 _ A11.out).mono ?_); rintro e w' ⟨rfl, ⟨nd, rfl⟩⟩) | (go_at_call 18; (with_reducible refine (spindlelaw0_Num.calls 32 t107 _ A13.out).mono ?_); rintro e w' ⟨rfl, ⟨nd, rfl⟩⟩) | (go_at_call 18; (with_reducible refine (spindlelaw0_Num.calls 40 t108 _ A15.out).mono ?_); rintro e w' ⟨rfl, ⟨nd, rfl⟩⟩) | (go_at_call 18; (with_reducible refine (spindlelaw0_Num.calls 41 t109 _ A17.out).mono ?_); rintro e w' ⟨rfl, ⟨nd, rfl⟩⟩) | (go_at_call 18; (with_reducible refine (spindlelaw0_Num.calls 42 t110 _ A19.out).mono ?_); rintro e w' ⟨rfl, ⟨nd, rfl⟩⟩) | (go_at_call 18; (with_reducible refine (spindlelaw0_Num.calls 50 t111 _ A21.out).mono ?_); rintro e w' ⟨rfl, ⟨nd, rfl⟩⟩) | (go_at_call 18; (with_reducible refine (spindlelaw0_Num.calls 51 t112 _ A23.out).mono ?_); rintro e w' ⟨rfl, ⟨nd, rfl⟩⟩) | (go_at_call 18; (with_reducible refine (spindlelaw0_Num.calls 52 t113 _ A25.out).mono ?_); rintro e w' ⟨rfl, ⟨nd, rfl⟩⟩) | (go_at_call 18; (with_reducible refine (spindlelaw0_Num.calls 53 t114 _ A27.out).mono ?_); rintro e w' ⟨rfl, ⟨nd, rfl⟩⟩))
                            go_ret
                            exact ⟨by first | rfl | (simp; done) | (simp [*]; done), by repeat (first | exact Drawn0.refl _ | apply Drawn0.step)⟩
                          · rw [if_neg c26] at H
                            have c26b0 : (t113 == 52) = false := beq_eq_false_iff_ne.mpr c26
                            have c26b1 : (t113 != 52) = true := bne_iff_ne.mpr c26
                            obtain rfl := Option.some.inj H
                            go_enter Try.func4, Try.ntmps4
                            go_wp2_with (first | ((with_reducible refine gate_callee (f := 18) rfl ?_); refine goesL_ (some 1) rfl rfl Try.func18 (by kernel_rfl) rfl #[.int .i64 0] rfl (by (try simp only [List.map_toArray, List.map_cons, List.map_nil]); first | done | rfl | (simp only [List.length_drop, List.length_take]; rfl)) ?_; (with_reducible refine (spindlelaw0_Num.calls 0 t101 _ A1.out).mono ?_); rintro e w' ⟨rfl, ⟨nd, rfl⟩⟩; refine ⟨_, rfl, ?_⟩) | (go_at_call 18; (with_reducible refine (spindlelaw0_Num.calls 1 t102 _ A3.out).mono ?_); rintro e w' ⟨rfl, ⟨nd, rfl⟩⟩) | (go_at_call 18; (with_reducible refine (spindlelaw0_Num.calls 20 t103 _ A5.out).mono ?_); rintro e w' ⟨rfl, ⟨nd, rfl⟩⟩) | (go_at_call 18; (with_reducible refine (spindlelaw0_Num.calls 21 t104 _ A7.out).mono ?_); rintro e w' ⟨rfl, ⟨nd, rfl⟩⟩) | (go_at_call 18; (with_reducible refine (spindlelaw0_Num.calls 30 t105 _ A9.out).mono ?_); rintro e w' ⟨rfl, ⟨nd, rfl⟩⟩) | (go_at_call 18; (with_reducible refine (spindlelaw0_Num.calls 31 t106 _ A11.out).mono ?_); rintro e w' ⟨rfl, ⟨nd, rfl⟩⟩) | (go_at_call 18; (with_reducible refine (spindlelaw0_Num.calls 32 t107 _ A13.out).mono ?_); rintro e w' ⟨rfl, ⟨nd, rfl⟩⟩) | (go_at_call 18; (with_reducible refine (spindlelaw0_Num.calls 40 t108 _ A15.out).mono ?_); rintro e w' ⟨rfl, ⟨nd, rfl⟩⟩) | (go_at_call 18; (with_reducible refine (spindlelaw0_Num.calls 41 t109 _ A17.out).mono ?_); rintro e w' ⟨rfl, ⟨nd, rfl⟩⟩) | (go_at_call 18; (with_reducible refine (spindlelaw0_Num.calls 42 t110 _ A19.out).mono ?_); rintro e w' ⟨rfl, ⟨nd, rfl⟩⟩) | (go_at_call 18; (with_reducible refine (spindlelaw0_Num.calls 50 t111 _ A21.out).mono ?_); rintro e w' ⟨rfl, ⟨nd, rfl⟩⟩) | (go_at_call 18; (with_reducible refine (spindlelaw0_Num.calls 51 t112 _ A23.out).mono ?_); rintro e w' ⟨rfl, ⟨nd, rfl⟩⟩) | (go_at_call 18; (with_reducible refine (spindlelaw0_Num.calls 52 t113 _ A25.out).mono ?_); rintro e w' ⟨rfl, ⟨nd, rfl⟩⟩))
                            go_ret
                            exact ⟨by first | rfl | (simp; done) | (simp [*]; done), by repeat (first | exact Drawn0.refl _ | apply Drawn0.step)⟩
                        · rw [if_neg c24] at H
                          have c24b0 : (t112 == 51) = false := beq_eq_false_iff_ne.mpr c24
                          have c24b1 : (t112 != 51) = true := bne_iff_ne.mpr c24
                          obtain rfl := Option.some.inj H
                          go_enter Try.func4, Try.ntmps4
                          go_wp2_with (first | ((with_reducible refine gate_callee (f := 18) rfl ?_); refine goesL_ (some 1) rfl rfl Try.func18 (by kernel_rfl) rfl #[.int .i64 0] rfl (by (try simp only [List.map_toArray, List.map_cons, List.map_nil]); first | done | rfl | (simp only [List.length_drop, List.length_take]; rfl)) ?_; (with_reducible refine (spindlelaw0_Num.calls 0 t101 _ A1.out).mono ?_); rintro e w' ⟨rfl, ⟨nd, rfl⟩⟩; refine ⟨_, rfl, ?_⟩) | (go_at_call 18; (with_reducible refine (spindlelaw0_Num.calls 1 t102 _ A3.out).mono ?_); rintro e w' ⟨rfl, ⟨nd, rfl⟩⟩) | (go_at_call 18; (with_reducible refine (spindlelaw0_Num.calls 20 t103 _ A5.out).mono ?_); rintro e w' ⟨rfl, ⟨nd, rfl⟩⟩) | (go_at_call 18; (with_reducible refine (spindlelaw0_Num.calls 21 t104 _ A7.out).mono ?_); rintro e w' ⟨rfl, ⟨nd, rfl⟩⟩) | (go_at_call 18; (with_reducible refine (spindlelaw0_Num.calls 30 t105 _ A9.out).mono ?_); rintro e w' ⟨rfl, ⟨nd, rfl⟩⟩) | (go_at_call 18; (with_reducible refine (spindlelaw0_Num.calls 31 t106 _ A11.out).mono ?_); rintro e w' ⟨rfl, ⟨nd, rfl⟩⟩) | (go_at_call 18; (with_reducible refine (spindlelaw0_Num.calls 32 t107 _ A13.out).mono ?_); rintro e w' ⟨rfl, ⟨nd, rfl⟩⟩) | (go_at_call 18; (with_reducible refine (spindlelaw0_Num.calls 40 t108 _ A15.out).mono ?_); rintro e w' ⟨rfl, ⟨nd, rfl⟩⟩) | (go_at_call 18; (with_reducible refine (spindlelaw0_Num.calls 41 t109 _ A17.out).mono ?_); rintro e w' ⟨rfl, ⟨nd, rfl⟩⟩) | (go_at_call 18; (with_reducible refine (spindlelaw0_Num.calls 42 t110 _ A19.out).mono ?_); rintro e w' ⟨rfl, ⟨nd, rfl⟩⟩) | (go_at_call 18; (with_reducible refine (spindlelaw0_Num.calls 50 t111 _ A21.out).mono ?_); rintro e w' ⟨rfl, ⟨nd, rfl⟩⟩) | (go_at_call 18; (with_reducible refine (spindlelaw0_Num.calls 51 t112 _ A23.out).mono ?_); rintro e w' ⟨rfl, ⟨nd, rfl⟩⟩))
                          go_ret
                          exact ⟨by first | rfl | (simp; done) | (simp [*]; done), by repeat (first | exact Drawn0.refl _ | apply Drawn0.step)⟩
                      · rw [if_neg c22] at H
                        have c22b0 : (t111 == 50) = false := beq_eq_false_iff_ne.mpr c22
                        have c22b1 : (t111 != 50) = true := bne_iff_ne.mpr c22
                        obtain rfl := Option.some.inj H
                        go_enter Try.func4, Try.ntmps4
                        go_wp2_with (first | ((with_reducible refine gate_callee (f := 18) rfl ?_); refine goesL_ (some 1) rfl rfl Try.func18 (by kernel_rfl) rfl #[.int .i64 0] rfl (by (try simp only [List.map_toArray, List.map_cons, List.map_nil]); first | done | rfl | (simp only [List.length_drop, List.length_take]; rfl)) ?_; (with_reducible refine (spindlelaw0_Num.calls 0 t101 _ A1.out).mono ?_); rintro e w' ⟨rfl, ⟨nd, rfl⟩⟩; refine ⟨_, rfl, ?_⟩) | (go_at_call 18; (with_reducible refine (spindlelaw0_Num.calls 1 t102 _ A3.out).mono ?_); rintro e w' ⟨rfl, ⟨nd, rfl⟩⟩) | (go_at_call 18; (with_reducible refine (spindlelaw0_Num.calls 20 t103 _ A5.out).mono ?_); rintro e w' ⟨rfl, ⟨nd, rfl⟩⟩) | (go_at_call 18; (with_reducible refine (spindlelaw0_Num.calls 21 t104 _ A7.out).mono ?_); rintro e w' ⟨rfl, ⟨nd, rfl⟩⟩) | (go_at_call 18; (with_reducible refine (spindlelaw0_Num.calls 30 t105 _ A9.out).mono ?_); rintro e w' ⟨rfl, ⟨nd, rfl⟩⟩) | (go_at_call 18; (with_reducible refine (spindlelaw0_Num.calls 31 t106 _ A11.out).mono ?_); rintro e w' ⟨rfl, ⟨nd, rfl⟩⟩) | (go_at_call 18; (with_reducible refine (spindlelaw0_Num.calls 32 t107 _ A13.out).mono ?_); rintro e w' ⟨rfl, ⟨nd, rfl⟩⟩) | (go_at_call 18; (with_reducible refine (spindlelaw0_Num.calls 40 t108 _ A15.out).mono ?_); rintro e w' ⟨rfl, ⟨nd, rfl⟩⟩) | (go_at_call 18; (with_reducible refine (spindlelaw0_Num.calls 41 t109 _ A17.out).mono ?_); rintro e w' ⟨rfl, ⟨nd, rfl⟩⟩) | (go_at_call 18; (with_reducible refine (spindlelaw0_Num.calls 42 t110 _ A19.out).mono ?_); rintro e w' ⟨rfl, ⟨nd, rfl⟩⟩) | (go_at_call 18; (with_reducible refine (spindlelaw0_Num.calls 50 t111 _ A21.out).mono ?_); rintro e w' ⟨rfl, ⟨nd, rfl⟩⟩))
                        go_ret
                        exact ⟨by first | rfl | (simp; done) | (simp [*]; done), by repeat (first | exact Drawn0.refl _ | apply Drawn0.step)⟩
                    · rw [if_neg c20] at H
                      have c20b0 : (t110 == 42) = false := beq_eq_false_iff_ne.mpr c20
                      have c20b1 : (t110 != 42) = true := bne_iff_ne.mpr c20
                      obtain rfl := Option.some.inj H
                      go_enter Try.func4, Try.ntmps4
                      go_wp2_with (first | ((with_reducible refine gate_callee (f := 18) rfl ?_); refine goesL_ (some 1) rfl rfl Try.func18 (by kernel_rfl) rfl #[.int .i64 0] rfl (by (try simp only [List.map_toArray, List.map_cons, List.map_nil]); first | done | rfl | (simp only [List.length_drop, List.length_take]; rfl)) ?_; (with_reducible refine (spindlelaw0_Num.calls 0 t101 _ A1.out).mono ?_); rintro e w' ⟨rfl, ⟨nd, rfl⟩⟩; refine ⟨_, rfl, ?_⟩) | (go_at_call 18; (with_reducible refine (spindlelaw0_Num.calls 1 t102 _ A3.out).mono ?_); rintro e w' ⟨rfl, ⟨nd, rfl⟩⟩) | (go_at_call 18; (with_reducible refine (spindlelaw0_Num.calls 20 t103 _ A5.out).mono ?_); rintro e w' ⟨rfl, ⟨nd, rfl⟩⟩) | (go_at_call 18; (with_reducible refine (spindlelaw0_Num.calls 21 t104 _ A7.out).mono ?_); rintro e w' ⟨rfl, ⟨nd, rfl⟩⟩) | (go_at_call 18; (with_reducible refine (spindlelaw0_Num.calls 30 t105 _ A9.out).mono ?_); rintro e w' ⟨rfl, ⟨nd, rfl⟩⟩) | (go_at_call 18; (with_reducible refine (spindlelaw0_Num.calls 31 t106 _ A11.out).mono ?_); rintro e w' ⟨rfl, ⟨nd, rfl⟩⟩) | (go_at_call 18; (with_reducible refine (spindlelaw0_Num.calls 32 t107 _ A13.out).mono ?_); rintro e w' ⟨rfl, ⟨nd, rfl⟩⟩) | (go_at_call 18; (with_reducible refine (spindlelaw0_Num.calls 40 t108 _ A15.out).mono ?_); rintro e w' ⟨rfl, ⟨nd, rfl⟩⟩) | (go_at_call 18; (with_reducible refine (spindlelaw0_Num.calls 41 t109 _ A17.out).mono ?_); rintro e w' ⟨rfl, ⟨nd, rfl⟩⟩) | (go_at_call 18; (with_reducible refine (spindlelaw0_Num.calls 42 t110 _ A19.out).mono ?_); rintro e w' ⟨rfl, ⟨nd, rfl⟩⟩))
                      go_ret
                      exact ⟨by first | rfl | (simp; done) | (simp [*]; done), by repeat (first | exact Drawn0.refl _ | apply Drawn0.step)⟩
                  · rw [if_neg c18] at H
                    have c18b0 : (t109 == 41) = false := beq_eq_false_iff_ne.mpr c18
                    have c18b1 : (t109 != 41) = true := bne_iff_ne.mpr c18
                    obtain rfl := Option.some.inj H
                    go_enter Try.func4, Try.ntmps4
                    go_wp2_with (first | ((with_reducible refine gate_callee (f := 18) rfl ?_); refine goesL_ (some 1) rfl rfl Try.func18 (by kernel_rfl) rfl #[.int .i64 0] rfl (by (try simp only [List.map_toArray, List.map_cons, List.map_nil]); first | done | rfl | (simp only [List.length_drop, List.length_take]; rfl)) ?_; (with_reducible refine (spindlelaw0_Num.calls 0 t101 _ A1.out).mono ?_); rintro e w' ⟨rfl, ⟨nd, rfl⟩⟩; refine ⟨_, rfl, ?_⟩) | (go_at_call 18; (with_reducible refine (spindlelaw0_Num.calls 1 t102 _ A3.out).mono ?_); rintro e w' ⟨rfl, ⟨nd, rfl⟩⟩) | (go_at_call 18; (with_reducible refine (spindlelaw0_Num.calls 20 t103 _ A5.out).mono ?_); rintro e w' ⟨rfl, ⟨nd, rfl⟩⟩) | (go_at_call 18; (with_reducible refine (spindlelaw0_Num.calls 21 t104 _ A7.out).mono ?_); rintro e w' ⟨rfl, ⟨nd, rfl⟩⟩) | (go_at_call 18; (with_reducible refine (spindlelaw0_Num.calls 30 t105 _ A9.out).mono ?_); rintro e w' ⟨rfl, ⟨nd, rfl⟩⟩) | (go_at_call 18; (with_reducible refine (spindlelaw0_Num.calls 31 t106 _ A11.out).mono ?_); rintro e w' ⟨rfl, ⟨nd, rfl⟩⟩) | (go_at_call 18; (with_reducible refine (spindlelaw0_Num.calls 32 t107 _ A13.out).mono ?_); rintro e w' ⟨rfl, ⟨nd, rfl⟩⟩) | (go_at_call 18; (with_reducible refine (spindlelaw0_Num.calls 40 t108 _ A15.out).mono ?_); rintro e w' ⟨rfl, ⟨nd, rfl⟩⟩) | (go_at_call 18; (with_reducible refine (spindlelaw0_Num.calls 41 t109 _ A17.out).mono ?_); rintro e w' ⟨rfl, ⟨nd, rfl⟩⟩))
                    go_ret
                    exact ⟨by first | rfl | (simp; done) | (simp [*]; done), by repeat (first | exact Drawn0.refl _ | apply Drawn0.step)⟩
                · rw [if_neg c16] at H
                  have c16b0 : (t108 == 40) = false := beq_eq_false_iff_ne.mpr c16
                  have c16b1 : (t108 != 40) = true := bne_iff_ne.mpr c16
                  obtain rfl := Option.some.inj H
                  go_enter Try.func4, Try.ntmps4
                  go_wp2_with (first | ((with_reducible refine gate_callee (f := 18) rfl ?_); refine goesL_ (some 1) rfl rfl Try.func18 (by kernel_rfl) rfl #[.int .i64 0] rfl (by (try simp only [List.map_toArray, List.map_cons, List.map_nil]); first | done | rfl | (simp only [List.length_drop, List.length_take]; rfl)) ?_; (with_reducible refine (spindlelaw0_Num.calls 0 t101 _ A1.out).mono ?_); rintro e w' ⟨rfl, ⟨nd, rfl⟩⟩; refine ⟨_, rfl, ?_⟩) | (go_at_call 18; (with_reducible refine (spindlelaw0_Num.calls 1 t102 _ A3.out).mono ?_); rintro e w' ⟨rfl, ⟨nd, rfl⟩⟩) | (go_at_call 18; (with_reducible refine (spindlelaw0_Num.calls 20 t103 _ A5.out).mono ?_); rintro e w' ⟨rfl, ⟨nd, rfl⟩⟩) | (go_at_call 18; (with_reducible refine (spindlelaw0_Num.calls 21 t104 _ A7.out).mono ?_); rintro e w' ⟨rfl, ⟨nd, rfl⟩⟩) | (go_at_call 18; (with_reducible refine (spindlelaw0_Num.calls 30 t105 _ A9.out).mono ?_); rintro e w' ⟨rfl, ⟨nd, rfl⟩⟩) | (go_at_call 18; (with_reducible refine (spindlelaw0_Num.calls 31 t106 _ A11.out).mono ?_); rintro e w' ⟨rfl, ⟨nd, rfl⟩⟩) | (go_at_call 18; (with_reducible refine (spindlelaw0_Num.calls 32 t107 _ A13.out).mono ?_); rintro e w' ⟨rfl, ⟨nd, rfl⟩⟩) | (go_at_call 18; (with_reducible refine (spindlelaw0_Num.calls 40 t108 _ A15.out).mono ?_); rintro e w' ⟨rfl, ⟨nd, rfl⟩⟩))
                  go_ret
                  exact ⟨by first | rfl | (simp; done) | (simp [*]; done), by repeat (first | exact Drawn0.refl _ | apply Drawn0.step)⟩
              · rw [if_neg c14] at H
                have c14b0 : (t107 == 32) = false := beq_eq_false_iff_ne.mpr c14
                have c14b1 : (t107 != 32) = true := bne_iff_ne.mpr c14
                obtain rfl := Option.some.inj H
                go_enter Try.func4, Try.ntmps4
                go_wp2_with (first | ((with_reducible refine gate_callee (f := 18) rfl ?_); refine goesL_ (some 1) rfl rfl Try.func18 (by kernel_rfl) rfl #[.int .i64 0] rfl (by (try simp only [List.map_toArray, List.map_cons, List.map_nil]); first | done | rfl | (simp only [List.length_drop, List.length_take]; rfl)) ?_; (with_reducible refine (spindlelaw0_Num.calls 0 t101 _ A1.out).mono ?_); rintro e w' ⟨rfl, ⟨nd, rfl⟩⟩; refine ⟨_, rfl, ?_⟩) | (go_at_call 18; (with_reducible refine (spindlelaw0_Num.calls 1 t102 _ A3.out).mono ?_); rintro e w' ⟨rfl, ⟨nd, rfl⟩⟩) | (go_at_call 18; (with_reducible refine (spindlelaw0_Num.calls 20 t103 _ A5.out).mono ?_); rintro e w' ⟨rfl, ⟨nd, rfl⟩⟩) | (go_at_call 18; (with_reducible refine (spindlelaw0_Num.calls 21 t104 _ A7.out).mono ?_); rintro e w' ⟨rfl, ⟨nd, rfl⟩⟩) | (go_at_call 18; (with_reducible refine (spindlelaw0_Num.calls 30 t105 _ A9.out).mono ?_); rintro e w' ⟨rfl, ⟨nd, rfl⟩⟩) | (go_at_call 18; (with_reducible refine (spindlelaw0_Num.calls 31 t106 _ A11.out).mono ?_); rintro e w' ⟨rfl, ⟨nd, rfl⟩⟩) | (go_at_call 18; (with_reducible refine (spindlelaw0_Num.calls 32 t107 _ A13.out).mono ?_); rintro e w' ⟨rfl, ⟨nd, rfl⟩⟩))
                go_ret
                exact ⟨by first | rfl | (simp; done) | (simp [*]; done), by repeat (first | exact Drawn0.refl _ | apply Drawn0.step)⟩
            · rw [if_neg c12] at H
              have c12b0 : (t106 == 31) = false := beq_eq_false_iff_ne.mpr c12
              have c12b1 : (t106 != 31) = true := bne_iff_ne.mpr c12
              obtain rfl := Option.some.inj H
              go_enter Try.func4, Try.ntmps4
              go_wp2_with (first | ((with_reducible refine gate_callee (f := 18) rfl ?_); refine goesL_ (some 1) rfl rfl Try.func18 (by kernel_rfl) rfl #[.int .i64 0] rfl (by (try simp only [List.map_toArray, List.map_cons, List.map_nil]); first | done | rfl | (simp only [List.length_drop, List.length_take]; rfl)) ?_; (with_reducible refine (spindlelaw0_Num.calls 0 t101 _ A1.out).mono ?_); rintro e w' ⟨rfl, ⟨nd, rfl⟩⟩; refine ⟨_, rfl, ?_⟩) | (go_at_call 18; (with_reducible refine (spindlelaw0_Num.calls 1 t102 _ A3.out).mono ?_); rintro e w' ⟨rfl, ⟨nd, rfl⟩⟩) | (go_at_call 18; (with_reducible refine (spindlelaw0_Num.calls 20 t103 _ A5.out).mono ?_); rintro e w' ⟨rfl, ⟨nd, rfl⟩⟩) | (go_at_call 18; (with_reducible refine (spindlelaw0_Num.calls 21 t104 _ A7.out).mono ?_); rintro e w' ⟨rfl, ⟨nd, rfl⟩⟩) | (go_at_call 18; (with_reducible refine (spindlelaw0_Num.calls 30 t105 _ A9.out).mono ?_); rintro e w' ⟨rfl, ⟨nd, rfl⟩⟩) | (go_at_call 18; (with_reducible refine (spindlelaw0_Num.calls 31 t106 _ A11.out).mono ?_); rintro e w' ⟨rfl, ⟨nd, rfl⟩⟩))
              go_ret
              exact ⟨by first | rfl | (simp; done) | (simp [*]; done), by repeat (first | exact Drawn0.refl _ | apply Drawn0.step)⟩
          · rw [if_neg c10] at H
            have c10b0 : (t105 == 30) = false := beq_eq_false_iff_ne.mpr c10
            have c10b1 : (t105 != 30) = true := bne_iff_ne.mpr c10
            obtain rfl := Option.some.inj H
            go_enter Try.func4, Try.ntmps4
            go_wp2_with (first | ((with_reducible refine gate_callee (f := 18) rfl ?_); refine goesL_ (some 1) rfl rfl Try.func18 (by kernel_rfl) rfl #[.int .i64 0] rfl (by (try simp only [List.map_toArray, List.map_cons, List.map_nil]); first | done | rfl | (simp only [List.length_drop, List.length_take]; rfl)) ?_; (with_reducible refine (spindlelaw0_Num.calls 0 t101 _ A1.out).mono ?_); rintro e w' ⟨rfl, ⟨nd, rfl⟩⟩; refine ⟨_, rfl, ?_⟩) | (go_at_call 18; (with_reducible refine (spindlelaw0_Num.calls 1 t102 _ A3.out).mono ?_); rintro e w' ⟨rfl, ⟨nd, rfl⟩⟩) | (go_at_call 18; (with_reducible refine (spindlelaw0_Num.calls 20 t103 _ A5.out).mono ?_); rintro e w' ⟨rfl, ⟨nd, rfl⟩⟩) | (go_at_call 18; (with_reducible refine (spindlelaw0_Num.calls 21 t104 _ A7.out).mono ?_); rintro e w' ⟨rfl, ⟨nd, rfl⟩⟩) | (go_at_call 18; (with_reducible refine (spindlelaw0_Num.calls 30 t105 _ A9.out).mono ?_); rintro e w' ⟨rfl, ⟨nd, rfl⟩⟩))
            go_ret
            exact ⟨by first | rfl | (simp; done) | (simp [*]; done), by repeat (first | exact Drawn0.refl _ | apply Drawn0.step)⟩
        · rw [if_neg c8] at H
          have c8b0 : (t104 == 21) = false := beq_eq_false_iff_ne.mpr c8
          have c8b1 : (t104 != 21) = true := bne_iff_ne.mpr c8
          obtain rfl := Option.some.inj H
          go_enter Try.func4, Try.ntmps4
          go_wp2_with (first | ((with_reducible refine gate_callee (f := 18) rfl ?_); refine goesL_ (some 1) rfl rfl Try.func18 (by kernel_rfl) rfl #[.int .i64 0] rfl (by (try simp only [List.map_toArray, List.map_cons, List.map_nil]); first | done | rfl | (simp only [List.length_drop, List.length_take]; rfl)) ?_; (with_reducible refine (spindlelaw0_Num.calls 0 t101 _ A1.out).mono ?_); rintro e w' ⟨rfl, ⟨nd, rfl⟩⟩; refine ⟨_, rfl, ?_⟩) | (go_at_call 18; (with_reducible refine (spindlelaw0_Num.calls 1 t102 _ A3.out).mono ?_); rintro e w' ⟨rfl, ⟨nd, rfl⟩⟩) | (go_at_call 18; (with_reducible refine (spindlelaw0_Num.calls 20 t103 _ A5.out).mono ?_); rintro e w' ⟨rfl, ⟨nd, rfl⟩⟩) | (go_at_call 18; (with_reducible refine (spindlelaw0_Num.calls 21 t104 _ A7.out).mono ?_); rintro e w' ⟨rfl, ⟨nd, rfl⟩⟩))
          go_ret
          exact ⟨by first | rfl | (simp; done) | (simp [*]; done), by repeat (first | exact Drawn0.refl _ | apply Drawn0.step)⟩
      · rw [if_neg c6] at H
        have c6b0 : (t103 == 20) = false := beq_eq_false_iff_ne.mpr c6
        have c6b1 : (t103 != 20) = true := bne_iff_ne.mpr c6
        obtain rfl := Option.some.inj H
        go_enter Try.func4, Try.ntmps4
        go_wp2_with (first | ((with_reducible refine gate_callee (f := 18) rfl ?_); refine goesL_ (some 1) rfl rfl Try.func18 (by kernel_rfl) rfl #[.int .i64 0] rfl (by (try simp only [List.map_toArray, List.map_cons, List.map_nil]); first | done | rfl | (simp only [List.length_drop, List.length_take]; rfl)) ?_; (with_reducible refine (spindlelaw0_Num.calls 0 t101 _ A1.out).mono ?_); rintro e w' ⟨rfl, ⟨nd, rfl⟩⟩; refine ⟨_, rfl, ?_⟩) | (go_at_call 18; (with_reducible refine (spindlelaw0_Num.calls 1 t102 _ A3.out).mono ?_); rintro e w' ⟨rfl, ⟨nd, rfl⟩⟩) | (go_at_call 18; (with_reducible refine (spindlelaw0_Num.calls 20 t103 _ A5.out).mono ?_); rintro e w' ⟨rfl, ⟨nd, rfl⟩⟩))
        go_ret
        exact ⟨by first | rfl | (simp; done) | (simp [*]; done), by repeat (first | exact Drawn0.refl _ | apply Drawn0.step)⟩
    · rw [if_neg c4] at H
      have c4b0 : (t102 == 1) = false := beq_eq_false_iff_ne.mpr c4
      have c4b1 : (t102 != 1) = true := bne_iff_ne.mpr c4
      obtain rfl := Option.some.inj H
      go_enter Try.func4, Try.ntmps4
      go_wp2_with (first | ((with_reducible refine gate_callee (f := 18) rfl ?_); refine goesL_ (some 1) rfl rfl Try.func18 (by kernel_rfl) rfl #[.int .i64 0] rfl (by (try simp only [List.map_toArray, List.map_cons, List.map_nil]); first | done | rfl | (simp only [List.length_drop, List.length_take]; rfl)) ?_; (with_reducible refine (spindlelaw0_Num.calls 0 t101 _ A1.out).mono ?_); rintro e w' ⟨rfl, ⟨nd, rfl⟩⟩; refine ⟨_, rfl, ?_⟩) | (go_at_call 18; (with_reducible refine (spindlelaw0_Num.calls 1 t102 _ A3.out).mono ?_); rintro e w' ⟨rfl, ⟨nd, rfl⟩⟩))
      go_ret
      exact ⟨by first | rfl | (simp; done) | (simp [*]; done), by repeat (first | exact Drawn0.refl _ | apply Drawn0.step)⟩
  · rw [if_neg c2] at H
    have c2b0 : (t101 == 0) = false := beq_eq_false_iff_ne.mpr c2
    have c2b1 : (t101 != 0) = true := bne_iff_ne.mpr c2
    obtain rfl := Option.some.inj H
    go_enter Try.func4, Try.ntmps4
    go_wp2_with (first | ((with_reducible refine gate_callee (f := 18) rfl ?_); refine goesL_ (some 1) rfl rfl Try.func18 (by kernel_rfl) rfl #[.int .i64 0] rfl (by (try simp only [List.map_toArray, List.map_cons, List.map_nil]); first | done | rfl | (simp only [List.length_drop, List.length_take]; rfl)) ?_; (with_reducible refine (spindlelaw0_Num.calls 0 t101 _ A1.out).mono ?_); rintro e w' ⟨rfl, ⟨nd, rfl⟩⟩; refine ⟨_, rfl, ?_⟩))
    go_ret
    exact ⟨by first | rfl | (simp; done) | (simp [*]; done), by repeat (first | exact Drawn0.refl _ | apply Drawn0.step)⟩

/-! ### spindlelaw0_errors2: function 5 -/
def spindlelaw0_errors2.f  : Option (Bool) := (spindlelaw0_Num.f 54).bind fun t115 => (if t115 = 54 then ((spindlelaw0_Num.f 60).bind fun t116 => (if t116 = 60 then ((spindlelaw0_Num.f 61).bind fun t117 => (if t117 = 61 then ((spindlelaw0_Num.f 70).bind fun t118 => (if t118 = 70 then ((spindlelaw0_Num.f 71).bind fun t119 => (if t119 = 71 then ((spindlelaw0_Num.f 72).bind fun t120 => (if t120 = 72 then ((spindlelaw0_Num.f 73).bind fun t121 => (if t121 = 73 then ((spindlelaw0_Num.f 74).bind fun t122 => (if t122 = 74 then ((spindlelaw0_Num.f 75).bind fun t123 => (if t123 = 75 then ((spindlelaw0_Num.f 76).bind fun t124 => (if t124 = 76 then ((spindlelaw0_Num.f 80).bind fun t125 => (if t125 = 80 then ((spindlelaw0_Num.f 81).bind fun t126 => (if t126 = 81 then ((spindlelaw0_Num.f 90).bind fun t127 => (if t127 = 90 then ((spindlelaw0_Num.f 91).bind fun t128 => (some (t128 == 91))) else (some false))) else (some false))) else (some false))) else (some false))) else (some false))) else (some false))) else (some false))) else (some false))) else (some false))) else (some false))) else (some false))) else (some false))) else (some false))
set_option maxHeartbeats 8000000 in
set_option maxRecDepth 100000 in
theorem spindlelaw0_errors2.calls  (r : Bool) (w : World) (h : spindlelaw0_errors2.f  = some r) :
    Calls Try.prog 5 #[] w fun e w' => e = .returned (.bool r) ∧ Drawn0 w w' := by
  have H : ((spindlelaw0_Num.f 54).bind fun t115 => (if t115 = 54 then ((spindlelaw0_Num.f 60).bind fun t116 => (if t116 = 60 then ((spindlelaw0_Num.f 61).bind fun t117 => (if t117 = 61 then ((spindlelaw0_Num.f 70).bind fun t118 => (if t118 = 70 then ((spindlelaw0_Num.f 71).bind fun t119 => (if t119 = 71 then ((spindlelaw0_Num.f 72).bind fun t120 => (if t120 = 72 then ((spindlelaw0_Num.f 73).bind fun t121 => (if t121 = 73 then ((spindlelaw0_Num.f 74).bind fun t122 => (if t122 = 74 then ((spindlelaw0_Num.f 75).bind fun t123 => (if t123 = 75 then ((spindlelaw0_Num.f 76).bind fun t124 => (if t124 = 76 then ((spindlelaw0_Num.f 80).bind fun t125 => (if t125 = 80 then ((spindlelaw0_Num.f 81).bind fun t126 => (if t126 = 81 then ((spindlelaw0_Num.f 90).bind fun t127 => (if t127 = 90 then ((spindlelaw0_Num.f 91).bind fun t128 => (some (t128 == 91))) else (some false))) else (some false))) else (some false))) else (some false))) else (some false))) else (some false))) else (some false))) else (some false))) else (some false))) else (some false))) else (some false))) else (some false))) else (some false))) = some r := h
  clear h
  replace H := Option.bind_eq_some_iff.mp H
  obtain ⟨t115, A10, H⟩ := H
  replace H : (if t115 = 54 then ((spindlelaw0_Num.f 60).bind fun t116 => (if t116 = 60 then ((spindlelaw0_Num.f 61).bind fun t117 => (if t117 = 61 then ((spindlelaw0_Num.f 70).bind fun t118 => (if t118 = 70 then ((spindlelaw0_Num.f 71).bind fun t119 => (if t119 = 71 then ((spindlelaw0_Num.f 72).bind fun t120 => (if t120 = 72 then ((spindlelaw0_Num.f 73).bind fun t121 => (if t121 = 73 then ((spindlelaw0_Num.f 74).bind fun t122 => (if t122 = 74 then ((spindlelaw0_Num.f 75).bind fun t123 => (if t123 = 75 then ((spindlelaw0_Num.f 76).bind fun t124 => (if t124 = 76 then ((spindlelaw0_Num.f 80).bind fun t125 => (if t125 = 80 then ((spindlelaw0_Num.f 81).bind fun t126 => (if t126 = 81 then ((spindlelaw0_Num.f 90).bind fun t127 => (if t127 = 90 then ((spindlelaw0_Num.f 91).bind fun t128 => (some (t128 == 91))) else (some false))) else (some false))) else (some false))) else (some false))) else (some false))) else (some false))) else (some false))) else (some false))) else (some false))) else (some false))) else (some false))) else (some false))) else (some false)) = some r := H
  have A1 := Aside0.mk A10
  clear A10
  by_cases c2 : t115 = 54
  · rw [if_pos c2] at H
    have c2b0 : (t115 == 54) = true := beq_iff_eq.mpr c2
    have c2b1 : (t115 != 54) = false := bne_eq_false_iff_eq.mpr c2
    clear c2
    replace H := Option.bind_eq_some_iff.mp H
    obtain ⟨t116, A30, H⟩ := H
    replace H : (if t116 = 60 then ((spindlelaw0_Num.f 61).bind fun t117 => (if t117 = 61 then ((spindlelaw0_Num.f 70).bind fun t118 => (if t118 = 70 then ((spindlelaw0_Num.f 71).bind fun t119 => (if t119 = 71 then ((spindlelaw0_Num.f 72).bind fun t120 => (if t120 = 72 then ((spindlelaw0_Num.f 73).bind fun t121 => (if t121 = 73 then ((spindlelaw0_Num.f 74).bind fun t122 => (if t122 = 74 then ((spindlelaw0_Num.f 75).bind fun t123 => (if t123 = 75 then ((spindlelaw0_Num.f 76).bind fun t124 => (if t124 = 76 then ((spindlelaw0_Num.f 80).bind fun t125 => (if t125 = 80 then ((spindlelaw0_Num.f 81).bind fun t126 => (if t126 = 81 then ((spindlelaw0_Num.f 90).bind fun t127 => (if t127 = 90 then ((spindlelaw0_Num.f 91).bind fun t128 => (some (t128 == 91))) else (some false))) else (some false))) else (some false))) else (some false))) else (some false))) else (some false))) else (some false))) else (some false))) else (some false))) else (some false))) else (some false))) else (some false)) = some r := H
    have A3 := Aside0.mk A30
    clear A30
    by_cases c4 : t116 = 60
    · rw [if_pos c4] at H
      have c4b0 : (t116 == 60) = true := beq_iff_eq.mpr c4
      have c4b1 : (t116 != 60) = false := bne_eq_false_iff_eq.mpr c4
      clear c4
      replace H := Option.bind_eq_some_iff.mp H
      obtain ⟨t117, A50, H⟩ := H
      replace H : (if t117 = 61 then ((spindlelaw0_Num.f 70).bind fun t118 => (if t118 = 70 then ((spindlelaw0_Num.f 71).bind fun t119 => (if t119 = 71 then ((spindlelaw0_Num.f 72).bind fun t120 => (if t120 = 72 then ((spindlelaw0_Num.f 73).bind fun t121 => (if t121 = 73 then ((spindlelaw0_Num.f 74).bind fun t122 => (if t122 = 74 then ((spindlelaw0_Num.f 75).bind fun t123 => (if t123 = 75 then ((spindlelaw0_Num.f 76).bind fun t124 => (if t124 = 76 then ((spindlelaw0_Num.f 80).bind fun t125 => (if t125 = 80 then ((spindlelaw0_Num.f 81).bind fun t126 => (if t126 = 81 then ((spindlelaw0_Num.f 90).bind fun t127 => (if t127 = 90 then ((spindlelaw0_Num.f 91).bind fun t128 => (some (t128 == 91))) else (some false))) else (some false))) else (some false))) else (some false))) else (some false))) else (some false))) else (some false))) else (some false))) else (some false))) else (some false))) else (some false)) = some r := H
      have A5 := Aside0.mk A50
      clear A50
      by_cases c6 : t117 = 61
      · rw [if_pos c6] at H
        have c6b0 : (t117 == 61) = true := beq_iff_eq.mpr c6
        have c6b1 : (t117 != 61) = false := bne_eq_false_iff_eq.mpr c6
        clear c6
        replace H := Option.bind_eq_some_iff.mp H
        obtain ⟨t118, A70, H⟩ := H
        replace H : (if t118 = 70 then ((spindlelaw0_Num.f 71).bind fun t119 => (if t119 = 71 then ((spindlelaw0_Num.f 72).bind fun t120 => (if t120 = 72 then ((spindlelaw0_Num.f 73).bind fun t121 => (if t121 = 73 then ((spindlelaw0_Num.f 74).bind fun t122 => (if t122 = 74 then ((spindlelaw0_Num.f 75).bind fun t123 => (if t123 = 75 then ((spindlelaw0_Num.f 76).bind fun t124 => (if t124 = 76 then ((spindlelaw0_Num.f 80).bind fun t125 => (if t125 = 80 then ((spindlelaw0_Num.f 81).bind fun t126 => (if t126 = 81 then ((spindlelaw0_Num.f 90).bind fun t127 => (if t127 = 90 then ((spindlelaw0_Num.f 91).bind fun t128 => (some (t128 == 91))) else (some false))) else (some false))) else (some false))) else (some false))) else (some false))) else (some false))) else (some false))) else (some false))) else (some false))) else (some false)) = some r := H
        have A7 := Aside0.mk A70
        clear A70
        by_cases c8 : t118 = 70
        · rw [if_pos c8] at H
          have c8b0 : (t118 == 70) = true := beq_iff_eq.mpr c8
          have c8b1 : (t118 != 70) = false := bne_eq_false_iff_eq.mpr c8
          clear c8
          replace H := Option.bind_eq_some_iff.mp H
          obtain ⟨t119, A90, H⟩ := H
          replace H : (if t119 = 71 then ((spindlelaw0_Num.f 72).bind fun t120 => (if t120 = 72 then ((spindlelaw0_Num.f 73).bind fun t121 => (if t121 = 73 then ((spindlelaw0_Num.f 74).bind fun t122 => (if t122 = 74 then ((spindlelaw0_Num.f 75).bind fun t123 => (if t123 = 75 then ((spindlelaw0_Num.f 76).bind fun t124 => (if t124 = 76 then ((spindlelaw0_Num.f 80).bind fun t125 => (if t125 = 80 then ((spindlelaw0_Num.f 81).bind fun t126 => (if t126 = 81 then ((spindlelaw0_Num.f 90).bind fun t127 => (if t127 = 90 then ((spindlelaw0_Num.f 91).bind fun t128 => (some (t128 == 91))) else (some false))) else (some false))) else (some false))) else (some false))) else (some false))) else (some false))) else (some false))) else (some false))) else (some false)) = some r := H
          have A9 := Aside0.mk A90
          clear A90
          by_cases c10 : t119 = 71
          · rw [if_pos c10] at H
            have c10b0 : (t119 == 71) = true := beq_iff_eq.mpr c10
            have c10b1 : (t119 != 71) = false := bne_eq_false_iff_eq.mpr c10
            clear c10
            replace H := Option.bind_eq_some_iff.mp H
            obtain ⟨t120, A110, H⟩ := H
            replace H : (if t120 = 72 then ((spindlelaw0_Num.f 73).bind fun t121 => (if t121 = 73 then ((spindlelaw0_Num.f 74).bind fun t122 => (if t122 = 74 then ((spindlelaw0_Num.f 75).bind fun t123 => (if t123 = 75 then ((spindlelaw0_Num.f 76).bind fun t124 => (if t124 = 76 then ((spindlelaw0_Num.f 80).bind fun t125 => (if t125 = 80 then ((spindlelaw0_Num.f 81).bind fun t126 => (if t126 = 81 then ((spindlelaw0_Num.f 90).bind fun t127 => (if t127 = 90 then ((spindlelaw0_Num.f 91).bind fun t128 => (some (t128 == 91))) else (some false))) else (some false))) else (some false))) else (some false))) else (some false))) else (some false))) else (some false))) else (some false)) = some r := H
            have A11 := Aside0.mk A110
            clear A110
            by_cases c12 : t120 = 72
            · rw [if_pos c12] at H
              have c12b0 : (t120 == 72) = true := beq_iff_eq.mpr c12
              have c12b1 : (t120 != 72) = false := bne_eq_false_iff_eq.mpr c12
              clear c12
              replace H := Option.bind_eq_some_iff.mp H
              obtain ⟨t121, A130, H⟩ := H
              replace H : (if t121 = 73 then ((spindlelaw0_Num.f 74).bind fun t122 => (if t122 = 74 then ((spindlelaw0_Num.f 75).bind fun t123 => (if t123 = 75 then ((spindlelaw0_Num.f 76).bind fun t124 => (if t124 = 76 then ((spindlelaw0_Num.f 80).bind fun t125 => (if t125 = 80 then ((spindlelaw0_Num.f 81).bind fun t126 => (if t126 = 81 then ((spindlelaw0_Num.f 90).bind fun t127 => (if t127 = 90 then ((spindlelaw0_Num.f 91).bind fun t128 => (some (t128 == 91))) else (some false))) else (some false))) else (some false))) else (some false))) else (some false))) else (some false))) else (some false)) = some r := H
              have A13 := Aside0.mk A130
              clear A130
              by_cases c14 : t121 = 73
              · rw [if_pos c14] at H
                have c14b0 : (t121 == 73) = true := beq_iff_eq.mpr c14
                have c14b1 : (t121 != 73) = false := bne_eq_false_iff_eq.mpr c14
                clear c14
                replace H := Option.bind_eq_some_iff.mp H
                obtain ⟨t122, A150, H⟩ := H
                replace H : (if t122 = 74 then ((spindlelaw0_Num.f 75).bind fun t123 => (if t123 = 75 then ((spindlelaw0_Num.f 76).bind fun t124 => (if t124 = 76 then ((spindlelaw0_Num.f 80).bind fun t125 => (if t125 = 80 then ((spindlelaw0_Num.f 81).bind fun t126 => (if t126 = 81 then ((spindlelaw0_Num.f 90).bind fun t127 => (if t127 = 90 then ((spindlelaw0_Num.f 91).bind fun t128 => (some (t128 == 91))) else (some false))) else (some false))) else (some false))) else (some false))) else (some false))) else (some false)) = some r := H
                have A15 := Aside0.mk A150
                clear A150
                by_cases c16 : t122 = 74
                · rw [if_pos c16] at H
                  have c16b0 : (t122 == 74) = true := beq_iff_eq.mpr c16
                  have c16b1 : (t122 != 74) = false := bne_eq_false_iff_eq.mpr c16
                  clear c16
                  replace H := Option.bind_eq_some_iff.mp H
                  obtain ⟨t123, A170, H⟩ := H
                  replace H : (if t123 = 75 then ((spindlelaw0_Num.f 76).bind fun t124 => (if t124 = 76 then ((spindlelaw0_Num.f 80).bind fun t125 => (if t125 = 80 then ((spindlelaw0_Num.f 81).bind fun t126 => (if t126 = 81 then ((spindlelaw0_Num.f 90).bind fun t127 => (if t127 = 90 then ((spindlelaw0_Num.f 91).bind fun t128 => (some (t128 == 91))) else (some false))) else (some false))) else (some false))) else (some false))) else (some false)) = some r := H
                  have A17 := Aside0.mk A170
                  clear A170
                  by_cases c18 : t123 = 75
                  · rw [if_pos c18] at H
                    have c18b0 : (t123 == 75) = true := beq_iff_eq.mpr c18
                    have c18b1 : (t123 != 75) = false := bne_eq_false_iff_eq.mpr c18
                    clear c18
                    replace H := Option.bind_eq_some_iff.mp H
                    obtain ⟨t124, A190, H⟩ := H
                    replace H : (if t124 = 76 then ((spindlelaw0_Num.f 80).bind fun t125 => (if t125 = 80 then ((spindlelaw0_Num.f 81).bind fun t126 => (if t126 = 81 then ((spindlelaw0_Num.f 90).bind fun t127 => (if t127 = 90 then ((spindlelaw0_Num.f 91).bind fun t128 => (some (t128 == 91))) else (some false))) else (some false))) else (some false))) else (some false)) = some r := H
                    have A19 := Aside0.mk A190
                    clear A190
                    by_cases c20 : t124 = 76
                    · rw [if_pos c20] at H
                      have c20b0 : (t124 == 76) = true := beq_iff_eq.mpr c20
                      have c20b1 : (t124 != 76) = false := bne_eq_false_iff_eq.mpr c20
                      clear c20
                      replace H := Option.bind_eq_some_iff.mp H
                      obtain ⟨t125, A210, H⟩ := H
                      replace H : (if t125 = 80 then ((spindlelaw0_Num.f 81).bind fun t126 => (if t126 = 81 then ((spindlelaw0_Num.f 90).bind fun t127 => (if t127 = 90 then ((spindlelaw0_Num.f 91).bind fun t128 => (some (t128 == 91))) else (some false))) else (some false))) else (some false)) = some r := H
                      have A21 := Aside0.mk A210
                      clear A210
                      by_cases c22 : t125 = 80
                      · rw [if_pos c22] at H
                        have c22b0 : (t125 == 80) = true := beq_iff_eq.mpr c22
                        have c22b1 : (t125 != 80) = false := bne_eq_false_iff_eq.mpr c22
                        clear c22
                        replace H := Option.bind_eq_some_iff.mp H
                        obtain ⟨t126, A230, H⟩ := H
                        replace H : (if t126 = 81 then ((spindlelaw0_Num.f 90).bind fun t127 => (if t127 = 90 then ((spindlelaw0_Num.f 91).bind fun t128 => (some (t128 == 91))) else (some false))) else (some false)) = some r := H
                        have A23 := Aside0.mk A230
                        clear A230
                        by_cases c24 : t126 = 81
                        · rw [if_pos c24] at H
                          have c24b0 : (t126 == 81) = true := beq_iff_eq.mpr c24
                          have c24b1 : (t126 != 81) = false := bne_eq_false_iff_eq.mpr c24
                          clear c24
                          replace H := Option.bind_eq_some_iff.mp H
                          obtain ⟨t127, A250, H⟩ := H
                          replace H : (if t127 = 90 then ((spindlelaw0_Num.f 91).bind fun t128 => (some (t128 == 91))) else (some false)) = some r := H
                          have A25 := Aside0.mk A250
                          clear A250
                          by_cases c26 : t127 = 90
                          · rw [if_pos c26] at H
                            have c26b0 : (t127 == 90) = true := beq_iff_eq.mpr c26
                            have c26b1 : (t127 != 90) = false := bne_eq_false_iff_eq.mpr c26
                            clear c26
                            replace H := Option.bind_eq_some_iff.mp H
                            obtain ⟨t128, A270, H⟩ := H
                            replace H : (some (t128 == 91)) = some r := H
                            have A27 := Aside0.mk A270
                            clear A270
                            obtain rfl := Option.some.inj H
                            go_enter Try.func5, Try.ntmps5
                            go_wp2_with (first | ((with_reducible refine gate_callee (f := 18) rfl ?_); refine goesL_ (some 1) rfl rfl Try.func18 (by kernel_rfl) rfl #[.int .i64 54] rfl (by (try simp only [List.map_toArray, List.map_cons, List.map_nil]); first | done | rfl | (simp only [List.length_drop, List.length_take]; rfl)) ?_; (with_reducible refine (spindlelaw0_Num.calls 54 t115 _ A1.out).mono ?_); rintro e w' ⟨rfl, ⟨nd, rfl⟩⟩; refine ⟨_, rfl, ?_⟩) | (go_at_call 18; (with_reducible refine (spindlelaw0_Num.calls 60 t116 _ A3.out).mono ?_); rintro e w' ⟨rfl, ⟨nd, rfl⟩⟩) | (go_at_call 18; (with_reducible refine (spindlelaw0_Num.calls 61 t117 _ A5.out).mono ?_); rintro e w' ⟨rfl, ⟨nd, rfl⟩⟩) | (go_at_call 18; (with_reducible refine (spindlelaw0_Num.calls 70 t118 _ A7.out).mono ?_); rintro e w' ⟨rfl, ⟨nd, rfl⟩⟩) | (go_at_call 18; (with_reducible refine (spindlelaw0_Num.calls 71 t119 _ A9.out).mono ?_); rintro e w' ⟨rfl, ⟨nd, rfl⟩⟩) | (go_at_call 18; (with_reducible refine (spindlelaw0_Num.calls 72 t120 _ A11.out).mono ?_); rintro e w' ⟨rfl, ⟨nd, rfl⟩⟩) | (go_at_call 18; (with_reducible refine (spindlelaw0_Num.calls 73 t121 _ A13.out).mono ?_); rintro e w' ⟨rfl, ⟨nd, rfl⟩⟩) | (go_at_call 18; (with_reducible refine (spindlelaw0_Num.calls 74 t122 _ A15.out).mono ?_); rintro e w' ⟨rfl, ⟨nd, rfl⟩⟩) | (go_at_call 18; (with_reducible refine (spindlelaw0_Num.calls 75 t123 _ A17.out).mono ?_); rintro e w' ⟨rfl, ⟨nd, rfl⟩⟩) | (go_at_call 18; (with_reducible refine (spindlelaw0_Num.calls 76 t124 _ A19.out).mono ?_); rintro e w' ⟨rfl, ⟨nd, rfl⟩⟩) | (go_at_call 18; (with_reducible refine (spindlelaw0_Num.calls 80 t125 _ A21.out).mono ?_); rintro e w' ⟨rfl, ⟨nd, rfl⟩⟩) | (go_at_call 18; (with_reducible refine (spindlelaw0_Num.calls 81 t126 _ A23.out).mono ?_); rintro e w' ⟨rfl, ⟨nd, rfl⟩⟩) | (go_at_call 18; (with_reducible refine (spindlelaw0_Num.calls 90 t127 _ A25.out).mono ?_); rintro e w' ⟨rfl, ⟨nd, rfl⟩⟩) | (go_at_call 18; (with_reducible refine (spindlelaw0_Num.calls 91 t128 _ A27.out).mono ?_); rintro e w' ⟨rfl, ⟨nd, rfl⟩⟩))
                            go_ret
                            exact ⟨by first | rfl | (simp; done) | (simp [*]; done), by repeat (first | exact Drawn0.refl _ | apply Drawn0.step)⟩
                          · rw [if_neg c26] at H
                            have c26b0 : (t127 == 90) = false := beq_eq_false_iff_ne.mpr c26
                            have c26b1 : (t127 != 90) = true := bne_iff_ne.mpr c26
                            obtain rfl := Option.some.inj H
                            go_enter Try.func5, Try.ntmps5
                            go_wp2_with (first | ((with_reducible refine gate_callee (f := 18) rfl ?_); refine goesL_ (some 1) rfl rfl Try.func18 (by kernel_rfl) rfl #[.int .i64 54] rfl (by (try simp only [List.map_toArray, List.map_cons, List.map_nil]); first | done | rfl | (simp only [List.length_drop, List.length_take]; rfl)) ?_; (with_reducible refine (spindlelaw0_Num.calls 54 t115 _ A1.out).mono ?_); rintro e w' ⟨rfl, ⟨nd, rfl⟩⟩; refine ⟨_, rfl, ?_⟩) | (go_at_call 18; (with_reducible refine (spindlelaw0_Num.calls 60 t116 _ A3.out).mono ?_); rintro e w' ⟨rfl, ⟨nd, rfl⟩⟩) | (go_at_call 18; (with_reducible refine (spindlelaw0_Num.calls 61 t117 _ A5.out).mono ?_); rintro e w' ⟨rfl, ⟨nd, rfl⟩⟩) | (go_at_call 18; (with_reducible refine (spindlelaw0_Num.calls 70 t118 _ A7.out).mono ?_); rintro e w' ⟨rfl, ⟨nd, rfl⟩⟩) | (go_at_call 18; (with_reducible refine (spindlelaw0_Num.calls 71 t119 _ A9.out).mono ?_); rintro e w' ⟨rfl, ⟨nd, rfl⟩⟩) | (go_at_call 18; (with_reducible refine (spindlelaw0_Num.calls 72 t120 _ A11.out).mono ?_); rintro e w' ⟨rfl, ⟨nd, rfl⟩⟩) | (go_at_call 18; (with_reducible refine (spindlelaw0_Num.calls 73 t121 _ A13.out).mono ?_); rintro e w' ⟨rfl, ⟨nd, rfl⟩⟩) | (go_at_call 18; (with_reducible refine (spindlelaw0_Num.calls 74 t122 _ A15.out).mono ?_); rintro e w' ⟨rfl, ⟨nd, rfl⟩⟩) | (go_at_call 18; (with_reducible refine (spindlelaw0_Num.calls 75 t123 _ A17.out).mono ?_); rintro e w' ⟨rfl, ⟨nd, rfl⟩⟩) | (go_at_call 18; (with_reducible refine (spindlelaw0_Num.calls 76 t124 _ A19.out).mono ?_); rintro e w' ⟨rfl, ⟨nd, rfl⟩⟩) | (go_at_call 18; (with_reducible refine (spindlelaw0_Num.calls 80 t125 _ A21.out).mono ?_); rintro e w' ⟨rfl, ⟨nd, rfl⟩⟩) | (go_at_call 18; (with_reducible refine (spindlelaw0_Num.calls 81 t126 _ A23.out).mono ?_); rintro e w' ⟨rfl, ⟨nd, rfl⟩⟩) | (go_at_call 18; (with_reducible refine (spindlelaw0_Num.calls 90 t127 _ A25.out).mono ?_); rintro e w' ⟨rfl, ⟨nd, rfl⟩⟩))
                            go_ret
                            exact ⟨by first | rfl | (simp; done) | (simp [*]; done), by repeat (first | exact Drawn0.refl _ | apply Drawn0.step)⟩
                        · rw [if_neg c24] at H
                          have c24b0 : (t126 == 81) = false := beq_eq_false_iff_ne.mpr c24
                          have c24b1 : (t126 != 81) = true := bne_iff_ne.mpr c24
                          obtain rfl := Option.some.inj H
                          go_enter Try.func5, Try.ntmps5
                          go_wp2_with (first | ((with_reducible refine gate_callee (f := 18) rfl ?_); refine goesL_ (some 1) rfl rfl Try.func18 (by kernel_rfl) rfl #[.int .i64 54] rfl (by (try simp only [List.map_toArray, List.map_cons, List.map_nil]); first | done | rfl | (simp only [List.length_drop, List.length_take]; rfl)) ?_; (with_reducible refine (spindlelaw0_Num.calls 54 t115 _ A1.out).mono ?_); rintro e w' ⟨rfl, ⟨nd, rfl⟩⟩; refine ⟨_, rfl, ?_⟩) | (go_at_call 18; (with_reducible refine (spindlelaw0_Num.calls 60 t116 _ A3.out).mono ?_); rintro e w' ⟨rfl, ⟨nd, rfl⟩⟩) | (go_at_call 18; (with_reducible refine (spindlelaw0_Num.calls 61 t117 _ A5.out).mono ?_); rintro e w' ⟨rfl, ⟨nd, rfl⟩⟩) | (go_at_call 18; (with_reducible refine (spindlelaw0_Num.calls 70 t118 _ A7.out).mono ?_); rintro e w' ⟨rfl, ⟨nd, rfl⟩⟩) | (go_at_call 18; (with_reducible refine (spindlelaw0_Num.calls 71 t119 _ A9.out).mono ?_); rintro e w' ⟨rfl, ⟨nd, rfl⟩⟩) | (go_at_call 18; (with_reducible refine (spindlelaw0_Num.calls 72 t120 _ A11.out).mono ?_); rintro e w' ⟨rfl, ⟨nd, rfl⟩⟩) | (go_at_call 18; (with_reducible refine (spindlelaw0_Num.calls 73 t121 _ A13.out).mono ?_); rintro e w' ⟨rfl, ⟨nd, rfl⟩⟩) | (go_at_call 18; (with_reducible refine (spindlelaw0_Num.calls 74 t122 _ A15.out).mono ?_); rintro e w' ⟨rfl, ⟨nd, rfl⟩⟩) | (go_at_call 18; (with_reducible refine (spindlelaw0_Num.calls 75 t123 _ A17.out).mono ?_); rintro e w' ⟨rfl, ⟨nd, rfl⟩⟩) | (go_at_call 18; (with_reducible refine (spindlelaw0_Num.calls 76 t124 _ A19.out).mono ?_); rintro e w' ⟨rfl, ⟨nd, rfl⟩⟩) | (go_at_call 18; (with_reducible refine (spindlelaw0_Num.calls 80 t125 _ A21.out).mono ?_); rintro e w' ⟨rfl, ⟨nd, rfl⟩⟩) | (go_at_call 18; (with_reducible refine (spindlelaw0_Num.calls 81 t126 _ A23.out).mono ?_); rintro e w' ⟨rfl, ⟨nd, rfl⟩⟩))
                          go_ret
                          exact ⟨by first | rfl | (simp; done) | (simp [*]; done), by repeat (first | exact Drawn0.refl _ | apply Drawn0.step)⟩
                      · rw [if_neg c22] at H
                        have c22b0 : (t125 == 80) = false := beq_eq_false_iff_ne.mpr c22
                        have c22b1 : (t125 != 80) = true := bne_iff_ne.mpr c22
                        obtain rfl := Option.some.inj H
                        go_enter Try.func5, Try.ntmps5
                        go_wp2_with (first | ((with_reducible refine gate_callee (f := 18) rfl ?_); refine goesL_ (some 1) rfl rfl Try.func18 (by kernel_rfl) rfl #[.int .i64 54] rfl (by (try simp only [List.map_toArray, List.map_cons, List.map_nil]); first | done | rfl | (simp only [List.length_drop, List.length_take]; rfl)) ?_; (with_reducible refine (spindlelaw0_Num.calls 54 t115 _ A1.out).mono ?_); rintro e w' ⟨rfl, ⟨nd, rfl⟩⟩; refine ⟨_, rfl, ?_⟩) | (go_at_call 18; (with_reducible refine (spindlelaw0_Num.calls 60 t116 _ A3.out).mono ?_); rintro e w' ⟨rfl, ⟨nd, rfl⟩⟩) | (go_at_call 18; (with_reducible refine (spindlelaw0_Num.calls 61 t117 _ A5.out).mono ?_); rintro e w' ⟨rfl, ⟨nd, rfl⟩⟩) | (go_at_call 18; (with_reducible refine (spindlelaw0_Num.calls 70 t118 _ A7.out).mono ?_); rintro e w' ⟨rfl, ⟨nd, rfl⟩⟩) | (go_at_call 18; (with_reducible refine (spindlelaw0_Num.calls 71 t119 _ A9.out).mono ?_); rintro e w' ⟨rfl, ⟨nd, rfl⟩⟩) | (go_at_call 18; (with_reducible refine (spindlelaw0_Num.calls 72 t120 _ A11.out).mono ?_); rintro e w' ⟨rfl, ⟨nd, rfl⟩⟩) | (go_at_call 18; (with_reducible refine (spindlelaw0_Num.calls 73 t121 _ A13.out).mono ?_); rintro e w' ⟨rfl, ⟨nd, rfl⟩⟩) | (go_at_call 18; (with_reducible refine (spindlelaw0_Num.calls 74 t122 _ A15.out).mono ?_); rintro e w' ⟨rfl, ⟨nd, rfl⟩⟩) | (go_at_call 18; (with_reducible refine (spindlelaw0_Num.calls 75 t123 _ A17.out).mono ?_); rintro e w' ⟨rfl, ⟨nd, rfl⟩⟩) | (go_at_call 18; (with_reducible refine (spindlelaw0_Num.calls 76 t124 _ A19.out).mono ?_); rintro e w' ⟨rfl, ⟨nd, rfl⟩⟩) | (go_at_call 18; (with_reducible refine (spindlelaw0_Num.calls 80 t125 _ A21.out).mono ?_); rintro e w' ⟨rfl, ⟨nd, rfl⟩⟩))
                        go_ret
                        exact ⟨by first | rfl | (simp; done) | (simp [*]; done), by repeat (first | exact Drawn0.refl _ | apply Drawn0.step)⟩
                    · rw [if_neg c20] at H
                      have c20b0 : (t124 == 76) = false := beq_eq_false_iff_ne.mpr c20
                      have c20b1 : (t124 != 76) = true := bne_iff_ne.mpr c20
                      obtain rfl := Option.some.inj H
                      go_enter Try.func5, Try.ntmps5
                      go_wp2_with (first | ((with_reducible refine gate_callee (f := 18) rfl ?_); refine goesL_ (some 1) rfl rfl Try.func18 (by kernel_rfl) rfl #[.int .i64 54] rfl (by (try simp only [List.map_toArray, List.map_cons, List.map_nil]); first | done | rfl | (simp only [List.length_drop, List.length_take]; rfl)) ?_; (with_reducible refine (spindlelaw0_Num.calls 54 t115 _ A1.out).mono ?_); rintro e w' ⟨rfl, ⟨nd, rfl⟩⟩; refine ⟨_, rfl, ?_⟩) | (go_at_call 18; (with_reducible refine (spindlelaw0_Num.calls 60 t116 _ A3.out).mono ?_); rintro e w' ⟨rfl, ⟨nd, rfl⟩⟩) | (go_at_call 18; (with_reducible refine (spindlelaw0_Num.calls 61 t117 _ A5.out).mono ?_); rintro e w' ⟨rfl, ⟨nd, rfl⟩⟩) | (go_at_call 18; (with_reducible refine (spindlelaw0_Num.calls 70 t118 _ A7.out).mono ?_); rintro e w' ⟨rfl, ⟨nd, rfl⟩⟩) | (go_at_call 18; (with_reducible refine (spindlelaw0_Num.calls 71 t119 _ A9.out).mono ?_); rintro e w' ⟨rfl, ⟨nd, rfl⟩⟩) | (go_at_call 18; (with_reducible refine (spindlelaw0_Num.calls 72 t120 _ A11.out).mono ?_); rintro e w' ⟨rfl, ⟨nd, rfl⟩⟩) | (go_at_call 18; (with_reducible refine (spindlelaw0_Num.calls 73 t121 _ A13.out).mono ?_); rintro e w' ⟨rfl, ⟨nd, rfl⟩⟩) | (go_at_call 18; (with_reducible refine (spindlelaw0_Num.calls 74 t122 _ A15.out).mono ?_); rintro e w' ⟨rfl, ⟨nd, rfl⟩⟩) | (go_at_call 18; (with_reducible refine (spindlelaw0_Num.calls 75 t123 _ A17.out).mono ?_); rintro e w' ⟨rfl, ⟨nd, rfl⟩⟩) | (go_at_call 18; (with_reducible refine (spindlelaw0_Num.calls 76 t124 _ A19.out).mono ?_); rintro e w' ⟨rfl, ⟨nd, rfl⟩⟩))
                      go_ret
                      exact ⟨by first | rfl | (simp; done) | (simp [*]; done), by repeat (first | exact Drawn0.refl _ | apply Drawn0.step)⟩
                  · rw [if_neg c18] at H
                    have c18b0 : (t123 == 75) = false := beq_eq_false_iff_ne.mpr c18
                    have c18b1 : (t123 != 75) = true := bne_iff_ne.mpr c18
                    obtain rfl := Option.some.inj H
                    go_enter Try.func5, Try.ntmps5
                    go_wp2_with (first | ((with_reducible refine gate_callee (f := 18) rfl ?_); refine goesL_ (some 1) rfl rfl Try.func18 (by kernel_rfl) rfl #[.int .i64 54] rfl (by (try simp only [List.map_toArray, List.map_cons, List.map_nil]); first | done | rfl | (simp only [List.length_drop, List.length_take]; rfl)) ?_; (with_reducible refine (spindlelaw0_Num.calls 54 t115 _ A1.out).mono ?_); rintro e w' ⟨rfl, ⟨nd, rfl⟩⟩; refine ⟨_, rfl, ?_⟩) | (go_at_call 18; (with_reducible refine (spindlelaw0_Num.calls 60 t116 _ A3.out).mono ?_); rintro e w' ⟨rfl, ⟨nd, rfl⟩⟩) | (go_at_call 18; (with_reducible refine (spindlelaw0_Num.calls 61 t117 _ A5.out).mono ?_); rintro e w' ⟨rfl, ⟨nd, rfl⟩⟩) | (go_at_call 18; (with_reducible refine (spindlelaw0_Num.calls 70 t118 _ A7.out).mono ?_); rintro e w' ⟨rfl, ⟨nd, rfl⟩⟩) | (go_at_call 18; (with_reducible refine (spindlelaw0_Num.calls 71 t119 _ A9.out).mono ?_); rintro e w' ⟨rfl, ⟨nd, rfl⟩⟩) | (go_at_call 18; (with_reducible refine (spindlelaw0_Num.calls 72 t120 _ A11.out).mono ?_); rintro e w' ⟨rfl, ⟨nd, rfl⟩⟩) | (go_at_call 18; (with_reducible refine (spindlelaw0_Num.calls 73 t121 _ A13.out).mono ?_); rintro e w' ⟨rfl, ⟨nd, rfl⟩⟩) | (go_at_call 18; (with_reducible refine (spindlelaw0_Num.calls 74 t122 _ A15.out).mono ?_); rintro e w' ⟨rfl, ⟨nd, rfl⟩⟩) | (go_at_call 18; (with_reducible refine (spindlelaw0_Num.calls 75 t123 _ A17.out).mono ?_); rintro e w' ⟨rfl, ⟨nd, rfl⟩⟩))
                    go_ret
                    exact ⟨by first | rfl | (simp; done) | (simp [*]; done), by repeat (first | exact Drawn0.refl _ | apply Drawn0.step)⟩
                · rw [if_neg c16] at H
                  have c16b0 : (t122 == 74) = false := beq_eq_false_iff_ne.mpr c16
                  have c16b1 : (t122 != 74) = true := bne_iff_ne.mpr c16
                  obtain rfl := Option.some.inj H
                  go_enter Try.func5, Try.ntmps5
                  go_wp2_with (first | ((with_reducible refine gate_callee (f := 18) rfl ?_); refine goesL_ (some 1) rfl rfl Try.func18 (by kernel_rfl) rfl #[.int .i64 54] rfl (by (try simp only [List.map_toArray, List.map_cons, List.map_nil]); first | done | rfl | (simp only [List.length_drop, List.length_take]; rfl)) ?_; (with_reducible refine (spindlelaw0_Num.calls 54 t115 _ A1.out).mono ?_); rintro e w' ⟨rfl, ⟨nd, rfl⟩⟩; refine ⟨_, rfl, ?_⟩) | (go_at_call 18; (with_reducible refine (spindlelaw0_Num.calls 60 t116 _ A3.out).mono ?_); rintro e w' ⟨rfl, ⟨nd, rfl⟩⟩) | (go_at_call 18; (with_reducible refine (spindlelaw0_Num.calls 61 t117 _ A5.out).mono ?_); rintro e w' ⟨rfl, ⟨nd, rfl⟩⟩) | (go_at_call 18; (with_reducible refine (spindlelaw0_Num.calls 70 t118 _ A7.out).mono ?_); rintro e w' ⟨rfl, ⟨nd, rfl⟩⟩) | (go_at_call 18; (with_reducible refine (spindlelaw0_Num.calls 71 t119 _ A9.out).mono ?_); rintro e w' ⟨rfl, ⟨nd, rfl⟩⟩) | (go_at_call 18; (with_reducible refine (spindlelaw0_Num.calls 72 t120 _ A11.out).mono ?_); rintro e w' ⟨rfl, ⟨nd, rfl⟩⟩) | (go_at_call 18; (with_reducible refine (spindlelaw0_Num.calls 73 t121 _ A13.out).mono ?_); rintro e w' ⟨rfl, ⟨nd, rfl⟩⟩) | (go_at_call 18; (with_reducible refine (spindlelaw0_Num.calls 74 t122 _ A15.out).mono ?_); rintro e w' ⟨rfl, ⟨nd, rfl⟩⟩))
                  go_ret
                  exact ⟨by first | rfl | (simp; done) | (simp [*]; done), by repeat (first | exact Drawn0.refl _ | apply Drawn0.step)⟩
              · rw [if_neg c14] at H
                have c14b0 : (t121 == 73) = false := beq_eq_false_iff_ne.mpr c14
                have c14b1 : (t121 != 73) = true := bne_iff_ne.mpr c14
                obtain rfl := Option.some.inj H
                go_enter Try.func5, Try.ntmps5
                go_wp2_with (first | ((with_reducible refine gate_callee (f := 18) rfl ?_); refine goesL_ (some 1) rfl rfl Try.func18 (by kernel_rfl) rfl #[.int .i64 54] rfl (by (try simp only [List.map_toArray, List.map_cons, List.map_nil]); first | done | rfl | (simp only [List.length_drop, List.length_take]; rfl)) ?_; (with_reducible refine (spindlelaw0_Num.calls 54 t115 _ A1.out).mono ?_); rintro e w' ⟨rfl, ⟨nd, rfl⟩⟩; refine ⟨_, rfl, ?_⟩) | (go_at_call 18; (with_reducible refine (spindlelaw0_Num.calls 60 t116 _ A3.out).mono ?_); rintro e w' ⟨rfl, ⟨nd, rfl⟩⟩) | (go_at_call 18; (with_reducible refine (spindlelaw0_Num.calls 61 t117 _ A5.out).mono ?_); rintro e w' ⟨rfl, ⟨nd, rfl⟩⟩) | (go_at_call 18; (with_reducible refine (spindlelaw0_Num.calls 70 t118 _ A7.out).mono ?_); rintro e w' ⟨rfl, ⟨nd, rfl⟩⟩) | (go_at_call 18; (with_reducible refine (spindlelaw0_Num.calls 71 t119 _ A9.out).mono ?_); rintro e w' ⟨rfl, ⟨nd, rfl⟩⟩) | (go_at_call 18; (with_reducible refine (spindlelaw0_Num.calls 72 t120 _ A11.out).mono ?_); rintro e w' ⟨rfl, ⟨nd, rfl⟩⟩) | (go_at_call 18; (with_reducible refine (spindlelaw0_Num.calls 73 t121 _ A13.out).mono ?_); rintro e w' ⟨rfl, ⟨nd, rfl⟩⟩))
                go_ret
                exact ⟨by first | rfl | (simp; done) | (simp [*]; done), by repeat (first | exact Drawn0.refl _ | apply Drawn0.step)⟩
            · rw [if_neg c12] at H
              have c12b0 : (t120 == 72) = false := beq_eq_false_iff_ne.mpr c12
              have c12b1 : (t120 != 72) = true := bne_iff_ne.mpr c12
              obtain rfl := Option.some.inj H
              go_enter Try.func5, Try.ntmps5
              go_wp2_with (first | ((with_reducible refine gate_callee (f := 18) rfl ?_); refine goesL_ (some 1) rfl rfl Try.func18 (by kernel_rfl) rfl #[.int .i64 54] rfl (by (try simp only [List.map_toArray, List.map_cons, List.map_nil]); first | done | rfl | (simp only [List.length_drop, List.length_take]; rfl)) ?_; (with_reducible refine (spindlelaw0_Num.calls 54 t115 _ A1.out).mono ?_); rintro e w' ⟨rfl, ⟨nd, rfl⟩⟩; refine ⟨_, rfl, ?_⟩) | (go_at_call 18; (with_reducible refine (spindlelaw0_Num.calls 60 t116 _ A3.out).mono ?_); rintro e w' ⟨rfl, ⟨nd, rfl⟩⟩) | (go_at_call 18; (with_reducible refine (spindlelaw0_Num.calls 61 t117 _ A5.out).mono ?_); rintro e w' ⟨rfl, ⟨nd, rfl⟩⟩) | (go_at_call 18; (with_reducible refine (spindlelaw0_Num.calls 70 t118 _ A7.out).mono ?_); rintro e w' ⟨rfl, ⟨nd, rfl⟩⟩) | (go_at_call 18; (with_reducible refine (spindlelaw0_Num.calls 71 t119 _ A9.out).mono ?_); rintro e w' ⟨rfl, ⟨nd, rfl⟩⟩) | (go_at_call 18; (with_reducible refine (spindlelaw0_Num.calls 72 t120 _ A11.out).mono ?_); rintro e w' ⟨rfl, ⟨nd, rfl⟩⟩))
              go_ret
              exact ⟨by first | rfl | (simp; done) | (simp [*]; done), by repeat (first | exact Drawn0.refl _ | apply Drawn0.step)⟩
          · rw [if_neg c10] at H
            have c10b0 : (t119 == 71) = false := beq_eq_false_iff_ne.mpr c10
            have c10b1 : (t119 != 71) = true := bne_iff_ne.mpr c10
            obtain rfl := Option.some.inj H
            go_enter Try.func5, Try.ntmps5
            go_wp2_with (first | ((with_reducible refine gate_callee (f := 18) rfl ?_); refine goesL_ (some 1) rfl rfl Try.func18 (by kernel_rfl) rfl #[.int .i64 54] rfl (by (try simp only [List.map_toArray, List.map_cons, List.map_nil]); first | done | rfl | (simp only [List.length_drop, List.length_take]; rfl)) ?_; (with_reducible refine (spindlelaw0_Num.calls 54 t115 _ A1.out).mono ?_); rintro e w' ⟨rfl, ⟨nd, rfl⟩⟩; refine ⟨_, rfl, ?_⟩) | (go_at_call 18; (with_reducible refine (spindlelaw0_Num.calls 60 t116 _ A3.out).mono ?_); rintro e w' ⟨rfl, ⟨nd, rfl⟩⟩) | (go_at_call 18; (with_reducible refine (spindlelaw0_Num.calls 61 t117 _ A5.out).mono ?_); rintro e w' ⟨rfl, ⟨nd, rfl⟩⟩) | (go_at_call 18; (with_reducible refine (spindlelaw0_Num.calls 70 t118 _ A7.out).mono ?_); rintro e w' ⟨rfl, ⟨nd, rfl⟩⟩) | (go_at_call 18; (with_reducible refine (spindlelaw0_Num.calls 71 t119 _ A9.out).mono ?_); rintro e w' ⟨rfl, ⟨nd, rfl⟩⟩))
            go_ret
            exact ⟨by first | rfl | (simp; done) | (simp [*]; done), by repeat (first | exact Drawn0.refl _ | apply Drawn0.step)⟩
        · rw [if_neg c8] at H
          have c8b0 : (t118 == 70) = false := beq_eq_false_iff_ne.mpr c8
          have c8b1 : (t118 != 70) = true := bne_iff_ne.mpr c8
          obtain rfl := Option.some.inj H
          go_enter Try.func5, Try.ntmps5
          go_wp2_with (first | ((with_reducible refine gate_callee (f := 18) rfl ?_); refine goesL_ (some 1) rfl rfl Try.func18 (by kernel_rfl) rfl #[.int .i64 54] rfl (by (try simp only [List.map_toArray, List.map_cons, List.map_nil]); first | done | rfl | (simp only [List.length_drop, List.length_take]; rfl)) ?_; (with_reducible refine (spindlelaw0_Num.calls 54 t115 _ A1.out).mono ?_); rintro e w' ⟨rfl, ⟨nd, rfl⟩⟩; refine ⟨_, rfl, ?_⟩) | (go_at_call 18; (with_reducible refine (spindlelaw0_Num.calls 60 t116 _ A3.out).mono ?_); rintro e w' ⟨rfl, ⟨nd, rfl⟩⟩) | (go_at_call 18; (with_reducible refine (spindlelaw0_Num.calls 61 t117 _ A5.out).mono ?_); rintro e w' ⟨rfl, ⟨nd, rfl⟩⟩) | (go_at_call 18; (with_reducible refine (spindlelaw0_Num.calls 70 t118 _ A7.out).mono ?_); rintro e w' ⟨rfl, ⟨nd, rfl⟩⟩))
          go_ret
          exact ⟨by first | rfl | (simp; done) | (simp [*]; done), by repeat (first | exact Drawn0.refl _ | apply Drawn0.step)⟩
      · rw [if_neg c6] at H
        have c6b0 : (t117 == 61) = false := beq_eq_false_iff_ne.mpr c6
        have c6b1 : (t117 != 61) = true := bne_iff_ne.mpr c6
        obtain rfl := Option.some.inj H
        go_enter Try.func5, Try.ntmps5
        go_wp2_with (first | ((with_reducible refine gate_callee (f := 18) rfl ?_); refine goesL_ (some 1) rfl rfl Try.func18 (by kernel_rfl) rfl #[.int .i64 54] rfl (by (try simp only [List.map_toArray, List.map_cons, List.map_nil]); first | done | rfl | (simp only [List.length_drop, List.length_take]; rfl)) ?_; (with_reducible refine (spindlelaw0_Num.calls 54 t115 _ A1.out).mono ?_); rintro e w' ⟨rfl, ⟨nd, rfl⟩⟩; refine ⟨_, rfl, ?_⟩) | (go_at_call 18; (with_reducible refine (spindlelaw0_Num.calls 60 t116 _ A3.out).mono ?_); rintro e w' ⟨rfl, ⟨nd, rfl⟩⟩) | (go_at_call 18; (with_reducible refine (spindlelaw0_Num.calls 61 t117 _ A5.out).mono ?_); rintro e w' ⟨rfl, ⟨nd, rfl⟩⟩))
        go_ret
        exact ⟨by first | rfl | (simp; done) | (simp [*]; done), by repeat (first | exact Drawn0.refl _ | apply Drawn0.step)⟩
    · rw [if_neg c4] at H
      have c4b0 : (t116 == 60) = false := beq_eq_false_iff_ne.mpr c4
      have c4b1 : (t116 != 60) = true := bne_iff_ne.mpr c4
      obtain rfl := Option.some.inj H
      go_enter Try.func5, Try.ntmps5
      go_wp2_with (first | ((with_reducible refine gate_callee (f := 18) rfl ?_); refine goesL_ (some 1) rfl rfl Try.func18 (by kernel_rfl) rfl #[.int .i64 54] rfl (by (try simp only [List.map_toArray, List.map_cons, List.map_nil]); first | done | rfl | (simp only [List.length_drop, List.length_take]; rfl)) ?_; (with_reducible refine (spindlelaw0_Num.calls 54 t115 _ A1.out).mono ?_); rintro e w' ⟨rfl, ⟨nd, rfl⟩⟩; refine ⟨_, rfl, ?_⟩) | (go_at_call 18; (with_reducible refine (spindlelaw0_Num.calls 60 t116 _ A3.out).mono ?_); rintro e w' ⟨rfl, ⟨nd, rfl⟩⟩))
      go_ret
      exact ⟨by first | rfl | (simp; done) | (simp [*]; done), by repeat (first | exact Drawn0.refl _ | apply Drawn0.step)⟩
  · rw [if_neg c2] at H
    have c2b0 : (t115 == 54) = false := beq_eq_false_iff_ne.mpr c2
    have c2b1 : (t115 != 54) = true := bne_iff_ne.mpr c2
    obtain rfl := Option.some.inj H
    go_enter Try.func5, Try.ntmps5
    go_wp2_with (first | ((with_reducible refine gate_callee (f := 18) rfl ?_); refine goesL_ (some 1) rfl rfl Try.func18 (by kernel_rfl) rfl #[.int .i64 54] rfl (by (try simp only [List.map_toArray, List.map_cons, List.map_nil]); first | done | rfl | (simp only [List.length_drop, List.length_take]; rfl)) ?_; (with_reducible refine (spindlelaw0_Num.calls 54 t115 _ A1.out).mono ?_); rintro e w' ⟨rfl, ⟨nd, rfl⟩⟩; refine ⟨_, rfl, ?_⟩))
    go_ret
    exact ⟨by first | rfl | (simp; done) | (simp [*]; done), by repeat (first | exact Drawn0.refl _ | apply Drawn0.step)⟩

/-! ### spindlelaw0_errors3: function 6 -/
def spindlelaw0_errors3.f  : Option (Bool) := (spindlelaw0_Num.f 92).bind fun t129 => (if t129 = 92 then ((spindlelaw0_Num.f 93).bind fun t130 => (if t130 = 93 then ((spindlelaw0_Num.f 100).bind fun t131 => (if t131 = 100 then ((spindlelaw0_Num.f 101).bind fun t132 => (if t132 = 101 then ((spindlelaw0_Num.f 110).bind fun t133 => (if t133 = 110 then ((spindlelaw0_Num.f 111).bind fun t134 => (if t134 = 111 then ((spindlelaw0_Num.f 120).bind fun t135 => (if t135 = 120 then ((spindlelaw0_Num.f 121).bind fun t136 => (if t136 = 121 then ((spindlelaw0_Num.f 122).bind fun t137 => (if t137 = 122 then ((spindlelaw0_Num.f 123).bind fun t138 => (if t138 = 123 then ((spindlelaw0_Num.f 124).bind fun t139 => (if t139 = 124 then ((spindlelaw0_Num.f 125).bind fun t140 => (if t140 = 125 then ((spindlelaw0_Num.f 126).bind fun t141 => (if t141 = 126 then ((spindlelaw0_Num.f 127).bind fun t142 => (some (t142 == 127))) else (some false))) else (some false))) else (some false))) else (some false))) else (some false))) else (some false))) else (some false))) else (some false))) else (some false))) else (some false))) else (some false))) else (some false))) else (some false))
set_option maxHeartbeats 8000000 in
set_option maxRecDepth 100000 in
theorem spindlelaw0_errors3.calls  (r : Bool) (w : World) (h : spindlelaw0_errors3.f  = some r) :
    Calls Try.prog 6 #[] w fun e w' => e = .returned (.bool r) ∧ Drawn0 w w' := by
  have H : ((spindlelaw0_Num.f 92).bind fun t129 => (if t129 = 92 then ((spindlelaw0_Num.f 93).bind fun t130 => (if t130 = 93 then ((spindlelaw0_Num.f 100).bind fun t131 => (if t131 = 100 then ((spindlelaw0_Num.f 101).bind fun t132 => (if t132 = 101 then ((spindlelaw0_Num.f 110).bind fun t133 => (if t133 = 110 then ((spindlelaw0_Num.f 111).bind fun t134 => (if t134 = 111 then ((spindlelaw0_Num.f 120).bind fun t135 => (if t135 = 120 then ((spindlelaw0_Num.f 121).bind fun t136 => (if t136 = 121 then ((spindlelaw0_Num.f 122).bind fun t137 => (if t137 = 122 then ((spindlelaw0_Num.f 123).bind fun t138 => (if t138 = 123 then ((spindlelaw0_Num.f 124).bind fun t139 => (if t139 = 124 then ((spindlelaw0_Num.f 125).bind fun t140 => (if t140 = 125 then ((spindlelaw0_Num.f 126).bind fun t141 => (if t141 = 126 then ((spindlelaw0_Num.f 127).bind fun t142 => (some (t142 == 127))) else (some false))) else (some false))) else (some false))) else (some false))) else (some false))) else (some false))) else (some false))) else (some false))) else (some false))) else (some false))) else (some false))) else (some false))) else (some false))) = some r := h
  clear h
  replace H := Option.bind_eq_some_iff.mp H
  obtain ⟨t129, A10, H⟩ := H
  replace H : (if t129 = 92 then ((spindlelaw0_Num.f 93).bind fun t130 => (if t130 = 93 then ((spindlelaw0_Num.f 100).bind fun t131 => (if t131 = 100 then ((spindlelaw0_Num.f 101).bind fun t132 => (if t132 = 101 then ((spindlelaw0_Num.f 110).bind fun t133 => (if t133 = 110 then ((spindlelaw0_Num.f 111).bind fun t134 => (if t134 = 111 then ((spindlelaw0_Num.f 120).bind fun t135 => (if t135 = 120 then ((spindlelaw0_Num.f 121).bind fun t136 => (if t136 = 121 then ((spindlelaw0_Num.f 122).bind fun t137 => (if t137 = 122 then ((spindlelaw0_Num.f 123).bind fun t138 => (if t138 = 123 then ((spindlelaw0_Num.f 124).bind fun t139 => (if t139 = 124 then ((spindlelaw0_Num.f 125).bind fun t140 => (if t140 = 125 then ((spindlelaw0_Num.f 126).bind fun t141 => (if t141 = 126 then ((spindlelaw0_Num.f 127).bind fun t142 => (some (t142 == 127))) else (some false))) else (some false))) else (some false))) else (some false))) else (some false))) else (some false))) else (some false))) else (some false))) else (some false))) else (some false))) else (some false))) else (some false))) else (some false)) = some r := H
  have A1 := Aside0.mk A10
  clear A10
  by_cases c2 : t129 = 92
  · rw [if_pos c2] at H
    have c2b0 : (t129 == 92) = true := beq_iff_eq.mpr c2
    have c2b1 : (t129 != 92) = false := bne_eq_false_iff_eq.mpr c2
    clear c2
    replace H := Option.bind_eq_some_iff.mp H
    obtain ⟨t130, A30, H⟩ := H
    replace H : (if t130 = 93 then ((spindlelaw0_Num.f 100).bind fun t131 => (if t131 = 100 then ((spindlelaw0_Num.f 101).bind fun t132 => (if t132 = 101 then ((spindlelaw0_Num.f 110).bind fun t133 => (if t133 = 110 then ((spindlelaw0_Num.f 111).bind fun t134 => (if t134 = 111 then ((spindlelaw0_Num.f 120).bind fun t135 => (if t135 = 120 then ((spindlelaw0_Num.f 121).bind fun t136 => (if t136 = 121 then ((spindlelaw0_Num.f 122).bind fun t137 => (if t137 = 122 then ((spindlelaw0_Num.f 123).bind fun t138 => (if t138 = 123 then ((spindlelaw0_Num.f 124).bind fun t139 => (if t139 = 124 then ((spindlelaw0_Num.f 125).bind fun t140 => (if t140 = 125 then ((spindlelaw0_Num.f 126).bind fun t141 => (if t141 = 126 then ((spindlelaw0_Num.f 127).bind fun t142 => (some (t142 == 127))) else (some false))) else (some false))) else (some false))) else (some false))) else (some false))) else (some false))) else (some false))) else (some false))) else (some false))) else (some false))) else (some false))) else (some false)) = some r := H
    have A3 := Aside0.mk A30
    clear A30
    by_cases c4 : t130 = 93
    · rw [if_pos c4] at H
      have c4b0 : (t130 == 93) = true := beq_iff_eq.mpr c4
      have c4b1 : (t130 != 93) = false := bne_eq_false_iff_eq.mpr c4
      clear c4
      replace H := Option.bind_eq_some_iff.mp H
      obtain ⟨t131, A50, H⟩ := H
      replace H : (if t131 = 100 then ((spindlelaw0_Num.f 101).bind fun t132 => (if t132 = 101 then ((spindlelaw0_Num.f 110).bind fun t133 => (if t133 = 110 then ((spindlelaw0_Num.f 111).bind fun t134 => (if t134 = 111 then ((spindlelaw0_Num.f 120).bind fun t135 => (if t135 = 120 then ((spindlelaw0_Num.f 121).bind fun t136 => (if t136 = 121 then ((spindlelaw0_Num.f 122).bind fun t137 => (if t137 = 122 then ((spindlelaw0_Num.f 123).bind fun t138 => (if t138 = 123 then ((spindlelaw0_Num.f 124).bind fun t139 => (if t139 = 124 then ((spindlelaw0_Num.f 125).bind fun t140 => (if t140 = 125 then ((spindlelaw0_Num.f 126).bind fun t141 => (if t141 = 126 then ((spindlelaw0_Num.f 127).bind fun t142 => (some (t142 == 127))) else (some false))) else (some false))) else (some false))) else (some false))) else (some false))) else (some false))) else (some false))) else (some false))) else (some false))) else (some false))) else (some false)) = some r := H
      have A5 := Aside0.mk A50
      clear A50
      by_cases c6 : t131 = 100
      · rw [if_pos c6] at H
        have c6b0 : (t131 == 100) = true := beq_iff_eq.mpr c6
        have c6b1 : (t131 != 100) = false := bne_eq_false_iff_eq.mpr c6
        clear c6
        replace H := Option.bind_eq_some_iff.mp H
        obtain ⟨t132, A70, H⟩ := H
        replace H : (if t132 = 101 then ((spindlelaw0_Num.f 110).bind fun t133 => (if t133 = 110 then ((spindlelaw0_Num.f 111).bind fun t134 => (if t134 = 111 then ((spindlelaw0_Num.f 120).bind fun t135 => (if t135 = 120 then ((spindlelaw0_Num.f 121).bind fun t136 => (if t136 = 121 then ((spindlelaw0_Num.f 122).bind fun t137 => (if t137 = 122 then ((spindlelaw0_Num.f 123).bind fun t138 => (if t138 = 123 then ((spindlelaw0_Num.f 124).bind fun t139 => (if t139 = 124 then ((spindlelaw0_Num.f 125).bind fun t140 => (if t140 = 125 then ((spindlelaw0_Num.f 126).bind fun t141 => (if t141 = 126 then ((spindlelaw0_Num.f 127).bind fun t142 => (some (t142 == 127))) else (some false))) else (some false))) else (some false))) else (some false))) else (some false))) else (some false))) else (some false))) else (some false))) else (some false))) else (some false)) = some r := H
        have A7 := Aside0.mk A70
        clear A70
        by_cases c8 : t132 = 101
        · rw [if_pos c8] at H
          have c8b0 : (t132 == 101) = true := beq_iff_eq.mpr c8
          have c8b1 : (t132 != 101) = false := bne_eq_false_iff_eq.mpr c8
          clear c8
          replace H := Option.bind_eq_some_iff.mp H
          obtain ⟨t133, A90, H⟩ := H
          replace H : (if t133 = 110 then ((spindlelaw0_Num.f 111).bind fun t134 => (if t134 = 111 then ((spindlelaw0_Num.f 120).bind fun t135 => (if t135 = 120 then ((spindlelaw0_Num.f 121).bind fun t136 => (if t136 = 121 then ((spindlelaw0_Num.f 122).bind fun t137 => (if t137 = 122 then ((spindlelaw0_Num.f 123).bind fun t138 => (if t138 = 123 then ((spindlelaw0_Num.f 124).bind fun t139 => (if t139 = 124 then ((spindlelaw0_Num.f 125).bind fun t140 => (if t140 = 125 then ((spindlelaw0_Num.f 126).bind fun t141 => (if t141 = 126 then ((spindlelaw0_Num.f 127).bind fun t142 => (some (t142 == 127))) else (some false))) else (some false))) else (some false))) else (some false))) else (some false))) else (some false))) else (some false))) else (some false))) else (some false)) = some r := H
          have A9 := Aside0.mk A90
          clear A90
          by_cases c10 : t133 = 110
          · rw [if_pos c10] at H
            have c10b0 : (t133 == 110) = true := beq_iff_eq.mpr c10
            have c10b1 : (t133 != 110) = false := bne_eq_false_iff_eq.mpr c10
            clear c10
            replace H := Option.bind_eq_some_iff.mp H
            obtain ⟨t134, A110, H⟩ := H
            replace H : (if t134 = 111 then ((spindlelaw0_Num.f 120).bind fun t135 => (if t135 = 120 then ((spindlelaw0_Num.f 121).bind fun t136 => (if t136 = 121 then ((spindlelaw0_Num.f 122).bind fun t137 => (if t137 = 122 then ((spindlelaw0_Num.f 123).bind fun t138 => (if t138 = 123 then ((spindlelaw0_Num.f 124).bind fun t139 => (if t139 = 124 then ((spindlelaw0_Num.f 125).bind fun t140 => (if t140 = 125 then ((spindlelaw0_Num.f 126).bind fun t141 => (if t141 = 126 then ((spindlelaw0_Num.f 127).bind fun t142 => (some (t142 == 127))) else (some false))) else (some false))) else (some false))) else (some false))) else (some false))) else (some false))) else (some false))) else (some false)) = some r := H
            have A11 := Aside0.mk A110
            clear A110
            by_cases c12 : t134 = 111
            · rw [if_pos c12] at H
              have c12b0 : (t134 == 111) = true := beq_iff_eq.mpr c12
              have c12b1 : (t134 != 111) = false := bne_eq_false_iff_eq.mpr c12
              clear c12
              replace H := Option.bind_eq_some_iff.mp H
              obtain ⟨t135, A130, H⟩ := H
              replace H : (if t135 = 120 then ((spindlelaw0_Num.f 121).bind fun t136 => (if t136 = 121 then ((spindlelaw0_Num.f 122).bind fun t137 => (if t137 = 122 then ((spindlelaw0_Num.f 123).bind fun t138 => (if t138 = 123 then ((spindlelaw0_Num.f 124).bind fun t139 => (if t139 = 124 then ((spindlelaw0_Num.f 125).bind fun t140 => (if t140 = 125 then ((spindlelaw0_Num.f 126).bind fun t141 => (if t141 = 126 then ((spindlelaw0_Num.f 127).bind fun t142 => (some (t142 == 127))) else (some false))) else (some false))) else (some false))) else (some false))) else (some false))) else (some false))) else (some false)) = some r := H
              have A13 := Aside0.mk A130
              clear A130
              by_cases c14 : t135 = 120
              · rw [if_pos c14] at H
                have c14b0 : (t135 == 120) = true := beq_iff_eq.mpr c14
                have c14b1 : (t135 != 120) = false := bne_eq_false_iff_eq.mpr c14
                clear c14
                replace H := Option.bind_eq_some_iff.mp H
                obtain ⟨t136, A150, H⟩ := H
                replace H : (if t136 = 121 then ((spindlelaw0_Num.f 122).bind fun t137 => (if t137 = 122 then ((spindlelaw0_Num.f 123).bind fun t138 => (if t138 = 123 then ((spindlelaw0_Num.f 124).bind fun t139 => (if t139 = 124 then ((spindlelaw0_Num.f 125).bind fun t140 => (if t140 = 125 then ((spindlelaw0_Num.f 126).bind fun t141 => (if t141 = 126 then ((spindlelaw0_Num.f 127).bind fun t142 => (some (t142 == 127))) else (some false))) else (some false))) else (some false))) else (some false))) else (some false))) else (some false)) = some r := H
                have A15 := Aside0.mk A150
                clear A150
                by_cases c16 : t136 = 121
                · rw [if_pos c16] at H
                  have c16b0 : (t136 == 121) = true := beq_iff_eq.mpr c16
                  have c16b1 : (t136 != 121) = false := bne_eq_false_iff_eq.mpr c16
                  clear c16
                  replace H := Option.bind_eq_some_iff.mp H
                  obtain ⟨t137, A170, H⟩ := H
                  replace H : (if t137 = 122 then ((spindlelaw0_Num.f 123).bind fun t138 => (if t138 = 123 then ((spindlelaw0_Num.f 124).bind fun t139 => (if t139 = 124 then ((spindlelaw0_Num.f 125).bind fun t140 => (if t140 = 125 then ((spindlelaw0_Num.f 126).bind fun t141 => (if t141 = 126 then ((spindlelaw0_Num.f 127).bind fun t142 => (some (t142 == 127))) else (some false))) else (some false))) else (some false))) else (some false))) else (some false)) = some r := H
                  have A17 := Aside0.mk A170
                  clear A170
                  by_cases c18 : t137 = 122
                  · rw [if_pos c18] at H
                    have c18b0 : (t137 == 122) = true := beq_iff_eq.mpr c18
                    have c18b1 : (t137 != 122) = false := bne_eq_false_iff_eq.mpr c18
                    clear c18
                    replace H := Option.bind_eq_some_iff.mp H
                    obtain ⟨t138, A190, H⟩ := H
                    replace H : (if t138 = 123 then ((spindlelaw0_Num.f 124).bind fun t139 => (if t139 = 124 then ((spindlelaw0_Num.f 125).bind fun t140 => (if t140 = 125 then ((spindlelaw0_Num.f 126).bind fun t141 => (if t141 = 126 then ((spindlelaw0_Num.f 127).bind fun t142 => (some (t142 == 127))) else (some false))) else (some false))) else (some false))) else (some false)) = some r := H
                    have A19 := Aside0.mk A190
                    clear A190
                    by_cases c20 : t138 = 123
                    · rw [if_pos c20] at H
                      have c20b0 : (t138 == 123) = true := beq_iff_eq.mpr c20
                      have c20b1 : (t138 != 123) = false := bne_eq_false_iff_eq.mpr c20
                      clear c20
                      replace H := Option.bind_eq_some_iff.mp H
                      obtain ⟨t139, A210, H⟩ := H
                      replace H : (if t139 = 124 then ((spindlelaw0_Num.f 125).bind fun t140 => (if t140 = 125 then ((spindlelaw0_Num.f 126).bind fun t141 => (if t141 = 126 then ((spindlelaw0_Num.f 127).bind fun t142 => (some (t142 == 127))) else (some false))) else (some false))) else (some false)) = some r := H
                      have A21 := Aside0.mk A210
                      clear A210
                      by_cases c22 : t139 = 124
                      · rw [if_pos c22] at H
                        have c22b0 : (t139 == 124) = true := beq_iff_eq.mpr c22
                        have c22b1 : (t139 != 124) = false := bne_eq_false_iff_eq.mpr c22
                        clear c22
                        replace H := Option.bind_eq_some_iff.mp H
                        obtain ⟨t140, A230, H⟩ := H
                        replace H : (if t140 = 125 then ((spindlelaw0_Num.f 126).bind fun t141 => (if t141 = 126 then ((spindlelaw0_Num.f 127).bind fun t142 => (some (t142 == 127))) else (some false))) else (some false)) = some r := H
                        have A23 := Aside0.mk A230
                        clear A230
                        by_cases c24 : t140 = 125
                        · rw [if_pos c24] at H
                          have c24b0 : (t140 == 125) = true := beq_iff_eq.mpr c24
                          have c24b1 : (t140 != 125) = false := bne_eq_false_iff_eq.mpr c24
                          clear c24
                          replace H := Option.bind_eq_some_iff.mp H
                          obtain ⟨t141, A250, H⟩ := H
                          replace H : (if t141 = 126 then ((spindlelaw0_Num.f 127).bind fun t142 => (some (t142 == 127))) else (some false)) = some r := H
                          have A25 := Aside0.mk A250
                          clear A250
                          by_cases c26 : t141 = 126
                          · rw [if_pos c26] at H
                            have c26b0 : (t141 == 126) = true := beq_iff_eq.mpr c26
                            have c26b1 : (t141 != 126) = false := bne_eq_false_iff_eq.mpr c26
                            clear c26
                            replace H := Option.bind_eq_some_iff.mp H
                            obtain ⟨t142, A270, H⟩ := H
                            replace H : (some (t142 == 127)) = some r := H
                            have A27 := Aside0.mk A270
                            clear A270
                            obtain rfl := Option.some.inj H
                            go_enter Try.func6, Try.ntmps6
                            go_wp2_with (first | ((with_reducible refine gate_callee (f := 18) rfl ?_); refine goesL_ (some 1) rfl rfl Try.func18 (by kernel_rfl) rfl #[.int .i64 92] rfl (by (try simp only [List.map_toArray, List.map_cons, List.map_nil]); first | done | rfl | (simp only [List.length_drop, List.length_take]; rfl)) ?_; (with_reducible refine (spindlelaw0_Num.calls 92 t129 _ A1.out).mono ?_); rintro e w' ⟨rfl, ⟨nd, rfl⟩⟩; refine ⟨_, rfl, ?_⟩) | (go_at_call 18; (with_reducible refine (spindlelaw0_Num.calls 93 t130 _ A3.out).mono ?_); rintro e w' ⟨rfl, ⟨nd, rfl⟩⟩) | (go_at_call 18; (with_reducible refine (spindlelaw0_Num.calls 100 t131 _ A5.out).mono ?_); rintro e w' ⟨rfl, ⟨nd, rfl⟩⟩) | (go_at_call 18; (with_reducible refine (spindlelaw0_Num.calls 101 t132 _ A7.out).mono ?_); rintro e w' ⟨rfl, ⟨nd, rfl⟩⟩) | (go_at_call 18; (with_reducible refine (spindlelaw0_Num.calls 110 t133 _ A9.out).mono ?_); rintro e w' ⟨rfl, ⟨nd, rfl⟩⟩) | (go_at_call 18; (with_reducible refine (spindlelaw0_Num.calls 111 t134 _ A11.out).mono ?_); rintro e w' ⟨rfl, ⟨nd, rfl⟩⟩) | (go_at_call 18; (with_reducible refine (spindlelaw0_Num.calls 120 t135 _ A13.out).mono ?_); rintro e w' ⟨rfl, ⟨nd, rfl⟩⟩) | (go_at_call 18; (with_reducible refine (spindlelaw0_Num.calls 121 t136 _ A15.out).mono ?_); rintro e w' ⟨rfl, ⟨nd, rfl⟩⟩) | (go_at_call 18; (with_reducible refine (spindlelaw0_Num.calls 122 t137 _ A17.out).mono ?_); rintro e w' ⟨rfl, ⟨nd, rfl⟩⟩) | (go_at_call 18; (with_reducible refine (spindlelaw0_Num.calls 123 t138 _ A19.out).mono ?_); rintro e w' ⟨rfl, ⟨nd, rfl⟩⟩) | (go_at_call 18; (with_reducible refine (spindlelaw0_Num.calls 124 t139 _ A21.out).mono ?_); rintro e w' ⟨rfl, ⟨nd, rfl⟩⟩) | (go_at_call 18; (with_reducible refine (spindlelaw0_Num.calls 125 t140 _ A23.out).mono ?_); rintro e w' ⟨rfl, ⟨nd, rfl⟩⟩) | (go_at_call 18; (with_reducible refine (spindlelaw0_Num.calls 126 t141 _ A25.out).mono ?_); rintro e w' ⟨rfl, ⟨nd, rfl⟩⟩) | (go_at_call 18; (with_reducible refine (spindlelaw0_Num.calls 127 t142 _ A27.out).mono ?_); rintro e w' ⟨rfl, ⟨nd, rfl⟩⟩))
                            go_ret
                            exact ⟨by first | rfl | (simp; done) | (simp [*]; done), by repeat (first | exact Drawn0.refl _ | apply Drawn0.step)⟩
                          · rw [if_neg c26] at H
                            have c26b0 : (t141 == 126) = false := beq_eq_false_iff_ne.mpr c26
                            have c26b1 : (t141 != 126) = true := bne_iff_ne.mpr c26
                            obtain rfl := Option.some.inj H
                            go_enter Try.func6, Try.ntmps6
                            go_wp2_with (first | ((with_reducible refine gate_callee (f := 18) rfl ?_); refine goesL_ (some 1) rfl rfl Try.func18 (by kernel_rfl) rfl #[.int .i64 92] rfl (by (try simp only [List.map_toArray, List.map_cons, List.map_nil]); first | done | rfl | (simp only [List.length_drop, List.length_take]; rfl)) ?_; (with_reducible refine (spindlelaw0_Num.calls 92 t129 _ A1.out).mono ?_); rintro e w' ⟨rfl, ⟨nd, rfl⟩⟩; refine ⟨_, rfl, ?_⟩) | (go_at_call 18; (with_reducible refine (spindlelaw0_Num.calls 93 t130 _ A3.out).mono ?_); rintro e w' ⟨rfl, ⟨nd, rfl⟩⟩) | (go_at_call 18; (with_reducible refine (spindlelaw0_Num.calls 100 t131 _ A5.out).mono ?_); rintro e w' ⟨rfl, ⟨nd, rfl⟩⟩) | (go_at_call 18; (with_reducible refine (spindlelaw0_Num.calls 101 t132 _ A7.out).mono ?_); rintro e w' ⟨rfl, ⟨nd, rfl⟩⟩) | (go_at_call 18; (with_reducible refine (spindlelaw0_Num.calls 110 t133 _ A9.out).mono ?_); rintro e w' ⟨rfl, ⟨nd, rfl⟩⟩) | (go_at_call 18; (with_reducible refine (spindlelaw0_Num.calls 111 t134 _ A11.out).mono ?_); rintro e w' ⟨rfl, ⟨nd, rfl⟩⟩) | (go_at_call 18; (with_reducible refine (spindlelaw0_Num.calls 120 t135 _ A13.out).mono ?_); rintro e w' ⟨rfl, ⟨nd, rfl⟩⟩) | (go_at_call 18; (with_reducible refine (spindlelaw0_Num.calls 121 t136 _ A15.out).mono ?_); rintro e w' ⟨rfl, ⟨nd, rfl⟩⟩) | (go_at_call 18; (with_reducible refine (spindlelaw0_Num.calls 122 t137 _ A17.out).mono ?_); rintro e w' ⟨rfl, ⟨nd, rfl⟩⟩) | (go_at_call 18; (with_reducible refine (spindlelaw0_Num.calls 123 t138 _ A19.out).mono ?_); rintro e w' ⟨rfl, ⟨nd, rfl⟩⟩) | (go_at_call 18; (with_reducible refine (spindlelaw0_Num.calls 124 t139 _ A21.out).mono ?_); rintro e w' ⟨rfl, ⟨nd, rfl⟩⟩) | (go_at_call 18; (with_reducible refine (spindlelaw0_Num.calls 125 t140 _ A23.out).mono ?_); rintro e w' ⟨rfl, ⟨nd, rfl⟩⟩) | (go_at_call 18; (with_reducible refine (spindlelaw0_Num.calls 126 t141 _ A25.out).mono ?_); rintro e w' ⟨rfl, ⟨nd, rfl⟩⟩))
                            go_ret
                            exact ⟨by first | rfl | (simp; done) | (simp [*]; done), by repeat (first | exact Drawn0.refl _ | apply Drawn0.step)⟩
                        · rw [if_neg c24] at H
                          have c24b0 : (t140 == 125) = false := beq_eq_false_iff_ne.mpr c24
                          have c24b1 : (t140 != 125) = true := bne_iff_ne.mpr c24
                          obtain rfl := Option.some.inj H
                          go_enter Try.func6, Try.ntmps6
                          go_wp2_with (first | ((with_reducible refine gate_callee (f := 18) rfl ?_); refine goesL_ (some 1) rfl rfl Try.func18 (by kernel_rfl) rfl #[.int .i64 92] rfl (by (try simp only [List.map_toArray, List.map_cons, List.map_nil]); first | done | rfl | (simp only [List.length_drop, List.length_take]; rfl)) ?_; (with_reducible refine (spindlelaw0_Num.calls 92 t129 _ A1.out).mono ?_); rintro e w' ⟨rfl, ⟨nd, rfl⟩⟩; refine ⟨_, rfl, ?_⟩) | (go_at_call 18; (with_reducible refine (spindlelaw0_Num.calls 93 t130 _ A3.out).mono ?_); rintro e w' ⟨rfl, ⟨nd, rfl⟩⟩) | (go_at_call 18; (with_reducible refine (spindlelaw0_Num.calls 100 t131 _ A5.out).mono ?_); rintro e w' ⟨rfl, ⟨nd, rfl⟩⟩) | (go_at_call 18; (with_reducible refine (spindlelaw0_Num.calls 101 t132 _ A7.out).mono ?_); rintro e w' ⟨rfl, ⟨nd, rfl⟩⟩) | (go_at_call 18; (with_reducible refine (spindlelaw0_Num.calls 110 t133 _ A9.out).mono ?_); rintro e w' ⟨rfl, ⟨nd, rfl⟩⟩) | (go_at_call 18; (with_reducible refine (spindlelaw0_Num.calls 111 t134 _ A11.out).mono ?_); rintro e w' ⟨rfl, ⟨nd, rfl⟩⟩) | (go_at_call 18; (with_reducible refine (spindlelaw0_Num.calls 120 t135 _ A13.out).mono ?_); rintro e w' ⟨rfl, ⟨nd, rfl⟩⟩) | (go_at_call 18; (with_reducible refine (spindlelaw0_Num.calls 121 t136 _ A15.out).mono ?_); rintro e w' ⟨rfl, ⟨nd, rfl⟩⟩) | (go_at_call 18; (with_reducible refine (spindlelaw0_Num.calls 122 t137 _ A17.out).mono ?_); rintro e w' ⟨rfl, ⟨nd, rfl⟩⟩) | (go_at_call 18; (with_reducible refine (spindlelaw0_Num.calls 123 t138 _ A19.out).mono ?_); rintro e w' ⟨rfl, ⟨nd, rfl⟩⟩) | (go_at_call 18; (with_reducible refine (spindlelaw0_Num.calls 124 t139 _ A21.out).mono ?_); rintro e w' ⟨rfl, ⟨nd, rfl⟩⟩) | (go_at_call 18; (with_reducible refine (spindlelaw0_Num.calls 125 t140 _ A23.out).mono ?_); rintro e w' ⟨rfl, ⟨nd, rfl⟩⟩))
                          go_ret
                          exact ⟨by first | rfl | (simp; done) | (simp [*]; done), by repeat (first | exact Drawn0.refl _ | apply Drawn0.step)⟩
                      · rw [if_neg c22] at H
                        have c22b0 : (t139 == 124) = false := beq_eq_false_iff_ne.mpr c22
                        have c22b1 : (t139 != 124) = true := bne_iff_ne.mpr c22
                        obtain rfl := Option.some.inj H
                        go_enter Try.func6, Try.ntmps6
                        go_wp2_with (first | ((with_reducible refine gate_callee (f := 18) rfl ?_); refine goesL_ (some 1) rfl rfl Try.func18 (by kernel_rfl) rfl #[.int .i64 92] rfl (by (try simp only [List.map_toArray, List.map_cons, List.map_nil]); first | done | rfl | (simp only [List.length_drop, List.length_take]; rfl)) ?_; (with_reducible refine (spindlelaw0_Num.calls 92 t129 _ A1.out).mono ?_); rintro e w' ⟨rfl, ⟨nd, rfl⟩⟩; refine ⟨_, rfl, ?_⟩) | (go_at_call 18; (with_reducible refine (spindlelaw0_Num.calls 93 t130 _ A3.out).mono ?_); rintro e w' ⟨rfl, ⟨nd, rfl⟩⟩) | (go_at_call 18; (with_reducible refine (spindlelaw0_Num.calls 100 t131 _ A5.out).mono ?_); rintro e w' ⟨rfl, ⟨nd, rfl⟩⟩) | (go_at_call 18; (with_reducible refine (spindlelaw0_Num.calls 101 t132 _ A7.out).mono ?_); rintro e w' ⟨rfl, ⟨nd, rfl⟩⟩) | (go_at_call 18; (with_reducible refine (spindlelaw0_Num.calls 110 t133 _ A9.out).mono ?_); rintro e w' ⟨rfl, ⟨nd, rfl⟩⟩) | (go_at_call 18; (with_reducible refine (spindlelaw0_Num.calls 111 t134 _ A11.out).mono ?_); rintro e w' ⟨rfl, ⟨nd, rfl⟩⟩) | (go_at_call 18; (with_reducible refine (spindlelaw0_Num.calls 120 t135 _ A13.out).mono ?_); rintro e w' ⟨rfl, ⟨nd, rfl⟩⟩) | (go_at_call 18; (with_reducible refine (spindlelaw0_Num.calls 121 t136 _ A15.out).mono ?_); rintro e w' ⟨rfl, ⟨nd, rfl⟩⟩) | (go_at_call 18; (with_reducible refine (spindlelaw0_Num.calls 122 t137 _ A17.out).mono ?_); rintro e w' ⟨rfl, ⟨nd, rfl⟩⟩) | (go_at_call 18; (with_reducible refine (spindlelaw0_Num.calls 123 t138 _ A19.out).mono ?_); rintro e w' ⟨rfl, ⟨nd, rfl⟩⟩) | (go_at_call 18; (with_reducible refine (spindlelaw0_Num.calls 124 t139 _ A21.out).mono ?_); rintro e w' ⟨rfl, ⟨nd, rfl⟩⟩))
                        go_ret
                        exact ⟨by first | rfl | (simp; done) | (simp [*]; done), by repeat (first | exact Drawn0.refl _ | apply Drawn0.step)⟩
                    · rw [if_neg c20] at H
                      have c20b0 : (t138 == 123) = false := beq_eq_false_iff_ne.mpr c20
                      have c20b1 : (t138 != 123) = true := bne_iff_ne.mpr c20
                      obtain rfl := Option.some.inj H
                      go_enter Try.func6, Try.ntmps6
                      go_wp2_with (first | ((with_reducible refine gate_callee (f := 18) rfl ?_); refine goesL_ (some 1) rfl rfl Try.func18 (by kernel_rfl) rfl #[.int .i64 92] rfl (by (try simp only [List.map_toArray, List.map_cons, List.map_nil]); first | done | rfl | (simp only [List.length_drop, List.length_take]; rfl)) ?_; (with_reducible refine (spindlelaw0_Num.calls 92 t129 _ A1.out).mono ?_); rintro e w' ⟨rfl, ⟨nd, rfl⟩⟩; refine ⟨_, rfl, ?_⟩) | (go_at_call 18; (with_reducible refine (spindlelaw0_Num.calls 93 t130 _ A3.out).mono ?_); rintro e w' ⟨rfl, ⟨nd, rfl⟩⟩) | (go_at_call 18; (with_reducible refine (spindlelaw0_Num.calls 100 t131 _ A5.out).mono ?_); rintro e w' ⟨rfl, ⟨nd, rfl⟩⟩) | (go_at_call 18; (with_reducible refine (spindlelaw0_Num.calls 101 t132 _ A7.out).mono ?_); rintro e w' ⟨rfl, ⟨nd, rfl⟩⟩) | (go_at_call 18; (with_reducible refine (spindlelaw0_Num.calls 110 t133 _ A9.out).mono ?_); rintro e w' ⟨rfl, ⟨nd, rfl⟩⟩) | (go_at_call 18; (with_reducible refine (spindlelaw0_Num.calls 111 t134 _ A11.out).mono ?_); rintro e w' ⟨rfl, ⟨nd, rfl⟩⟩) | (go_at_call 18; (with_reducible refine (spindlelaw0_Num.calls 120 t135 _ A13.out).mono ?_); rintro e w' ⟨rfl, ⟨nd, rfl⟩⟩) | (go_at_call 18; (with_reducible refine (spindlelaw0_Num.calls 121 t136 _ A15.out).mono ?_); rintro e w' ⟨rfl, ⟨nd, rfl⟩⟩) | (go_at_call 18; (with_reducible refine (spindlelaw0_Num.calls 122 t137 _ A17.out).mono ?_); rintro e w' ⟨rfl, ⟨nd, rfl⟩⟩) | (go_at_call 18; (with_reducible refine (spindlelaw0_Num.calls 123 t138 _ A19.out).mono ?_); rintro e w' ⟨rfl, ⟨nd, rfl⟩⟩))
                      go_ret
                      exact ⟨by first | rfl | (simp; done) | (simp [*]; done), by repeat (first | exact Drawn0.refl _ | apply Drawn0.step)⟩
                  · rw [if_neg c18] at H
                    have c18b0 : (t137 == 122) = false := beq_eq_false_iff_ne.mpr c18
                    have c18b1 : (t137 != 122) = true := bne_iff_ne.mpr c18
                    obtain rfl := Option.some.inj H
                    go_enter Try.func6, Try.ntmps6
                    go_wp2_with (first | ((with_reducible refine gate_callee (f := 18) rfl ?_); refine goesL_ (some 1) rfl rfl Try.func18 (by kernel_rfl) rfl #[.int .i64 92] rfl (by (try simp only [List.map_toArray, List.map_cons, List.map_nil]); first | done | rfl | (simp only [List.length_drop, List.length_take]; rfl)) ?_; (with_reducible refine (spindlelaw0_Num.calls 92 t129 _ A1.out).mono ?_); rintro e w' ⟨rfl, ⟨nd, rfl⟩⟩; refine ⟨_, rfl, ?_⟩) | (go_at_call 18; (with_reducible refine (spindlelaw0_Num.calls 93 t130 _ A3.out).mono ?_); rintro e w' ⟨rfl, ⟨nd, rfl⟩⟩) | (go_at_call 18; (with_reducible refine (spindlelaw0_Num.calls 100 t131 _ A5.out).mono ?_); rintro e w' ⟨rfl, ⟨nd, rfl⟩⟩) | (go_at_call 18; (with_reducible refine (spindlelaw0_Num.calls 101 t132 _ A7.out).mono ?_); rintro e w' ⟨rfl, ⟨nd, rfl⟩⟩) | (go_at_call 18; (with_reducible refine (spindlelaw0_Num.calls 110 t133 _ A9.out).mono ?_); rintro e w' ⟨rfl, ⟨nd, rfl⟩⟩) | (go_at_call 18; (with_reducible refine (spindlelaw0_Num.calls 111 t134 _ A11.out).mono ?_); rintro e w' ⟨rfl, ⟨nd, rfl⟩⟩) | (go_at_call 18; (with_reducible refine (spindlelaw0_Num.calls 120 t135 _ A13.out).mono ?_); rintro e w' ⟨rfl, ⟨nd, rfl⟩⟩) | (go_at_call 18; (with_reducible refine (spindlelaw0_Num.calls 121 t136 _ A15.out).mono ?_); rintro e w' ⟨rfl, ⟨nd, rfl⟩⟩) | (go_at_call 18; (with_reducible refine (spindlelaw0_Num.calls 122 t137 _ A17.out).mono ?_); rintro e w' ⟨rfl, ⟨nd, rfl⟩⟩))
                    go_ret
                    exact ⟨by first | rfl | (simp; done) | (simp [*]; done), by repeat (first | exact Drawn0.refl _ | apply Drawn0.step)⟩
                · rw [if_neg c16] at H
                  have c16b0 : (t136 == 121) = false := beq_eq_false_iff_ne.mpr c16
                  have c16b1 : (t136 != 121) = true := bne_iff_ne.mpr c16
                  obtain rfl := Option.some.inj H
                  go_enter Try.func6, Try.ntmps6
                  go_wp2_with (first | ((with_reducible refine gate_callee (f := 18) rfl ?_); refine goesL_ (some 1) rfl rfl Try.func18 (by kernel_rfl) rfl #[.int .i64 92] rfl (by (try simp only [List.map_toArray, List.map_cons, List.map_nil]); first | done | rfl | (simp only [List.length_drop, List.length_take]; rfl)) ?_; (with_reducible refine (spindlelaw0_Num.calls 92 t129 _ A1.out).mono ?_); rintro e w' ⟨rfl, ⟨nd, rfl⟩⟩; refine ⟨_, rfl, ?_⟩) | (go_at_call 18; (with_reducible refine (spindlelaw0_Num.calls 93 t130 _ A3.out).mono ?_); rintro e w' ⟨rfl, ⟨nd, rfl⟩⟩) | (go_at_call 18; (with_reducible refine (spindlelaw0_Num.calls 100 t131 _ A5.out).mono ?_); rintro e w' ⟨rfl, ⟨nd, rfl⟩⟩) | (go_at_call 18; (with_reducible refine (spindlelaw0_Num.calls 101 t132 _ A7.out).mono ?_); rintro e w' ⟨rfl, ⟨nd, rfl⟩⟩) | (go_at_call 18; (with_reducible refine (spindlelaw0_Num.calls 110 t133 _ A9.out).mono ?_); rintro e w' ⟨rfl, ⟨nd, rfl⟩⟩) | (go_at_call 18; (with_reducible refine (spindlelaw0_Num.calls 111 t134 _ A11.out).mono ?_); rintro e w' ⟨rfl, ⟨nd, rfl⟩⟩) | (go_at_call 18; (with_reducible refine (spindlelaw0_Num.calls 120 t135 _ A13.out).mono ?_); rintro e w' ⟨rfl, ⟨nd, rfl⟩⟩) | (go_at_call 18; (with_reducible refine (spindlelaw0_Num.calls 121 t136 _ A15.out).mono ?_); rintro e w' ⟨rfl, ⟨nd, rfl⟩⟩))
                  go_ret
                  exact ⟨by first | rfl | (simp; done) | (simp [*]; done), by repeat (first | exact Drawn0.refl _ | apply Drawn0.step)⟩
              · rw [if_neg c14] at H
                have c14b0 : (t135 == 120) = false := beq_eq_false_iff_ne.mpr c14
                have c14b1 : (t135 != 120) = true := bne_iff_ne.mpr c14
                obtain rfl := Option.some.inj H
                go_enter Try.func6, Try.ntmps6
                go_wp2_with (first | ((with_reducible refine gate_callee (f := 18) rfl ?_); refine goesL_ (some 1) rfl rfl Try.func18 (by kernel_rfl) rfl #[.int .i64 92] rfl (by (try simp only [List.map_toArray, List.map_cons, List.map_nil]); first | done | rfl | (simp only [List.length_drop, List.length_take]; rfl)) ?_; (with_reducible refine (spindlelaw0_Num.calls 92 t129 _ A1.out).mono ?_); rintro e w' ⟨rfl, ⟨nd, rfl⟩⟩; refine ⟨_, rfl, ?_⟩) | (go_at_call 18; (with_reducible refine (spindlelaw0_Num.calls 93 t130 _ A3.out).mono ?_); rintro e w' ⟨rfl, ⟨nd, rfl⟩⟩) | (go_at_call 18; (with_reducible refine (spindlelaw0_Num.calls 100 t131 _ A5.out).mono ?_); rintro e w' ⟨rfl, ⟨nd, rfl⟩⟩) | (go_at_call 18; (with_reducible refine (spindlelaw0_Num.calls 101 t132 _ A7.out).mono ?_); rintro e w' ⟨rfl, ⟨nd, rfl⟩⟩) | (go_at_call 18; (with_reducible refine (spindlelaw0_Num.calls 110 t133 _ A9.out).mono ?_); rintro e w' ⟨rfl, ⟨nd, rfl⟩⟩) | (go_at_call 18; (with_reducible refine (spindlelaw0_Num.calls 111 t134 _ A11.out).mono ?_); rintro e w' ⟨rfl, ⟨nd, rfl⟩⟩) | (go_at_call 18; (with_reducible refine (spindlelaw0_Num.calls 120 t135 _ A13.out).mono ?_); rintro e w' ⟨rfl, ⟨nd, rfl⟩⟩))
                go_ret
                exact ⟨by first | rfl | (simp; done) | (simp [*]; done), by repeat (first | exact Drawn0.refl _ | apply Drawn0.step)⟩
            · rw [if_neg c12] at H
              have c12b0 : (t134 == 111) = false := beq_eq_false_iff_ne.mpr c12
              have c12b1 : (t134 != 111) = true := bne_iff_ne.mpr c12
              obtain rfl := Option.some.inj H
              go_enter Try.func6, Try.ntmps6
              go_wp2_with (first | ((with_reducible refine gate_callee (f := 18) rfl ?_); refine goesL_ (some 1) rfl rfl Try.func18 (by kernel_rfl) rfl #[.int .i64 92] rfl (by (try simp only [List.map_toArray, List.map_cons, List.map_nil]); first | done | rfl | (simp only [List.length_drop, List.length_take]; rfl)) ?_; (with_reducible refine (spindlelaw0_Num.calls 92 t129 _ A1.out).mono ?_); rintro e w' ⟨rfl, ⟨nd, rfl⟩⟩; refine ⟨_, rfl, ?_⟩) | (go_at_call 18; (with_reducible refine (spindlelaw0_Num.calls 93 t130 _ A3.out).mono ?_); rintro e w' ⟨rfl, ⟨nd, rfl⟩⟩) | (go_at_call 18; (with_reducible refine (spindlelaw0_Num.calls 100 t131 _ A5.out).mono ?_); rintro e w' ⟨rfl, ⟨nd, rfl⟩⟩) | (go_at_call 18; (with_reducible refine (spindlelaw0_Num.calls 101 t132 _ A7.out).mono ?_); rintro e w' ⟨rfl, ⟨nd, rfl⟩⟩) | (go_at_call 18; (with_reducible refine (spindlelaw0_Num.calls 110 t133 _ A9.out).mono ?_); rintro e w' ⟨rfl, ⟨nd, rfl⟩⟩) | (go_at_call 18; (with_reducible refine (spindlelaw0_Num.calls 111 t134 _ A11.out).mono ?_); rintro e w' ⟨rfl, ⟨nd, rfl⟩⟩))
              go_ret
              exact ⟨by first | rfl | (simp; done) | (simp [*]; done), by repeat (first | exact Drawn0.refl _ | apply Drawn0.step)⟩
          · rw [if_neg c10] at H
            have c10b0 : (t133 == 110) = false := beq_eq_false_iff_ne.mpr c10
            have c10b1 : (t133 != 110) = true := bne_iff_ne.mpr c10
            obtain rfl := Option.some.inj H
            go_enter Try.func6, Try.ntmps6
            go_wp2_with (first | ((with_reducible refine gate_callee (f := 18) rfl ?_); refine goesL_ (some 1) rfl rfl Try.func18 (by kernel_rfl) rfl #[.int .i64 92] rfl (by (try simp only [List.map_toArray, List.map_cons, List.map_nil]); first | done | rfl | (simp only [List.length_drop, List.length_take]; rfl)) ?_; (with_reducible refine (spindlelaw0_Num.calls 92 t129 _ A1.out).mono ?_); rintro e w' ⟨rfl, ⟨nd, rfl⟩⟩; refine ⟨_, rfl, ?_⟩) | (go_at_call 18; (with_reducible refine (spindlelaw0_Num.calls 93 t130 _ A3.out).mono ?_); rintro e w' ⟨rfl, ⟨nd, rfl⟩⟩) | (go_at_call 18; (with_reducible refine (spindlelaw0_Num.calls 100 t131 _ A5.out).mono ?_); rintro e w' ⟨rfl, ⟨nd, rfl⟩⟩) | (go_at_call 18; (with_reducible refine (spindlelaw0_Num.calls 101 t132 _ A7.out).mono ?_); rintro e w' ⟨rfl, ⟨nd, rfl⟩⟩) | (go_at_call 18; (with_reducible refine (spindlelaw0_Num.calls 110 t133 _ A9.out).mono ?_); rintro e w' ⟨rfl, ⟨nd, rfl⟩⟩))
            go_ret
            exact ⟨by first | rfl | (simp; done) | (simp [*]; done), by repeat (first | exact Drawn0.refl _ | apply Drawn0.step)⟩
        · rw [if_neg c8] at H
          have c8b0 : (t132 == 101) = false := beq_eq_false_iff_ne.mpr c8
          have c8b1 : (t132 != 101) = true := bne_iff_ne.mpr c8
          obtain rfl := Option.some.inj H
          go_enter Try.func6, Try.ntmps6
          go_wp2_with (first | ((with_reducible refine gate_callee (f := 18) rfl ?_); refine goesL_ (some 1) rfl rfl Try.func18 (by kernel_rfl) rfl #[.int .i64 92] rfl (by (try simp only [List.map_toArray, List.map_cons, List.map_nil]); first | done | rfl | (simp only [List.length_drop, List.length_take]; rfl)) ?_; (with_reducible refine (spindlelaw0_Num.calls 92 t129 _ A1.out).mono ?_); rintro e w' ⟨rfl, ⟨nd, rfl⟩⟩; refine ⟨_, rfl, ?_⟩) | (go_at_call 18; (with_reducible refine (spindlelaw0_Num.calls 93 t130 _ A3.out).mono ?_); rintro e w' ⟨rfl, ⟨nd, rfl⟩⟩) | (go_at_call 18; (with_reducible refine (spindlelaw0_Num.calls 100 t131 _ A5.out).mono ?_); rintro e w' ⟨rfl, ⟨nd, rfl⟩⟩) | (go_at_call 18; (with_reducible refine (spindlelaw0_Num.calls 101 t132 _ A7.out).mono ?_); rintro e w' ⟨rfl, ⟨nd, rfl⟩⟩))
          go_ret
          exact ⟨by first | rfl | (simp; done) | (simp [*]; done), by repeat (first | exact Drawn0.refl _ | apply Drawn0.step)⟩
      · rw [if_neg c6] at H
        have c6b0 : (t131 == 100) = false := beq_eq_false_iff_ne.mpr c6
        have c6b1 : (t131 != 100) = true := bne_iff_ne.mpr c6
        obtain rfl := Option.some.inj H
        go_enter Try.func6, Try.ntmps6
        go_wp2_with (first | ((with_reducible refine gate_callee (f := 18) rfl ?_); refine goesL_ (some 1) rfl rfl Try.func18 (by kernel_rfl) rfl #[.int .i64 92] rfl (by (try simp only [List.map_toArray, List.map_cons, List.map_nil]); first | done | rfl | (simp only [List.length_drop, List.length_take]; rfl)) ?_; (with_reducible refine (spindlelaw0_Num.calls 92 t129 _ A1.out).mono ?_); rintro e w' ⟨rfl, ⟨nd, rfl⟩⟩; refine ⟨_, rfl, ?_⟩) | (go_at_call 18; (with_reducible refine (spindlelaw0_Num.calls 93 t130 _ A3.out).mono ?_); rintro e w' ⟨rfl, ⟨nd, rfl⟩⟩) | (go_at_call 18; (with_reducible refine (spindlelaw0_Num.calls 100 t131 _ A5.out).mono ?_); rintro e w' ⟨rfl, ⟨nd, rfl⟩⟩))
        go_ret
        exact ⟨by first | rfl | (simp; done) | (simp [*]; done), by repeat (first | exact Drawn0.refl _ | apply Drawn0.step)⟩
    · rw [if_neg c4] at H
      have c4b0 : (t130 == 93) = false := beq_eq_false_iff_ne.mpr c4
      have c4b1 : (t130 != 93) = true := bne_iff_ne.mpr c4
      obtain rfl := Option.some.inj H
      go_enter Try.func6, Try.ntmps6
      go_wp2_with (first | ((with_reducible refine gate_callee (f := 18) rfl ?_); refine goesL_ (some 1) rfl rfl Try.func18 (by kernel_rfl) rfl #[.int .i64 92] rfl (by (try simp only [List.map_toArray, List.map_cons, List.map_nil]); first | done | rfl | (simp only [List.length_drop, List.length_take]; rfl)) ?_; (with_reducible refine (spindlelaw0_Num.calls 92 t129 _ A1.out).mono ?_); rintro e w' ⟨rfl, ⟨nd, rfl⟩⟩; refine ⟨_, rfl, ?_⟩) | (go_at_call 18; (with_reducible refine (spindlelaw0_Num.calls 93 t130 _ A3.out).mono ?_); rintro e w' ⟨rfl, ⟨nd, rfl⟩⟩))
      go_ret
      exact ⟨by first | rfl | (simp; done) | (simp [*]; done), by repeat (first | exact Drawn0.refl _ | apply Drawn0.step)⟩
  · rw [if_neg c2] at H
    have c2b0 : (t129 == 92) = false := beq_eq_false_iff_ne.mpr c2
    have c2b1 : (t129 != 92) = true := bne_iff_ne.mpr c2
    obtain rfl := Option.some.inj H
    go_enter Try.func6, Try.ntmps6
    go_wp2_with (first | ((with_reducible refine gate_callee (f := 18) rfl ?_); refine goesL_ (some 1) rfl rfl Try.func18 (by kernel_rfl) rfl #[.int .i64 92] rfl (by (try simp only [List.map_toArray, List.map_cons, List.map_nil]); first | done | rfl | (simp only [List.length_drop, List.length_take]; rfl)) ?_; (with_reducible refine (spindlelaw0_Num.calls 92 t129 _ A1.out).mono ?_); rintro e w' ⟨rfl, ⟨nd, rfl⟩⟩; refine ⟨_, rfl, ?_⟩))
    go_ret
    exact ⟨by first | rfl | (simp; done) | (simp [*]; done), by repeat (first | exact Drawn0.refl _ | apply Drawn0.step)⟩

end Go.Proofs.Ytlodcfcpjcnlbaa.PSpindleNames
