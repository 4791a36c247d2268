-- PRINTED by print.py (a twelfth state) out of the translation. Not trusted: Lean checks it.
import Derived.Test.YtlfbdcobpfainaaL0
import Derived.Test.YtlfbdcobpfainaaL2
import Derived.Test.YtlfbdcobpfainaaL4
import Derived.Test.YtlfbdcobpfainaaL5
import Derived.Test.YtlfbdcobpfainaaL6
import Derived.Test.YtlfbdcobpfainaaL7
namespace Go.Proofs.Ytlfbdcobpfainaa.L
open Go.RowKit Go.Proofs.YtlfbdcobpfainaaW.PrintWords Go.Proofs.YtlfbdcobpfainaaW.PrintLast Go.Proofs.YtlfbdcobpfainaaW.PrintMore
attribute [local go_sem] max2_int min2_int max_two min_two max_three min_three max_four min_four   -- for this text's walks alone
set_option linter.unusedVariables false
set_option linter.unusedSimpArgs false

/-! ### frac_Rounded: function 82 -/
def frac_Rounded.j0 : Nat → Int → Int → Int → Int → Int → Option (Int)
  | 0, _, _, _, _, _ => none
  | k + 1, x0, x1, x2, x7, x8 => if x2 = 1 then (if x8 > 0 then (some (wrap64 (x7 + 1))) else (some x7)) else (if x2 = 2 then (if (wrap64 (2 * x8)) > x1 then (some (wrap64 (x7 + 1))) else (if (wrap64 (2 * x8)) = x1 then (if x0 > 0 then (some (wrap64 (x7 + 1))) else (some x7)) else (some x7))) else (if x2 = 3 then (if (wrap64 (2 * x8)) > x1 then (some (wrap64 (x7 + 1))) else (if (wrap64 (2 * x8)) = x1 then (if (Int.tmod x7 2) = 0 then (some x7) else (some (wrap64 (x7 + 1)))) else (some x7))) else (some x7)))
def frac_Rounded.f (k : Nat) (a0 : Int) (a1 : Int) (a2 : Int) : Option (Int) := if a1 = 0 then (none) else (if (Int.tmod a0 a1) < 0 then (frac_Rounded.j0 k a0 a1 a2 (wrap64 ((wrap64 (Int.tdiv a0 a1)) - 1)) (wrap64 ((Int.tmod a0 a1) + a1))) else (frac_Rounded.j0 k a0 a1 a2 (wrap64 (Int.tdiv a0 a1)) (Int.tmod a0 a1)))
theorem frac_Rounded.mono_l : ∀ k, (∀ y0 y1 y2 y3 y4, LeO (frac_Rounded.j0 k y0 y1 y2 y3 y4) (frac_Rounded.j0 (k + 1) y0 y1 y2 y3 y4))
  | 0 => fun _ _ _ _ _ r h => by simp [frac_Rounded.j0] at h
  | k + 1 => by
    have ih0 := frac_Rounded.mono_l k
    · intro y0 y1 y2 y3 y4
      unfold frac_Rounded.j0
      repeat' first
      | (with_reducible exact ih0 _ _ _ _ _)
      | (with_reducible exact LeO.refl _)
      | (with_reducible exact LeO.none _)
      | (with_reducible refine LeO.ite ?_ ?_)
      | (with_reducible refine LeO.bind ?_ (fun _ => ?_))
      | exact ih0 _ _ _ _ _
      | exact LeO.none _
      | refine LeO.ite ?_ ?_
      | refine LeO.bind ?_ (fun _ => ?_)
theorem frac_Rounded.mono : ∀ a0 a1 a2 k, LeO (frac_Rounded.f k a0 a1 a2) (frac_Rounded.f (k + 1) a0 a1 a2) := by
  intro a0 a1 a2 k
  have ih0 := frac_Rounded.mono_l k
  unfold frac_Rounded.f
  repeat' first
      | (with_reducible exact ih0 _ _ _ _ _)
      | (with_reducible exact LeO.refl _)
      | (with_reducible exact LeO.none _)
      | (with_reducible refine LeO.ite ?_ ?_)
      | (with_reducible refine LeO.bind ?_ (fun _ => ?_))
      | exact ih0 _ _ _ _ _
      | exact LeO.none _
      | refine LeO.ite ?_ ?_
      | refine LeO.bind ?_ (fun _ => ?_)
set_option maxHeartbeats 8000000 in
set_option maxRecDepth 100000 in
theorem frac_Rounded.calls (k : Nat) (a0 : Int) (a1 : Int) (a2 : Int) (r : Int) (w : World) (h : frac_Rounded.f k a0 a1 a2 = some r) :
    Calls Try.prog 82 #[.int .i64 a0, .int .i64 a1, .int .i64 a2] w fun e w' => e = .returned (.int .i64 r) ∧ Drawn0 w w' := by
  have H : (if a1 = 0 then (none) else (if (Int.tmod a0 a1) < 0 then (frac_Rounded.j0 k a0 a1 a2 (wrap64 ((wrap64 (Int.tdiv a0 a1)) - 1)) (wrap64 ((Int.tmod a0 a1) + a1))) else (frac_Rounded.j0 k a0 a1 a2 (wrap64 (Int.tdiv a0 a1)) (Int.tmod a0 a1)))) = some r := h
  clear h
  by_cases c4 : a1 = 0
  · rw [if_pos c4] at H
    exact absurd H (by simp)
  · rw [if_neg c4] at H
    have c4b0 : (a1 == 0) = false := beq_eq_false_iff_ne.mpr c4
    have c4b1 : (a1 != 0) = true := bne_iff_ne.mpr c4
    have HC5 := Aside0.mk H
    clear H
    go_enter Try.func82, Try.ntmps82
    go_upto_if 17 with (fail)
    repeat (go_quiet (fail); go_upto_if 17 with (fail))
    go_cut [7, 8] (fun v7 v8 wc => ∃ (kq : Nat) (x7_4 : Int) (x8_4 : Int), v7 = .int .i64 x7_4 ∧ v8 = .int .i64 x8_4 ∧ Aside0 (frac_Rounded.j0 kq a0 a1 a2 x7_4 x8_4 = some r) ∧ Aside0 (kq ≤ k) ∧ Drawn0 w wc)
    case first =>
      have H := HC5.out
      clear HC5
      by_cases c6 : (Int.tmod a0 a1) < 0
      · rw [if_pos c6] at H
        have c6b0 : decide ((Int.tmod a0 a1) < 0) = true := decide_eq_true c6
        clear c6
        (first | rw [c6b0] | (simp only [i64_w, i32_w]; rw [c6b0]) | skip)
        have H' := Aside0.mk H
        clear H
        go_wp2
        repeat (go_quiet (fail); try go_wp2)
        go_meet
        case rel => exact ⟨_, (wrap64 ((wrap64 (Int.tdiv a0 a1)) - 1)), (wrap64 ((Int.tmod a0 a1) + a1)), (by first | rfl | (simp; done) | (simp [*]; done)), (by first | rfl | (simp; done) | (simp [*]; done)), H', ⟨by first | omega | exact Nat.le_refl _⟩, by repeat (first | exact Drawn0.refl _ | apply Drawn0.step)⟩
      · rw [if_neg c6] at H
        have c6b0 : decide ((Int.tmod a0 a1) < 0) = false := decide_eq_false c6
        clear c6
        (first | rw [c6b0] | (simp only [i64_w, i32_w]; rw [c6b0]) | skip)
        have H' := Aside0.mk H
        clear H
        go_wp2
        repeat (go_quiet (fail); try go_wp2)
        go_meet
        case rel => exact ⟨_, (wrap64 (Int.tdiv a0 a1)), (Int.tmod a0 a1), (by first | rfl | (simp; done) | (simp [*]; done)), (by first | rfl | (simp; done) | (simp [*]; done)), H', ⟨by first | omega | exact Nat.le_refl _⟩, by repeat (first | exact Drawn0.refl _ | apply Drawn0.step)⟩
    case rest =>
      clear HC5
      try clear p2
      try clear c4
      try clear c4b0
      try clear c4b1
      try clear c6
      try clear c6b0
      try clear p6
      obtain ⟨kq, x7_4, x8_4, rfl, rfl, HA, HJ4, ⟨mc4, rfl⟩⟩ := hcut
      cases kq with
      | zero => exact absurd HA.out (by simp [frac_Rounded.j0])
      | succ kj4 =>
        have H := HA.out
        clear HA
        simp only [frac_Rounded.j0] at H
        by_cases c7 : a2 = 1
        · rw [if_pos c7] at H
          have c7b0 : (a2 == 1) = true := beq_iff_eq.mpr c7
          have c7b1 : (a2 != 1) = false := bne_eq_false_iff_eq.mpr c7
          clear c7
          by_cases c8 : x8_4 > 0
          · rw [if_pos c8] at H
            have c8b0 : decide (0 < x8_4) = true := decide_eq_true c8
            clear c8
            obtain rfl := Option.some.inj H
            go_wp2
            repeat (go_quiet (fail); try go_wp2)
            go_ret
            exact ⟨by first | rfl | (simp; done) | (simp [*]; done), by repeat (first | exact Drawn0.refl _ | apply Drawn0.step)⟩
          · rw [if_neg c8] at H
            have c8b0 : decide (0 < x8_4) = false := decide_eq_false c8
            clear c8
            obtain rfl := Option.some.inj H
            go_wp2
            repeat (go_quiet (fail); try go_wp2)
            go_ret
            exact ⟨by first | rfl | (simp; done) | (simp [*]; done), by repeat (first | exact Drawn0.refl _ | apply Drawn0.step)⟩
        · rw [if_neg c7] at H
          have c7b0 : (a2 == 1) = false := beq_eq_false_iff_ne.mpr c7
          have c7b1 : (a2 != 1) = true := bne_iff_ne.mpr c7
          by_cases c9 : a2 = 2
          · rw [if_pos c9] at H
            have c9b0 : (a2 == 2) = true := beq_iff_eq.mpr c9
            have c9b1 : (a2 != 2) = false := bne_eq_false_iff_eq.mpr c9
            clear c9
            by_cases c10 : (wrap64 (2 * x8_4)) > a1
            · rw [if_pos c10] at H
              have c10b0 : decide (a1 < (wrap64 (2 * x8_4))) = true := decide_eq_true c10
              clear c10
              obtain rfl := Option.some.inj H
              go_wp2
              repeat (go_quiet (fail); try go_wp2)
              go_ret
              exact ⟨by first | rfl | (simp; done) | (simp [*]; done), by repeat (first | exact Drawn0.refl _ | apply Drawn0.step)⟩
            · rw [if_neg c10] at H
              have c10b0 : decide (a1 < (wrap64 (2 * x8_4))) = false := decide_eq_false c10
              clear c10
              by_cases c11 : (wrap64 (2 * x8_4)) = a1
              · rw [if_pos c11] at H
                have c11b0 : ((wrap64 (2 * x8_4)) == a1) = true := beq_iff_eq.mpr c11
                have c11b1 : ((wrap64 (2 * x8_4)) != a1) = false := bne_eq_false_iff_eq.mpr c11
                clear c11
                by_cases c12 : a0 > 0
                · rw [if_pos c12] at H
                  have c12b0 : decide (0 < a0) = true := decide_eq_true c12
                  clear c12
                  obtain rfl := Option.some.inj H
                  go_wp2
                  repeat (go_quiet (fail); try go_wp2)
                  go_ret
                  exact ⟨by first | rfl | (simp; done) | (simp [*]; done), by repeat (first | exact Drawn0.refl _ | apply Drawn0.step)⟩
                · rw [if_neg c12] at H
                  have c12b0 : decide (0 < a0) = false := decide_eq_false c12
                  clear c12
                  obtain rfl := Option.some.inj H
                  go_wp2
                  repeat (go_quiet (fail); try go_wp2)
                  go_ret
                  exact ⟨by first | rfl | (simp; done) | (simp [*]; done), by repeat (first | exact Drawn0.refl _ | apply Drawn0.step)⟩
              · rw [if_neg c11] at H
                have c11b0 : ((wrap64 (2 * x8_4)) == a1) = false := beq_eq_false_iff_ne.mpr c11
                have c11b1 : ((wrap64 (2 * x8_4)) != a1) = true := bne_iff_ne.mpr c11
                obtain rfl := Option.some.inj H
                go_wp2
                repeat (go_quiet (fail); try go_wp2)
                go_ret
                exact ⟨by first | rfl | (simp; done) | (simp [*]; done), by repeat (first | exact Drawn0.refl _ | apply Drawn0.step)⟩
          · rw [if_neg c9] at H
            have c9b0 : (a2 == 2) = false := beq_eq_false_iff_ne.mpr c9
            have c9b1 : (a2 != 2) = true := bne_iff_ne.mpr c9
            by_cases c13 : a2 = 3
            · rw [if_pos c13] at H
              have c13b0 : (a2 == 3) = true := beq_iff_eq.mpr c13
              have c13b1 : (a2 != 3) = false := bne_eq_false_iff_eq.mpr c13
              clear c13
              by_cases c14 : (wrap64 (2 * x8_4)) > a1
              · rw [if_pos c14] at H
                have c14b0 : decide (a1 < (wrap64 (2 * x8_4))) = true := decide_eq_true c14
                clear c14
                obtain rfl := Option.some.inj H
                go_wp2
                repeat (go_quiet (fail); try go_wp2)
                go_ret
                exact ⟨by first | rfl | (simp; done) | (simp [*]; done), by repeat (first | exact Drawn0.refl _ | apply Drawn0.step)⟩
              · rw [if_neg c14] at H
                have c14b0 : decide (a1 < (wrap64 (2 * x8_4))) = false := decide_eq_false c14
                clear c14
                by_cases c15 : (wrap64 (2 * x8_4)) = a1
                · rw [if_pos c15] at H
                  have c15b0 : ((wrap64 (2 * x8_4)) == a1) = true := beq_iff_eq.mpr c15
                  have c15b1 : ((wrap64 (2 * x8_4)) != a1) = false := bne_eq_false_iff_eq.mpr c15
                  clear c15
                  by_cases c16 : (Int.tmod x7_4 2) = 0
                  · rw [if_pos c16] at H
                    have c16b0 : ((Int.tmod x7_4 2) == 0) = true := beq_iff_eq.mpr c16
                    have c16b1 : ((Int.tmod x7_4 2) != 0) = false := bne_eq_false_iff_eq.mpr c16
                    clear c16
                    obtain rfl := Option.some.inj H
                    go_wp2
                    repeat (go_quiet (fail); try go_wp2)
                    go_ret
                    exact ⟨by first | rfl | (simp; done) | (simp [*]; done), by repeat (first | exact Drawn0.refl _ | apply Drawn0.step)⟩
                  · rw [if_neg c16] at H
                    have c16b0 : ((Int.tmod x7_4 2) == 0) = false := beq_eq_false_iff_ne.mpr c16
                    have c16b1 : ((Int.tmod x7_4 2) != 0) = true := bne_iff_ne.mpr c16
                    obtain rfl := Option.some.inj H
                    go_wp2
                    repeat (go_quiet (fail); try go_wp2)
                    go_ret
                    exact ⟨by first | rfl | (simp; done) | (simp [*]; done), by repeat (first | exact Drawn0.refl _ | apply Drawn0.step)⟩
                · rw [if_neg c15] at H
                  have c15b0 : ((wrap64 (2 * x8_4)) == a1) = false := beq_eq_false_iff_ne.mpr c15
                  have c15b1 : ((wrap64 (2 * x8_4)) != a1) = true := bne_iff_ne.mpr c15
                  obtain rfl := Option.some.inj H
                  go_wp2
                  repeat (go_quiet (fail); try go_wp2)
                  go_ret
                  exact ⟨by first | rfl | (simp; done) | (simp [*]; done), by repeat (first | exact Drawn0.refl _ | apply Drawn0.step)⟩
            · rw [if_neg c13] at H
              have c13b0 : (a2 == 3) = false := beq_eq_false_iff_ne.mpr c13
              have c13b1 : (a2 != 3) = true := bne_iff_ne.mpr c13
              obtain rfl := Option.some.inj H
              go_wp2
              repeat (go_quiet (fail); try go_wp2)
              go_ret
              exact ⟨by first | rfl | (simp; done) | (simp [*]; done), by repeat (first | exact Drawn0.refl _ | apply Drawn0.step)⟩

/-! #### frac_Rounded, without rounds -/
def frac_RoundedT.f (a0 a1 a2 : Int) : Option Int := frac_Rounded.f 1 a0 a1 a2
theorem frac_RoundedT.calls (a0 a1 a2 r : Int) (w : World) (h : frac_RoundedT.f a0 a1 a2 = some r) :
    Calls Try.prog 82 #[.int .i64 a0, .int .i64 a1, .int .i64 a2] w fun e w' => e = .returned (.int .i64 r) ∧ Drawn0 w w' := frac_Rounded.calls 1 a0 a1 a2 r w h
/-- n / d to the nearest, the half up (n not below 0). -/
def nearD (n d : Int) : Int := (2 * n + d) / (2 * d)
theorem nearD_parts {n d : Int} (h0 : 0 ≤ n) (hd : 0 < d) : nearD n d = n / d + (if d ≤ 2 * (n % d) then 1 else 0) := by
  unfold nearD
  have h1 := Int.mul_ediv_add_emod n d
  have h2 := Int.emod_nonneg n (show d ≠ 0 by omega)
  have h3 := Int.emod_lt_of_pos n hd
  have e : 2 * n + d = (2 * (n % d) + d) + (2 * d) * (n / d) := by
    rw [Int.mul_assoc]; omega
  rw [e, Int.add_mul_ediv_left _ _ (by omega)]
  split
  · rename_i h
    have : (2 * (n % d) + d) / (2 * d) = 1 := by
      rw [Int.ediv_eq_iff_of_pos (by omega)]; omega
    omega
  · rename_i h
    have : (2 * (n % d) + d) / (2 * d) = 0 := Int.ediv_eq_zero_of_lt (by omega) (by omega)
    omega
theorem near_eq {n d : Int} (h0 : 0 ≤ n) (h1 : n ≤ 4000000000000000000) (hd : 0 < d) (hd1 : d ≤ 4000000000000000000) : frac_RoundedT.f n d 2 = some (nearD n d) := by
  unfold frac_RoundedT.f frac_Rounded.f
  have h2 := Int.emod_nonneg n (show d ≠ 0 by omega)
  have h3 := Int.emod_lt_of_pos n hd
  have h4 : 0 ≤ n / d := Int.ediv_nonneg h0 (by omega)
  have h5 : n / d ≤ n := Int.ediv_le_self _ h0
  rw [if_neg (by omega), Int.tdiv_eq_ediv_of_nonneg h0, Int.tmod_eq_emod_of_nonneg h0, if_neg (by omega), IntWalk.wrap64_in _ ⟨by omega, by omega⟩, nearD_parts h0 hd]
  obtain ⟨q, hq⟩ : ∃ q, q = n / d := ⟨_, rfl⟩
  obtain ⟨s, hs⟩ : ∃ s, s = n % d := ⟨_, rfl⟩
  have hz : s = n % d := hs
  have hn0 : n = 0 → s = 0 := fun h => by rw [hs, h]; simp
  rw [← hq, ← hs]
  rw [← hq] at h4 h5
  rw [← hs] at h2 h3
  simp only [frac_Rounded.j0]
  rw [if_neg (by decide), if_pos trivial]
  rw [IntWalk.wrap64_in (2 * s) ⟨by omega, by omega⟩, IntWalk.wrap64_in (q + 1) ⟨by omega, by omega⟩]
  by_cases a1 : 2 * s > d
  · rw [if_pos a1, if_pos (by omega)]
  · rw [if_neg a1]
    by_cases a2 : 2 * s = d
    · rw [if_pos a2, if_pos (by omega), if_pos (by omega)]
    · rw [if_neg a2, if_neg (by omega), Int.add_zero]

/-! ### note_rows: function 50, by hand -/
/-- The rows of a loan. -/
def rowsL (rate pay : Int) : Nat → Int → List S55 → List S55
  | 0, _, acc => acc
  | k + 1, ow, acc => if 0 < ow ∧ acc.length ≤ 40 then (if pay ≤ nearD (ow * rate) 1000000 then [] else rowsL rate pay k (ow - mn (pay - nearD (ow * rate) 1000000) ow) (acc ++ [⟨nearD (ow * rate) 1000000, mn (pay - nearD (ow * rate) 1000000) ow, ow - mn (pay - nearD (ow * rate) 1000000) ow⟩])) else acc
theorem rowsL_succ (rate pay : Int) (k : Nat) (ow : Int) (acc : List S55) : rowsL rate pay (k + 1) ow acc = if 0 < ow ∧ acc.length ≤ 40 then (if pay ≤ nearD (ow * rate) 1000000 then [] else rowsL rate pay k (ow - mn (pay - nearD (ow * rate) 1000000) ow) (acc ++ [⟨nearD (ow * rate) 1000000, mn (pay - nearD (ow * rate) 1000000) ow, ow - mn (pay - nearD (ow * rate) 1000000) ow⟩])) else acc := rfl
def loanR (owed rate pay : Int) : List S55 := rowsL rate pay 42 owed []
def slLen : Value → Nat
  | .slice _ n _ => n
  | _ => 0
theorem near_le {ow rate : Int} (h0 : 0 ≤ ow) (h1 : ow ≤ 1000000000000) (h2 : 0 ≤ rate) (h3 : rate ≤ 1000000) : 0 ≤ nearD (ow * rate) 1000000 ∧ nearD (ow * rate) 1000000 ≤ ow ∧ 0 ≤ ow * rate ∧ ow * rate ≤ 1000000000000000000 := by
  have a1 : 0 ≤ ow * rate := Int.mul_nonneg h0 h2
  have a2 : ow * rate ≤ ow * 1000000 := Int.mul_le_mul_of_nonneg_left h3 h0
  unfold nearD
  refine ⟨?_, ?_, a1, ?_⟩ <;> omega
set_option maxHeartbeats 1600000 in
set_option maxRecDepth 100000 in
theorem note_rows.calls (a0 a1 a2 : Int) (w : World) (h0 : 0 ≤ a0) (h1 : a0 ≤ 1000000000000) (h2 : 0 ≤ a1) (h3 : a1 ≤ 1000000) (h4 : 1 ≤ a2) (h5 : a2 ≤ 2000000000001) :
    Calls Try.prog 50 #[.int .i64 a0, .int .i64 a1, .int .i64 a2] w fun e w' => ∃ v0_ : Value, e = .returned v0_ ∧ Kd.R k55 55 w' w.heap.size (fun _ => True) v0_ (loanR a0 a1 a2) ∧ (loanR a0 a1 a2 = [] → v0_ = .slice none 0 0) ∧ Below w.heap.size w w' := by
  have hu := Try.underlying55
  go_enter Try.func50, Try.ntmps50
  go_wp2_with fail
  go_loopw [0, 7] (fun so sv wr => ∃ (k : Nat) (ow : Int) (acc : List S55), so = .int .i64 ow ∧ 0 ≤ ow ∧ ow ≤ 1000000000000 ∧ Aside0 (acc.length + k = 42) ∧ acc.length ≤ 41 ∧ Aside0 (loanR a0 a1 a2 = rowsL a1 a2 k ow acc) ∧ Aside0 (Kd.R k55 55 wr w.heap.size (fun _ => True) sv acc) ∧ Aside0 (acc = [] → sv = .slice none 0 0) ∧ Aside0 (Below w.heap.size w wr)) (fun _ sv _ => 42 - slLen sv)
  case atStart => exact ⟨42, a0, [], rfl, h0, h1, ⟨rfl⟩, by simp, ⟨rfl⟩, ⟨Kd.R_nil _ _ _ _ _⟩, ⟨fun _ => rfl⟩, ⟨Below.refl _ _⟩⟩
  case round =>
    obtain ⟨k, ow, acc, rfl, g0, g1, HK, hl, HS, HO, HN, HB⟩ := hrel
    obtain ⟨n1, n2, n3, n4⟩ := near_le g0 g1 h2 h3
    obtain ⟨A, cp, rfl, _⟩ := Kd.R_slice HO.out
    obtain ⟨k, rfl⟩ : ∃ m, k = m + 1 := ⟨k - 1, by have := HK.out; omega⟩
    have hs1 := HS.out.trans (rowsL_succ _ _ _ _ _)
    clear HS
    by_cases hc : 0 < ow ∧ acc.length ≤ 40
    · rw [if_pos hc] at hs1
      obtain ⟨c1, c2⟩ := hc
      have d1 : decide (0 < ow) = true := decide_eq_true c1
      have d2 : decide ((acc.length : Int) ≤ 40) = true := decide_eq_true (by omega)
      have hw : IntKind.i64.wrap (ow * a1) = ow * a1 := by rw [IntKind.wrap_i64]; omega
      obtain ⟨i, hi⟩ : ∃ i, i = nearD (ow * a1) 1000000 := ⟨_, rfl⟩
      have HI := Aside0.mk (show frac_RoundedT.f (ow * a1) 1000000 2 = some i by rw [near_eq n3 (by omega) (by decide) (by decide), hi])
      rw [← hi] at hs1 n1 n2
      have HS1 := Aside0.mk hs1
      have hlen : acc.length ≤ 40 := c2
      clear hi hs1 c2 n3 n4
      by_cases hp : a2 ≤ i
      · have d3 : decide (a2 ≤ i) = true := decide_eq_true hp
        go_wp2_with fail
        refine (frac_RoundedT.calls _ _ _ i _ HI.out).mono ?_
        rintro e w1 ⟨rfl, ⟨nd, rfl⟩⟩
        go_wp2_with fail
        go_ret
        have h := HS1.out
        rw [if_pos hp] at h
        exact ⟨_, rfl, by rw [h]; exact Kd.R_nil _ _ _ _ _, fun _ => rfl, pw_below_drewN HB.out _⟩
      · have d3 : decide (a2 ≤ i) = false := decide_eq_false hp
        have hw2 : IntKind.i64.wrap (a2 - i) = a2 - i := by rw [IntKind.wrap_i64]; omega
        obtain ⟨m, hm⟩ : ∃ m, m = mn (a2 - i) ow := ⟨_, rfl⟩
        have hm0 : 1 ≤ m ∧ m ≤ ow := by rw [hm]; unfold mn; split <;> omega
        have HM := Aside0.mk hm
        have hw3 : IntKind.i64.wrap (ow - m) = ow - m := by rw [IntKind.wrap_i64]; omega
        have h := HS1.out
        rw [if_neg hp, ← hm] at h
        have HS2 := Aside0.mk h
        have hmm : (if ow < a2 - i then ow else a2 - i) = m := hm.symm
        clear h HS1 hm
        go_wp2_with fail
        refine (frac_RoundedT.calls _ _ _ i _ HI.out).mono ?_
        rintro e w1 ⟨rfl, ⟨nd, rfl⟩⟩
        have HO' := Kd.R_drewN HO.out nd
        have HB' := pw_below_drewN HB.out nd
        have hsz : w.heap.size ≤ (wr.drewN nd).heap.size := HB'.size
        have HOA := Aside0.mk HO'
        have HBA := Aside0.mk HB'
        have HSZ := Aside0.mk hsz
        clear HO' HB' hsz
        go_wp2_with ((with_reducible refine gate_builtin (b := .append) (xs := #[.tmp 32, .tmp 37]) rfl ?_); go_loud (at_builtin; refine Kd.R_append k55 (w0 := w) (W := wr.drewN nd) w.heap.size rfl (.tmp 32) (.tmp 37) 51 55 (.agg #[(.int .i64 0), (.int .i64 0), (.int .i64 0)]) 24 rfl Try.underlying51 (by kernel_rfl) rfl (by decide) (by omega) (.slice A acc.length cp) acc ⟨i, m, ow - m⟩ [.int .i64 i, .int .i64 m, .int .i64 (ow - m)] (fun _ => True) (fun _ => False) rfl (by first | (go_simp; done) | (go_simp; rfl)) (k55_mkM _ _ _ ⟨i, m, ow - m⟩) (fun _ hk => hk.elim) (fun _ _ => trivial) HOA.out HBA.out HSZ.out (by omega) ?_; intro v1 w3 hr3 hb3 hg3 hat; obtain ⟨A3, cp3, rfl, _⟩ := Kd.R_slice hr3; have HR3 := Aside0.mk hr3; have HB3 := Aside0.mk hb3; clear hr3 hb3 hg3 hat))
        go_roundw
        case measure => simp [slLen]; omega
        case rel => exact ⟨k, ow - m, acc ++ [⟨i, m, ow - m⟩], rfl, by omega, by omega, ⟨by have := HK.out; simp; omega⟩, by simp; omega, by rw [HM.out] at HS2 ⊢; exact HS2, ⟨by have h := HR3.out; rw [List.length_append] at h; exact h⟩, ⟨fun h => absurd h (by simp)⟩, HB3⟩
    · rw [if_neg hc] at hs1
      have HS1 := Aside0.mk hs1
      clear hs1
      by_cases c1 : 0 < ow
      · have d1 : decide (0 < ow) = true := decide_eq_true c1
        have d2 : decide ((acc.length : Int) ≤ 40) = false := decide_eq_false (by omega)
        go_wp2_with fail
        go_ret
        exact ⟨_, rfl, by rw [HS1.out]; exact HO.out, by rw [HS1.out]; exact HN.out, HB.out⟩
      · have d1 : decide (0 < ow) = false := decide_eq_false c1
        go_wp2_with fail
        go_ret
        exact ⟨_, rfl, by rw [HS1.out]; exact HO.out, by rw [HS1.out]; exact HN.out, HB.out⟩

/-! ### note_Least: function 16, by hand -/
theorem eg_49 : ∀ (args : Array Value) (W : World), (callFunc 49 args).run Try.prog W = .ok (.enter 49 args) W := fun args W => by simp [callFunc, Try.func49]; rfl
/-- Is so much a time enough? -/
def enough (owed rate n pay : Int) : Bool := decide (owed = 0) || (!(loanR owed rate pay).isEmpty && decide (((loanR owed rate pay).length : Int) ≤ n))
set_option maxHeartbeats 1600000 in
set_option maxRecDepth 100000 in
theorem note_Least.clos (h owed rate n : Int) (b : Nat) (W : World) (k0 : W.cell? ⟨b, 0, none⟩ = some (.int .i64 owed)) (k1 : W.cell? ⟨b + 1, 0, none⟩ = some (.int .i64 rate)) (k2 : W.cell? ⟨b + 2, 0, none⟩ = some (.int .i64 n)) (g0 : 0 ≤ owed) (g1 : owed ≤ 1000000000000) (g2 : 0 ≤ rate) (g3 : rate ≤ 1000000) (g4 : 0 ≤ h) (g5 : h < 2000000000000) :
    Calls Try.prog 49 (#[.int .i64 h] ++ #[.pointer (some ⟨b, 0, none⟩), .pointer (some ⟨b + 1, 0, none⟩), .pointer (some ⟨b + 2, 0, none⟩)]) W fun e W' => e = .returned (.bool (enough owed rate n (h + 1))) ∧ Below W.heap.size W W' := by
  have hb2 : b + 2 < W.heap.size := World.block_lt_of_cell? W _ k2
  go_enter Try.func49, Try.ntmps49
  go_wp2_with fail
  refine (note_rows.calls owed rate (h + 1) _ g0 g1 g2 g3 (by omega) (by omega)).mono ?_
  rintro e w1 ⟨v, rfl, hr, hn, hb⟩
  have hc0 := (hb.cell (p := ⟨b, 0, none⟩) (by show b < W.heap.size; omega)).trans k0
  have hc2 := (hb.cell (p := ⟨b + 2, 0, none⟩) (by show b + 2 < W.heap.size; omega)).trans k2
  have HB := Aside0.mk hb
  have HE := Aside0.mk (show enough owed rate n (h + 1) = (decide (owed = 0) || (!(loanR owed rate (h + 1)).isEmpty && decide (((loanR owed rate (h + 1)).length : Int) ≤ n))) from rfl)
  obtain ⟨l, hl⟩ : ∃ l, l = loanR owed rate (h + 1) := ⟨_, rfl⟩
  rw [← hl] at hr hn HE
  clear hb k0 k1 k2 hl
  by_cases h0 : owed = 0
  · have hd : (owed == 0) = true := beq_iff_eq.2 h0
    have HH := Aside0.mk h0
    clear h0
    go_wp2_with fail
    go_ret
    exact ⟨by rw [HE.out, HH.out]; rfl, HB.out⟩
  · have hd : (owed == 0) = false := beq_eq_false_iff_ne.2 h0
    have HH := Aside0.mk h0
    clear h0
    cases l with
    | nil =>
      obtain rfl := hn rfl
      have hnn := fun W => run_neq_slice_nil_any (P := Try.prog) W 51 55 none 0 0 0 0 Try.underlying51
      clear hn hr
      go_wp2_with fail
      go_ret
      exact ⟨by rw [HE.out, decide_eq_false HH.out]; rfl, HB.out⟩
    | cons y l =>
      rcases YtlfbdcobpfainaaH.R_row hr with ⟨_, h⟩ | ⟨g, cap, cur, rfl, _⟩
      · cases h
      · have hnn := fun W => run_neq_slice_nil_any (P := Try.prog) W 51 55 (some ⟨g, 0, none⟩) (y :: l).length cap 0 0 Try.underlying51
        obtain ⟨m, hm⟩ : ∃ m, m = (y :: l).length := ⟨_, rfl⟩
        have HB2 := HE.out
        rw [← hm] at HB2 hnn ⊢
        have HE2 := Aside0.mk HB2
        clear HB2 hn hr hm
        go_wp2_with fail
        go_ret
        exact ⟨by rw [HE2.out, decide_eq_false HH.out]; rfl, HB.out⟩
def maxPay : Nat := 2000000000000
def note_Least.f (owed rate n : Int) : Option (Int × Int) :=
  if owed < 0 ∨ 1000000000000 < owed ∨ rate < 0 ∨ 1000000 < rate then some (0, 1) else if n < 1 ∨ 40 < n then some (0, 1) else some (1 + (bsF (fun i => !enough owed rate n ((i : Int) + 1)) (maxPay + 1) 0 maxPay : Nat), 0)
set_option maxHeartbeats 1600000 in
set_option maxRecDepth 100000 in
theorem note_Least.calls (a0 a1 a2 : Int) (r1 r2 : Int) (w : World) (h : note_Least.f a0 a1 a2 = some (r1, r2)) :
    Calls Try.prog 16 #[.int .i64 a0, .int .i64 a1, .int .i64 a2] w fun e w' => e = .returned (.tuple #[.int .i64 r1, .int .i64 r2]) ∧ Below w.heap.size w w' := by
  have hlook : note_look.f a0 a1 = some (if a0 < 0 ∨ 1000000000000 < a0 ∨ a1 < 0 ∨ 1000000 < a1 then 1 else 0) := by
    unfold note_look.f
    by_cases c : a0 < 0 ∨ 1000000000000 < a0 ∨ a1 < 0 ∨ 1000000 < a1
    · rw [if_pos c]; repeat' split
      all_goals first | rfl | omega
    · rw [if_neg c]; repeat' split
      all_goals first | rfl | omega
  have HL := Aside0.mk hlook
  clear hlook
  unfold note_Least.f at h
  by_cases c : a0 < 0 ∨ 1000000000000 < a0 ∨ a1 < 0 ∨ 1000000 < a1
  · rw [if_pos c] at h
    have hl := HL.out
    rw [if_pos c] at hl
    have HL1 := Aside0.mk hl
    obtain ⟨rfl, rfl⟩ : 0 = r1 ∧ 1 = r2 := by simpa using h
    clear h hl c
    go_enter Try.func16, Try.ntmps16
    go_wp2_with (go_at_call 47; refine (note_look.calls a0 a1 1 _ HL1.out).mono ?_; rintro e w1 ⟨rfl, ⟨nd, rfl⟩⟩)
    go_ret2
    exact ⟨rfl, by repeat (first | exact Below.refl _ _ | apply below_alloc | apply pw_below_drewN | apply below_drew1)⟩
  · rw [if_neg c] at h
    have hl := HL.out
    rw [if_neg c] at hl
    have HL1 := Aside0.mk hl
    clear hl HL
    have c' : 0 ≤ a0 ∧ a0 ≤ 1000000000000 ∧ 0 ≤ a1 ∧ a1 ≤ 1000000 := by omega
    clear c
    obtain ⟨g0, g1, g2, g3⟩ := c'
    by_cases c2 : a2 < 1
    · rw [if_pos (Or.inl c2)] at h
      obtain ⟨rfl, rfl⟩ : 0 = r1 ∧ 1 = r2 := by simpa using h
      have d1 : decide (a2 < 1) = true := decide_eq_true c2
      clear h c2
      go_enter Try.func16, Try.ntmps16
      go_wp2_with (go_at_call 47; refine (note_look.calls a0 a1 0 _ HL1.out).mono ?_; rintro e w1 ⟨rfl, ⟨nd, rfl⟩⟩)
      go_ret2
      exact ⟨rfl, by repeat (first | exact Below.refl _ _ | apply below_alloc | apply pw_below_drewN | apply below_drew1)⟩
    · by_cases c3 : 40 < a2
      · rw [if_pos (Or.inr c3)] at h
        obtain ⟨rfl, rfl⟩ : 0 = r1 ∧ 1 = r2 := by simpa using h
        have d1 : decide (a2 < 1) = false := decide_eq_false c2
        have d2 : decide (40 < a2) = true := decide_eq_true c3
        clear h c2 c3
        go_enter Try.func16, Try.ntmps16
        go_wp2_with (go_at_call 47; refine (note_look.calls a0 a1 0 _ HL1.out).mono ?_; rintro e w1 ⟨rfl, ⟨nd, rfl⟩⟩)
        go_ret2
        exact ⟨rfl, by repeat (first | exact Below.refl _ _ | apply below_alloc | apply pw_below_drewN | apply below_drew1)⟩
      · rw [if_neg (by omega)] at h
        obtain ⟨m, hm⟩ : ∃ m, m = bsF (fun i => !enough a0 a1 a2 ((i : Int) + 1)) (maxPay + 1) 0 maxPay := ⟨_, rfl⟩
        rw [← hm] at h
        obtain ⟨rfl, rfl⟩ : 1 + (m : Int) = r1 ∧ 0 = r2 := by simpa using h
        have hm2 : m ≤ 2000000000000 := by rw [hm]; exact bsF_le (Nat.zero_le _)
        have HM := Aside0.mk hm
        have d1 : decide (a2 < 1) = false := decide_eq_false c2
        have d2 : decide (40 < a2) = false := decide_eq_false c3
        have hw : IntKind.i64.wrap (1 + (m : Int)) = 1 + (m : Int) := by rw [IntKind.wrap_i64]; omega
        clear h hm c2 c3
        go_enter Try.func16, Try.ntmps16
        go_wp2_with (go_at_call 47; refine (note_look.calls a0 a1 0 _ HL1.out).mono ?_; rintro e w1 ⟨rfl, ⟨nd, rfl⟩⟩)
        obtain ⟨N, hN⟩ : ∃ N : Nat, N = 2000000000000 := ⟨_, rfl⟩
        have hdc : ∀ (W : World) (n : Nat) (p : Addr), (W.drewN n).cell? p = W.cell? p := fun W n p => by simp
        have hNi : (2000000000000 : Int) = (N : Int) := by rw [hN]; rfl
        rw [hNi]
        refine (search_any 49 _ eg_49 (fun i => enough a0 a1 a2 ((i : Int) + 1)) N (by omega) _ (fun h W h0 h1 hb => ?_)).mono ?_
        · have e : ((h.toNat : Int)) = h := by omega
          show Calls _ _ _ _ fun e W' => e = .returned (.bool (enough a0 a1 a2 ((h.toNat : Int) + 1))) ∧ Below W.heap.size W W'
          rw [e]
          refine note_Least.clos h a0 a1 a2 w.heap.size W ?_ ?_ ?_ g0 g1 g2 g3 h0 (by omega)
          · exact (hb.cell (by simp; omega)).trans ((hdc _ _ _).trans (YtlfbdcobpfainaaH.old_cell (YtlfbdcobpfainaaH.old_cell (YtlfbdcobpfainaaH.new_cell _ _ _ 0 _ rfl _ rfl) _) _))
          · exact (hb.cell (by simp)).trans ((hdc _ _ _).trans (YtlfbdcobpfainaaH.old_cell (YtlfbdcobpfainaaH.new_cell _ _ _ 0 _ rfl _ (by simp)) _))
          · exact (hb.cell (by simp)).trans ((hdc _ _ _).trans (YtlfbdcobpfainaaH.new_cell _ _ _ 0 _ rfl _ (by simp)))
        · rintro e w2 ⟨rfl, hb⟩
          have e : bsF (fun i => !enough a0 a1 a2 ((i : Int) + 1)) (N + 1) 0 N = m := by rw [HM.out, hN]; rfl
          rw [e]
          have HB := Aside0.mk (show Below w.heap.size w w2 from (show Below w.heap.size w _ by repeat (first | exact Below.refl _ _ | apply below_alloc | apply pw_below_drewN | apply below_drew1)).trans (hb.mono (by simp; omega)))
          clear hb e
          clear hN hNi hdc
          go_wp2_with fail
          go_ret2
          exact ⟨rfl, HB.out⟩

/-! ### note_Rows: function 17, by hand -/
def note_Rows.f (owed rate pay : Int) : Option (List S55 × Int) :=
  if owed < 0 ∨ 1000000000000 < owed ∨ rate < 0 ∨ 1000000 < rate then some ([], 1) else if pay < 1 ∨ 2000000000000 < pay then some ([], 1) else
  if 0 < owed ∧ loanR owed rate pay = [] then some ([], 7) else if 40 < (loanR owed rate pay).length then some ([], 2) else some (loanR owed rate pay, 0)
theorem note_look_eq (a0 a1 : Int) : note_look.f a0 a1 = some (if a0 < 0 ∨ 1000000000000 < a0 ∨ a1 < 0 ∨ 1000000 < a1 then 1 else 0) := by
  unfold note_look.f
  by_cases c : a0 < 0 ∨ 1000000000000 < a0 ∨ a1 < 0 ∨ 1000000 < a1
  · rw [if_pos c]; repeat' split
    all_goals first | rfl | omega
  · rw [if_neg c]; repeat' split
    all_goals first | rfl | omega
set_option maxHeartbeats 1600000 in
set_option maxRecDepth 100000 in
theorem note_Rows.calls (a0 a1 a2 : Int) (r1 : List S55) (r2 : Int) (w : World) (h : note_Rows.f a0 a1 a2 = some (r1, r2)) :
    Calls Try.prog 17 #[.int .i64 a0, .int .i64 a1, .int .i64 a2] w fun e w' => ∃ v0_ : Value, e = .returned (.tuple #[v0_, .int .i64 r2]) ∧ Kd.R k55 55 w' w.heap.size (fun _ => True) v0_ r1 ∧ Below w.heap.size w w' := by
  have HL := Aside0.mk (note_look_eq a0 a1)
  unfold note_Rows.f at h
  by_cases c : a0 < 0 ∨ 1000000000000 < a0 ∨ a1 < 0 ∨ 1000000 < a1
  · rw [if_pos c] at h
    have hl := HL.out
    rw [if_pos c] at hl
    have HL1 := Aside0.mk hl
    obtain ⟨rfl, rfl⟩ : [] = r1 ∧ 1 = r2 := by simpa using h
    clear h hl c
    go_enter Try.func17, Try.ntmps17
    go_wp2_with (go_at_call 47; refine (note_look.calls a0 a1 1 _ HL1.out).mono ?_; rintro e w1 ⟨rfl, ⟨nd, rfl⟩⟩)
    refine bodyPost_ret (results_tmp2 rfl _ _ _) rfl ?_
    exact ⟨_, rfl, Kd.R_nil _ _ _ _ _, by repeat (first | exact Below.refl _ _ | apply below_alloc | apply pw_below_drewN | apply below_drew1)⟩
  · rw [if_neg c] at h
    have hl := HL.out
    rw [if_neg c] at hl
    have HL1 := Aside0.mk hl
    clear hl HL
    have c' : 0 ≤ a0 ∧ a0 ≤ 1000000000000 ∧ 0 ≤ a1 ∧ a1 ≤ 1000000 := by omega
    clear c
    obtain ⟨g0, g1, g2, g3⟩ := c'
    by_cases c2 : a2 < 1
    · rw [if_pos (Or.inl c2)] at h
      obtain ⟨rfl, rfl⟩ : [] = r1 ∧ 1 = r2 := by simpa using h
      have d1 : decide (a2 < 1) = true := decide_eq_true c2
      clear h c2
      go_enter Try.func17, Try.ntmps17
      go_wp2_with (go_at_call 47; refine (note_look.calls a0 a1 0 _ HL1.out).mono ?_; rintro e w1 ⟨rfl, ⟨nd, rfl⟩⟩)
      refine bodyPost_ret (results_tmp2 rfl _ _ _) rfl ?_
      exact ⟨_, rfl, Kd.R_nil _ _ _ _ _, by repeat (first | exact Below.refl _ _ | apply below_alloc | apply pw_below_drewN | apply below_drew1)⟩
    · by_cases c3 : 2000000000000 < a2
      · rw [if_pos (Or.inr c3)] at h
        obtain ⟨rfl, rfl⟩ : [] = r1 ∧ 1 = r2 := by simpa using h
        have d1 : decide (a2 < 1) = false := decide_eq_false c2
        have d2 : decide (2000000000000 < a2) = true := decide_eq_true c3
        clear h c2 c3
        go_enter Try.func17, Try.ntmps17
        go_wp2_with (go_at_call 47; refine (note_look.calls a0 a1 0 _ HL1.out).mono ?_; rintro e w1 ⟨rfl, ⟨nd, rfl⟩⟩)
        refine bodyPost_ret (results_tmp2 rfl _ _ _) rfl ?_
        exact ⟨_, rfl, Kd.R_nil _ _ _ _ _, by repeat (first | exact Below.refl _ _ | apply below_alloc | apply pw_below_drewN | apply below_drew1)⟩
      · rw [if_neg (by omega)] at h
        have g4 : 1 ≤ a2 := by omega
        have g5 : a2 ≤ 2000000000001 := by omega
        have H := Aside0.mk h
        have d1 : decide (a2 < 1) = false := decide_eq_false c2
        have d2 : decide (2000000000000 < a2) = false := decide_eq_false c3
        clear h c2 c3
        go_enter Try.func17, Try.ntmps17
        go_wp2_with (go_at_call 47; refine (note_look.calls a0 a1 0 _ HL1.out).mono ?_; rintro e w1 ⟨rfl, ⟨nd, rfl⟩⟩)
        refine (note_rows.calls a0 a1 a2 _ g0 g1 g2 g3 g4 g5).mono ?_
        rintro e w1 ⟨v, rfl, hr, hn, hb⟩
        have h := H.out
        have HB := Aside0.mk (show Below w.heap.size w w1 from (show Below w.heap.size w _ by repeat (first | exact Below.refl _ _ | apply below_alloc | apply pw_below_drewN | apply below_drew1)).trans (hb.mono (by simp)))
        have HR := Aside0.mk (Kd.R_lower hr (show w.heap.size ≤ _ by simp))
        obtain ⟨l, hl⟩ : ∃ l, l = loanR a0 a1 a2 := ⟨_, rfl⟩
        rw [← hl] at hn HR h
        clear hb hr hl H
        cases l with
        | nil =>
          obtain rfl := hn rfl
          clear hn
          have hnn := fun W => Lib.run_eql_slice_nil (P := Try.prog) W 51 55 none 0 0 0 0 Try.underlying51
          by_cases c4 : 0 < a0
          · have d4 : decide (0 < a0) = true := decide_eq_true c4
            rw [if_pos ⟨c4, rfl⟩] at h
            obtain ⟨rfl, rfl⟩ : [] = r1 ∧ 7 = r2 := by simpa using h
            clear h c4
            go_wp2_with fail
            refine bodyPost_ret (results_tmp2 rfl _ _ _) rfl ?_
            exact ⟨_, rfl, Kd.R_nil _ _ _ _ _, HB.out⟩
          · have d4 : decide (0 < a0) = false := decide_eq_false c4
            rw [if_neg (fun h => c4 h.1), if_neg (by simp)] at h
            obtain ⟨rfl, rfl⟩ : [] = r1 ∧ 0 = r2 := by simpa using h
            clear h c4
            go_wp2_with fail
            refine bodyPost_ret (results_tmp2 rfl _ _ _) rfl ?_
            exact ⟨_, rfl, Kd.R_nil _ _ _ _ _, HB.out⟩
        | cons y l =>
          rw [if_neg (fun h => absurd h.2 (by simp))] at h
          rcases YtlfbdcobpfainaaH.R_row HR.out with ⟨_, h⟩ | ⟨g, cap, cur, rfl, _⟩
          · cases h
          · have hnn := fun W => Lib.run_eql_slice_nil (P := Try.prog) W 51 55 (some ⟨g, 0, none⟩) (y :: l).length cap 0 0 Try.underlying51
            obtain ⟨z, hz⟩ : ∃ z, z = y :: l := ⟨_, rfl⟩
            rw [← hz] at hnn HR h ⊢
            clear hn hz
            by_cases c5 : 40 < z.length
            · have d5 : decide (40 < (z.length : Int)) = true := decide_eq_true (by omega)
              rw [if_pos c5] at h
              obtain ⟨rfl, rfl⟩ : [] = r1 ∧ 2 = r2 := by simpa using h
              clear h c5
              by_cases c4 : 0 < a0
              · have d4 : decide (0 < a0) = true := decide_eq_true c4
                go_wp2_with fail
                refine bodyPost_ret (results_tmp2 rfl _ _ _) rfl ?_
                exact ⟨_, rfl, Kd.R_nil _ _ _ _ _, HB.out⟩
              · have d4 : decide (0 < a0) = false := decide_eq_false c4
                go_wp2_with fail
                refine bodyPost_ret (results_tmp2 rfl _ _ _) rfl ?_
                exact ⟨_, rfl, Kd.R_nil _ _ _ _ _, HB.out⟩
            · have d5 : decide (40 < (z.length : Int)) = false := decide_eq_false (by omega)
              rw [if_neg c5] at h
              obtain ⟨rfl, rfl⟩ : z = r1 ∧ 0 = r2 := by simpa using h
              clear h c5
              by_cases c4 : 0 < a0
              · have d4 : decide (0 < a0) = true := decide_eq_true c4
                go_wp2_with fail
                refine bodyPost_ret (results_tmp2 rfl _ _ _) rfl ?_
                exact ⟨_, rfl, HR.out, HB.out⟩
              · have d4 : decide (0 < a0) = false := decide_eq_false c4
                go_wp2_with fail
                refine bodyPost_ret (results_tmp2 rfl _ _ _) rfl ?_
                exact ⟨_, rfl, HR.out, HB.out⟩

/-! ### trial_look: function 51 -/
def trial_look.f (l0_0 : List (S82)) (l0_1 : List (S38)) (a0_2 : Int) (a1 : Int) : Option (Int) := (book_Check.f l0_0 l0_1 a0_2).bind fun t184 => (if t184 = 0 then ((cal_Is.f a1).bind fun t185 => (if t185 = true then (some 0) else (some 1))) else (some t184))
set_option maxHeartbeats 8000000 in
set_option maxRecDepth 100000 in
theorem trial_look.calls (A0_0 : Option Addr) (c0_0 : Nat) (l0_0 : List (S82)) (A0_1 : Option Addr) (c0_1 : Nat) (l0_1 : List (S38)) (a0_2 : Int) (a1 : Int) (r : Int) (w : World) (hr0_0 : Kd.C k82 w A0_0 l0_0.length l0_0) (hc0_0 : l0_0.length ≤ c0_0) (hr0_1 : Kd.C k38 w A0_1 l0_1.length l0_1) (hc0_1 : l0_1.length ≤ c0_1) (h : trial_look.f l0_0 l0_1 a0_2 a1 = some r) :
    Calls Try.prog 51 #[.agg #[.slice A0_0 l0_0.length c0_0, .slice A0_1 l0_1.length c0_1, .int .i64 a0_2], .int .i64 a1] w fun e w' => e = .returned (.int .i64 r) ∧ Below w.heap.size w w' := by
  have hu32 := Try.underlying32
  have HR0_0 := Aside0.mk hr0_0
  have HC0_0 := Aside0.mk hc0_0
  clear hr0_0 hc0_0
  have HR0_1 := Aside0.mk hr0_1
  have HC0_1 := Aside0.mk hc0_1
  clear hr0_1 hc0_1
  have HB := Aside0.mk (Below.refl w.heap.size w)
  have H : ((book_Check.f l0_0 l0_1 a0_2).bind fun t184 => (if t184 = 0 then ((cal_Is.f a1).bind fun t185 => (if t185 = true then (some 0) else (some 1))) else (some t184))) = some r := h
  clear h
  replace H := Option.bind_eq_some_iff.mp H
  obtain ⟨t184, A30, H⟩ := H
  replace H : (if t184 = 0 then ((cal_Is.f a1).bind fun t185 => (if t185 = true then (some 0) else (some 1))) else (some t184)) = some r := H
  have A3 := Aside0.mk A30
  clear A30
  by_cases c4 : t184 = 0
  · rw [if_pos c4] at H
    have c4b0 : (t184 == 0) = true := beq_iff_eq.mpr c4
    have c4b1 : (t184 != 0) = false := bne_eq_false_iff_eq.mpr c4
    clear c4
    replace H := Option.bind_eq_some_iff.mp H
    obtain ⟨t185, A50, H⟩ := H
    replace H : (if t185 = true then (some 0) else (some 1)) = some r := H
    have A5 := Aside0.mk A50
    clear A50
    by_cases c6 : t185 = true
    · subst c6
      have H1 : (some 0) = some r := by rw [if_pos rfl] at H; exact H
      clear H
      have H := H1
      clear H1
      obtain rfl := Option.some.inj H
      go_enter Try.func51, Try.ntmps51
      go_wp2_with (first | ((with_reducible refine gate_dst (N := 2) rfl ?_); refine box_event ?hg (N := 2) ?hd (cs := #[.slice A0_0 l0_0.length c0_0, .slice A0_1 l0_1.length c0_1, .int .i64 a0_2]) (t := 32) ?hr ?_; (case hd => rfl); (case hg => rfl); (case hr => first | (go_simp; done) | (go_simp; rfl)); intro gb183 hg w7 hbox hb; have n0_ := Aside0.mk (below_step (by repeat (first | (with_reducible first | exact HB.out | apply below_alloc | apply pw_below_drewN | apply below_drew1) | exact HB.out)) hb); have n1_ := Aside0.mk (hbox); have n2_ := Aside0.mk ((by rw [hg]; exact (below_size (by repeat (first | (with_reducible first | exact HB.out | apply below_alloc | apply pw_below_drewN | apply below_drew1) | exact HB.out))) : w.heap.size ≤ gb183)); have n3_ := Aside0.mk ((by rw [hg]; exact (below_size (by repeat (first | (with_reducible first | exact HB.out | apply below_alloc | apply pw_below_drewN | apply below_drew1) | exact HB.out))) : w.heap.size ≤ gb183)); clear HB; have HB := n0_; have BK183 := n1_; have GW183 := n2_; have GE183 := n3_; clear n0_ n1_ n2_ n3_; clear hb hbox hg; have hcz8_0 : w7.cell? ⟨gb183, 0, none⟩ = some (.slice A0_0 l0_0.length c0_0) := (blk_cell BK183.out 0).trans rfl; have hcz8_1 : w7.cell? ⟨gb183, 1, none⟩ = some (.slice A0_1 l0_1.length c0_1) := (blk_cell BK183.out 1).trans rfl; have hcz8_2 : w7.cell? ⟨gb183, 2, none⟩ = some (.int .i64 a0_2) := (blk_cell BK183.out 2).trans rfl; have hfz8_0 := blk_frozen BK183.out 0; have hfz8_1 := blk_frozen BK183.out 1; have hfz8_2 := blk_frozen BK183.out 2) | ((with_reducible refine gate_callee (f := 34) rfl ?_); refine goesL_ (some 7) rfl rfl Try.func34 (by kernel_rfl) rfl #[.agg #[.slice A0_0 l0_0.length c0_0, .slice A0_1 l0_1.length c0_1, .int .i64 a0_2]] rfl (by (try simp only [List.map_toArray, List.map_cons, List.map_nil]); first | done | rfl | (simp only [List.length_drop, List.length_take]; rfl)) ?_; (with_reducible refine (book_Check.calls _ _ l0_0 _ _ l0_1 a0_2 t184 _ ?side1 ?side2 ?side3 ?side4 A3.out).mono ?_); (case side1 => repeat (first | exact (Kd.C_below HR0_0.out HB.out) | (with_reducible refine Kd.C_alloc ?_ _) | (with_reducible refine Kd.C_drewN ?_ _) | (with_reducible refine Kd.C_drew ?_))); (case side2 => exact HC0_0.out); (case side3 => repeat (first | exact (Kd.C_below HR0_1.out HB.out) | (with_reducible refine Kd.C_alloc ?_ _) | (with_reducible refine Kd.C_drewN ?_ _) | (with_reducible refine Kd.C_drew ?_))); (case side4 => exact HC0_1.out); rintro e w9 ⟨rfl, hb⟩; refine ⟨_, rfl, ?_⟩; have n0_ := Aside0.mk (blk_below (g := gb183) (o := .cells #[.slice A0_0 l0_0.length c0_0, .slice A0_1 l0_1.length c0_1, .int .i64 a0_2] 32 (0, 0)) (by (with_reducible repeat (first | refine blk_drewN ?_ _ | refine blk_drew ?_ | refine blk_alloc ?_ _)); exact BK183.out) hb); have n1_ := Aside0.mk (below_step (by repeat (first | (with_reducible first | exact HB.out | apply below_alloc | apply pw_below_drewN | apply below_drew1 | refine below_set ?_ GE183.out) | exact HB.out)) hb); clear BK183; clear HB; have BK183 := n0_; have HB := n1_; clear n0_ n1_; (try clear hb); (try clear hb2); (try clear hk); (try clear hi)) | ((with_reducible refine gate_callee (f := 45) rfl ?_); refine goesL_ (some 12) rfl rfl Try.func45 (by kernel_rfl) rfl #[.int .i64 a1] rfl (by (try simp only [List.map_toArray, List.map_cons, List.map_nil]); first | done | rfl | (simp only [List.length_drop, List.length_take]; rfl)) ?_; (with_reducible refine (cal_Is.calls a1 true _ A5.out).mono ?_); rintro e w' ⟨rfl, ⟨nd, rfl⟩⟩; refine ⟨_, rfl, ?_⟩))
      go_ret
      exact ⟨by first | rfl | (simp [errW_none, errW_some] <;> rfl) | (simp [*, errW_none, errW_some] <;> rfl), by repeat (first | (with_reducible first | exact HB.out | apply below_alloc | apply pw_below_drewN | apply below_drew1 | refine below_set ?_ GE183.out) | exact HB.out)⟩
    · replace c6 := Bool.eq_false_iff.mpr c6
      subst c6
      have H1 : (some 1) = some r := by rw [if_neg (show ¬ (false = true) by decide)] at H; exact H
      clear H
      have H := H1
      clear H1
      obtain rfl := Option.some.inj H
      go_enter Try.func51, Try.ntmps51
      go_wp2_with (first | ((with_reducible refine gate_dst (N := 2) rfl ?_); refine box_event ?hg (N := 2) ?hd (cs := #[.slice A0_0 l0_0.length c0_0, .slice A0_1 l0_1.length c0_1, .int .i64 a0_2]) (t := 32) ?hr ?_; (case hd => rfl); (case hg => rfl); (case hr => first | (go_simp; done) | (go_simp; rfl)); intro gb183 hg w10 hbox hb; have n0_ := Aside0.mk (below_step (by repeat (first | (with_reducible first | exact HB.out | apply below_alloc | apply pw_below_drewN | apply below_drew1) | exact HB.out)) hb); have n1_ := Aside0.mk (hbox); have n2_ := Aside0.mk ((by rw [hg]; exact (below_size (by repeat (first | (with_reducible first | exact HB.out | apply below_alloc | apply pw_below_drewN | apply below_drew1) | exact HB.out))) : w.heap.size ≤ gb183)); have n3_ := Aside0.mk ((by rw [hg]; exact (below_size (by repeat (first | (with_reducible first | exact HB.out | apply below_alloc | apply pw_below_drewN | apply below_drew1) | exact HB.out))) : w.heap.size ≤ gb183)); clear HB; have HB := n0_; have BK183 := n1_; have GW183 := n2_; have GE183 := n3_; clear n0_ n1_ n2_ n3_; clear hb hbox hg; have hcz11_0 : w10.cell? ⟨gb183, 0, none⟩ = some (.slice A0_0 l0_0.length c0_0) := (blk_cell BK183.out 0).trans rfl; have hcz11_1 : w10.cell? ⟨gb183, 1, none⟩ = some (.slice A0_1 l0_1.length c0_1) := (blk_cell BK183.out 1).trans rfl; have hcz11_2 : w10.cell? ⟨gb183, 2, none⟩ = some (.int .i64 a0_2) := (blk_cell BK183.out 2).trans rfl; have hfz11_0 := blk_frozen BK183.out 0; have hfz11_1 := blk_frozen BK183.out 1; have hfz11_2 := blk_frozen BK183.out 2) | ((with_reducible refine gate_callee (f := 34) rfl ?_); refine goesL_ (some 7) rfl rfl Try.func34 (by kernel_rfl) rfl #[.agg #[.slice A0_0 l0_0.length c0_0, .slice A0_1 l0_1.length c0_1, .int .i64 a0_2]] rfl (by (try simp only [List.map_toArray, List.map_cons, List.map_nil]); first | done | rfl | (simp only [List.length_drop, List.length_take]; rfl)) ?_; (with_reducible refine (book_Check.calls _ _ l0_0 _ _ l0_1 a0_2 t184 _ ?side1 ?side2 ?side3 ?side4 A3.out).mono ?_); (case side1 => repeat (first | exact (Kd.C_below HR0_0.out HB.out) | (with_reducible refine Kd.C_alloc ?_ _) | (with_reducible refine Kd.C_drewN ?_ _) | (with_reducible refine Kd.C_drew ?_))); (case side2 => exact HC0_0.out); (case side3 => repeat (first | exact (Kd.C_below HR0_1.out HB.out) | (with_reducible refine Kd.C_alloc ?_ _) | (with_reducible refine Kd.C_drewN ?_ _) | (with_reducible refine Kd.C_drew ?_))); (case side4 => exact HC0_1.out); rintro e w12 ⟨rfl, hb⟩; refine ⟨_, rfl, ?_⟩; have n0_ := Aside0.mk (blk_below (g := gb183) (o := .cells #[.slice A0_0 l0_0.length c0_0, .slice A0_1 l0_1.length c0_1, .int .i64 a0_2] 32 (0, 0)) (by (with_reducible repeat (first | refine blk_drewN ?_ _ | refine blk_drew ?_ | refine blk_alloc ?_ _)); exact BK183.out) hb); have n1_ := Aside0.mk (below_step (by repeat (first | (with_reducible first | exact HB.out | apply below_alloc | apply pw_below_drewN | apply below_drew1 | refine below_set ?_ GE183.out) | exact HB.out)) hb); clear BK183; clear HB; have BK183 := n0_; have HB := n1_; clear n0_ n1_; (try clear hb); (try clear hb2); (try clear hk); (try clear hi)) | ((with_reducible refine gate_callee (f := 45) rfl ?_); refine goesL_ (some 12) rfl rfl Try.func45 (by kernel_rfl) rfl #[.int .i64 a1] rfl (by (try simp only [List.map_toArray, List.map_cons, List.map_nil]); first | done | rfl | (simp only [List.length_drop, List.length_take]; rfl)) ?_; (with_reducible refine (cal_Is.calls a1 false _ A5.out).mono ?_); rintro e w' ⟨rfl, ⟨nd, rfl⟩⟩; refine ⟨_, rfl, ?_⟩))
      go_ret
      exact ⟨by first | rfl | (simp [errW_none, errW_some] <;> rfl) | (simp [*, errW_none, errW_some] <;> rfl), by repeat (first | (with_reducible first | exact HB.out | apply below_alloc | apply pw_below_drewN | apply below_drew1 | refine below_set ?_ GE183.out) | exact HB.out)⟩
  · rw [if_neg c4] at H
    have c4b0 : (t184 == 0) = false := beq_eq_false_iff_ne.mpr c4
    have c4b1 : (t184 != 0) = true := bne_iff_ne.mpr c4
    obtain rfl := Option.some.inj H
    go_enter Try.func51, Try.ntmps51
    go_wp2_with (first | ((with_reducible refine gate_dst (N := 2) rfl ?_); refine box_event ?hg (N := 2) ?hd (cs := #[.slice A0_0 l0_0.length c0_0, .slice A0_1 l0_1.length c0_1, .int .i64 a0_2]) (t := 32) ?hr ?_; (case hd => rfl); (case hg => rfl); (case hr => first | (go_simp; done) | (go_simp; rfl)); intro gb183 hg w13 hbox hb; have n0_ := Aside0.mk (below_step (by repeat (first | (with_reducible first | exact HB.out | apply below_alloc | apply pw_below_drewN | apply below_drew1) | exact HB.out)) hb); have n1_ := Aside0.mk (hbox); have n2_ := Aside0.mk ((by rw [hg]; exact (below_size (by repeat (first | (with_reducible first | exact HB.out | apply below_alloc | apply pw_below_drewN | apply below_drew1) | exact HB.out))) : w.heap.size ≤ gb183)); have n3_ := Aside0.mk ((by rw [hg]; exact (below_size (by repeat (first | (with_reducible first | exact HB.out | apply below_alloc | apply pw_below_drewN | apply below_drew1) | exact HB.out))) : w.heap.size ≤ gb183)); clear HB; have HB := n0_; have BK183 := n1_; have GW183 := n2_; have GE183 := n3_; clear n0_ n1_ n2_ n3_; clear hb hbox hg; have hcz14_0 : w13.cell? ⟨gb183, 0, none⟩ = some (.slice A0_0 l0_0.length c0_0) := (blk_cell BK183.out 0).trans rfl; have hcz14_1 : w13.cell? ⟨gb183, 1, none⟩ = some (.slice A0_1 l0_1.length c0_1) := (blk_cell BK183.out 1).trans rfl; have hcz14_2 : w13.cell? ⟨gb183, 2, none⟩ = some (.int .i64 a0_2) := (blk_cell BK183.out 2).trans rfl; have hfz14_0 := blk_frozen BK183.out 0; have hfz14_1 := blk_frozen BK183.out 1; have hfz14_2 := blk_frozen BK183.out 2) | ((with_reducible refine gate_callee (f := 34) rfl ?_); refine goesL_ (some 7) rfl rfl Try.func34 (by kernel_rfl) rfl #[.agg #[.slice A0_0 l0_0.length c0_0, .slice A0_1 l0_1.length c0_1, .int .i64 a0_2]] rfl (by (try simp only [List.map_toArray, List.map_cons, List.map_nil]); first | done | rfl | (simp only [List.length_drop, List.length_take]; rfl)) ?_; (with_reducible refine (book_Check.calls _ _ l0_0 _ _ l0_1 a0_2 t184 _ ?side1 ?side2 ?side3 ?side4 A3.out).mono ?_); (case side1 => repeat (first | exact (Kd.C_below HR0_0.out HB.out) | (with_reducible refine Kd.C_alloc ?_ _) | (with_reducible refine Kd.C_drewN ?_ _) | (with_reducible refine Kd.C_drew ?_))); (case side2 => exact HC0_0.out); (case side3 => repeat (first | exact (Kd.C_below HR0_1.out HB.out) | (with_reducible refine Kd.C_alloc ?_ _) | (with_reducible refine Kd.C_drewN ?_ _) | (with_reducible refine Kd.C_drew ?_))); (case side4 => exact HC0_1.out); rintro e w15 ⟨rfl, hb⟩; refine ⟨_, rfl, ?_⟩; have n0_ := Aside0.mk (blk_below (g := gb183) (o := .cells #[.slice A0_0 l0_0.length c0_0, .slice A0_1 l0_1.length c0_1, .int .i64 a0_2] 32 (0, 0)) (by (with_reducible repeat (first | refine blk_drewN ?_ _ | refine blk_drew ?_ | refine blk_alloc ?_ _)); exact BK183.out) hb); have n1_ := Aside0.mk (below_step (by repeat (first | (with_reducible first | exact HB.out | apply below_alloc | apply pw_below_drewN | apply below_drew1 | refine below_set ?_ GE183.out) | exact HB.out)) hb); clear BK183; clear HB; have BK183 := n0_; have HB := n1_; clear n0_ n1_; (try clear hb); (try clear hb2); (try clear hk); (try clear hi)))
    go_ret
    exact ⟨by first | rfl | (simp [errW_none, errW_some] <;> rfl) | (simp [*, errW_none, errW_some] <;> rfl), by repeat (first | (with_reducible first | exact HB.out | apply below_alloc | apply pw_below_drewN | apply below_drew1 | refine below_set ?_ GE183.out) | exact HB.out)⟩

end Go.Proofs.Ytlfbdcobpfainaa.L
