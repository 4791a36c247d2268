-- PRINTED by print.py (a twelfth state) out of the translation. Not trusted: Lean checks it.
import Derived.Test.YtlfbdcobpfainaaP0
import Derived.Test.YtlfbdcobpfainaaP2
import Derived.Test.YtlfbdcobpfainaaP3
namespace Go.Proofs.Ytlfbdcobpfainaa.P
open Go.RowKit Go.Proofs.YtlfbdcobpfainaaW.PrintWords Go.Proofs.YtlfbdcobpfainaaW.PrintLast Go.Proofs.YtlfbdcobpfainaaW.PrintMore
attribute [local go_sem] max2_int min2_int max_two min_two max_three min_three max_four min_four   -- for this text's walks alone
set_option linter.unusedVariables false
set_option linter.unusedSimpArgs false

/-! ### talkeep_UnitsSum: function 6 -/
mutual
def talkeep_UnitsSum.j0 : Nat → Int → Int → Int → List Int → Int → Int → Bool → Option (Bool)
  | 0, _, _, _, _, _, _, _ => none
  | k + 1, x0, x1, x2, x3, x4, x5, x32 => if x32 = true then (some false) else ((fall_Units.f k x0 x1 x2 x3).bind fun bt128 => (if bt128.2 = 0 then (if (bt128.1.length : Int) = (x3.length : Int) then ((talkeep_sum.f k bt128.1).bind fun t132 => (if t132 > (wrap64 (x0 - x1)) then (talkeep_UnitsSum.j1 k x0 x1 x2 x3 x4 x5 bt128.1 true) else ((talkeep_sum.f k x3).bind fun t133 => (if t132 = (wrap64 (x0 - x1)) then (talkeep_UnitsSum.j1 k x0 x1 x2 x3 x4 x5 bt128.1 ((decide (t133 ≥ x2)) != (decide (t133 ≥ x2)))) else (talkeep_UnitsSum.j1 k x0 x1 x2 x3 x4 x5 bt128.1 ((decide (t133 ≥ x2)) != false)))))) else (talkeep_UnitsSum.j1 k x0 x1 x2 x3 x4 x5 bt128.1 true)) else (some ((bt128.1.length : Int) == 0))))
def talkeep_UnitsSum.j1 : Nat → Int → Int → Int → List Int → Int → Int → List Int → Bool → Option (Bool)
  | 0, _, _, _, _, _, _, _, _ => none
  | k + 1, x0, x1, x2, x3, x4, x5, x15, x77 => if x77 = true then (some false) else (if (x3.length : Int) = 0 then (talkeep_UnitsSum.j2 k x0 x1 x2 x3 x4 x5 x15 true) else (talkeep_UnitsSum.j2 k x0 x1 x2 x3 x4 x5 x15 ((x3.length : Int) == 40)))
def talkeep_UnitsSum.j2 : Nat → Int → Int → Int → List Int → Int → Int → List Int → Bool → Option (Bool)
  | 0, _, _, _, _, _, _, _, _ => none
  | k + 1, x0, x1, x2, x3, x4, x5, x15, x85 => if x85 = true then (some true) else ((talkeep_Within.f x4 (x3.length : Int)).bind fun t134 => (if 0 ≤ t134 then (if t134 < (x3.length : Int) then ((talkeep_Within.f x5 (wrap64 ((rd x3 t134) + 1))).bind fun t136 => ((slices_Clone_int_int.f x3).bind fun t137 => ((slices_Insert_int_int.f t137 t134 (([t136] : List Int))).bind fun t143 => (if 0 ≤ (wrap64 (t134 + 1)) then (if (wrap64 (t134 + 1)) < (t143.length : Int) then ((fall_Units.f k x0 x1 x2 (t143.set ((wrap64 (t134 + 1)) : Int).toNat (wrap64 ((rd t143 (wrap64 (t134 + 1))) - t136)))).bind fun bt148 => (if bt148.2 = 0 then (talkeep_UnitsSum.j3 k t134 x15 bt148.1 ((bt148.1.length : Int) != (wrap64 ((x15.length : Int) + 1)))) else (talkeep_UnitsSum.j3 k t134 x15 bt148.1 true))) else (none)) else (none))))) else (none)) else (none)))
def talkeep_UnitsSum.j3 : Nat → Int → List Int → List Int → Bool → Option (Bool)
  | 0, _, _, _, _ => none
  | k + 1, x4, x15, x19, x128 => if x128 = true then (some false) else (if 0 ≤ (wrap64 (x4 + 1)) then (if (wrap64 (x4 + 1)) < (x19.length : Int) then (if 0 ≤ x4 then (if x4 < (x19.length : Int) then ((slices_Delete_int_int.f (x19.set ((wrap64 (x4 + 1)) : Int).toNat (wrap64 ((rd x19 (wrap64 (x4 + 1))) + (rd x19 x4)))) x4 (wrap64 (x4 + 1))).bind fun t155 => ((slices_Equal_int_int.f k t155 x15).bind fun t158 => (some t158))) else (none)) else (none)) else (none)) else (none))
end
def talkeep_UnitsSum.f (k : Nat) (a0 : Int) (a1 : Int) (a2 : Int) (l3 : List Int) (a4 : Int) (a5 : Int) : Option (Bool) := (fall_Units.f k 100 0 10 (([3, 9] : List Int))).bind fun bt120 => (if bt120.2 = 0 then ((slices_Equal_int_int.f k bt120.1 (([30, 70] : List Int))).bind fun t127 => (talkeep_UnitsSum.j0 k a0 a1 a2 l3 a4 a5 (!t127))) else (talkeep_UnitsSum.j0 k a0 a1 a2 l3 a4 a5 true))
theorem talkeep_UnitsSum.mono_l : ∀ k, (∀ y0 y1 y2 y3 y4 y5 y6, LeO (talkeep_UnitsSum.j0 k y0 y1 y2 y3 y4 y5 y6) (talkeep_UnitsSum.j0 (k + 1) y0 y1 y2 y3 y4 y5 y6)) ∧ (∀ y0 y1 y2 y3 y4 y5 y6 y7, LeO (talkeep_UnitsSum.j1 k y0 y1 y2 y3 y4 y5 y6 y7) (talkeep_UnitsSum.j1 (k + 1) y0 y1 y2 y3 y4 y5 y6 y7)) ∧ (∀ y0 y1 y2 y3 y4 y5 y6 y7, LeO (talkeep_UnitsSum.j2 k y0 y1 y2 y3 y4 y5 y6 y7) (talkeep_UnitsSum.j2 (k + 1) y0 y1 y2 y3 y4 y5 y6 y7)) ∧ (∀ y0 y1 y2 y3, LeO (talkeep_UnitsSum.j3 k y0 y1 y2 y3) (talkeep_UnitsSum.j3 (k + 1) y0 y1 y2 y3))
  | 0 => ⟨fun _ _ _ _ _ _ _ r h => by simp [talkeep_UnitsSum.j0] at h, fun _ _ _ _ _ _ _ _ r h => by simp [talkeep_UnitsSum.j1] at h, fun _ _ _ _ _ _ _ _ r h => by simp [talkeep_UnitsSum.j2] at h, fun _ _ _ _ r h => by simp [talkeep_UnitsSum.j3] at h⟩
  | k + 1 => by
    obtain ⟨ih0, ih1, ih2, ih3⟩ := talkeep_UnitsSum.mono_l k
    refine ⟨?_, ?_, ?_, ?_⟩
    · intro y0 y1 y2 y3 y4 y5 y6
      unfold talkeep_UnitsSum.j0
      repeat' first
      | (with_reducible exact ih0 _ _ _ _ _ _ _)
      | (with_reducible exact ih1 _ _ _ _ _ _ _ _)
      | (with_reducible exact ih2 _ _ _ _ _ _ _ _)
      | (with_reducible exact ih3 _ _ _ _)
      | (with_reducible exact fall_Units.mono _ _ _ _ _)
      | (with_reducible exact slices_Equal_int_int.mono _ _ _)
      | (with_reducible exact talkeep_sum.mono _ _)
      | (with_reducible exact LeO.refl _)
      | (with_reducible exact LeO.none _)
      | (with_reducible refine LeO.ite ?_ ?_)
      | (with_reducible refine LeO.bind ?_ (fun _ => ?_))
      | exact ih0 _ _ _ _ _ _ _
      | exact ih1 _ _ _ _ _ _ _ _
      | exact ih2 _ _ _ _ _ _ _ _
      | exact ih3 _ _ _ _
      | exact fall_Units.mono _ _ _ _ _
      | exact slices_Equal_int_int.mono _ _ _
      | exact talkeep_sum.mono _ _
      | exact LeO.none _
      | refine LeO.ite ?_ ?_
      | refine LeO.bind ?_ (fun _ => ?_)
    · intro y0 y1 y2 y3 y4 y5 y6 y7
      unfold talkeep_UnitsSum.j1
      repeat' first
      | (with_reducible exact ih0 _ _ _ _ _ _ _)
      | (with_reducible exact ih1 _ _ _ _ _ _ _ _)
      | (with_reducible exact ih2 _ _ _ _ _ _ _ _)
      | (with_reducible exact ih3 _ _ _ _)
      | (with_reducible exact fall_Units.mono _ _ _ _ _)
      | (with_reducible exact slices_Equal_int_int.mono _ _ _)
      | (with_reducible exact talkeep_sum.mono _ _)
      | (with_reducible exact LeO.refl _)
      | (with_reducible exact LeO.none _)
      | (with_reducible refine LeO.ite ?_ ?_)
      | (with_reducible refine LeO.bind ?_ (fun _ => ?_))
      | exact ih0 _ _ _ _ _ _ _
      | exact ih1 _ _ _ _ _ _ _ _
      | exact ih2 _ _ _ _ _ _ _ _
      | exact ih3 _ _ _ _
      | exact fall_Units.mono _ _ _ _ _
      | exact slices_Equal_int_int.mono _ _ _
      | exact talkeep_sum.mono _ _
      | exact LeO.none _
      | refine LeO.ite ?_ ?_
      | refine LeO.bind ?_ (fun _ => ?_)
    · intro y0 y1 y2 y3 y4 y5 y6 y7
      unfold talkeep_UnitsSum.j2
      repeat' first
      | (with_reducible exact ih0 _ _ _ _ _ _ _)
      | (with_reducible exact ih1 _ _ _ _ _ _ _ _)
      | (with_reducible exact ih2 _ _ _ _ _ _ _ _)
      | (with_reducible exact ih3 _ _ _ _)
      | (with_reducible exact fall_Units.mono _ _ _ _ _)
      | (with_reducible exact slices_Equal_int_int.mono _ _ _)
      | (with_reducible exact talkeep_sum.mono _ _)
      | (with_reducible exact LeO.refl _)
      | (with_reducible exact LeO.none _)
      | (with_reducible refine LeO.ite ?_ ?_)
      | (with_reducible refine LeO.bind ?_ (fun _ => ?_))
      | exact ih0 _ _ _ _ _ _ _
      | exact ih1 _ _ _ _ _ _ _ _
      | exact ih2 _ _ _ _ _ _ _ _
      | exact ih3 _ _ _ _
      | exact fall_Units.mono _ _ _ _ _
      | exact slices_Equal_int_int.mono _ _ _
      | exact talkeep_sum.mono _ _
      | exact LeO.none _
      | refine LeO.ite ?_ ?_
      | refine LeO.bind ?_ (fun _ => ?_)
    · intro y0 y1 y2 y3
      unfold talkeep_UnitsSum.j3
      repeat' first
      | (with_reducible exact ih0 _ _ _ _ _ _ _)
      | (with_reducible exact ih1 _ _ _ _ _ _ _ _)
      | (with_reducible exact ih2 _ _ _ _ _ _ _ _)
      | (with_reducible exact ih3 _ _ _ _)
      | (with_reducible exact fall_Units.mono _ _ _ _ _)
      | (with_reducible exact slices_Equal_int_int.mono _ _ _)
      | (with_reducible exact talkeep_sum.mono _ _)
      | (with_reducible exact LeO.refl _)
      | (with_reducible exact LeO.none _)
      | (with_reducible refine LeO.ite ?_ ?_)
      | (with_reducible refine LeO.bind ?_ (fun _ => ?_))
      | exact ih0 _ _ _ _ _ _ _
      | exact ih1 _ _ _ _ _ _ _ _
      | exact ih2 _ _ _ _ _ _ _ _
      | exact ih3 _ _ _ _
      | exact fall_Units.mono _ _ _ _ _
      | exact slices_Equal_int_int.mono _ _ _
      | exact talkeep_sum.mono _ _
      | exact LeO.none _
      | refine LeO.ite ?_ ?_
      | refine LeO.bind ?_ (fun _ => ?_)
theorem talkeep_UnitsSum.mono : ∀ a0 a1 a2 a3 a4 a5 k, LeO (talkeep_UnitsSum.f k a0 a1 a2 a3 a4 a5) (talkeep_UnitsSum.f (k + 1) a0 a1 a2 a3 a4 a5) := by
  intro a0 a1 a2 a3 a4 a5 k
  obtain ⟨ih0, ih1, ih2, ih3⟩ := talkeep_UnitsSum.mono_l k
  unfold talkeep_UnitsSum.f
  repeat' first
      | (with_reducible exact ih0 _ _ _ _ _ _ _)
      | (with_reducible exact ih1 _ _ _ _ _ _ _ _)
      | (with_reducible exact ih2 _ _ _ _ _ _ _ _)
      | (with_reducible exact ih3 _ _ _ _)
      | (with_reducible exact fall_Units.mono _ _ _ _ _)
      | (with_reducible exact slices_Equal_int_int.mono _ _ _)
      | (with_reducible exact talkeep_sum.mono _ _)
      | (with_reducible exact LeO.refl _)
      | (with_reducible exact LeO.none _)
      | (with_reducible refine LeO.ite ?_ ?_)
      | (with_reducible refine LeO.bind ?_ (fun _ => ?_))
      | exact ih0 _ _ _ _ _ _ _
      | exact ih1 _ _ _ _ _ _ _ _
      | exact ih2 _ _ _ _ _ _ _ _
      | exact ih3 _ _ _ _
      | exact fall_Units.mono _ _ _ _ _
      | exact slices_Equal_int_int.mono _ _ _
      | exact talkeep_sum.mono _ _
      | exact LeO.none _
      | refine LeO.ite ?_ ?_
      | refine LeO.bind ?_ (fun _ => ?_)
def talkeep_UnitsSum.T18 : Bool × List (List Nat × List Nat) := (true, [([], []), ([], []), ([1], [1]), ([0, 2], [0, 2]), ([3], [3]), ([], []), ([], []), ([5, 6], [5, 6]), ([7], [7]), ([4, 8], [4, 8]), ([0, 2, 0, 1, 2, 3, 4, 5, 6, 7, 8, 9], [0, 2]), ([10, 9, 0, 1, 2, 3, 4, 5, 6, 7, 8, 9], [9, 10])])
def talkeep_UnitsSum.B18 : List Nat := [0, 0, 2, 7, 15, 0, 0, 96, 224, 511, 1023, 2047]
theorem talkeep_UnitsSum.tab18 : rtab .any (opsOf Try.f6 18) = talkeep_UnitsSum.T18 := by kernel_rfl
theorem talkeep_UnitsSum.bits18 : waitsOk talkeep_UnitsSum.T18.2 talkeep_UnitsSum.B18 = true := by kernel_rfl
set_option maxHeartbeats 8000000 in
set_option maxRecDepth 100000 in
theorem talkeep_UnitsSum.calls (k : Nat) (a0 : Int) (a1 : Int) (a2 : Int) (A3 : Option Addr) (c3 : Nat) (l3 : List Int) (a4 : Int) (a5 : Int) (r : Bool) (w : World) (hr3 : Kd.C (Kd.int .i64) w A3 l3.length l3) (hc3 : l3.length ≤ c3) (h : talkeep_UnitsSum.f k a0 a1 a2 l3 a4 a5 = some r) :
    Calls Try.prog 6 #[.int .i64 a0, .int .i64 a1, .int .i64 a2, .slice A3 l3.length c3, .int .i64 a4, .int .i64 a5] w fun e w' => e = .returned (.bool r) ∧ Below w.heap.size w w' := by
  have HR3 := Aside0.mk hr3
  have HC3 := Aside0.mk hc3
  clear hr3 hc3
  have HB := Aside0.mk (Below.refl w.heap.size w)
  have H : ((fall_Units.f k 100 0 10 (([3, 9] : List Int))).bind fun bt120 => (if bt120.2 = 0 then ((slices_Equal_int_int.f k bt120.1 (([30, 70] : List Int))).bind fun t127 => (talkeep_UnitsSum.j0 k a0 a1 a2 l3 a4 a5 (!t127))) else (talkeep_UnitsSum.j0 k a0 a1 a2 l3 a4 a5 true))) = some r := h
  clear h
  obtain ⟨y117, hy117⟩ : ∃ y_ : List Int, y_ = (([3, 9] : List Int)) := ⟨_, rfl⟩
  replace H : ((fall_Units.f k 100 0 10 y117).bind fun bt120 => (if bt120.2 = 0 then ((slices_Equal_int_int.f k bt120.1 (([30, 70] : List Int))).bind fun t127 => (talkeep_UnitsSum.j0 k a0 a1 a2 l3 a4 a5 (!t127))) else (talkeep_UnitsSum.j0 k a0 a1 a2 l3 a4 a5 true))) = some r := by first | (rw [hy117]; with_reducible exact H) | (have H2_ := (Option.bind_some _ _).symm.trans H; rw [hy117]; with_reducible exact H2_) | (have H2_ := (Option.bind_some _ _).symm.trans H; with_reducible exact H2_) | with_reducible exact H | (rw [hy117]; exact H) | exact H
  have Ny117 := Aside0.mk hy117
  clear hy117
  replace H := Option.bind_eq_some_iff.mp H
  obtain ⟨⟨t120, t121⟩, A70, H⟩ := H
  replace H : (if t121 = 0 then ((slices_Equal_int_int.f k t120 (([30, 70] : List Int))).bind fun t127 => (talkeep_UnitsSum.j0 k a0 a1 a2 l3 a4 a5 (!t127))) else (talkeep_UnitsSum.j0 k a0 a1 a2 l3 a4 a5 true)) = some r := H
  have A7 := Aside0.mk A70
  clear A70
  have HC8 := Aside0.mk H
  clear H
  go_enter Try.func6, Try.ntmps6
  go_upto_region 2 with (first | ((with_reducible refine gate_dst (N := 21) rfl ?_); (try (refine gate_guard (by rfl) ?_; dsimp only)); refine Kd.R_lit (Kd.int .i64) _ 3 ?hg (N := 21) ?hd (xs := ([3, 9] : List Int)) (inner := [.int .i64 3, .int .i64 9]) (ok := fun _ => True) (okp := fun _ => True) ?hr ?hp (fun _ hk => hk) trivial (Below.refl _ _) (Nat.le_refl _) (by simp) ?_; (case hd => rfl); (case hg => rfl); (case hr => first | (go_simp; done) | (go_simp; rfl)); (case hp => exact (Reps.one (show Kd.M (Kd.int .i64) _ _ _ 3 [.int .i64 3] from rfl) (Reps.one (show Kd.M (Kd.int .i64) _ _ _ 9 [.int .i64 9] from rfl) (Reps.none _ _)))); intro v118 w9 ho10 hb hg_ hnew_; clear hg_ hnew_; (first | rw [← Ny117.out] at ho10 | (simp only [Int.reduceToNat] at ho10; rw [← Ny117.out] at ho10)); have n0_ := Aside0.mk (Kd.R_lower ho10 (below_size (by repeat (first | (with_reducible first | exact HB.out | apply below_alloc | apply pw_below_drewN | apply below_drew1) | exact HB.out)))); have n1_ := Aside0.mk (below_step (by repeat (first | (with_reducible first | exact HB.out | apply below_alloc | apply pw_below_drewN | apply below_drew1) | exact HB.out)) hb); clear HB; have HO119 := n0_; have HB := n1_; clear n0_ n1_; clear hb ho10; obtain ⟨Ao11, co11, eo11⟩ := Kd.R_slice HO119.out; subst eo11) | ((with_reducible refine gate_callee (f := 22) rfl ?_); refine goesL_ (some 22) rfl rfl Try.func22 (by kernel_rfl) rfl #[.int .i64 100, .int .i64 0, .int .i64 10, .slice Ao11 y117.length co11] rfl (by (try simp only [List.map_toArray, List.map_cons, List.map_nil]); first | done | rfl | (simp only [List.length_drop, List.length_take]; rfl)) ?_; (with_reducible refine (fall_Units.calls k 100 0 10 _ _ y117 t120 t121 _ ?side1 ?side2 A7.out).mono ?_); (case side1 => repeat (first | exact (Kd.R_reads' HO119.out).2.2 | (with_reducible refine Kd.C_alloc ?_ _) | (with_reducible refine Kd.C_drewN ?_ _) | (with_reducible refine Kd.C_drew ?_))); (case side2 => exact (Kd.R_reads' HO119.out).2.1); rintro e w12 ⟨v122, rfl, ho0, hb⟩; refine ⟨_, rfl, ?_⟩; have n0_ := Aside0.mk (Kd.R_elder' (by (with_reducible repeat (first | apply Kd.R_alloc | apply Kd.R_drewN | apply Kd.R_drew)); exact HO119.out) (Kd.R_base ho0) hb); have n1_ := Aside0.mk (Kd.R_lower (Kd.R_new' ho0 (Kd.R_lt (by (with_reducible repeat (first | apply Kd.R_alloc | apply Kd.R_drewN | apply Kd.R_drew)); exact HO119.out))) (below_size (by repeat (first | (with_reducible first | exact HB.out | apply below_alloc | apply pw_below_drewN | apply below_drew1) | exact HB.out)))); have n2_ := Aside0.mk (below_step (by repeat (first | (with_reducible first | exact HB.out | apply below_alloc | apply pw_below_drewN | apply below_drew1) | exact HB.out)) hb); clear HO119; clear HB; have HO119 := n0_; have HO123 := n1_; have HB := n2_; clear n0_ n1_ n2_; (try clear hb); (try clear hb2); (try clear hk); (try clear hi); (try clear ho0)))
  (try simp only [Act.put, List.setIfInBounds_toArray, List.set_cons_zero, List.set_cons_succ])
  go_cut [32] (fun v32 wc => ∃ (kq : Nat) (x32_7 : Bool), v32 = .bool x32_7 ∧ Aside0 (talkeep_UnitsSum.j0 kq a0 a1 a2 l3 a4 a5 x32_7 = some r) ∧ Aside0 (kq ≤ k) ∧ Aside0 (Below w.heap.size w wc))
  case first =>
    have H := HC8.out
    clear HC8
    by_cases c13 : t121 = 0
    · rw [if_pos c13] at H
      have c13b0 : (t121 == 0) = true := beq_iff_eq.mpr c13
      have c13b1 : (t121 != 0) = false := bne_eq_false_iff_eq.mpr c13
      clear c13
      (first | rw [c13b0] | (simp only [i64_w, i32_w]; rw [c13b0]) | skip)
      obtain ⟨y124, hy124⟩ : ∃ y_ : List Int, y_ = (([30, 70] : List Int)) := ⟨_, rfl⟩
      replace H : ((slices_Equal_int_int.f k t120 y124).bind fun t127 => (talkeep_UnitsSum.j0 k a0 a1 a2 l3 a4 a5 (!t127))) = some r := by first | (rw [hy124]; with_reducible exact H) | (have H2_ := (Option.bind_some _ _).symm.trans H; rw [hy124]; with_reducible exact H2_) | (have H2_ := (Option.bind_some _ _).symm.trans H; with_reducible exact H2_) | with_reducible exact H | (rw [hy124]; exact H) | exact H
      have Ny124 := Aside0.mk hy124
      clear hy124
      replace H := Option.bind_eq_some_iff.mp H
      obtain ⟨t127, A140, H⟩ := H
      replace H : (talkeep_UnitsSum.j0 k a0 a1 a2 l3 a4 a5 (!t127)) = some r := H
      have A14 := Aside0.mk A140
      clear A140
      have H' := Aside0.mk H
      clear H
      go_wp2_with (first | ((with_reducible refine gate_dst (N := 29) rfl ?_); (try (refine gate_guard (by rfl) ?_; dsimp only)); refine Kd.R_lit (Kd.int .i64) _ 3 ?hg (N := 29) ?hd (xs := ([30, 70] : List Int)) (inner := [.int .i64 30, .int .i64 70]) (ok := fun _ => True) (okp := fun _ => True) ?hr ?hp (fun _ hk => hk) trivial (Below.refl _ _) (Nat.le_refl _) (by simp) ?_; (case hd => rfl); (case hg => rfl); (case hr => first | (go_simp; done) | (go_simp; rfl)); (case hp => exact (Reps.one (show Kd.M (Kd.int .i64) _ _ _ 30 [.int .i64 30] from rfl) (Reps.one (show Kd.M (Kd.int .i64) _ _ _ 70 [.int .i64 70] from rfl) (Reps.none _ _)))); intro v125 w15 ho16 hb hg_ hnew_; clear hg_ hnew_; (first | rw [← Ny124.out] at ho16 | (simp only [Int.reduceToNat] at ho16; rw [← Ny124.out] at ho16)); have n0_ := Aside0.mk (Kd.R_elder' (by (with_reducible repeat (first | apply Kd.R_alloc | apply Kd.R_drewN | apply Kd.R_drew)); exact HO119.out) (Kd.R_base ho16) hb); have n1_ := Aside0.mk (Kd.R_elder' (by (with_reducible repeat (first | apply Kd.R_alloc | apply Kd.R_drewN | apply Kd.R_drew)); exact HO123.out) (Kd.R_base ho16) hb); have n2_ := Aside0.mk (Kd.R_lower (Kd.R_new' (Kd.R_new' ho16 (Kd.R_lt (by (with_reducible repeat (first | apply Kd.R_alloc | apply Kd.R_drewN | apply Kd.R_drew)); exact HO119.out))) (Kd.R_lt (by (with_reducible repeat (first | apply Kd.R_alloc | apply Kd.R_drewN | apply Kd.R_drew)); exact HO123.out))) (below_size (by repeat (first | (with_reducible first | exact HB.out | apply below_alloc | apply pw_below_drewN | apply below_drew1) | exact HB.out)))); have n3_ := Aside0.mk (below_step (by repeat (first | (with_reducible first | exact HB.out | apply below_alloc | apply pw_below_drewN | apply below_drew1) | exact HB.out)) hb); clear HO119; clear HO123; clear HB; have HO119 := n0_; have HO123 := n1_; have HO126 := n2_; have HB := n3_; clear n0_ n1_ n2_ n3_; clear hb ho16; obtain ⟨Ao17, co17, eo17⟩ := Kd.R_slice HO123.out; subst eo17; obtain ⟨Ao18, co18, eo18⟩ := Kd.R_slice HO126.out; subst eo18) | (go_at_call 23; (with_reducible refine (slices_Equal_int_int.calls k _ _ t120 _ _ y124 t127 _ ?side1 ?side2 ?side3 ?side4 A14.out).mono ?_); (case side1 => repeat (first | exact (Kd.R_reads' HO123.out).2.2 | (with_reducible refine Kd.C_alloc ?_ _) | (with_reducible refine Kd.C_drewN ?_ _) | (with_reducible refine Kd.C_drew ?_))); (case side2 => exact (Kd.R_reads' HO123.out).2.1); (case side3 => repeat (first | exact (Kd.R_reads' HO126.out).2.2 | (with_reducible refine Kd.C_alloc ?_ _) | (with_reducible refine Kd.C_drewN ?_ _) | (with_reducible refine Kd.C_drew ?_))); (case side4 => exact (Kd.R_reads' HO126.out).2.1); rintro e w' ⟨rfl, ⟨nd, rfl⟩⟩))
      go_meet
      case rel => exact ⟨_, (!t127), (by first | rfl | (simp; done) | (simp [*]; done)), H', ⟨by first | omega | exact Nat.le_refl _⟩, ⟨by repeat (first | (with_reducible first | exact HB.out | apply below_alloc | apply pw_below_drewN | apply below_drew1) | exact HB.out)⟩⟩
    · rw [if_neg c13] at H
      have c13b0 : (t121 == 0) = false := beq_eq_false_iff_ne.mpr c13
      have c13b1 : (t121 != 0) = true := bne_iff_ne.mpr c13
      (first | rw [c13b0] | (simp only [i64_w, i32_w]; rw [c13b0]) | skip)
      have H' := Aside0.mk H
      clear H
      go_wp2
      go_meet
      case rel => exact ⟨_, (true), (by first | rfl | (simp; done) | (simp [*]; done)), H', ⟨by first | omega | exact Nat.le_refl _⟩, ⟨by repeat (first | (with_reducible first | exact HB.out | apply below_alloc | apply pw_below_drewN | apply below_drew1) | exact HB.out)⟩⟩
  case rest =>
    clear HC8
    try clear c1
    try clear c2
    try clear p2
    try clear c3
    try clear c6
    try clear c13
    try clear c13b0
    try clear c13b1
    obtain ⟨kq, x32_7, rfl, HA, HJ7, HB⟩ := hcut
    cases kq with
    | zero => exact absurd HA.out (by simp [talkeep_UnitsSum.j0])
    | succ kj7 =>
      have H := HA.out
      clear HA
      simp only [talkeep_UnitsSum.j0] at H
      by_cases c19 : x32_7 = true
      · subst c19
        have H1 : (some false) = some r := by rw [if_pos rfl] at H; exact H
        clear H
        have H := H1
        clear H1
        obtain rfl := Option.some.inj H
        go_wp2
        go_ret
        exact ⟨by first | rfl | (simp [errW_none, errW_some] <;> rfl) | (simp [*, errW_none, errW_some] <;> rfl), by repeat (first | (with_reducible first | exact HB.out | apply below_alloc | apply pw_below_drewN | apply below_drew1) | exact HB.out)⟩
      · replace c19 := Bool.eq_false_iff.mpr c19
        subst c19
        have H1 : ((fall_Units.f kj7 a0 a1 a2 l3).bind fun bt128 => (if bt128.2 = 0 then (if (bt128.1.length : Int) = (l3.length : Int) then ((talkeep_sum.f kj7 bt128.1).bind fun t132 => (if t132 > (wrap64 (a0 - a1)) then (talkeep_UnitsSum.j1 kj7 a0 a1 a2 l3 a4 a5 bt128.1 true) else ((talkeep_sum.f kj7 l3).bind fun t133 => (if t132 = (wrap64 (a0 - a1)) then (talkeep_UnitsSum.j1 kj7 a0 a1 a2 l3 a4 a5 bt128.1 ((decide (t133 ≥ a2)) != (decide (t133 ≥ a2)))) else (talkeep_UnitsSum.j1 kj7 a0 a1 a2 l3 a4 a5 bt128.1 ((decide (t133 ≥ a2)) != false)))))) else (talkeep_UnitsSum.j1 kj7 a0 a1 a2 l3 a4 a5 bt128.1 true)) else (some ((bt128.1.length : Int) == 0)))) = some r := by rw [if_neg (show ¬ (false = true) by decide)] at H; exact H
        clear H
        have H := H1
        clear H1
        replace H := Option.bind_eq_some_iff.mp H
        obtain ⟨⟨t128, t129⟩, A200, H⟩ := H
        replace H : (if t129 = 0 then (if (t128.length : Int) = (l3.length : Int) then ((talkeep_sum.f kj7 t128).bind fun t132 => (if t132 > (wrap64 (a0 - a1)) then (talkeep_UnitsSum.j1 kj7 a0 a1 a2 l3 a4 a5 t128 true) else ((talkeep_sum.f kj7 l3).bind fun t133 => (if t132 = (wrap64 (a0 - a1)) then (talkeep_UnitsSum.j1 kj7 a0 a1 a2 l3 a4 a5 t128 ((decide (t133 ≥ a2)) != (decide (t133 ≥ a2)))) else (talkeep_UnitsSum.j1 kj7 a0 a1 a2 l3 a4 a5 t128 ((decide (t133 ≥ a2)) != false)))))) else (talkeep_UnitsSum.j1 kj7 a0 a1 a2 l3 a4 a5 t128 true)) else (some ((t128.length : Int) == 0))) = some r := H
        have A20 := Aside0.mk A200
        clear A200
        by_cases c21 : t129 = 0
        · rw [if_pos c21] at H
          have c21b0 : (t129 == 0) = true := beq_iff_eq.mpr c21
          have c21b1 : (t129 != 0) = false := bne_eq_false_iff_eq.mpr c21
          clear c21
          have HC22 := Aside0.mk H
          clear H
          go_upto_region 7 with (first | ((with_reducible refine gate_callee (f := 22) rfl ?_); refine goesL_ (some 38) rfl rfl Try.func22 (by kernel_rfl) rfl #[.int .i64 a0, .int .i64 a1, .int .i64 a2, .slice A3 l3.length c3] rfl (by (try simp only [List.map_toArray, List.map_cons, List.map_nil]); first | done | rfl | (simp only [List.length_drop, List.length_take]; rfl)) ?_; (with_reducible refine (fall_Units.calls kj7 a0 a1 a2 _ _ l3 t128 t129 _ ?side1 ?side2 A20.out).mono ?_); (case side1 => repeat (first | exact (Kd.C_below HR3.out HB.out) | (with_reducible refine Kd.C_alloc ?_ _) | (with_reducible refine Kd.C_drewN ?_ _) | (with_reducible refine Kd.C_drew ?_))); (case side2 => exact HC3.out); rintro e w23 ⟨v130, rfl, ho0, hb⟩; refine ⟨_, rfl, ?_⟩; have n0_ := Aside0.mk (Kd.R_lower ho0 (below_size (by repeat (first | (with_reducible first | exact HB.out | apply below_alloc | apply pw_below_drewN | apply below_drew1) | exact HB.out)))); have n1_ := Aside0.mk (below_step (by repeat (first | (with_reducible first | exact HB.out | apply below_alloc | apply pw_below_drewN | apply below_drew1) | exact HB.out)) hb); clear HB; have HO131 := n0_; have HB := n1_; clear n0_ n1_; (try clear hb); (try clear hb2); (try clear hk); (try clear hi); (try clear ho0)))
          (try simp only [Act.put, List.setIfInBounds_toArray, List.set_cons_zero, List.set_cons_succ])
          go_cut [77] (fun v77 wc => ∃ (kq : Nat) (x77_21 : Bool), v77 = .bool x77_21 ∧ Aside0 (talkeep_UnitsSum.j1 kq a0 a1 a2 l3 a4 a5 t128 x77_21 = some r) ∧ Aside0 (kq ≤ kj7) ∧ Aside0 (Kd.R (Kd.int .i64) 3 wc w.heap.size (fun _ => True) v130 t128) ∧ Aside0 (Below w.heap.size w wc))
          case first =>
            have H := HC22.out
            clear HC22
            by_cases c24 : (t128.length : Int) = (l3.length : Int)
            · rw [if_pos c24] at H
              have c24b0 : ((t128.length : Int) == (l3.length : Int)) = true := beq_iff_eq.mpr c24
              have c24b1 : ((t128.length : Int) != (l3.length : Int)) = false := bne_eq_false_iff_eq.mpr c24
              have c24b2 : (t128.length == l3.length) = true := by first | simpa using c24 | (simp at c24 ⊢; omega)
              clear c24
              (first | rw [c24b0] | (simp only [i64_w, i32_w]; rw [c24b0]) | skip)
              replace H := Option.bind_eq_some_iff.mp H
              obtain ⟨t132, A250, H⟩ := H
              replace H : (if t132 > (wrap64 (a0 - a1)) then (talkeep_UnitsSum.j1 kj7 a0 a1 a2 l3 a4 a5 t128 true) else ((talkeep_sum.f kj7 l3).bind fun t133 => (if t132 = (wrap64 (a0 - a1)) then (talkeep_UnitsSum.j1 kj7 a0 a1 a2 l3 a4 a5 t128 ((decide (t133 ≥ a2)) != (decide (t133 ≥ a2)))) else (talkeep_UnitsSum.j1 kj7 a0 a1 a2 l3 a4 a5 t128 ((decide (t133 ≥ a2)) != false))))) = some r := H
              have A25 := Aside0.mk A250
              clear A250
              by_cases c26 : t132 > (wrap64 (a0 - a1))
              · rw [if_pos c26] at H
                have c26b0 : decide ((wrap64 (a0 - a1)) < t132) = true := decide_eq_true c26
                clear c26
                have H' := Aside0.mk H
                clear H
                obtain ⟨Ao27, co27, eo27⟩ := Kd.R_slice HO131.out
                subst eo27
                go_wp2_with (first | (go_at_call 24; (with_reducible refine (talkeep_sum.calls kj7 _ _ t128 t132 _ ?side1 ?side2 A25.out).mono ?_); (case side1 => repeat (first | exact (Kd.R_reads' HO131.out).2.2 | (with_reducible refine Kd.C_alloc ?_ _) | (with_reducible refine Kd.C_drewN ?_ _) | (with_reducible refine Kd.C_drew ?_))); (case side2 => exact (Kd.R_reads' HO131.out).2.1); rintro e w' ⟨rfl, ⟨nd, rfl⟩⟩))
                go_meet
                case rel => exact ⟨_, (true), (by first | rfl | (simp; done) | (simp [*]; done)), H', ⟨by have := HJ7.out; first | omega | exact Nat.le_refl _⟩, ⟨by (with_reducible repeat (first | apply Kd.R_alloc | apply Kd.R_drewN | apply Kd.R_drew)); exact HO131.out⟩, ⟨by repeat (first | (with_reducible first | exact HB.out | apply below_alloc | apply pw_below_drewN | apply below_drew1) | exact HB.out)⟩⟩
              · rw [if_neg c26] at H
                have c26b0 : decide ((wrap64 (a0 - a1)) < t132) = false := decide_eq_false c26
                clear c26
                replace H := Option.bind_eq_some_iff.mp H
                obtain ⟨t133, A280, H⟩ := H
                replace H : (if t132 = (wrap64 (a0 - a1)) then (talkeep_UnitsSum.j1 kj7 a0 a1 a2 l3 a4 a5 t128 ((decide (t133 ≥ a2)) != (decide (t133 ≥ a2)))) else (talkeep_UnitsSum.j1 kj7 a0 a1 a2 l3 a4 a5 t128 ((decide (t133 ≥ a2)) != false))) = some r := H
                have A28 := Aside0.mk A280
                clear A280
                by_cases c29 : t132 = (wrap64 (a0 - a1))
                · rw [if_pos c29] at H
                  have c29b0 : (t132 == (wrap64 (a0 - a1))) = true := beq_iff_eq.mpr c29
                  have c29b1 : (t132 != (wrap64 (a0 - a1))) = false := bne_eq_false_iff_eq.mpr c29
                  clear c29
                  have H' := Aside0.mk H
                  clear H
                  obtain ⟨Ao30, co30, eo30⟩ := Kd.R_slice HO131.out
                  subst eo30
                  go_wp2_with (first | (go_at_call 24; (with_reducible refine (talkeep_sum.calls kj7 _ _ t128 t132 _ ?side1 ?side2 A25.out).mono ?_); (case side1 => repeat (first | exact (Kd.R_reads' HO131.out).2.2 | (with_reducible refine Kd.C_alloc ?_ _) | (with_reducible refine Kd.C_drewN ?_ _) | (with_reducible refine Kd.C_drew ?_))); (case side2 => exact (Kd.R_reads' HO131.out).2.1); rintro e w' ⟨rfl, ⟨nd, rfl⟩⟩) | (go_at_call 24; (with_reducible refine (talkeep_sum.calls kj7 _ _ l3 t133 _ ?side1 ?side2 A28.out).mono ?_); (case side1 => repeat (first | exact (Kd.C_below HR3.out (by repeat (first | (with_reducible first | exact HB.out | apply below_alloc | apply pw_below_drewN | apply below_drew1) | exact HB.out))) | (with_reducible refine Kd.C_alloc ?_ _) | (with_reducible refine Kd.C_drewN ?_ _) | (with_reducible refine Kd.C_drew ?_))); (case side2 => exact HC3.out); rintro e w' ⟨rfl, ⟨nd, rfl⟩⟩))
                  go_meet
                  case rel => exact ⟨_, (((decide (t133 ≥ a2)) != (decide (t133 ≥ a2)))), (by first | rfl | (simp; done) | (simp [*]; done)), H', ⟨by have := HJ7.out; first | omega | exact Nat.le_refl _⟩, ⟨by (with_reducible repeat (first | apply Kd.R_alloc | apply Kd.R_drewN | apply Kd.R_drew)); exact HO131.out⟩, ⟨by repeat (first | (with_reducible first | exact HB.out | apply below_alloc | apply pw_below_drewN | apply below_drew1) | exact HB.out)⟩⟩
                · rw [if_neg c29] at H
                  have c29b0 : (t132 == (wrap64 (a0 - a1))) = false := beq_eq_false_iff_ne.mpr c29
                  have c29b1 : (t132 != (wrap64 (a0 - a1))) = true := bne_iff_ne.mpr c29
                  have H' := Aside0.mk H
                  clear H
                  obtain ⟨Ao31, co31, eo31⟩ := Kd.R_slice HO131.out
                  subst eo31
                  go_wp2_with (first | (go_at_call 24; (with_reducible refine (talkeep_sum.calls kj7 _ _ t128 t132 _ ?side1 ?side2 A25.out).mono ?_); (case side1 => repeat (first | exact (Kd.R_reads' HO131.out).2.2 | (with_reducible refine Kd.C_alloc ?_ _) | (with_reducible refine Kd.C_drewN ?_ _) | (with_reducible refine Kd.C_drew ?_))); (case side2 => exact (Kd.R_reads' HO131.out).2.1); rintro e w' ⟨rfl, ⟨nd, rfl⟩⟩) | (go_at_call 24; (with_reducible refine (talkeep_sum.calls kj7 _ _ l3 t133 _ ?side1 ?side2 A28.out).mono ?_); (case side1 => repeat (first | exact (Kd.C_below HR3.out (by repeat (first | (with_reducible first | exact HB.out | apply below_alloc | apply pw_below_drewN | apply below_drew1) | exact HB.out))) | (with_reducible refine Kd.C_alloc ?_ _) | (with_reducible refine Kd.C_drewN ?_ _) | (with_reducible refine Kd.C_drew ?_))); (case side2 => exact HC3.out); rintro e w' ⟨rfl, ⟨nd, rfl⟩⟩))
                  go_meet
                  case rel => exact ⟨_, (((decide (t133 ≥ a2)) != false)), (by first | rfl | (simp; done) | (simp [*]; done)), H', ⟨by have := HJ7.out; first | omega | exact Nat.le_refl _⟩, ⟨by (with_reducible repeat (first | apply Kd.R_alloc | apply Kd.R_drewN | apply Kd.R_drew)); exact HO131.out⟩, ⟨by repeat (first | (with_reducible first | exact HB.out | apply below_alloc | apply pw_below_drewN | apply below_drew1) | exact HB.out)⟩⟩
            · rw [if_neg c24] at H
              have c24b0 : ((t128.length : Int) == (l3.length : Int)) = false := beq_eq_false_iff_ne.mpr c24
              have c24b1 : ((t128.length : Int) != (l3.length : Int)) = true := bne_iff_ne.mpr c24
              have c24b2 : (t128.length == l3.length) = false := by first | simpa using c24 | (simp at c24 ⊢; omega)
              (first | rw [c24b0] | (simp only [i64_w, i32_w]; rw [c24b0]) | skip)
              have H' := Aside0.mk H
              clear H
              obtain ⟨Ao32, co32, eo32⟩ := Kd.R_slice HO131.out
              subst eo32
              go_wp2
              go_meet
              case rel => exact ⟨_, (true), (by first | rfl | (simp; done) | (simp [*]; done)), H', ⟨by have := HJ7.out; first | omega | exact Nat.le_refl _⟩, ⟨by (with_reducible repeat (first | apply Kd.R_alloc | apply Kd.R_drewN | apply Kd.R_drew)); exact HO131.out⟩, ⟨by repeat (first | (with_reducible first | exact HB.out | apply below_alloc | apply pw_below_drewN | apply below_drew1) | exact HB.out)⟩⟩
          case rest =>
            clear HC22
            try clear c1
            try clear c2
            try clear p2
            try clear c3
            try clear c6
            try clear p6
            try clear c13
            try clear c13b0
            try clear c13b1
            try clear c19
            try clear c21
            try clear c21b0
            try clear c21b1
            try clear c22
            try clear c24
            try clear c24b0
            try clear c24b1
            try clear c24b2
            try clear c26
            try clear c26b0
            try clear c29
            try clear c29b0
            try clear c29b1
            try clear p2
            obtain ⟨kq, x77_21, rfl, HA, HJ21, HO_15, HB⟩ := hcut
            cases kq with
            | zero => exact absurd HA.out (by simp [talkeep_UnitsSum.j1])
            | succ kj21 =>
              have H := HA.out
              clear HA
              simp only [talkeep_UnitsSum.j1] at H
              by_cases c33 : x77_21 = true
              · subst c33
                have H1 : (some false) = some r := by rw [if_pos rfl] at H; exact H
                clear H
                have H := H1
                clear H1
                obtain rfl := Option.some.inj H
                go_wp2
                go_ret
                exact ⟨by first | rfl | (simp [errW_none, errW_some] <;> rfl) | (simp [*, errW_none, errW_some] <;> rfl), by repeat (first | (with_reducible first | exact HB.out | apply below_alloc | apply pw_below_drewN | apply below_drew1) | exact HB.out)⟩
              · replace c33 := Bool.eq_false_iff.mpr c33
                subst c33
                have H1 : (if (l3.length : Int) = 0 then (talkeep_UnitsSum.j2 kj21 a0 a1 a2 l3 a4 a5 t128 true) else (talkeep_UnitsSum.j2 kj21 a0 a1 a2 l3 a4 a5 t128 ((l3.length : Int) == 40))) = some r := by rw [if_neg (show ¬ (false = true) by decide)] at H; exact H
                clear H
                have H := H1
                clear H1
                have HC34 := Aside0.mk H
                clear H
                go_upto_region 9 with (fail)
                go_cut [85] (fun v85 wc => ∃ (kq : Nat) (x85_33 : Bool), v85 = .bool x85_33 ∧ Aside0 (talkeep_UnitsSum.j2 kq a0 a1 a2 l3 a4 a5 t128 x85_33 = some r) ∧ Aside0 (kq ≤ kj21) ∧ Aside0 (Kd.R (Kd.int .i64) 3 wc w.heap.size (fun _ => True) v130 t128) ∧ Aside0 (Below w.heap.size w wc))
                case first =>
                  have H := HC34.out
                  clear HC34
                  by_cases c35 : (l3.length : Int) = 0
                  · rw [if_pos c35] at H
                    have c35b0 : ((l3.length : Int) == 0) = true := beq_iff_eq.mpr c35
                    have c35b1 : ((l3.length : Int) != 0) = false := bne_eq_false_iff_eq.mpr c35
                    clear c35
                    (first | rw [c35b0] | (simp only [i64_w, i32_w]; rw [c35b0]) | skip)
                    have H' := Aside0.mk H
                    clear H
                    go_wp2
                    go_meet
                    case rel => exact ⟨_, (true), (by first | rfl | (simp; done) | (simp [*]; done)), H', ⟨by have := HJ7.out; have := HJ21.out; first | omega | exact Nat.le_refl _⟩, ⟨by (with_reducible repeat (first | apply Kd.R_alloc | apply Kd.R_drewN | apply Kd.R_drew)); exact HO_15.out⟩, ⟨by repeat (first | (with_reducible first | exact HB.out | apply below_alloc | apply pw_below_drewN | apply below_drew1) | exact HB.out)⟩⟩
                  · rw [if_neg c35] at H
                    have c35b0 : ((l3.length : Int) == 0) = false := beq_eq_false_iff_ne.mpr c35
                    have c35b1 : ((l3.length : Int) != 0) = true := bne_iff_ne.mpr c35
                    have c35b2 : ¬ (l3 = []) := fun h_ => c35 (by rw [h_]; rfl)
                    (first | rw [c35b0] | (simp only [i64_w, i32_w]; rw [c35b0]) | skip)
                    have H' := Aside0.mk H
                    clear H
                    go_wp2
                    go_meet
                    case rel => exact ⟨_, (((l3.length : Int) == 40)), (by first | rfl | (simp; done) | (simp [*]; done)), H', ⟨by have := HJ7.out; have := HJ21.out; first | omega | exact Nat.le_refl _⟩, ⟨by (with_reducible repeat (first | apply Kd.R_alloc | apply Kd.R_drewN | apply Kd.R_drew)); exact HO_15.out⟩, ⟨by repeat (first | (with_reducible first | exact HB.out | apply below_alloc | apply pw_below_drewN | apply below_drew1) | exact HB.out)⟩⟩
                case rest =>
                  clear HC34
                  try clear c1
                  try clear c2
                  try clear p2
                  try clear c3
                  try clear c6
                  try clear p6
                  try clear c13
                  try clear c13b0
                  try clear c13b1
                  try clear c19
                  try clear c21
                  try clear c21b0
                  try clear c21b1
                  try clear c22
                  try clear c24
                  try clear c24b0
                  try clear c24b1
                  try clear c24b2
                  try clear c26
                  try clear c26b0
                  try clear c29
                  try clear c29b0
                  try clear c29b1
                  try clear c33
                  try clear c35
                  try clear c35b0
                  try clear c35b1
                  try clear c35b2
                  try clear p2
                  try clear p6
                  obtain ⟨kq, x85_33, rfl, HA, HJ33, HO_15, HB⟩ := hcut
                  cases kq with
                  | zero => exact absurd HA.out (by simp [talkeep_UnitsSum.j2])
                  | succ kj33 =>
                    have H := HA.out
                    clear HA
                    simp only [talkeep_UnitsSum.j2] at H
                    by_cases c36 : x85_33 = true
                    · subst c36
                      have H1 : (some true) = some r := by rw [if_pos rfl] at H; exact H
                      clear H
                      have H := H1
                      clear H1
                      obtain rfl := Option.some.inj H
                      go_wp2
                      go_ret
                      exact ⟨by first | rfl | (simp [errW_none, errW_some] <;> rfl) | (simp [*, errW_none, errW_some] <;> rfl), by repeat (first | (with_reducible first | exact HB.out | apply below_alloc | apply pw_below_drewN | apply below_drew1) | exact HB.out)⟩
                    · replace c36 := Bool.eq_false_iff.mpr c36
                      subst c36
                      have H1 : ((talkeep_Within.f a4 (l3.length : Int)).bind fun t134 => (if 0 ≤ t134 then (if t134 < (l3.length : Int) then ((talkeep_Within.f a5 (wrap64 ((rd l3 t134) + 1))).bind fun t136 => ((slices_Clone_int_int.f l3).bind fun t137 => ((slices_Insert_int_int.f t137 t134 (([t136] : List Int))).bind fun t143 => (if 0 ≤ (wrap64 (t134 + 1)) then (if (wrap64 (t134 + 1)) < (t143.length : Int) then ((fall_Units.f kj33 a0 a1 a2 (t143.set ((wrap64 (t134 + 1)) : Int).toNat (wrap64 ((rd t143 (wrap64 (t134 + 1))) - t136)))).bind fun bt148 => (if bt148.2 = 0 then (talkeep_UnitsSum.j3 kj33 t134 t128 bt148.1 ((bt148.1.length : Int) != (wrap64 ((t128.length : Int) + 1)))) else (talkeep_UnitsSum.j3 kj33 t134 t128 bt148.1 true))) else (none)) else (none))))) else (none)) else (none))) = some r := by rw [if_neg (show ¬ (false = true) by decide)] at H; exact H
                      clear H
                      have H := H1
                      clear H1
                      replace H := Option.bind_eq_some_iff.mp H
                      obtain ⟨t134, A370, H⟩ := H
                      replace H : (if 0 ≤ t134 then (if t134 < (l3.length : Int) then ((talkeep_Within.f a5 (wrap64 ((rd l3 t134) + 1))).bind fun t136 => ((slices_Clone_int_int.f l3).bind fun t137 => ((slices_Insert_int_int.f t137 t134 (([t136] : List Int))).bind fun t143 => (if 0 ≤ (wrap64 (t134 + 1)) then (if (wrap64 (t134 + 1)) < (t143.length : Int) then ((fall_Units.f kj33 a0 a1 a2 (t143.set ((wrap64 (t134 + 1)) : Int).toNat (wrap64 ((rd t143 (wrap64 (t134 + 1))) - t136)))).bind fun bt148 => (if bt148.2 = 0 then (talkeep_UnitsSum.j3 kj33 t134 t128 bt148.1 ((bt148.1.length : Int) != (wrap64 ((t128.length : Int) + 1)))) else (talkeep_UnitsSum.j3 kj33 t134 t128 bt148.1 true))) else (none)) else (none))))) else (none)) else (none)) = some r := H
                      have A37 := Aside0.mk A370
                      clear A370
                      by_cases c38 : 0 ≤ t134
                      · rw [if_pos c38] at H
                        have c38b0 : decide (0 ≤ t134) = true := decide_eq_true c38
                        clear c38
                        by_cases c39 : t134 < (l3.length : Int)
                        · rw [if_pos c39] at H
                          have c39b0 : decide (t134 < (l3.length : Int)) = true := decide_eq_true c39
                          clear c39
                          replace H := Option.bind_eq_some_iff.mp H
                          obtain ⟨t136, A400, H⟩ := H
                          replace H : ((slices_Clone_int_int.f l3).bind fun t137 => ((slices_Insert_int_int.f t137 t134 (([t136] : List Int))).bind fun t143 => (if 0 ≤ (wrap64 (t134 + 1)) then (if (wrap64 (t134 + 1)) < (t143.length : Int) then ((fall_Units.f kj33 a0 a1 a2 (t143.set ((wrap64 (t134 + 1)) : Int).toNat (wrap64 ((rd t143 (wrap64 (t134 + 1))) - t136)))).bind fun bt148 => (if bt148.2 = 0 then (talkeep_UnitsSum.j3 kj33 t134 t128 bt148.1 ((bt148.1.length : Int) != (wrap64 ((t128.length : Int) + 1)))) else (talkeep_UnitsSum.j3 kj33 t134 t128 bt148.1 true))) else (none)) else (none)))) = some r := H
                          have A40 := Aside0.mk A400
                          clear A400
                          replace H := Option.bind_eq_some_iff.mp H
                          obtain ⟨t137, A410, H⟩ := H
                          replace H : ((slices_Insert_int_int.f t137 t134 (([t136] : List Int))).bind fun t143 => (if 0 ≤ (wrap64 (t134 + 1)) then (if (wrap64 (t134 + 1)) < (t143.length : Int) then ((fall_Units.f kj33 a0 a1 a2 (t143.set ((wrap64 (t134 + 1)) : Int).toNat (wrap64 ((rd t143 (wrap64 (t134 + 1))) - t136)))).bind fun bt148 => (if bt148.2 = 0 then (talkeep_UnitsSum.j3 kj33 t134 t128 bt148.1 ((bt148.1.length : Int) != (wrap64 ((t128.length : Int) + 1)))) else (talkeep_UnitsSum.j3 kj33 t134 t128 bt148.1 true))) else (none)) else (none))) = some r := H
                          have A41 := Aside0.mk A410
                          clear A410
                          obtain ⟨y140, hy140⟩ : ∃ y_ : List Int, y_ = (([t136] : List Int)) := ⟨_, rfl⟩
                          replace H : ((slices_Insert_int_int.f t137 t134 y140).bind fun t143 => (if 0 ≤ (wrap64 (t134 + 1)) then (if (wrap64 (t134 + 1)) < (t143.length : Int) then ((fall_Units.f kj33 a0 a1 a2 (t143.set ((wrap64 (t134 + 1)) : Int).toNat (wrap64 ((rd t143 (wrap64 (t134 + 1))) - t136)))).bind fun bt148 => (if bt148.2 = 0 then (talkeep_UnitsSum.j3 kj33 t134 t128 bt148.1 ((bt148.1.length : Int) != (wrap64 ((t128.length : Int) + 1)))) else (talkeep_UnitsSum.j3 kj33 t134 t128 bt148.1 true))) else (none)) else (none))) = some r := by first | (rw [hy140]; with_reducible exact H) | (have H2_ := (Option.bind_some _ _).symm.trans H; rw [hy140]; with_reducible exact H2_) | (have H2_ := (Option.bind_some _ _).symm.trans H; with_reducible exact H2_) | with_reducible exact H | (rw [hy140]; exact H) | exact H
                          have Ny140 := Aside0.mk hy140
                          clear hy140
                          replace H := Option.bind_eq_some_iff.mp H
                          obtain ⟨t143, A420, H⟩ := H
                          replace H : (if 0 ≤ (wrap64 (t134 + 1)) then (if (wrap64 (t134 + 1)) < (t143.length : Int) then ((fall_Units.f kj33 a0 a1 a2 (t143.set ((wrap64 (t134 + 1)) : Int).toNat (wrap64 ((rd t143 (wrap64 (t134 + 1))) - t136)))).bind fun bt148 => (if bt148.2 = 0 then (talkeep_UnitsSum.j3 kj33 t134 t128 bt148.1 ((bt148.1.length : Int) != (wrap64 ((t128.length : Int) + 1)))) else (talkeep_UnitsSum.j3 kj33 t134 t128 bt148.1 true))) else (none)) else (none)) = some r := H
                          have A42 := Aside0.mk A420
                          clear A420
                          obtain ⟨ji43, hji43⟩ : ∃ j_ : Int, (wrap64 (t134 + 1)) = j_ := ⟨_, rfl⟩
                          replace H : (if 0 ≤ (ji43) then (if (ji43) < (t143.length : Int) then ((fall_Units.f kj33 a0 a1 a2 (t143.set ((ji43) : Int).toNat (wrap64 ((rd t143 (ji43)) - t136)))).bind fun bt148 => (if bt148.2 = 0 then (talkeep_UnitsSum.j3 kj33 t134 t128 bt148.1 ((bt148.1.length : Int) != (wrap64 ((t128.length : Int) + 1)))) else (talkeep_UnitsSum.j3 kj33 t134 t128 bt148.1 true))) else (none)) else (none)) = some r := by first | (rw [hji43] at H; exact H) | (simp only [hji43] at H ⊢; exact H)
                          (try rw [hji43] at A37)
                          (try rw [hji43] at A40)
                          (try rw [hji43] at A41)
                          (try rw [hji43] at A42)
                          have hji43w : (IntKind.i64.wrap (t134 + 1)) = ji43 := (i64_w _).trans hji43
                          by_cases c44 : 0 ≤ (ji43)
                          · rw [if_pos c44] at H
                            have c44b0 : decide (0 ≤ (ji43)) = true := decide_eq_true c44
                            clear c44
                            by_cases c45 : (ji43) < (t143.length : Int)
                            · rw [if_pos c45] at H
                              have c45b0 : decide ((ji43) < (t143.length : Int)) = true := decide_eq_true c45
                              clear c45
                              obtain ⟨y147, hy147⟩ : ∃ y_ : List Int, y_ = (t143.set ((ji43) : Int).toNat (wrap64 ((rd t143 (ji43)) - t136))) := ⟨_, rfl⟩
                              replace H : ((fall_Units.f kj33 a0 a1 a2 y147).bind fun bt148 => (if bt148.2 = 0 then (talkeep_UnitsSum.j3 kj33 t134 t128 bt148.1 ((bt148.1.length : Int) != (wrap64 ((t128.length : Int) + 1)))) else (talkeep_UnitsSum.j3 kj33 t134 t128 bt148.1 true))) = some r := by first | (rw [hy147]; with_reducible exact H) | (have H2_ := (Option.bind_some _ _).symm.trans H; rw [hy147]; with_reducible exact H2_) | (have H2_ := (Option.bind_some _ _).symm.trans H; with_reducible exact H2_) | with_reducible exact H | (rw [hy147]; exact H) | exact H
                              have Ny147 := Aside0.mk hy147
                              clear hy147
                              replace H := Option.bind_eq_some_iff.mp H
                              obtain ⟨⟨t148, t149⟩, A470, H⟩ := H
                              replace H : (if t149 = 0 then (talkeep_UnitsSum.j3 kj33 t134 t128 t148 ((t148.length : Int) != (wrap64 ((t128.length : Int) + 1)))) else (talkeep_UnitsSum.j3 kj33 t134 t128 t148 true)) = some r := H
                              have A47 := Aside0.mk A470
                              clear A470
                              have HC48 := Aside0.mk H
                              clear H
                              go_upto_region 16 with (first | ((with_reducible refine gate_callee (f := 15) rfl ?_); refine goesL_ (some 89) rfl rfl Try.func15 (by kernel_rfl) rfl #[.int .i64 a4, .int .i64 (l3.length : Int)] rfl (by (try simp only [List.map_toArray, List.map_cons, List.map_nil]); first | done | rfl | (simp only [List.length_drop, List.length_take]; rfl)) ?_; (with_reducible refine (talkeep_Within.calls a4 (l3.length : Int) t134 _ A37.out).mono ?_); rintro e w' ⟨rfl, ⟨nd, rfl⟩⟩; refine ⟨_, rfl, ?_⟩; (try (rw [drewN_self wc]; generalize hq_ : World.drewN wc _ = wc; have n0_ : Aside0 (Kd.R (Kd.int .i64) 3 wc w.heap.size (fun _ => True) v130 t128) := ⟨by rw [← hq_]; exact (by (with_reducible repeat (first | apply Kd.R_alloc | apply Kd.R_drewN | apply Kd.R_drew)); exact HO_15.out)⟩; have n1_ : Aside0 (Below w.heap.size w wc) := ⟨by rw [← hq_]; exact (by repeat (first | (with_reducible first | exact HB.out | apply below_alloc | apply pw_below_drewN | apply below_drew1) | exact HB.out))⟩; clear HO_15 HB hq_; have HO_15 := n0_; have HB := n1_; clear n0_ n1_)); have p135 : 0 ≤ (t134 : Int) := of_decide_eq_true (by first | (with_reducible assumption) | assumption); have q135 : t134 < (l3.length : Int) := of_decide_eq_true (by first | (with_reducible assumption) | assumption); obtain ⟨ad135, e135, hx135_0⟩ := Kd.at_int HR3.out t134 p135 q135; cases e135; replace hx135_0 := (HB.out.cell (World.block_lt_of_cell? w _ hx135_0)).trans hx135_0; replace p135 := eq_true p135; replace q135 := eq_true q135) | ((with_reducible refine gate_callee (f := 15) rfl ?_); refine goesL_ (some 96) rfl rfl Try.func15 (by kernel_rfl) rfl #[.int .i64 a5, .int .i64 (wrap64 ((rd l3 t134) + 1))] rfl (by (try simp only [List.map_toArray, List.map_cons, List.map_nil]); first | done | rfl | (simp only [List.length_drop, List.length_take]; rfl)) ?_; (with_reducible refine (talkeep_Within.calls a5 (wrap64 ((rd l3 t134) + 1)) t136 _ A40.out).mono ?_); rintro e w' ⟨rfl, ⟨nd, rfl⟩⟩; refine ⟨_, rfl, ?_⟩; (try (rw [drewN_self wc]; generalize hq_ : World.drewN wc _ = wc; have n0_ : Aside0 (Kd.R (Kd.int .i64) 3 wc w.heap.size (fun _ => True) v130 t128) := ⟨by rw [← hq_]; exact (by (with_reducible repeat (first | apply Kd.R_alloc | apply Kd.R_drewN | apply Kd.R_drew)); exact HO_15.out)⟩; have n1_ : Aside0 (Below w.heap.size w wc) := ⟨by rw [← hq_]; exact (by repeat (first | (with_reducible first | exact HB.out | apply below_alloc | apply pw_below_drewN | apply below_drew1) | exact HB.out))⟩; clear HO_15 HB hq_; have HO_15 := n0_; have HB := n1_; clear n0_ n1_))) | ((with_reducible refine gate_callee (f := 26) rfl ?_); refine goesL_ (some 98) rfl rfl Try.func26 (by kernel_rfl) rfl #[.slice (some ad135) l3.length c3] rfl (by (try simp only [List.map_toArray, List.map_cons, List.map_nil]); first | done | rfl | (simp only [List.length_drop, List.length_take]; rfl)) ?_; (with_reducible refine (slices_Clone_int_int.calls _ _ l3 t137 _ ?side1 ?side2 A41.out).mono ?_); (case side1 => repeat (first | exact (Kd.C_below HR3.out HB.out) | (with_reducible refine Kd.C_alloc ?_ _) | (with_reducible refine Kd.C_drewN ?_ _) | (with_reducible refine Kd.C_drew ?_))); (case side2 => exact HC3.out); rintro e w49 ⟨v138, rfl, ho0, hb⟩; refine ⟨_, rfl, ?_⟩; have n0_ := Aside0.mk (Kd.R_elder' (by (with_reducible repeat (first | apply Kd.R_alloc | apply Kd.R_drewN | apply Kd.R_drew)); exact HO_15.out) (Kd.R_base ho0) hb); have n1_ := Aside0.mk (Kd.R_lower (Kd.R_new' ho0 (Kd.R_lt (by (with_reducible repeat (first | apply Kd.R_alloc | apply Kd.R_drewN | apply Kd.R_drew)); exact HO_15.out))) (below_size (by repeat (first | (with_reducible first | exact HB.out | apply below_alloc | apply pw_below_drewN | apply below_drew1) | exact HB.out)))); have n2_ := Aside0.mk (below_step (by repeat (first | (with_reducible first | exact HB.out | apply below_alloc | apply pw_below_drewN | apply below_drew1) | exact HB.out)) hb); clear HO_15; clear HB; have HO_15 := n0_; have HO139 := n1_; have HB := n2_; clear n0_ n1_ n2_; (try clear hb); (try clear hb2); (try clear hk); (try clear hi); (try clear ho0)) | ((with_reducible refine gate_dst (N := 101) rfl ?_); (try (refine gate_guard (by rfl) ?_; dsimp only)); refine Kd.R_lit (Kd.int .i64) _ 3 ?hg (N := 101) ?hd (xs := ([t136] : List Int)) (inner := [.int .i64 t136]) (ok := fun _ => True) (okp := fun _ => True) ?hr ?hp (fun _ hk => hk) trivial (Below.refl _ _) (Nat.le_refl _) (by simp) ?_; (case hd => rfl); (case hg => rfl); (case hr => first | (go_simp; done) | (go_simp; rfl)); (case hp => exact (Reps.one (show Kd.M (Kd.int .i64) _ _ _ t136 [.int .i64 t136] from rfl) (Reps.none _ _))); intro v141 w50 ho51 hb hg_ hnew_; clear hg_ hnew_; (first | rw [← Ny140.out] at ho51 | (simp only [Int.reduceToNat] at ho51; rw [← Ny140.out] at ho51)); have n0_ := Aside0.mk (Kd.R_elder' (by (with_reducible repeat (first | apply Kd.R_alloc | apply Kd.R_drewN | apply Kd.R_drew)); exact HO_15.out) (Kd.R_base ho51) hb); have n1_ := Aside0.mk (Kd.R_elder' (by (with_reducible repeat (first | apply Kd.R_alloc | apply Kd.R_drewN | apply Kd.R_drew)); exact HO139.out) (Kd.R_base ho51) hb); have n2_ := Aside0.mk (Kd.R_lower (Kd.R_new' (Kd.R_new' ho51 (Kd.R_lt (by (with_reducible repeat (first | apply Kd.R_alloc | apply Kd.R_drewN | apply Kd.R_drew)); exact HO_15.out))) (Kd.R_lt (by (with_reducible repeat (first | apply Kd.R_alloc | apply Kd.R_drewN | apply Kd.R_drew)); exact HO139.out))) (below_size (by repeat (first | (with_reducible first | exact HB.out | apply below_alloc | apply pw_below_drewN | apply below_drew1) | exact HB.out)))); have n3_ := Aside0.mk (below_step (by repeat (first | (with_reducible first | exact HB.out | apply below_alloc | apply pw_below_drewN | apply below_drew1) | exact HB.out)) hb); clear HO_15; clear HO139; clear HB; have HO_15 := n0_; have HO139 := n1_; have HO142 := n2_; have HB := n3_; clear n0_ n1_ n2_ n3_; clear hb ho51; obtain ⟨Ao52, co52, eo52⟩ := Kd.R_slice HO139.out; subst eo52; obtain ⟨Ao53, co53, eo53⟩ := Kd.R_slice HO142.out; subst eo53) | ((with_reducible refine gate_callee (f := 25) rfl ?_); refine goesL_ (some 102) rfl rfl Try.func25 (by kernel_rfl) rfl #[.slice Ao52 t137.length co52, .int .i64 t134, .slice Ao53 y140.length co53] rfl (by (try simp only [List.map_toArray, List.map_cons, List.map_nil]); first | done | rfl | (simp only [List.length_drop, List.length_take]; rfl)) ?_; (with_reducible refine (slices_Insert_int_int.calls (fun k_ => some k_ = (.slice Ao52 t137.length co52 : Value).ownBlock) (.slice Ao52 t137.length co52) t137 t134 (fun k_ => some k_ = (.slice Ao53 y140.length co53 : Value).ownBlock) (.slice Ao53 y140.length co53) y140 t143 w _ ?side1 ?side2 ?side3 ?side4 ?side5 A42.out).mono ?_); (case side1 => repeat (first | (with_reducible first | exact HB.out | apply below_alloc | apply pw_below_drewN | apply below_drew1) | exact HB.out)); (case side2 => exact Kd.R_tight rfl HO139.out); (case side3 => exact fun k_ e_ => (HO139.out.1 k_ e_.symm).2); (case side4 => exact Kd.R_tight rfl HO142.out); (case side5 => exact fun k_ e_ => (HO142.out.1 k_ e_.symm).2); rintro e w54 ⟨v144, rfl, ho0, hb, hkp⟩; refine ⟨_, rfl, ?_⟩; have n0_ := Aside0.mk (Kd.R_mono (ok' := fun k_ => some k_ ≠ (v144 : Value).ownBlock) (Kd.R_keptB (HO_15.out) hkp (fun k_ hk_ hs_ => Or.elim hs_ (fun e_ => (hk_.1.2) e_) (fun e_ => (hk_.2) e_))) (fun k_ hk_ => fun e_ => Or.elim (ho0.1 k_ e_.symm) (fun hs_ => hk_.2.1 hs_) (fun hn_ => Nat.not_le.2 hk_.2.2 hn_))); have n1_ := Aside0.mk (Kd.R_mono (ok' := fun k_ => some k_ ≠ (v130 : Value).ownBlock) ho0 (fun k_ hk_ => Or.elim hk_ (fun hs_ => Or.elim hs_ (fun hs_ => fun e_ => (((HO_15.out).1 k_ e_.symm).1.2) hs_) (fun hs_ => fun e_ => (((HO_15.out).1 k_ e_.symm).2) hs_)) (fun hn_ => (Kd.fresh' (Kd.R_lt (by (with_reducible repeat (first | apply Kd.R_alloc | apply Kd.R_drewN | apply Kd.R_drew)); exact HO_15.out)) k_ hn_)))); have n2_ := Aside0.mk (hb); clear HO_15; clear HB; clear HO139; clear HO142; have HO_15 := n0_; have HO145 := n1_; have HB := n2_; clear n0_ n1_ n2_; (try clear hb); (try clear hkp); (try clear ho0); obtain ⟨Ao55, co55, eo55⟩ := Kd.R_slice HO145.out; subst eo55; have p146 : 0 ≤ ((ji43) : Int) := of_decide_eq_true (by first | (with_reducible assumption) | assumption); have q146 : (ji43) < (t143.length : Int) := of_decide_eq_true (by first | (with_reducible assumption) | assumption); obtain ⟨ad146, e146, hx146_0⟩ := Kd.at_int (Kd.R_reads' HO145.out).2.2 (ji43) p146 q146; cases e146; replace p146 := eq_true p146; replace q146 := eq_true q146; have p46 : 0 ≤ ((ji43) : Int) := of_decide_eq_true (by first | (with_reducible assumption) | assumption); have q46 : ((ji43) : Int) < ((t143.length : Int) : Int) := of_decide_eq_true (by first | (with_reducible assumption) | assumption); obtain ⟨go46, co46, eo46, gb46, gl46, cl46, HG46⟩ := Kd.R_form HO145.out (by omega); (first | cases eo46 | (injection eo46 with ea_ en_ ec_; (first | subst ea_ | (injection ea_ with ea_; subst ea_)); subst ec_; clear en_)); have GB46 := Aside0.mk gb46; have GG46 := Aside0.mk HG46; clear gb46 gl46 HG46; (first | simp only [add_plain] at hx146_0 | skip); obtain ⟨hx46_0, hf46_0⟩ := Kd.R_celln 0 HO145.out ((ji43) : Int) p46 q46; replace p46 := eq_true p46; replace q46 := eq_true q46; obtain ⟨hy56_, hz56_⟩ := Kd.R_celln 0 HO145.out ((ji43) : Int) (of_decide_eq_true (by first | (with_reducible assumption) | assumption)) (of_decide_eq_true (by first | (with_reducible assumption) | assumption)); have HP56 := Kd.R_putg HO145.out ((ji43) : Int) (wrap64 ((rd t143 (ji43)) - t136))) | ((with_reducible refine gate_store (t := 3) (p := 110) rfl ?_); refine store_event (t := 3) (p := 110) (v := ?vo_w57) (w1 := (w54.setCell ⟨go46, ((ji43) : Int).toNat, none⟩ (.int .i64 (wrap64 ((rd t143 (ji43)) - t136))))) ?hg ?ho ?hn ?hr ?_; (case ho => rfl); (case hg => rfl); (case hn => rfl); (case hr => first | (go_simp; done) | (go_simp; rfl)); intro w57 hw; have hg : w54.grownBy w57 (some go46) := (by rw [hw]; exact HP56.2); have hp_ : Kd.R (Kd.int .i64) 3 w57 w.heap.size (fun k_ => some k_ ≠ (v130 : Value).ownBlock) (.slice (some ⟨go46, 0, none⟩) t143.length co55) y147 := (by rw [hw, Ny147.out]; exact HP56.1); clear HP56; have n0_ := Aside0.mk (Kd.R_after (v := (.slice (some ⟨go46, 0, none⟩) t143.length co55)) (v1 := (.slice (some ⟨go46, 0, none⟩) t143.length co55)) (ok := (fun _ => True)) (by (with_reducible repeat (first | apply Kd.R_alloc | apply Kd.R_drewN | apply Kd.R_drew)); exact Kd.R_mono HO_15.out (fun _ hk => ⟨trivial, hk⟩)) hg (.inl rfl)); have n1_ := Aside0.mk (hp_); have n2_ := Aside0.mk ((by rw [hw]; exact below_set (HB.out) GB46.out : Below w.heap.size w w57)); clear HO_15; clear HO145; clear HB; have HO_15 := n0_; have HO145 := n1_; have HB := n2_; clear n0_ n1_ n2_; clear hg hw hp_) | ((with_reducible refine gate_callee (f := 22) rfl ?_); refine goesL_ (some 116) rfl rfl Try.func22 (by kernel_rfl) rfl #[.int .i64 a0, .int .i64 a1, .int .i64 a2, .slice (some ⟨go46, 0, none⟩) y147.length co55] rfl (by (try simp only [List.map_toArray, List.map_cons, List.map_nil]); first | done | (rw [show y147.length = t143.length from (Kd.R_reads' HO145.out).1.symm] <;> rfl) | rfl | (simp only [List.length_drop, List.length_take]; rfl)) ?_; (with_reducible refine (fall_Units.calls kj33 a0 a1 a2 _ _ y147 t148 t149 _ ?side1 ?side2 A47.out).mono ?_); (case side1 => repeat (first | exact (Kd.R_reads' HO145.out).2.2 | (with_reducible refine Kd.C_alloc ?_ _) | (with_reducible refine Kd.C_drewN ?_ _) | (with_reducible refine Kd.C_drew ?_))); (case side2 => rw [show y147.length = t143.length from (Kd.R_reads' HO145.out).1.symm]; exact (Kd.R_reads' HO145.out).2.1); rintro e w58 ⟨v150, rfl, ho0, hb⟩; refine ⟨_, rfl, ?_⟩; have n0_ := Aside0.mk (Kd.R_elder' (by (with_reducible repeat (first | apply Kd.R_alloc | apply Kd.R_drewN | apply Kd.R_drew)); exact HO_15.out) (Kd.R_base ho0) hb); have n1_ := Aside0.mk (Kd.R_elder' (by (with_reducible repeat (first | apply Kd.R_alloc | apply Kd.R_drewN | apply Kd.R_drew)); exact HO145.out) (Kd.R_base ho0) hb); have n2_ := Aside0.mk (Kd.R_lower (Kd.R_new' (Kd.R_new' ho0 (Kd.R_lt (by (with_reducible repeat (first | apply Kd.R_alloc | apply Kd.R_drewN | apply Kd.R_drew)); exact HO_15.out))) (Kd.R_lt (by (with_reducible repeat (first | apply Kd.R_alloc | apply Kd.R_drewN | apply Kd.R_drew)); exact HO145.out))) (below_size (by repeat (first | (with_reducible first | exact HB.out | apply below_alloc | apply pw_below_drewN | apply below_drew1) | exact HB.out)))); have n3_ := Aside0.mk (below_step (by repeat (first | (with_reducible first | exact HB.out | apply below_alloc | apply pw_below_drewN | apply below_drew1) | exact HB.out)) hb); clear HO_15; clear HO145; clear HB; have HO_15 := n0_; have HO145 := n1_; have HO151 := n2_; have HB := n3_; clear n0_ n1_ n2_ n3_; (try clear hb); (try clear hb2); (try clear hk); (try clear hi); (try clear ho0)))
                              (try simp only [Act.put, List.setIfInBounds_toArray, List.set_cons_zero, List.set_cons_succ])
                              go_cut [128] (fun v128 wc => ∃ (kq : Nat) (x128_47 : Bool), v128 = .bool x128_47 ∧ Aside0 (talkeep_UnitsSum.j3 kq t134 t128 t148 x128_47 = some r) ∧ Aside0 (kq ≤ kj33) ∧ Aside0 (Kd.R (Kd.int .i64) 3 wc w.heap.size (fun k_ => some k_ ≠ (v150 : Value).ownBlock) v130 t128) ∧ Aside0 (Kd.R (Kd.int .i64) 3 wc w.heap.size (fun k_ => some k_ ≠ (v130 : Value).ownBlock) v150 t148) ∧ Aside0 (Below w.heap.size w wc))
                              case first =>
                                have H := HC48.out
                                clear HC48
                                by_cases c59 : t149 = 0
                                · rw [if_pos c59] at H
                                  have c59b0 : (t149 == 0) = true := beq_iff_eq.mpr c59
                                  have c59b1 : (t149 != 0) = false := bne_eq_false_iff_eq.mpr c59
                                  clear c59
                                  (first | rw [c59b0] | (simp only [i64_w, i32_w]; rw [c59b0]) | skip)
                                  have H' := Aside0.mk H
                                  clear H
                                  obtain ⟨Ao60, co60, eo60⟩ := Kd.R_slice HO151.out
                                  subst eo60
                                  obtain ⟨Ao61, co61, eo61⟩ := Kd.R_slice HO_15.out
                                  subst eo61
                                  go_wp2
                                  go_meet
                                  case rel => exact ⟨_, (((t148.length : Int) != (wrap64 ((t128.length : Int) + 1)))), (by first | rfl | (simp; done) | (simp [*]; done)), H', ⟨by have := HJ7.out; have := HJ21.out; have := HJ33.out; first | omega | exact Nat.le_refl _⟩, ⟨by (with_reducible repeat (first | apply Kd.R_alloc | apply Kd.R_drewN | apply Kd.R_drew)); exact Kd.R_mono HO_15.out (fun _ hk => hk.2)⟩, ⟨by (with_reducible repeat (first | apply Kd.R_alloc | apply Kd.R_drewN | apply Kd.R_drew)); exact Kd.R_mono HO151.out (fun _ hk => hk.1.2)⟩, ⟨by repeat (first | (with_reducible first | exact HB.out | apply below_alloc | apply pw_below_drewN | apply below_drew1) | exact HB.out)⟩⟩
                                · rw [if_neg c59] at H
                                  have c59b0 : (t149 == 0) = false := beq_eq_false_iff_ne.mpr c59
                                  have c59b1 : (t149 != 0) = true := bne_iff_ne.mpr c59
                                  (first | rw [c59b0] | (simp only [i64_w, i32_w]; rw [c59b0]) | skip)
                                  have H' := Aside0.mk H
                                  clear H
                                  go_wp2
                                  go_meet
                                  case rel => exact ⟨_, (true), (by first | rfl | (simp; done) | (simp [*]; done)), H', ⟨by have := HJ7.out; have := HJ21.out; have := HJ33.out; first | omega | exact Nat.le_refl _⟩, ⟨by (with_reducible repeat (first | apply Kd.R_alloc | apply Kd.R_drewN | apply Kd.R_drew)); exact Kd.R_mono HO_15.out (fun _ hk => hk.2)⟩, ⟨by (with_reducible repeat (first | apply Kd.R_alloc | apply Kd.R_drewN | apply Kd.R_drew)); exact Kd.R_mono HO151.out (fun _ hk => hk.1.2)⟩, ⟨by repeat (first | (with_reducible first | exact HB.out | apply below_alloc | apply pw_below_drewN | apply below_drew1) | exact HB.out)⟩⟩
                              case rest =>
                                clear HC48
                                try clear c1
                                try clear p1
                                try clear q1
                                try clear hx1
                                try clear c2
                                try clear p2
                                try clear c3
                                try clear c4
                                try clear p4
                                try clear q4
                                try clear hx4
                                try clear c5
                                try clear c6
                                try clear p6
                                try clear c13
                                try clear c13b0
                                try clear c13b1
                                try clear p13
                                try clear q13
                                try clear hx13
                                try clear p14
                                try clear q14
                                try clear hx14
                                try clear c15
                                try clear c19
                                try clear c21
                                try clear c21b0
                                try clear c21b1
                                try clear c22
                                try clear c24
                                try clear c24b0
                                try clear c24b1
                                try clear c24b2
                                try clear c25
                                try clear c26
                                try clear c26b0
                                try clear c29
                                try clear c29b0
                                try clear c29b1
                                try clear c33
                                try clear c35
                                try clear c35b0
                                try clear c35b1
                                try clear c35b2
                                try clear c36
                                try clear c38
                                try clear c38b0
                                try clear c39
                                try clear c39b0
                                try clear c44
                                try clear c44b0
                                try clear c45
                                try clear c45b0
                                try clear p46
                                try clear q46
                                try clear hx46
                                try clear hf46
                                try clear c59
                                try clear c59b0
                                try clear c59b1
                                try clear hx135_0
                                try clear hx146_0
                                try clear hx46_0
                                try clear p135
                                try clear p146
                                try clear p2
                                try clear p46
                                try clear p6
                                try clear q135
                                try clear q146
                                try clear q46
                                obtain ⟨kq, x128_47, rfl, HA, HJ47, HO_15, HO_19, HB⟩ := hcut
                                cases kq with
                                | zero => exact absurd HA.out (by simp [talkeep_UnitsSum.j3])
                                | succ kj47 =>
                                  have H := HA.out
                                  clear HA
                                  simp only [talkeep_UnitsSum.j3] at H
                                  by_cases c62 : x128_47 = true
                                  · subst c62
                                    have H1 : (some false) = some r := by rw [if_pos rfl] at H; exact H
                                    clear H
                                    have H := H1
                                    clear H1
                                    obtain rfl := Option.some.inj H
                                    go_wp2
                                    go_ret
                                    exact ⟨by first | rfl | (simp [errW_none, errW_some] <;> rfl) | (simp only [← hji43]; first | rfl | (simp [errW_none, errW_some] <;> rfl)) | (simp [*, errW_none, errW_some] <;> rfl), by repeat (first | (with_reducible first | exact HB.out | apply below_alloc | apply pw_below_drewN | apply below_drew1) | exact HB.out)⟩
                                  · replace c62 := Bool.eq_false_iff.mpr c62
                                    subst c62
                                    have H1 : (if 0 ≤ (wrap64 (t134 + 1)) then (if (wrap64 (t134 + 1)) < (t148.length : Int) then (if 0 ≤ t134 then (if t134 < (t148.length : Int) then ((slices_Delete_int_int.f (t148.set ((wrap64 (t134 + 1)) : Int).toNat (wrap64 ((rd t148 (wrap64 (t134 + 1))) + (rd t148 t134)))) t134 (wrap64 (t134 + 1))).bind fun t155 => ((slices_Equal_int_int.f kj47 t155 t128).bind fun t158 => (some t158))) else (none)) else (none)) else (none)) else (none)) = some r := by rw [if_neg (show ¬ (false = true) by decide)] at H; exact H
                                    clear H
                                    have H := H1
                                    clear H1
                                    skip
                                    replace H : (if 0 ≤ (ji43) then (if (ji43) < (t148.length : Int) then (if 0 ≤ t134 then (if t134 < (t148.length : Int) then ((slices_Delete_int_int.f (t148.set ((ji43) : Int).toNat (wrap64 ((rd t148 (ji43)) + (rd t148 t134)))) t134 (ji43)).bind fun t155 => ((slices_Equal_int_int.f kj47 t155 t128).bind fun t158 => (some t158))) else (none)) else (none)) else (none)) else (none)) = some r := by first | (rw [hji43] at H; exact H) | (simp only [hji43] at H ⊢; exact H)
                                    have hji43w : (IntKind.i64.wrap (t134 + 1)) = ji43 := (i64_w _).trans hji43
                                    by_cases c64 : 0 ≤ (ji43)
                                    · rw [if_pos c64] at H
                                      have c64b0 : decide (0 ≤ (ji43)) = true := decide_eq_true c64
                                      clear c64
                                      by_cases c65 : (ji43) < (t148.length : Int)
                                      · rw [if_pos c65] at H
                                        have c65b0 : decide ((ji43) < (t148.length : Int)) = true := decide_eq_true c65
                                        clear c65
                                        by_cases c66 : 0 ≤ t134
                                        · rw [if_pos c66] at H
                                          have c66b0 : decide (0 ≤ t134) = true := decide_eq_true c66
                                          clear c66
                                          by_cases c67 : t134 < (t148.length : Int)
                                          · rw [if_pos c67] at H
                                            have c67b0 : decide (t134 < (t148.length : Int)) = true := decide_eq_true c67
                                            clear c67
                                            obtain ⟨y154, hy154⟩ : ∃ y_ : List Int, y_ = (t148.set ((ji43) : Int).toNat (wrap64 ((rd t148 (ji43)) + (rd t148 t134)))) := ⟨_, rfl⟩
                                            replace H : ((slices_Delete_int_int.f y154 t134 (ji43)).bind fun t155 => ((slices_Equal_int_int.f kj47 t155 t128).bind fun t158 => (some t158))) = some r := by first | (rw [hy154]; with_reducible exact H) | (have H2_ := (Option.bind_some _ _).symm.trans H; rw [hy154]; with_reducible exact H2_) | (have H2_ := (Option.bind_some _ _).symm.trans H; with_reducible exact H2_) | with_reducible exact H | (rw [hy154]; exact H) | exact H
                                            have Ny154 := Aside0.mk hy154
                                            clear hy154
                                            replace H := Option.bind_eq_some_iff.mp H
                                            obtain ⟨t155, A690, H⟩ := H
                                            replace H : ((slices_Equal_int_int.f kj47 t155 t128).bind fun t158 => (some t158)) = some r := H
                                            have A69 := Aside0.mk A690
                                            clear A690
                                            replace H := Option.bind_eq_some_iff.mp H
                                            obtain ⟨t158, A700, H⟩ := H
                                            replace H : (some t158) = some r := H
                                            have A70 := Aside0.mk A700
                                            clear A700
                                            obtain rfl := Option.some.inj H
                                            try go_wp2
                                            have n0_ := Aside0.mk (Kd.R_drew HO_15.out)
                                            have n1_ := Aside0.mk (Kd.R_drew HO_19.out)
                                            have n2_ := Aside0.mk (below_drew1 HB.out)
                                            clear HO_15
                                            clear HO_19
                                            clear HB
                                            have HO_15 := n0_
                                            have HO_19 := n1_
                                            have HB := n2_
                                            clear n0_ n1_ n2_
                                            obtain ⟨Ao72, co72, eo72⟩ := Kd.R_slice HO_19.out
                                            (first | subst eo72 | (injection eo72 with f1_ f2_ f3_; have f4_ := f1_.symm; have f5_ := f3_.symm; clear f1_ f2_ f3_; subst f4_; subst f5_))
                                            have p152 : 0 ≤ ((ji43) : Int) := of_decide_eq_true (by first | (with_reducible assumption) | assumption)
                                            have q152 : (ji43) < (t148.length : Int) := of_decide_eq_true (by first | (with_reducible assumption) | assumption)
                                            obtain ⟨ad152, e152, hx152_0⟩ := Kd.at_int (Kd.R_reads' HO_19.out).2.2 (ji43) p152 q152
                                            cases e152
                                            replace p152 := eq_true p152
                                            replace q152 := eq_true q152
                                            have p153 : 0 ≤ (t134 : Int) := of_decide_eq_true (by first | (with_reducible assumption) | assumption)
                                            have q153 : t134 < (t148.length : Int) := of_decide_eq_true (by first | (with_reducible assumption) | assumption)
                                            obtain ⟨ad153, e153, hx153_0⟩ := Kd.at_int (Kd.R_reads' HO_19.out).2.2 t134 p153 q153
                                            obtain rfl : ad152 = ad153 := (by injection e153)
                                            replace p153 := eq_true p153
                                            replace q153 := eq_true q153
                                            have p68 : 0 ≤ ((ji43) : Int) := of_decide_eq_true (by first | (with_reducible assumption) | assumption)
                                            have q68 : ((ji43) : Int) < ((t148.length : Int) : Int) := of_decide_eq_true (by first | (with_reducible assumption) | assumption)
                                            obtain ⟨go68, co68, eo68, gb68, gl68, cl68, HG68⟩ := Kd.R_form HO_19.out (by omega)
                                            (first | cases eo68 | (injection eo68 with ea_ en_ ec_; (first | subst ea_ | (injection ea_ with ea_; subst ea_)); subst ec_; clear en_))
                                            have GB68 := Aside0.mk gb68
                                            have GG68 := Aside0.mk HG68
                                            clear gb68 gl68 HG68
                                            (first | simp only [add_plain] at hx152_0 | skip)
                                            (first | simp only [add_plain] at hx153_0 | skip)
                                            obtain ⟨hx68_0, hf68_0⟩ := Kd.R_celln 0 HO_19.out ((ji43) : Int) p68 q68
                                            replace p68 := eq_true p68
                                            replace q68 := eq_true q68
                                            have HP73 := Kd.R_putn HO_19.out ((ji43) : Int) (wrap64 ((rd t148 (ji43)) + (rd t148 t134)))
                                            rw [← Ny154.out] at HP73
                                            have HQ73 := Aside0.mk HP73
                                            clear HP73
                                            refine start_ (n := 12) (S := fun w' => w'.cell? ⟨go68, ((ji43)).toNat, none⟩ = some (.int .i64 (rd t148 (ji43))) ∧ w'.cell? ⟨go68, (t134).toNat, none⟩ = some (.int .i64 (rd t148 t134))) (ds := [11]) #[false, false, false, false, false, false, false, false, false, false, false, false] (by kernel_rfl) rfl rfl ⟨hx152_0, hx153_0⟩ (fun hHeld => ?_); refine with_tabW talkeep_UnitsSum.tab18 talkeep_UnitsSum.bits18 (fun HT_ HW_ => ?_)
                                            generalize wc.drew = w71 at HO_15 HO_19 HB GG68 HQ73 hf68_0 hx152_0 hx153_0 hx68_0 hHeld ⊢
                                            refine pure_ (i := 0) (N := some 129) (v := ?_) (a' := ?_) #[true, false, false, false, false, false, false, false, false, false, false, false] rfl rfl (any_of HT_.out (by kernel_rfl)) (fun _ _ _ h => h) (Or.inl ⟨by rfl, ?_⟩) ?_ ?_
                                            rotate_left
                                            · intro w'
                                              go_simp
                                              with_reducible rfl
                                            rotate_left
                                            · simp only [Act.put, List.setIfInBounds_toArray, List.set_cons_zero, List.set_cons_succ, i64_w, i32_w]
                                              rfl
                                            refine pure_ (i := 1) (N := some 130) (v := ?_) (a' := ?_) #[true, true, false, false, false, false, false, false, false, false, false, false] rfl rfl (any_of HT_.out (by kernel_rfl)) (fun _ _ _ h => h) (Or.inl ⟨by rfl, ?_⟩) ?_ ?_
                                            rotate_left
                                            · intro w'
                                              go_simp
                                              with_reducible rfl
                                            rotate_left
                                            · simp only [Act.put, List.setIfInBounds_toArray, List.set_cons_zero, List.set_cons_succ, i64_w, i32_w]
                                              rfl
                                            refine pure_ (i := 2) (N := some 131) (v := ?_) (a' := ?_) #[true, true, true, false, false, false, false, false, false, false, false, false] rfl rfl (any_of HT_.out (by kernel_rfl)) (fun _ _ _ h => h) (Or.inl ⟨by rfl, ?_⟩) ?_ ?_
                                            rotate_left
                                            · intro w'
                                              go_simp
                                              with_reducible rfl
                                            rotate_left
                                            · simp only [Act.put, List.setIfInBounds_toArray, List.set_cons_zero, List.set_cons_succ, i64_w, i32_w]
                                              rfl
                                            refine pure_ (i := 3) (N := some 132) (v := ?_) (a' := ?_) #[true, true, true, true, false, false, false, false, false, false, false, false] rfl rfl (any_of HT_.out (by kernel_rfl)) (fun _ _ _ h => h) (Or.inl ⟨by rfl, ?_⟩) ?_ ?_
                                            rotate_left
                                            · intro w'
                                              go_simp
                                              with_reducible rfl
                                            rotate_left
                                            · simp only [Act.put, List.setIfInBounds_toArray, List.set_cons_zero, List.set_cons_succ, i64_w, i32_w]
                                              rfl
                                            refine pure_ (i := 5) (N := some 134) (v := ?_) (a' := ?_) #[true, true, true, true, false, true, false, false, false, false, false, false] rfl rfl (any_of HT_.out (by kernel_rfl)) (fun _ _ _ h => h) (Or.inl ⟨by rfl, ?_⟩) ?_ ?_
                                            rotate_left
                                            · intro w'
                                              go_simp
                                              with_reducible rfl
                                            rotate_left
                                            · simp only [Act.put, List.setIfInBounds_toArray, List.set_cons_zero, List.set_cons_succ, i64_w, i32_w]
                                              rfl
                                            refine pure_ (i := 6) (N := some 135) (v := ?_) (a' := ?_) #[true, true, true, true, false, true, true, false, false, false, false, false] rfl rfl (any_of HT_.out (by kernel_rfl)) (fun _ _ _ h => h) (Or.inl ⟨by rfl, ?_⟩) ?_ ?_
                                            rotate_left
                                            · intro w'
                                              go_simp
                                              with_reducible rfl
                                            rotate_left
                                            · simp only [Act.put, List.setIfInBounds_toArray, List.set_cons_zero, List.set_cons_succ, i64_w, i32_w]
                                              rfl
                                            refine pure_ (i := 7) (N := some 136) (v := ?_) (a' := ?_) #[true, true, true, true, false, true, true, true, false, false, false, false] rfl rfl (any_of HT_.out (by kernel_rfl)) (fun _ _ _ h => h) (Or.inl ⟨by rfl, ?_⟩) ?_ ?_
                                            rotate_left
                                            · intro w'
                                              go_simp
                                              with_reducible rfl
                                            rotate_left
                                            · simp only [Act.put, List.setIfInBounds_toArray, List.set_cons_zero, List.set_cons_succ, i64_w, i32_w]
                                              rfl
                                            refine take_ (i := 4) (N := some 133) (v := ?_) (a' := ?_) #[true, true, true, true, true, true, true, true, false, false, false, false] rfl rfl (take_ofW HT_.out HW_.out (by kernel_rfl)) (fun _ _ _ h => h) (Or.inl ⟨by rfl, ?_⟩) hHeld ?_ ?_
                                            rotate_left
                                            · rintro w' ⟨s0, s1⟩
                                              go_simp
                                              with_reducible rfl
                                            rotate_left
                                            · simp only [Act.put, List.setIfInBounds_toArray, List.set_cons_zero, List.set_cons_succ, i64_w, i32_w]
                                              rfl
                                            refine take_ (i := 8) (N := some 137) (v := ?_) (a' := ?_) #[true, true, true, true, true, true, true, true, true, false, false, false] rfl rfl (take_ofW HT_.out HW_.out (by kernel_rfl)) (fun _ _ _ h => h) (Or.inl ⟨by rfl, ?_⟩) hHeld ?_ ?_
                                            rotate_left
                                            · rintro w' ⟨s0, s1⟩
                                              go_simp
                                              with_reducible rfl
                                            rotate_left
                                            · simp only [Act.put, List.setIfInBounds_toArray, List.set_cons_zero, List.set_cons_succ, i64_w, i32_w]
                                              rfl
                                            refine pure_ (i := 9) (N := some 138) (v := ?_) (a' := ?_) #[true, true, true, true, true, true, true, true, true, true, false, false] rfl rfl (any_of HT_.out (by kernel_rfl)) (fun _ _ _ h => h) (Or.inl ⟨by rfl, ?_⟩) ?_ ?_
                                            rotate_left
                                            · intro w'
                                              go_simp
                                              with_reducible rfl
                                            rotate_left
                                            · simp only [Act.put, List.setIfInBounds_toArray, List.set_cons_zero, List.set_cons_succ, i64_w, i32_w]
                                              rfl
                                            refine pure_ (i := 10) (N := some 139) (v := ?_) (a' := ?_) #[true, true, true, true, true, true, true, true, true, true, true, false] rfl rfl (any_of HT_.out (by kernel_rfl)) (fun _ _ _ h => h) (Or.inl ⟨by rfl, ?_⟩) ?_ ?_
                                            rotate_left
                                            · intro w'
                                              go_simp
                                              with_reducible rfl
                                            rotate_left
                                            · simp only [Act.put, List.setIfInBounds_toArray, List.set_cons_zero, List.set_cons_succ, i64_w, i32_w]
                                              rfl
                                            refine last_ (i := 11) (N := none) #[true, true, true, true, true, true, true, true, true, true, true, true] rfl rfl (one_of HT_.out (by kernel_rfl)) (by decide) (fun K hK => ?_)
                                            refine skip_ (w1 := ?_) (by rfl) rfl ?_ ?_
                                            rotate_left
                                            · go_simp
                                              rfl
                                            refine hK.out _ _ ?_
                                            clear hK K
                                            refine done_ (done_of HT_.out (by kernel_rfl)) ?_
                                            have n0_ : Aside0 (Kd.R (Kd.int .i64) 3 (w71.setCell ⟨go68, ((ji43) : Int).toNat, none⟩ (.int .i64 (wrap64 ((rd t148 (ji43)) + (rd t148 t134))))) w.heap.size (fun k_ => some k_ ≠ (.slice (some ⟨go68, 0, none⟩) t148.length co72 : Value).ownBlock) v130 t128) := ⟨by (with_reducible repeat (first | apply Kd.R_alloc | apply Kd.R_drewN | apply Kd.R_drew)); exact Kd.R_mono (Kd.R_far (p := ⟨go68, ((ji43) : Int).toNat, none⟩) (Kd.R_mono HO_15.out (fun k_ hk => (⟨hk, fun e_ => hk (by rw [e_]; rfl)⟩ : _ ∧ k_ ≠ go68))) (fun _ hk => hk.2) (.int .i64 (wrap64 ((rd t148 (ji43)) + (rd t148 t134))))) (fun _ hk => hk.1)⟩
                                            have n1_ : Aside0 (Kd.R (Kd.int .i64) 3 (w71.setCell ⟨go68, ((ji43) : Int).toNat, none⟩ (.int .i64 (wrap64 ((rd t148 (ji43)) + (rd t148 t134))))) w.heap.size (fun k_ => some k_ ≠ (v130 : Value).ownBlock) (.slice (some ⟨go68, 0, none⟩) t148.length co72) y154) := ⟨by (with_reducible repeat (first | apply Kd.R_alloc | apply Kd.R_drewN | apply Kd.R_drew)); exact HQ73.out⟩
                                            have n2_ : Aside0 (Below w.heap.size w (w71.setCell ⟨go68, ((ji43) : Int).toNat, none⟩ (.int .i64 (wrap64 ((rd t148 (ji43)) + (rd t148 t134)))))) := ⟨by repeat (first | (with_reducible first | exact HB.out | apply below_alloc | apply pw_below_drewN | apply below_drew1 | refine below_set ?_ GB68.out) | exact HB.out)⟩
                                            (try clear HO_15)
                                            (try clear HO_19)
                                            (try clear HB)
                                            generalize (w71.setCell ⟨go68, ((ji43) : Int).toNat, none⟩ (.int .i64 (wrap64 ((rd t148 (ji43)) + (rd t148 t134))))) = w74 at n0_ n1_ n2_ ⊢
                                            have HO_15 := n0_
                                            have HO_19 := n1_
                                            have HB := n2_
                                            clear n0_ n1_ n2_
                                            try go_wp2_with (first | ((with_reducible refine gate_callee (f := 27) rfl ?_); refine goesL_ (some 144) rfl rfl Try.func27 (by kernel_rfl) rfl #[.slice (some ⟨go68, 0, none⟩) t148.length co72, .int .i64 t134, .int .i64 ji43] rfl (by (try simp only [List.map_toArray, List.map_cons, List.map_nil]); first | done | (simp only [hji43]; rfl) | rfl | (simp only [List.length_drop, List.length_take]; rfl)) ?_; (with_reducible refine (slices_Delete_int_int.calls (fun k_ => some k_ = (.slice (some ⟨go68, 0, none⟩) t148.length co72 : Value).ownBlock) (.slice (some ⟨go68, 0, none⟩) t148.length co72) y154 t134 ji43 t155 w _ ?side1 ?side2 A69.out).mono ?_); (case side1 => repeat (first | (with_reducible first | exact HB.out | apply below_alloc | apply pw_below_drewN | apply below_drew1) | exact HB.out)); (case side2 => exact Kd.R_tight rfl HO_19.out); rintro e w75 ⟨v156, rfl, ho0, hb, hkp⟩; refine ⟨_, rfl, ?_⟩; have n0_ := Aside0.mk (Kd.R_mono (ok' := fun k_ => some k_ ≠ (v156 : Value).ownBlock) (Kd.R_keptB (HO_15.out) hkp (fun k_ hk_ hs_ => (hk_) hs_)) (fun k_ hk_ => fun e_ => Or.elim (ho0.1 k_ e_.symm) (fun hs_ => hk_.2.1 hs_) (fun hn_ => Nat.not_le.2 hk_.2.2 hn_))); have n1_ := Aside0.mk (Kd.R_mono (ok' := fun k_ => some k_ ≠ (v130 : Value).ownBlock) ho0 (fun k_ hk_ => Or.elim hk_ (fun hs_ => fun e_ => (((HO_15.out).1 k_ e_.symm)) hs_) (fun hn_ => (Kd.fresh' (Kd.R_lt (by (with_reducible repeat (first | apply Kd.R_alloc | apply Kd.R_drewN | apply Kd.R_drew)); exact HO_15.out)) k_ hn_)))); have n2_ := Aside0.mk (hb); clear HO_15; clear HB; clear HO_19; have HO_15 := n0_; have HO157 := n1_; have HB := n2_; clear n0_ n1_ n2_; (try clear hb); (try clear hkp); (try clear ho0); obtain ⟨Ao76, co76, eo76⟩ := Kd.R_slice HO157.out; subst eo76; obtain ⟨Ao77, co77, eo77⟩ := Kd.R_slice HO_15.out; subst eo77) | ((with_reducible refine gate_callee (f := 23) rfl ?_); refine goesL_ (some 146) rfl rfl Try.func23 (by kernel_rfl) rfl #[.slice Ao76 t155.length co76, .slice Ao77 t128.length co77] rfl (by (try simp only [List.map_toArray, List.map_cons, List.map_nil]); first | done | rfl | (simp only [List.length_drop, List.length_take]; rfl)) ?_; (with_reducible refine (slices_Equal_int_int.calls kj47 _ _ t155 _ _ t128 t158 _ ?side1 ?side2 ?side3 ?side4 A70.out).mono ?_); (case side1 => repeat (first | exact (Kd.R_reads' HO157.out).2.2 | (with_reducible refine Kd.C_alloc ?_ _) | (with_reducible refine Kd.C_drewN ?_ _) | (with_reducible refine Kd.C_drew ?_))); (case side2 => exact (Kd.R_reads' HO157.out).2.1); (case side3 => repeat (first | exact (Kd.R_reads' HO_15.out).2.2 | (with_reducible refine Kd.C_alloc ?_ _) | (with_reducible refine Kd.C_drewN ?_ _) | (with_reducible refine Kd.C_drew ?_))); (case side4 => exact (Kd.R_reads' HO_15.out).2.1); rintro e w' ⟨rfl, ⟨nd, rfl⟩⟩; refine ⟨_, rfl, ?_⟩))
                                            go_ret
                                            exact ⟨by first | rfl | (simp [errW_none, errW_some] <;> rfl) | (simp only [← hji43, ← hji43]; first | rfl | (simp [errW_none, errW_some] <;> rfl)) | (simp [*, errW_none, errW_some] <;> rfl), by repeat (first | (with_reducible first | exact HB.out | apply below_alloc | apply pw_below_drewN | apply below_drew1) | exact HB.out)⟩
                                          · rw [if_neg c67] at H
                                            exact absurd H (by simp)
                                        · rw [if_neg c66] at H
                                          exact absurd H (by simp)
                                      · rw [if_neg c65] at H
                                        exact absurd H (by simp)
                                    · rw [if_neg c64] at H
                                      exact absurd H (by simp)
                            · rw [if_neg c45] at H
                              exact absurd H (by simp)
                          · rw [if_neg c44] at H
                            exact absurd H (by simp)
                        · rw [if_neg c39] at H
                          exact absurd H (by simp)
                      · rw [if_neg c38] at H
                        exact absurd H (by simp)
        · rw [if_neg c21] at H
          have c21b0 : (t129 == 0) = false := beq_eq_false_iff_ne.mpr c21
          have c21b1 : (t129 != 0) = true := bne_iff_ne.mpr c21
          obtain rfl := Option.some.inj H
          go_wp2_with (first | ((with_reducible refine gate_callee (f := 22) rfl ?_); refine goesL_ (some 38) rfl rfl Try.func22 (by kernel_rfl) rfl #[.int .i64 a0, .int .i64 a1, .int .i64 a2, .slice A3 l3.length c3] rfl (by (try simp only [List.map_toArray, List.map_cons, List.map_nil]); first | done | rfl | (simp only [List.length_drop, List.length_take]; rfl)) ?_; (with_reducible refine (fall_Units.calls kj7 a0 a1 a2 _ _ l3 t128 t129 _ ?side1 ?side2 A20.out).mono ?_); (case side1 => repeat (first | exact (Kd.C_below HR3.out HB.out) | (with_reducible refine Kd.C_alloc ?_ _) | (with_reducible refine Kd.C_drewN ?_ _) | (with_reducible refine Kd.C_drew ?_))); (case side2 => exact HC3.out); rintro e w78 ⟨v130, rfl, ho0, hb⟩; refine ⟨_, rfl, ?_⟩; have n0_ := Aside0.mk (Kd.R_lower ho0 (below_size (by repeat (first | (with_reducible first | exact HB.out | apply below_alloc | apply pw_below_drewN | apply below_drew1) | exact HB.out)))); have n1_ := Aside0.mk (below_step (by repeat (first | (with_reducible first | exact HB.out | apply below_alloc | apply pw_below_drewN | apply below_drew1) | exact HB.out)) hb); clear HB; have HO131 := n0_; have HB := n1_; clear n0_ n1_; (try clear hb); (try clear hb2); (try clear hk); (try clear hi); (try clear ho0); obtain ⟨Ao79, co79, eo79⟩ := Kd.R_slice HO131.out; subst eo79))
          go_ret
          exact ⟨by first | rfl | (simp [errW_none, errW_some] <;> rfl) | (simp [*, errW_none, errW_some] <;> rfl), by repeat (first | (with_reducible first | exact HB.out | apply below_alloc | apply pw_below_drewN | apply below_drew1) | exact HB.out)⟩

/-- THE ONE PURE STATEMENT of talkeep_UnitsSum: yours. -/
def talkeep_UnitsSum.Pure : Prop := ∀ (a0 : Int) (a1 : Int) (a2 : Int) (l3 : List Int) (a4 : Int) (a5 : Int), (Lit.int .i64 a0).wf = true → (Lit.int .i64 a1).wf = true → (Lit.int .i64 a2).wf = true → l3.length ≤ maxLen → l3.length * 8 ≤ 140737488351232 → (∀ x ∈ l3, (Lit.int .i64 x).wf = true) → (Lit.int .i64 a4).wf = true → (Lit.int .i64 a5).wf = true → ∃ k, talkeep_UnitsSum.f k a0 a1 a2 l3 a4 a5 = some true
theorem talkeep_UnitsSum.walk (P : talkeep_UnitsSum.Pure) (a0 : Int) (a1 : Int) (a2 : Int) (a3 : Option Addr) (len3 cap3 : Nat) (z3 : List Int) (a4 : Int) (a5 : Int) (w : World) (w0 : (Lit.int .i64 a0).wf = true) (w1 : (Lit.int .i64 a1).wf = true) (w2 : (Lit.int .i64 a2).wf = true) (w3 : (a3 = none ∧ len3 = 0 ∧ cap3 = 0 ∧ z3 = []) ∨ ∃ x, a3 = some x ∧ len3 ≤ cap3 ∧ cap3 ≤ maxLen ∧ z3.length = cap3 ∧ (∀ i, i < z3.length → w.cell? (x.add i) = some (.int .i64 (z3.getD i 0))) ∧ ∀ n ∈ z3, (Lit.int .i64 n).wf = true) (y3 : len3 * 8 ≤ 140737488351232) (w4 : (Lit.int .i64 a4).wf = true) (w5 : (Lit.int .i64 a5).wf = true) :
    Calls Try.prog 6 #[.int .i64 a0, .int .i64 a1, .int .i64 a2, .slice a3 len3 cap3, .int .i64 a4, .int .i64 a5] w fun e w' => e = .returned (.bool true) ∧ Below w.heap.size w w' := by
  obtain ⟨l3, rfl, hr3, hm3, hw3, hc3⟩ := ReadsInt.ofRowC w3
  obtain ⟨k, h⟩ := P a0 a1 a2 l3 a4 a5 w0 w1 w2 hm3 y3 hw3 w4 w5
  refine (talkeep_UnitsSum.calls k a0 a1 a2 _ _ l3 a4 a5 true w (Kd.C_of_reads (d := (0 : Int)) (h1 := fun _ => rfl) hr3) hc3 h).mono ?_
  rintro e w' ⟨rfl, hd⟩
  exact ⟨rfl, hd⟩

/-! ### taltop_plain: function 10 -/
def taltop_plain.f  : Option ((List (S82)) × (List (S38)) × Int) := some ((([(⟨(⟨#[49, 48]⟩ : ByteArray), 0⟩ : S82), (⟨(⟨#[49, 53]⟩ : ByteArray), 0⟩ : S82), (⟨(⟨#[50, 48]⟩ : ByteArray), 1⟩ : S82), (⟨(⟨#[51, 48]⟩ : ByteArray), 2⟩ : S82), (⟨(⟨#[52, 48]⟩ : ByteArray), 3⟩ : S82), (⟨(⟨#[53, 48]⟩ : ByteArray), 4⟩ : S82)] : List (S82))), ([] : List (S38)), (-1))
set_option maxHeartbeats 8000000 in
set_option maxRecDepth 100000 in
theorem taltop_plain.calls  (r1 : List (S82)) (r2 : List (S38)) (r3 : Int) (w : World) (h : taltop_plain.f  = some (r1, r2, r3)) :
    Calls Try.prog 10 #[] w fun e w' => ∃ v0_ v1_ : Value, e = .returned (.agg #[v0_, v1_, .int .i64 r3]) ∧ Kd.R k82 82 w' w.heap.size (fun _ => True) v0_ r1 ∧ Kd.S k38 38 w' w.heap.size (fun _ => True) v1_ r2 ∧ Below w.heap.size w w' := by
  have hu32 := Try.underlying32
  have hu82 := Try.underlying82
  have HB := Aside0.mk (Below.refl w.heap.size w)
  have H : (some ((([(⟨(⟨#[49, 48]⟩ : ByteArray), 0⟩ : S82), (⟨(⟨#[49, 53]⟩ : ByteArray), 0⟩ : S82), (⟨(⟨#[50, 48]⟩ : ByteArray), 1⟩ : S82), (⟨(⟨#[51, 48]⟩ : ByteArray), 2⟩ : S82), (⟨(⟨#[52, 48]⟩ : ByteArray), 3⟩ : S82), (⟨(⟨#[53, 48]⟩ : ByteArray), 4⟩ : S82)] : List (S82))), ([] : List (S38)), (-1))) = some (r1, r2, r3) := h
  clear h
  obtain ⟨y160, hy160⟩ : ∃ y_ : List (S82), y_ = (([(⟨(⟨#[49, 48]⟩ : ByteArray), 0⟩ : S82), (⟨(⟨#[49, 53]⟩ : ByteArray), 0⟩ : S82), (⟨(⟨#[50, 48]⟩ : ByteArray), 1⟩ : S82), (⟨(⟨#[51, 48]⟩ : ByteArray), 2⟩ : S82), (⟨(⟨#[52, 48]⟩ : ByteArray), 3⟩ : S82), (⟨(⟨#[53, 48]⟩ : ByteArray), 4⟩ : S82)] : List (S82))) := ⟨_, rfl⟩
  replace H : (some (y160, ([] : List (S38)), (-1))) = some (r1, r2, r3) := by first | (rw [hy160]; with_reducible exact H) | (have H2_ := (Option.bind_some _ _).symm.trans H; rw [hy160]; with_reducible exact H2_) | (have H2_ := (Option.bind_some _ _).symm.trans H; with_reducible exact H2_) | with_reducible exact H | (rw [hy160]; exact H) | exact H
  have Ny160 := Aside0.mk hy160
  clear hy160
  simp only [Option.some.injEq, Prod.mk.injEq] at H
  obtain ⟨rfl, rfl, rfl⟩ := H
  go_enter Try.func10, Try.ntmps10
  go_wp2_with (first | ((with_reducible refine gate_dst (N := 0) rfl ?_); refine box_event ?hg (N := 0) ?hd (cs := #[.slice none 0 0, .slice none 0 0, .int .i64 0]) (t := 32) ?hr ?_; (case hd => rfl); (case hg => rfl); (case hr => first | (go_simp; done) | (go_simp; rfl)); intro gb159 hg w1 hbox hb; have n0_ := Aside0.mk (below_step (by repeat (first | (with_reducible first | exact HB.out | apply below_alloc | apply pw_below_drewN | apply below_drew1) | exact HB.out)) hb); have n1_ := Aside0.mk (hbox); have n2_ := Aside0.mk ((by rw [hg]; exact (below_size (by repeat (first | (with_reducible first | exact HB.out | apply below_alloc | apply pw_below_drewN | apply below_drew1) | exact HB.out))) : w.heap.size ≤ gb159)); have n3_ := Aside0.mk ((by rw [hg]; exact (below_size (by repeat (first | (with_reducible first | exact HB.out | apply below_alloc | apply pw_below_drewN | apply below_drew1) | exact HB.out))) : w.heap.size ≤ gb159)); clear HB; have HB := n0_; have BK159 := n1_; have GW159 := n2_; have GE159 := n3_; clear n0_ n1_ n2_ n3_; clear hb hbox hg) | ((with_reducible refine gate_dst (N := 7) rfl ?_); refine Kd.R_lit k82 _ 82 ?hg (N := 7) ?hd (xs := ([(⟨(⟨#[49, 48]⟩ : ByteArray), 0⟩ : S82), (⟨(⟨#[49, 53]⟩ : ByteArray), 0⟩ : S82), (⟨(⟨#[50, 48]⟩ : ByteArray), 1⟩ : S82), (⟨(⟨#[51, 48]⟩ : ByteArray), 2⟩ : S82), (⟨(⟨#[52, 48]⟩ : ByteArray), 3⟩ : S82), (⟨(⟨#[53, 48]⟩ : ByteArray), 4⟩ : S82)] : List (S82))) (inner := [.string (⟨#[49, 48]⟩ : ByteArray), .int .i64 0, .string (⟨#[49, 53]⟩ : ByteArray), .int .i64 0, .string (⟨#[50, 48]⟩ : ByteArray), .int .i64 1, .string (⟨#[51, 48]⟩ : ByteArray), .int .i64 2, .string (⟨#[52, 48]⟩ : ByteArray), .int .i64 3, .string (⟨#[53, 48]⟩ : ByteArray), .int .i64 4]) (ok := fun _ => True) (okp := fun _ => True) ?hr ?hp (fun _ hk => hk) trivial (Below.refl _ _) (Nat.le_refl _) (by simp) ?_; (case hd => rfl); (case hg => rfl); (case hr => first | (go_simp; done) | (go_simp; rfl)); (case hp => exact (Reps.c2 (show Kd.M k82 _ _ _ (⟨(⟨#[49, 48]⟩ : ByteArray), 0⟩ : S82) [.string (⟨#[49, 48]⟩ : ByteArray), .int .i64 0] from (k82_mkM _ _ _ (⟨(⟨#[49, 48]⟩ : ByteArray), 0⟩ : S82) )) (Reps.c2 (show Kd.M k82 _ _ _ (⟨(⟨#[49, 53]⟩ : ByteArray), 0⟩ : S82) [.string (⟨#[49, 53]⟩ : ByteArray), .int .i64 0] from (k82_mkM _ _ _ (⟨(⟨#[49, 53]⟩ : ByteArray), 0⟩ : S82) )) (Reps.c2 (show Kd.M k82 _ _ _ (⟨(⟨#[50, 48]⟩ : ByteArray), 1⟩ : S82) [.string (⟨#[50, 48]⟩ : ByteArray), .int .i64 1] from (k82_mkM _ _ _ (⟨(⟨#[50, 48]⟩ : ByteArray), 1⟩ : S82) )) (Reps.c2 (show Kd.M k82 _ _ _ (⟨(⟨#[51, 48]⟩ : ByteArray), 2⟩ : S82) [.string (⟨#[51, 48]⟩ : ByteArray), .int .i64 2] from (k82_mkM _ _ _ (⟨(⟨#[51, 48]⟩ : ByteArray), 2⟩ : S82) )) (Reps.c2 (show Kd.M k82 _ _ _ (⟨(⟨#[52, 48]⟩ : ByteArray), 3⟩ : S82) [.string (⟨#[52, 48]⟩ : ByteArray), .int .i64 3] from (k82_mkM _ _ _ (⟨(⟨#[52, 48]⟩ : ByteArray), 3⟩ : S82) )) (Reps.c2 (show Kd.M k82 _ _ _ (⟨(⟨#[53, 48]⟩ : ByteArray), 4⟩ : S82) [.string (⟨#[53, 48]⟩ : ByteArray), .int .i64 4] from (k82_mkM _ _ _ (⟨(⟨#[53, 48]⟩ : ByteArray), 4⟩ : S82) )) (Reps.none _ _)))))))); intro v161 w2 ho3 hb hg_ hnew_; clear hg_ hnew_; (first | rw [← Ny160.out] at ho3 | (simp only [Int.reduceToNat] at ho3; rw [← Ny160.out] at ho3)); have n0_ := Aside0.mk (Kd.R_lower ho3 (below_size (by repeat (first | (with_reducible first | exact HB.out | apply below_alloc | apply pw_below_drewN | apply below_drew1 | refine below_set ?_ GE159.out) | exact HB.out)))); have n1_ := Aside0.mk (blk_below (g := gb159) (o := .cells #[.slice none 0 0, .slice none 0 0, .int .i64 0] 32 (0, 0)) (by (with_reducible repeat (first | refine blk_drewN ?_ _ | refine blk_drew ?_ | refine blk_alloc ?_ _)); exact BK159.out) hb); have n2_ := Aside0.mk (below_step (by repeat (first | (with_reducible first | exact HB.out | apply below_alloc | apply pw_below_drewN | apply below_drew1 | refine below_set ?_ GE159.out) | exact HB.out)) hb); clear BK159; clear HB; have HO162 := n0_; have BK159 := n1_; have HB := n2_; clear n0_ n1_ n2_; clear hb ho3; obtain ⟨Ao4, co4, eo4⟩ := Kd.R_slice HO162.out; subst eo4; have hcz5_0 : w2.cell? ⟨gb159, 0, none⟩ = some (.slice none 0 0) := (blk_cell BK159.out 0).trans rfl; have hcz5_1 : w2.cell? ⟨gb159, 1, none⟩ = some (.slice none 0 0) := (blk_cell BK159.out 1).trans rfl; have hcz5_2 : w2.cell? ⟨gb159, 2, none⟩ = some (.int .i64 0) := (blk_cell BK159.out 2).trans rfl; have hfz5_0 := blk_frozen BK159.out 0; have hfz5_1 := blk_frozen BK159.out 1; have hfz5_2 := blk_frozen BK159.out 2))
  refine bodyPost_ret (results_cell_row rfl _ _ gb159 32 #[.slice Ao4 y160.length co4, .slice none 0 0, .int .i64 (-1)] (0, 0) _ rfl (by (with_reducible repeat (first | refine blk_drewN ?_ _ | refine blk_drew ?_ | refine blk_alloc ?_ _)); refine blk_put (cs := #[.slice Ao4 y160.length co4, .slice none 0 0, .int .i64 0]) ?_ 2 _ rfl; (with_reducible repeat (first | refine blk_drewN ?_ _ | refine blk_drew ?_ | refine blk_alloc ?_ _)); refine blk_put (cs := #[.slice Ao4 y160.length co4, .slice none 0 0, .int .i64 0]) ?_ 1 _ rfl; (with_reducible repeat (first | refine blk_drewN ?_ _ | refine blk_drew ?_ | refine blk_alloc ?_ _)); refine blk_put (cs := #[.slice none 0 0, .slice none 0 0, .int .i64 0]) ?_ 0 _ rfl; (with_reducible repeat (first | refine blk_drewN ?_ _ | refine blk_drew ?_ | refine blk_alloc ?_ _)); exact BK159.out) Try.underlying32 rfl (by kernel_rfl)) rfl ?_
  exact ⟨_, _, by first | rfl | (simp [errW_none, errW_some] <;> rfl) | (simp [*, errW_none, errW_some] <;> rfl), by (with_reducible repeat (first | apply Kd.R_alloc | apply Kd.R_drewN | apply Kd.R_drew)); exact Kd.R_mono (Kd.R_far (p := ⟨gb159, 2, none⟩) (Kd.R_far (p := ⟨gb159, 1, none⟩) (Kd.R_far (p := ⟨gb159, 0, none⟩) (Kd.R_types HO162.out BK159.out (by decide)) (fun _ hk => hk.2) (.slice Ao4 y160.length co4)) (fun _ hk => hk.2) (.slice none 0 0)) (fun _ hk => hk.2) (.int .i64 (-1))) (fun _ hk => trivial), by first | exact Kd.S_nil _ _ _ _ _ | exact Kd.N_nil _ _ _ _ _ | exact Kd.V_nil _ _ _ _ _ | exact Kd.Q_nil _ _ _ _ _ | exact Kd.R_nil _ _ _ _ _, by repeat (first | (with_reducible first | exact HB.out | apply below_alloc | apply pw_below_drewN | apply below_drew1 | refine below_set ?_ GE159.out) | exact HB.out)⟩

end Go.Proofs.Ytlfbdcobpfainaa.P
