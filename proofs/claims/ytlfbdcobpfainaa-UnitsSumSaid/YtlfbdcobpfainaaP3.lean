-- PRINTED by print.py (a twelfth state) out of the translation. Not trusted: Lean checks it.
import Derived.Test.YtlfbdcobpfainaaP0
namespace Go.Proofs.Ytlfbdcobpfainaa.P
open Go.RowKit Go.Proofs.YtlfbdcobpfainaaW.PrintWords Go.Proofs.YtlfbdcobpfainaaW.PrintLast Go.Proofs.YtlfbdcobpfainaaW.PrintMore
attribute [local go_sem] max2_int min2_int max_two min_two max_three min_three max_four min_four   -- for this text's walks alone
set_option linter.unusedVariables false
set_option linter.unusedSimpArgs false

/-! ### slices_Reverse_int_int: function 94 -/
def slices_Reverse_int_int.l0 : Nat → List Int → Int → Int → Option (List Int)
  | 0, _, _, _ => none
  | k + 1, x0, x2, x3 => if x2 < x3 then (if 0 ≤ x3 then (if x3 < (x0.length : Int) then (if 0 ≤ x2 then (if x2 < (x0.length : Int) then (slices_Reverse_int_int.l0 k ((x0.set (x2 : Int).toNat (rd x0 x3)).set (x3 : Int).toNat (rd x0 x2)) (wrap64 (x2 + 1)) (wrap64 (x3 - 1))) else (none)) else (none)) else (none)) else (none)) else (some x0)
def slices_Reverse_int_int.f (k : Nat) (l0 : List Int) : Option (List Int) := slices_Reverse_int_int.l0 k l0 0 (wrap64 ((l0.length : Int) - 1))
theorem slices_Reverse_int_int.mono_l : ∀ k, (∀ y0 y1 y2, LeO (slices_Reverse_int_int.l0 k y0 y1 y2) (slices_Reverse_int_int.l0 (k + 1) y0 y1 y2))
  | 0 => fun _ _ _ r h => by simp [slices_Reverse_int_int.l0] at h
  | k + 1 => by
    have ih0 := slices_Reverse_int_int.mono_l k
    · intro y0 y1 y2
      unfold slices_Reverse_int_int.l0
      repeat' first
      | (with_reducible exact ih0 _ _ _)
      | (with_reducible exact LeO.refl _)
      | (with_reducible exact LeO.none _)
      | (with_reducible refine LeO.ite ?_ ?_)
      | (with_reducible refine LeO.bind ?_ (fun _ => ?_))
      | exact ih0 _ _ _
      | exact LeO.none _
      | refine LeO.ite ?_ ?_
      | refine LeO.bind ?_ (fun _ => ?_)
theorem slices_Reverse_int_int.mono : ∀ a0 k, LeO (slices_Reverse_int_int.f k a0) (slices_Reverse_int_int.f (k + 1) a0) := by
  intro a0 k
  have ih0 := slices_Reverse_int_int.mono_l k
  unfold slices_Reverse_int_int.f
  repeat' first
      | (with_reducible exact ih0 _ _ _)
      | (with_reducible exact LeO.refl _)
      | (with_reducible exact LeO.none _)
      | (with_reducible refine LeO.ite ?_ ?_)
      | (with_reducible refine LeO.bind ?_ (fun _ => ?_))
      | exact ih0 _ _ _
      | exact LeO.none _
      | refine LeO.ite ?_ ?_
      | refine LeO.bind ?_ (fun _ => ?_)
def slices_Reverse_int_int.T3 : Bool × List (List Nat × List Nat) := (true, [([], []), ([], []), ([], []), ([], []), ([], []), ([], []), ([4, 5], [4, 5]), ([6], [6]), ([], []), ([], []), ([8, 9], [8, 9]), ([10], [10]), ([0, 1, 0, 1, 4, 5, 6, 7, 11], [0, 1]), ([12, 7, 0, 1, 4, 5, 6, 7, 11], [7, 12]), ([2, 3, 0, 1, 2, 3, 4, 5, 6, 7, 8, 9, 10, 11, 12, 13], [2, 3]), ([14, 11, 13, 0, 1, 2, 3, 4, 5, 6, 7, 8, 9, 10, 11, 12, 13], [11, 14])])
def slices_Reverse_int_int.B3 : List Nat := [0, 0, 0, 0, 0, 0, 48, 112, 0, 0, 768, 1792, 4083, 8179, 16383, 32767]
theorem slices_Reverse_int_int.tab3 : rtab .any (opsOf Try.f94 3) = slices_Reverse_int_int.T3 := by kernel_rfl
theorem slices_Reverse_int_int.bits3 : waitsOk slices_Reverse_int_int.T3.2 slices_Reverse_int_int.B3 = true := by kernel_rfl
set_option maxHeartbeats 8000000 in
set_option maxRecDepth 100000 in
theorem slices_Reverse_int_int.calls (k : Nat) (P0_ : Nat → Prop) (u9000_ : Value) (l0 : List Int) (r : List Int) (w0 w : World) (hB : Below w0.heap.size w0 w) (ho0 : Kd.R (Kd.int .i64) 3 w w0.heap.size P0_ u9000_ l0) (h : slices_Reverse_int_int.f k l0 = some r) :
    Calls Try.prog 94 #[u9000_] w fun e w' => e = .returned (.tuple #[]) ∧ Kd.R (Kd.int .i64) 3 w' w0.heap.size (fun k_ => (P0_ k_ ∨ w.heap.size ≤ k_)) u9000_ r ∧ Below w0.heap.size w0 w' ∧ Kept w w' (fun k_ => P0_ k_) := by
  have HO0 := Aside0.mk (show Kd.R (Kd.int .i64) 3 w w0.heap.size (fun k_ => (P0_ k_ ∨ w.heap.size ≤ k_)) u9000_ l0 from Kd.R_mono ho0 (fun k_ hk => (.inl hk)))
  have HK := Aside0.mk (Kept.refl w (fun k_ => P0_ k_))
  have HW0 := Aside0.mk hB.size
  have HB := Aside0.mk hB
  clear hB
  have H : (slices_Reverse_int_int.l0 k l0 0 (wrap64 ((l0.length : Int) - 1))) = some r := h
  clear h
  have H' := Aside0.mk H
  clear H
  obtain ⟨Ao2, co2, eo2⟩ := Kd.R_slice HO0.out
  subst eo2
  go_enter Try.func94, Try.ntmps94
  go_wp2
  go_loopg [2, 3] k (fun kq v2 v3 w' => ∃ (x0_1 : List Int) (x2_1 : Int) (x3_1 : Int), v2 = .int .i64 x2_1 ∧ v3 = .int .i64 x3_1 ∧ Aside0 (slices_Reverse_int_int.l0 kq x0_1 x2_1 x3_1 = some r) ∧ Aside0 (kq ≤ k) ∧ Aside0 (Kd.R (Kd.int .i64) 3 w' w0.heap.size (fun k_ => (P0_ k_ ∨ w.heap.size ≤ k_)) (.slice Ao2 l0.length co2) x0_1) ∧ Aside0 (Kept w w' (fun k_ => P0_ k_)) ∧ Aside0 (Below w0.heap.size w0 w'))
  case atStart => exact ⟨(l0), (0), (wrap64 ((l0.length : Int) - 1)), (by first | rfl | (simp; done) | (simp [*]; done)), (by first | rfl | (simp; done) | (simp [*]; done)), H', ⟨Nat.le_refl _⟩, ⟨by (with_reducible repeat (first | apply Kd.R_alloc | apply Kd.R_drewN | apply Kd.R_drew)); exact HO0.out⟩, ⟨by repeat (first | (with_reducible first | exact HK.out | apply Kept.alloc | apply Kept.drewN | apply Kept.drew) | exact HK.out)⟩, ⟨by repeat (first | (with_reducible first | exact HB.out | apply below_alloc | apply pw_below_drewN | apply below_drew1) | exact HB.out)⟩⟩
  case round =>
    clear H'
    try clear p2
    obtain ⟨x0_1, x2_1, x3_1, rfl, rfl, HA, HK1, HO_0, HK, HB⟩ := hrel
    have hl0_1 := (Kd.R_reads' HO_0.out).1
    rw [hl0_1] at HO_0
    (try simp only [hl0_1])
    cases gk with
    | zero => exact absurd HA.out (by simp [slices_Reverse_int_int.l0])
    | succ k1 =>
      have H := HA.out
      clear HA
      simp only [slices_Reverse_int_int.l0] at H
      by_cases c3 : x2_1 < x3_1
      · rw [if_pos c3] at H
        have c3b0 : decide (x2_1 < x3_1) = true := decide_eq_true c3
        clear c3
        by_cases c4 : 0 ≤ x3_1
        · rw [if_pos c4] at H
          have c4b0 : decide (0 ≤ x3_1) = true := decide_eq_true c4
          clear c4
          by_cases c5 : x3_1 < (x0_1.length : Int)
          · rw [if_pos c5] at H
            have c5b0 : decide (x3_1 < (x0_1.length : Int)) = true := decide_eq_true c5
            clear c5
            by_cases c6 : 0 ≤ x2_1
            · rw [if_pos c6] at H
              have c6b0 : decide (0 ≤ x2_1) = true := decide_eq_true c6
              clear c6
              by_cases c7 : x2_1 < (x0_1.length : Int)
              · rw [if_pos c7] at H
                have c7b0 : decide (x2_1 < (x0_1.length : Int)) = true := decide_eq_true c7
                clear c7
                obtain ⟨y111, hy111⟩ : ∃ y_ : List Int, y_ = (x0_1.set (x2_1 : Int).toNat (rd x0_1 x3_1)) := ⟨_, rfl⟩
                replace H : (slices_Reverse_int_int.l0 k1 (y111.set (x3_1 : Int).toNat (rd x0_1 x2_1)) (wrap64 (x2_1 + 1)) (wrap64 (x3_1 - 1))) = some r := by first | (rw [hy111]; with_reducible exact H) | (have H2_ := (Option.bind_some _ _).symm.trans H; rw [hy111]; with_reducible exact H2_) | (have H2_ := (Option.bind_some _ _).symm.trans H; with_reducible exact H2_) | with_reducible exact H | (rw [hy111]; exact H) | exact H
                have Ny111 := Aside0.mk hy111
                clear hy111
                obtain ⟨y112, hy112⟩ : ∃ y_ : List Int, y_ = (y111.set (x3_1 : Int).toNat (rd x0_1 x2_1)) := ⟨_, rfl⟩
                replace H : (slices_Reverse_int_int.l0 k1 y112 (wrap64 (x2_1 + 1)) (wrap64 (x3_1 - 1))) = some r := by first | (rw [hy112]; with_reducible exact H) | (have H2_ := (Option.bind_some _ _).symm.trans H; rw [hy112]; with_reducible exact H2_) | (have H2_ := (Option.bind_some _ _).symm.trans H; with_reducible exact H2_) | with_reducible exact H | (rw [hy112]; exact H) | exact H
                have Ny112 := Aside0.mk hy112
                clear hy112
                have H' := Aside0.mk H
                clear H
                try go_wp2
                have n0_ := Aside0.mk (Kd.R_drew HO_0.out)
                have n1_ := Aside0.mk (Kept.drew HK.out)
                have n2_ := Aside0.mk (below_drew1 HB.out)
                clear HO_0
                clear HK
                clear HB
                have HO_0 := n0_
                have HK := n1_
                have HB := n2_
                clear n0_ n1_ n2_
                have p109 : 0 ≤ (x3_1 : Int) := of_decide_eq_true (by first | (with_reducible assumption) | assumption)
                have q109 : x3_1 < (x0_1.length : Int) := of_decide_eq_true (by first | (with_reducible assumption) | assumption)
                obtain ⟨ad109, e109, hx109_0⟩ := Kd.at_int (Kd.R_reads' HO_0.out).2.2 x3_1 p109 q109
                cases e109
                replace p109 := eq_true p109
                replace q109 := eq_true q109
                have p110 : 0 ≤ (x2_1 : Int) := of_decide_eq_true (by first | (with_reducible assumption) | assumption)
                have q110 : x2_1 < (x0_1.length : Int) := of_decide_eq_true (by first | (with_reducible assumption) | assumption)
                obtain ⟨ad110, e110, hx110_0⟩ := Kd.at_int (Kd.R_reads' HO_0.out).2.2 x2_1 p110 q110
                obtain rfl : ad109 = ad110 := (by injection e110)
                replace p110 := eq_true p110
                replace q110 := eq_true q110
                have p8 : 0 ≤ (x2_1 : Int) := of_decide_eq_true (by first | (with_reducible assumption) | assumption)
                have q8 : (x2_1 : Int) < ((x0_1.length : Int) : Int) := of_decide_eq_true (by first | (with_reducible assumption) | assumption)
                obtain ⟨go8, co8, eo8, gb8, gl8, cl8, HG8⟩ := Kd.R_form HO_0.out (by omega)
                (first | cases eo8 | (injection eo8 with ea_ en_ ec_; (first | subst ea_ | (injection ea_ with ea_; subst ea_)); subst ec_; clear en_))
                have GB8 := Aside0.mk gb8
                have GG8 := Aside0.mk HG8
                clear gb8 gl8 HG8
                have HMgo8 := Aside0.mk (show (P0_ go8 ∨ w.heap.size ≤ go8) from (HO_0.out.1 _ rfl))
                (first | simp only [add_plain] at hx109_0 | skip)
                (first | simp only [add_plain] at hx110_0 | skip)
                obtain ⟨hx8_0, hf8_0⟩ := Kd.R_celln 0 HO_0.out (x2_1 : Int) p8 q8
                replace p8 := eq_true p8
                replace q8 := eq_true q8
                have HP11 := Kd.R_putn HO_0.out (x2_1 : Int) (rd x0_1 x3_1)
                rw [← Ny111.out] at HP11
                have HQ11 := Aside0.mk HP11
                clear HP11
                have p9 : 0 ≤ (x3_1 : Int) := of_decide_eq_true (by first | (with_reducible assumption) | assumption)
                have q9 : (x3_1 : Int) < ((x0_1.length : Int) : Int) := of_decide_eq_true (by first | (with_reducible assumption) | assumption)
                obtain ⟨hx9_0, hf9_0⟩ := Kd.R_celln 0 HQ11.out (x3_1 : Int) p9 q9
                replace p9 := eq_true p9
                replace q9 := eq_true q9
                have HP12 := Kd.R_putn HQ11.out (x3_1 : Int) (rd x0_1 x2_1)
                rw [← Ny112.out] at HP12
                have HQ12 := Aside0.mk HP12
                clear HP12
                refine start_ (n := 16) (S := fun w' => w'.cell? ⟨go8, (x3_1).toNat, none⟩ = some (.int .i64 (rd x0_1 x3_1)) ∧ w'.cell? ⟨go8, (x2_1).toNat, none⟩ = some (.int .i64 (rd x0_1 x2_1))) (ds := [13, 15]) #[false, false, false, false, false, false, false, false, false, false, false, false, false, false, false, false] (by kernel_rfl) rfl rfl ⟨hx109_0, hx110_0⟩ (fun hHeld => ?_); refine with_tabW slices_Reverse_int_int.tab3 slices_Reverse_int_int.bits3 (fun HT_ HW_ => ?_)
                generalize wr.drew = w10 at HO_0 HK HB GG8 HQ11 HQ12 hf8_0 hf9_0 hx109_0 hx110_0 hx8_0 hx9_0 hHeld ⊢
                refine pure_ (i := 0) (N := some 14) (v := ?_) (a' := ?_) #[true, false, false, false, false, false, false, false, false, false, false, false, false, false, false, false] rfl rfl (any_of HT_.out (by kernel_rfl)) (fun _ _ _ h => h) (Or.inl ⟨by rfl, ?_⟩) ?_ ?_
                rotate_left
                · intro w'
                  go_simp
                  with_reducible rfl
                rotate_left
                · simp only [Act.put, List.setIfInBounds_toArray, List.set_cons_zero, List.set_cons_succ, i64_w, i32_w]
                  rfl
                refine pure_ (i := 1) (N := some 15) (v := ?_) (a' := ?_) #[true, true, false, false, false, false, false, false, false, false, false, false, false, false, false, false] rfl rfl (any_of HT_.out (by kernel_rfl)) (fun _ _ _ h => h) (Or.inl ⟨by rfl, ?_⟩) ?_ ?_
                rotate_left
                · intro w'
                  go_simp
                  with_reducible rfl
                rotate_left
                · simp only [Act.put, List.setIfInBounds_toArray, List.set_cons_zero, List.set_cons_succ, i64_w, i32_w]
                  rfl
                refine pure_ (i := 2) (N := some 16) (v := ?_) (a' := ?_) #[true, true, true, false, false, false, false, false, false, false, false, false, false, false, false, false] rfl rfl (any_of HT_.out (by kernel_rfl)) (fun _ _ _ h => h) (Or.inl ⟨by rfl, ?_⟩) ?_ ?_
                rotate_left
                · intro w'
                  go_simp
                  with_reducible rfl
                rotate_left
                · simp only [Act.put, List.setIfInBounds_toArray, List.set_cons_zero, List.set_cons_succ, i64_w, i32_w]
                  rfl
                refine pure_ (i := 3) (N := some 17) (v := ?_) (a' := ?_) #[true, true, true, true, false, false, false, false, false, false, false, false, false, false, false, false] rfl rfl (any_of HT_.out (by kernel_rfl)) (fun _ _ _ h => h) (Or.inl ⟨by rfl, ?_⟩) ?_ ?_
                rotate_left
                · intro w'
                  go_simp
                  with_reducible rfl
                rotate_left
                · simp only [Act.put, List.setIfInBounds_toArray, List.set_cons_zero, List.set_cons_succ, i64_w, i32_w]
                  rfl
                refine pure_ (i := 4) (N := some 18) (v := ?_) (a' := ?_) #[true, true, true, true, true, false, false, false, false, false, false, false, false, false, false, false] rfl rfl (any_of HT_.out (by kernel_rfl)) (fun _ _ _ h => h) (Or.inl ⟨by rfl, ?_⟩) ?_ ?_
                rotate_left
                · intro w'
                  go_simp
                  with_reducible rfl
                rotate_left
                · simp only [Act.put, List.setIfInBounds_toArray, List.set_cons_zero, List.set_cons_succ, i64_w, i32_w]
                  rfl
                refine pure_ (i := 5) (N := some 19) (v := ?_) (a' := ?_) #[true, true, true, true, true, true, false, false, false, false, false, false, false, false, false, false] rfl rfl (any_of HT_.out (by kernel_rfl)) (fun _ _ _ h => h) (Or.inl ⟨by rfl, ?_⟩) ?_ ?_
                rotate_left
                · intro w'
                  go_simp
                  with_reducible rfl
                rotate_left
                · simp only [Act.put, List.setIfInBounds_toArray, List.set_cons_zero, List.set_cons_succ, i64_w, i32_w]
                  rfl
                refine pure_ (i := 6) (N := some 20) (v := ?_) (a' := ?_) #[true, true, true, true, true, true, true, false, false, false, false, false, false, false, false, false] rfl rfl (any_of HT_.out (by kernel_rfl)) (fun _ _ _ h => h) (Or.inl ⟨by rfl, ?_⟩) ?_ ?_
                rotate_left
                · intro w'
                  go_simp
                  with_reducible rfl
                rotate_left
                · simp only [Act.put, List.setIfInBounds_toArray, List.set_cons_zero, List.set_cons_succ, i64_w, i32_w]
                  rfl
                refine pure_ (i := 8) (N := some 22) (v := ?_) (a' := ?_) #[true, true, true, true, true, true, true, false, true, false, false, false, false, false, false, false] rfl rfl (any_of HT_.out (by kernel_rfl)) (fun _ _ _ h => h) (Or.inl ⟨by rfl, ?_⟩) ?_ ?_
                rotate_left
                · intro w'
                  go_simp
                  with_reducible rfl
                rotate_left
                · simp only [Act.put, List.setIfInBounds_toArray, List.set_cons_zero, List.set_cons_succ, i64_w, i32_w]
                  rfl
                refine pure_ (i := 9) (N := some 23) (v := ?_) (a' := ?_) #[true, true, true, true, true, true, true, false, true, true, false, false, false, false, false, false] rfl rfl (any_of HT_.out (by kernel_rfl)) (fun _ _ _ h => h) (Or.inl ⟨by rfl, ?_⟩) ?_ ?_
                rotate_left
                · intro w'
                  go_simp
                  with_reducible rfl
                rotate_left
                · simp only [Act.put, List.setIfInBounds_toArray, List.set_cons_zero, List.set_cons_succ, i64_w, i32_w]
                  rfl
                refine pure_ (i := 10) (N := some 24) (v := ?_) (a' := ?_) #[true, true, true, true, true, true, true, false, true, true, true, false, false, false, false, false] rfl rfl (any_of HT_.out (by kernel_rfl)) (fun _ _ _ h => h) (Or.inl ⟨by rfl, ?_⟩) ?_ ?_
                rotate_left
                · intro w'
                  go_simp
                  with_reducible rfl
                rotate_left
                · simp only [Act.put, List.setIfInBounds_toArray, List.set_cons_zero, List.set_cons_succ, i64_w, i32_w]
                  rfl
                refine take_ (i := 7) (N := some 21) (v := ?_) (a' := ?_) #[true, true, true, true, true, true, true, true, true, true, true, false, false, false, false, false] rfl rfl (take_ofW HT_.out HW_.out (by kernel_rfl)) (fun _ _ _ h => h) (Or.inl ⟨by rfl, ?_⟩) hHeld ?_ ?_
                rotate_left
                · rintro w' ⟨s0, s1⟩
                  go_simp
                  with_reducible rfl
                rotate_left
                · simp only [Act.put, List.setIfInBounds_toArray, List.set_cons_zero, List.set_cons_succ, i64_w, i32_w]
                  rfl
                refine take_ (i := 11) (N := some 25) (v := ?_) (a' := ?_) #[true, true, true, true, true, true, true, true, true, true, true, true, false, false, false, false] rfl rfl (take_ofW HT_.out HW_.out (by kernel_rfl)) (fun _ _ _ h => h) (Or.inl ⟨by rfl, ?_⟩) hHeld ?_ ?_
                rotate_left
                · rintro w' ⟨s0, s1⟩
                  go_simp
                  with_reducible rfl
                rotate_left
                · simp only [Act.put, List.setIfInBounds_toArray, List.set_cons_zero, List.set_cons_succ, i64_w, i32_w]
                  rfl
                refine pure_ (i := 12) (N := some 26) (v := ?_) (a' := ?_) #[true, true, true, true, true, true, true, true, true, true, true, true, true, false, false, false] rfl rfl (any_of HT_.out (by kernel_rfl)) (fun _ _ _ h => h) (Or.inl ⟨by rfl, ?_⟩) ?_ ?_
                rotate_left
                · intro w'
                  go_simp
                  with_reducible rfl
                rotate_left
                · simp only [Act.put, List.setIfInBounds_toArray, List.set_cons_zero, List.set_cons_succ, i64_w, i32_w]
                  rfl
                refine last_ (i := 13) (N := none) #[true, true, true, true, true, true, true, true, true, true, true, true, true, true, false, false] rfl rfl (one_of HT_.out (by kernel_rfl)) (by decide) (fun K hK => ?_)
                refine skip_ (w1 := ?_) (by rfl) rfl ?_ ?_
                rotate_left
                · go_simp
                  rfl
                refine hK.out _ _ ?_
                clear hK K
                refine pure_ (i := 14) (N := some 27) (v := ?_) (a' := ?_) #[true, true, true, true, true, true, true, true, true, true, true, true, true, true, true, false] rfl rfl (any_of HT_.out (by kernel_rfl)) (fun _ _ _ h => h) (Or.inl ⟨by rfl, ?_⟩) ?_ ?_
                rotate_left
                · intro w'
                  go_simp
                  with_reducible rfl
                rotate_left
                · simp only [Act.put, List.setIfInBounds_toArray, List.set_cons_zero, List.set_cons_succ, i64_w, i32_w]
                  rfl
                refine last_ (i := 15) (N := none) #[true, true, true, true, true, true, true, true, true, true, true, true, true, true, true, true] rfl rfl (one_of HT_.out (by kernel_rfl)) (by decide) (fun K hK => ?_)
                refine skip_ (w1 := ?_) (by rfl) rfl ?_ ?_
                rotate_left
                · go_simp
                  rfl
                refine hK.out _ _ ?_
                clear hK K
                refine done_ (done_of HT_.out (by kernel_rfl)) ?_
                try go_wp2
                (try simp only [← hl0_1])
                go_roundg k1
                case measure => have := HK1.out; omega
                case rel => exact ⟨(y112), (wrap64 (x2_1 + 1)), (wrap64 (x3_1 - 1)), (by first | rfl | (simp; done) | (simp [*]; done)), (by first | rfl | (simp; done) | (simp [*]; done)), H', ⟨by have := HK1.out; omega⟩, ⟨by (try simp only [hl0_1]); (with_reducible repeat (first | apply Kd.R_alloc | apply Kd.R_drewN | apply Kd.R_drew)); exact HQ12.out⟩, ⟨by repeat (first | (with_reducible first | exact HK.out | apply Kept.alloc | apply Kept.drewN | apply Kept.drew | refine Kept.setCell ?_ HMgo8.out _ | refine Kept.setCell ?_ HMgo8.out _) | exact HK.out)⟩, ⟨by repeat (first | (with_reducible first | exact HB.out | apply below_alloc | apply pw_below_drewN | apply below_drew1 | refine below_set ?_ GB8.out | refine below_set ?_ GB8.out) | exact HB.out)⟩⟩
              · rw [if_neg c7] at H
                exact absurd H (by simp)
            · rw [if_neg c6] at H
              exact absurd H (by simp)
          · rw [if_neg c5] at H
            exact absurd H (by simp)
        · rw [if_neg c4] at H
          exact absurd H (by simp)
      · rw [if_neg c3] at H
        have c3b0 : decide (x2_1 < x3_1) = false := decide_eq_false c3
        clear c3
        obtain rfl := Option.some.inj H
        go_wp2
        first | go_end0 | ((try simp only [Exit.inBlock, Exit.then]); refine bodyPost_ret (results_none rfl _ _ _) rfl ?_)
        exact ⟨by first | rfl | (simp [errW_none, errW_some] <;> rfl) | (simp [*, errW_none, errW_some] <;> rfl), (by first | exact (by (with_reducible repeat (first | apply Kd.R_alloc | apply Kd.R_drewN | apply Kd.R_drew)); exact HO_0.out) | (simp only [hl0_1]; exact (by (with_reducible repeat (first | apply Kd.R_alloc | apply Kd.R_drewN | apply Kd.R_drew)); exact HO_0.out))), by repeat (first | (with_reducible first | exact HB.out | apply below_alloc | apply pw_below_drewN | apply below_drew1) | exact HB.out), by repeat (first | (with_reducible first | exact HK.out | apply Kept.alloc | apply Kept.drewN | apply Kept.drew) | exact HK.out)⟩

-- NOT PRINTED: function 85 (slices_rotateLeft_int)

-- NOT PRINTED: function 60 (slices_rotateRight_int)

/-! ### slices_Insert_int_int: function 25, by hand -/
def slices_Insert_int_int.f (l0 : List Int) (a1 : Int) (l2 : List Int) : Option (List Int) :=
  match l2 with
  | [x] => if 0 ≤ a1 ∧ a1 ≤ l0.length ∧ (l0.length + 1) * 8 ≤ 140737488355328 then some (l0.take a1.toNat ++ x :: l0.drop a1.toNat) else none
  | _ => none
theorem slices_Insert_int_int.info : (Try.prog.info? 3).map (fun i => (i.zero, i.size, i.bytes)) = some (some (.int .i64 0), 1, 8) := by kernel_rfl
set_option maxHeartbeats 1600000 in
set_option maxRecDepth 100000 in
theorem slices_Insert_int_int.core_end (u : Value) (l0 : List Int) (g2 c2 : Nat) (x : Int) (xc : List Value) (rest2 : List Value) (w : World) (base : Nat) (ok okx : Nat → Prop) (ho : (Kd.int .i64).R 3 w base ok u l0)
    (h2 : w.heap[g2]? = some (.cells (xc ++ rest2).toArray 3 (0, 0))) (hxl : xc.length = 1) (hM : (Kd.int .i64).M w base okx x xc) (hokx : ∀ k, okx k → ok k ∧ some k ≠ u.ownBlock) (hbase : base ≤ w.heap.size) (hfresh : ∀ k, w.heap.size ≤ k → ok k) (hl : (l0.length + 1) * 8 ≤ 140737488355328) :
    Calls Try.prog 25 #[u, .int .i64 l0.length, .slice (some ⟨g2, 0, none⟩) 1 c2] w fun e w' => ∃ v, e = .returned v ∧ (Kd.int .i64).R 3 w' base ok v (l0 ++ [x]) ∧ w.grownBy w' u.ownBlock := by
  have hinfo := slices_Insert_int_int.info
  obtain ⟨i0, hi, hz0, hz1, hz2⟩ := info_parts hinfo
  obtain ⟨A, c, rfl⟩ := Kd.R_slice ho
  have hc : l0.length ≤ c := (Kd.R_reads' ho).2.1
  have hnn : ((l0.length : Int) == (l0.length : Int)) = true := by simp
  obtain ⟨A', hcut⟩ : ∃ A' : Option Addr, ∀ W : World, (Instr.slice 24 (.slice A l0.length c) (some (.int .i64 (l0.length : Int))) none none).run Try.prog W = .ok (.slice A' 0 (c - l0.length)) W := ⟨if c = l0.length then A else A.map (·.add (l0.length)), fun W => by rw [cut_from 24 3 .i64 (P := Try.prog) Try.underlying24 hi 1 hz1 A l0.length c (l0.length : Int) (by omega) (by omega) W]; simp⟩
  have HO := Aside0.mk ho
  have HH2 := Aside0.mk h2
  have HMx := Aside0.mk hM
  have HF := Aside0.mk hfresh
  have HK := Aside0.mk hokx
  have HI := Aside0.mk hinfo
  clear ho h2 hM hfresh hokx hinfo hi hz0 hz1 hz2
  go_enter Try.func25, Try.ntmps25
  go_wp2_with ((with_reducible refine gate_builtin (b := .append) (xs := #[.tmp 23, .tmp 24]) rfl ?_); at_builtin; refine Kd.R_append_rows (Kd.int .i64) (Rr := fun p cs => p = x ∧ cs = xc) (w0 := w) base rfl (.tmp 23) (.tmp 24) 24 3 (.int .i64 0) 8 rfl Try.underlying24 HI.out rfl (by decide) (by omega) (.slice A l0.length c) l0 [x] (some ⟨g2, 0, none⟩) 1 c2 ok okx rfl rfl HO.out ?aR (fun _ _ hx => by rw [hx.1, hx.2]; exact HMx.out) HK.out HF.out (Below.refl _ _) hbase ?aL ?_; (case aR => exact ⟨rfl, by omega, fun _ => ⟨_, rfl, fun j p hj => YtlfbdcobpfainaaH.one_cell hj HH2.out hxl⟩⟩); (case aL => exact hl); intro v1 w1 ho hb hg hat; have n0_ := Aside0.mk hg; have n1_ := Aside0.mk ho; clear ho hb hg hat)
  go_ret
  exact ⟨v1, rfl, n1_.out, n0_.out⟩
set_option maxHeartbeats 800000 in
set_option maxRecDepth 100000 in
theorem slices_Insert_int_int.core_grow (g cap n i g2 c2 : Nat) (cur xc rest2 : List Value) (w : World) (hg : w.heap[g]? = some (.cells cur.toArray 3 (0, 0))) (hcur : cur.length = cap) (hn : n ≤ cap) (hcap : cap < n + 1) (hin : i < n)
    (h2 : w.heap[g2]? = some (.cells (xc ++ rest2).toArray 3 (0, 0))) (hxl : xc.length = 1) (h1c : ∀ u ∈ cur.take (n), u.oneCell' = true) (h1x : ∀ u ∈ xc, u.oneCell' = true) (hl : (n + 1) * 8 ≤ 140737488355328) :
    Calls Try.prog 25 #[.slice (some ⟨g, 0, none⟩) n cap, .int .i64 i, .slice (some ⟨g2, 0, none⟩) 1 c2] w fun e w' => ∃ c, ∃ cur' : List Value, e = .returned (.slice (some ⟨w.heap.size, 0, none⟩) (n + 1) c) ∧ w'.heap[w.heap.size]? = some (.cells cur'.toArray 3 (0, 0)) ∧ n + 1 ≤ c ∧ c ≤ maxLen ∧ cur'.length = c ∧
      cur'.take (n + 1) = cur.take (i) ++ xc ++ (cur.take (n)).drop (i) ∧ w.grownBy w' none := by
  have hinfo := slices_Insert_int_int.info
  obtain ⟨i0, hi, hz0, hz1, hz2⟩ := info_parts hinfo
  have hsz : (Try.prog.info? 3).map (·.size) = some 1 := by rw [hi]; simp [hz1]
  obtain rfl : cap = n := by omega
  have hgs : g < w.heap.size := blk_lt hg
  have hg2s : g2 < w.heap.size := blk_lt h2
  have hne : ((i : Int) == (cap : Int)) = false := by simp; omega
  have h10 : ((1 : Int) == 0) = false := by decide
  have hgt : decide ((cap : Int) < (cap : Int) + 1) = true := by simp; omega
  have hcut1 : ∀ W : World, (Instr.slice 24 (.slice (some ⟨g, 0, none⟩) cap cap) (some (.int .i64 i)) none none).run Try.prog W = .ok (.slice (some ⟨g, i, none⟩) (cap - i) (cap - i)) W := fun W => by rw [cut_from 24 3 .i64 (P := Try.prog) Try.underlying24 hi 1 hz1 _ cap cap (i : Int) (by omega) (by omega) W, if_neg (by omega)]; simp [YtlfbdcobpfainaaH.add_zero_off]
  have hcut2 : ∀ W : World, (Instr.slice 24 (.slice (some ⟨g, 0, none⟩) cap cap) none (some (.int .i64 i)) none).run Try.prog W = .ok (.slice (some ⟨g, 0, none⟩) i cap) W := fun W => by rw [cut_to 24 3 .i64 (P := Try.prog) Try.underlying24 hi _ cap cap (i : Int) (by omega) (by omega) (by omega) W]; simp
  have hsub : IntKind.i64.wrap ((cap : Int) + 1 - i) = ((cap + 1 - i : Nat) : Int) := by rw [IntKind.wrap_i64]; omega
  have e39 : ((cap : Int) + 1 - i) = ((cap + 1 - i : Nat) : Int) := by omega
  have HG := Aside0.mk hg
  have HH2 := Aside0.mk h2
  have HI := Aside0.mk hinfo
  have HSZ := Aside0.mk hsz
  have H39 := Aside0.mk e39
  have H1C := Aside0.mk h1c
  have H1X := Aside0.mk h1x
  have HZ := Aside0.mk hz1
  have HHI := Aside0.mk hi
  have HCUR := Aside0.mk hcur
  have HX := Aside0.mk hxl
  clear hg h2 hinfo hsz e39 hsub hi hz0 hz1 hz2 h1c h1x hcur hxl
  go_enter Try.func25, Try.ntmps25
  go_wp2_with (first | ((with_reducible refine gate_builtin (b := .append) (xs := #[.tmp 34, .tmp 39]) rfl ?_); at_builtin; refine YtlfbdcobpfainaaH.wpList_append_zeros_new rfl (.tmp 34) (.tmp 39) 24 3 3 rfl (.int .i64 0) 1 8 Try.underlying24 Try.underlying3 HI.out rfl (by decide) (by omega) (some ⟨g, 0, none⟩) i cap rfl .i64 (cap + 1 - i) (by rw [← H39.out]; rfl) (cur.take (i)) ?a1 ?a2 (by omega) (by omega) ?a3 (cap + 1) (by omega) ?_; (case a1 => have := HCUR.out; simp; omega); (case a2 => exact fun _ => ⟨_, rfl, YtlfbdcobpfainaaH.take_cells HG.out _⟩); (case a3 => omega); intro c cur1 w1 hg1 hgr hnc hcm hcl htk; have n0_ := Aside0.mk hg1; have n1_ := Aside0.mk hgr; have n2_ := Aside0.mk hcl; have n3_ := Aside0.mk htk; clear hg1 hgr hcl htk) | ((with_reducible refine gate_builtin (b := .copy) (xs := #[.tmp 43, .tmp 44]) rfl ?_); refine YtlfbdcobpfainaaH.wpList_copy_sz rfl (.tmp 43) (.tmp 44) 24 24 rfl 3 1 Try.underlying24 HSZ.out (by omega) (some ⟨w.heap.size, i, none⟩) (some ⟨g2, 0, none⟩) (cap + 1 - i) (c - i) 1 c2 rfl rfl w.heap.size (i) cur1 3 n0_.out xc ?b1 ?b2 ?b3 H1X.out ?_; (case b1 => have := HX.out; omega); (case b2 => exact fun _ => ⟨rfl, _, rfl, fun j v hj => YtlfbdcobpfainaaH.head_cells (YtlfbdcobpfainaaH.grown_heap n1_.out HH2.out (by simp)) j v hj⟩); (case b3 => have := HX.out; have := n2_.out; omega); intro w2 hg2 hgr2; have m0_ := Aside0.mk hg2; have m1_ := Aside0.mk hgr2; clear hg2 hgr2))
  have hcut3 : ∀ W : World, (Instr.slice 24 (.slice (some ⟨w.heap.size, 0, none⟩) (cap + 1) c) (some (.int .i64 ((i : Int) + 1))) none none).run Try.prog W = .ok (.slice (some ⟨w.heap.size, i + 1, none⟩) (cap - i) (c - (i + 1))) W := fun W => by rw [cut_from 24 3 .i64 (P := Try.prog) Try.underlying24 HHI.out 1 HZ.out _ (cap + 1) c ((i : Int) + 1) (by omega) (by omega) W, if_neg (by omega)]; simp [YtlfbdcobpfainaaH.add_zero_off] <;> omega
  have hi1 : IntKind.i64.wrap ((i : Int) + 1) = (i : Int) + 1 := by rw [IntKind.wrap_i64]; omega
  go_still_tail 8, (by kernel_rfl)
  refine YtlfbdcobpfainaaH.wpList_copy_sz rfl (.tmp 50) (.tmp 53) 24 24 rfl 3 1 Try.underlying24 HSZ.out (by omega) (some ⟨w.heap.size, i + 1, none⟩) (some ⟨g, i, none⟩) (cap - i) (c - (i + 1)) (cap - i) (cap - i) rfl rfl w.heap.size (i + 1) (splice cur1 (i) xc) 3 m0_.out ((cur.take (cap)).drop (i)) (by have := HCUR.out; simp; omega) (fun _ => ⟨rfl, _, rfl, YtlfbdcobpfainaaH.drop_cells (YtlfbdcobpfainaaH.grown_heap m1_.out (YtlfbdcobpfainaaH.grown_heap n1_.out HG.out (by simp)) (by simp; omega)) _ _⟩) (by have := HCUR.out; have := n2_.out; rw [YtlfbdcobpfainaaH.splice_length (by have := HX.out; omega)]; simp; omega) (fun v hv => H1C.out v (List.mem_of_mem_drop hv)) ?_
  intro w3 hg3 hgr3
  have k0_ := Aside0.mk hg3
  have k1_ := Aside0.mk (YtlfbdcobpfainaaH.drew_grown hgr3)
  clear hg3 hgr3
  go_wp2
  go_ret
  have e3 : i * 1 = i := by omega
  have h3 := n3_.out
  rw [e3] at h3
  refine ⟨c, _, rfl, k0_.out, hnc, hcm, ?_, ?_, ?_⟩
  · have := HCUR.out; have := n2_.out; have := HX.out
    rw [YtlfbdcobpfainaaH.splice_length (by rw [YtlfbdcobpfainaaH.splice_length (by omega)]; simp; omega), YtlfbdcobpfainaaH.splice_length (by omega)]; omega
  · have := HCUR.out; have := n2_.out; have := HX.out
    have e := YtlfbdcobpfainaaH.splice_two (L := cur1) (xs := xc) (ys := (cur.take (cap)).drop (i)) (o1 := i) (o2 := i + 1) (by omega) (by simp; omega)
    rw [h3] at e
    rw [← e]
    congr 1
    simp; omega
  · exact YtlfbdcobpfainaaH.grown_trans (YtlfbdcobpfainaaH.grown_trans n1_.out m1_.out (fun b hb => .inr (by injection hb with hb; omega))) k1_.out (fun b hb => .inr (by injection hb with hb; omega))
set_option maxHeartbeats 800000 in
set_option maxRecDepth 100000 in
theorem slices_Insert_int_int.core_room (g cap n i g2 c2 : Nat) (cur xc rest2 : List Value) (w : World) (hg : w.heap[g]? = some (.cells cur.toArray 3 (0, 0))) (hcur : cur.length = cap) (hn : n + 1 ≤ cap) (hcm : cap ≤ maxLen) (hin : i < n) (hne : g2 ≠ g)
    (h2 : w.heap[g2]? = some (.cells (xc ++ rest2).toArray 3 (0, 0))) (hxl : xc.length = 1) (h1c : ∀ u ∈ cur.take (n), u.oneCell' = true) (h1x : ∀ u ∈ xc, u.oneCell' = true) (hl : (n + 1) * 8 ≤ 140737488355328) :
    Calls Try.prog 25 #[.slice (some ⟨g, 0, none⟩) n cap, .int .i64 i, .slice (some ⟨g2, 0, none⟩) 1 c2] w fun e w' => ∃ cur' : List Value, e = .returned (.slice (some ⟨g, 0, none⟩) (n + 1) cap) ∧ w'.heap[g]? = some (.cells cur'.toArray 3 (0, 0)) ∧ cur'.length = cap ∧
      cur'.take (n + 1) = cur.take (i) ++ xc ++ (cur.take (n)).drop (i) ∧ w.grownBy w' (some g) := by
  have hinfo := slices_Insert_int_int.info
  obtain ⟨i0, hi, hz0, hz1, hz2⟩ := info_parts hinfo
  have hsz : (Try.prog.info? 3).map (·.size) = some 1 := by rw [hi]; simp [hz1]
  unfold maxLen at hcm
  have hgs : g < w.heap.size := blk_lt hg
  have hg2s : g2 < w.heap.size := blk_lt h2
  have hnei : ((i : Int) == (n : Int)) = false := by simp; omega
  have h10 : ((1 : Int) == 0) = false := by decide
  have hgt : decide ((cap : Int) < (n : Int) + 1) = false := by simp; omega
  have hcut1 : ∀ W : World, (Instr.slice 24 (.slice (some ⟨g, 0, none⟩) n cap) (some (.int .i64 i)) none none).run Try.prog W = .ok (.slice (some ⟨g, i, none⟩) (n - i) (cap - i)) W := fun W => by rw [cut_from 24 3 .i64 (P := Try.prog) Try.underlying24 hi 1 hz1 _ n cap (i : Int) (by omega) (by omega) W, if_neg (by omega)]; simp [YtlfbdcobpfainaaH.add_zero_off]
  have hcut2 : ∀ W : World, (Instr.slice 24 (.slice (some ⟨g, 0, none⟩) n cap) none (some (.int .i64 ((n : Int) + 1))) none).run Try.prog W = .ok (.slice (some ⟨g, 0, none⟩) (n + 1) cap) W := fun W => by rw [YtlfbdcobpfainaaH.cut_grow 24 3 .i64 (P := Try.prog) Try.underlying24 hi _ n cap ((n : Int) + 1) (by omega) (by omega) W]; congr 2
  have hcut3 : ∀ W : World, (Instr.slice 24 (.slice (some ⟨g, 0, none⟩) (n + 1) cap) (some (.int .i64 ((i : Int) + 1))) none none).run Try.prog W = .ok (.slice (some ⟨g, i + 1, none⟩) (n - i) (cap - (i + 1))) W := fun W => by rw [cut_from 24 3 .i64 (P := Try.prog) Try.underlying24 hi 1 hz1 _ (n + 1) cap ((i : Int) + 1) (by omega) (by omega) W, if_neg (by omega)]; simp [YtlfbdcobpfainaaH.add_zero_off] <;> omega
  have hcut4 : ∀ W : World, (Instr.slice 24 (.slice (some ⟨g, 0, none⟩) (n + 1) cap) (some (.int .i64 i)) none none).run Try.prog W = .ok (.slice (some ⟨g, i, none⟩) (n + 1 - i) (cap - i)) W := fun W => by rw [cut_from 24 3 .i64 (P := Try.prog) Try.underlying24 hi 1 hz1 _ (n + 1) cap (i : Int) (by omega) (by omega) W, if_neg (by omega)]; simp [YtlfbdcobpfainaaH.add_zero_off]
  have hov : (callFunc 59 #[.slice (some ⟨g2, 0, none⟩) 1 c2, .slice (some ⟨g, i + 1, none⟩) (n - i) (cap - (i + 1))]).run Try.prog w = .ok (.value (.bool false)) w := by
    rw [run_callFunc_extern Try.func59 (by kernel_rfl) (by kernel_rfl) (by kernel_rfl) (e := Extern.SlicesOverlaps.overlaps #[24, 24] #[4]) (by kernel_rfl),
      YtlfbdcobpfainaaH.run_overlaps_rows (P := Try.prog) w 24 4 3 Try.underlying24 i0 hi g2 g 0 (i + 1) 1 c2 (n - i) (cap - (i + 1)) hne (xc ++ rest2) cur 3 3 h2 hg (by omega)]
    rfl
  have HG := Aside0.mk hg
  have HH2 := Aside0.mk h2
  have HSZ := Aside0.mk hsz
  have H1C := Aside0.mk h1c
  have H1X := Aside0.mk h1x
  have HCUR := Aside0.mk hcur
  have HX := Aside0.mk hxl
  clear hg h2 hinfo hsz hi hz0 hz1 hz2 h1c h1x hcur hxl
  go_enter Try.func25, Try.ntmps25
  go_wp2_with fail
  have hi1 : IntKind.i64.wrap ((i : Int) + 1) = (i : Int) + 1 := by rw [IntKind.wrap_i64]; omega
  go_still_tail 8, (by kernel_rfl)
  refine YtlfbdcobpfainaaH.wpList_copy_sz rfl (.tmp 73) (.tmp 76) 24 24 rfl 3 1 Try.underlying24 HSZ.out (by omega) (some ⟨g, i + 1, none⟩) (some ⟨g, i, none⟩) (n - i) (cap - (i + 1)) (n + 1 - i) (cap - i) rfl rfl g (i + 1) cur 3 HG.out ((cur.take (n)).drop (i)) (by have := HCUR.out; simp; omega) (fun _ => ⟨rfl, _, rfl, YtlfbdcobpfainaaH.drop_cells (w := w.drew) HG.out _ _⟩) (by have := HCUR.out; simp; omega) (fun v hv => H1C.out v (List.mem_of_mem_drop hv)) ?_
  intro w2 hg2 hgr2
  have m0_ := Aside0.mk hg2
  have m1_ := Aside0.mk (YtlfbdcobpfainaaH.drew_grown hgr2)
  clear hg2 hgr2 hov
  go_wp2_with ((with_reducible refine gate_builtin (b := .copy) (xs := #[.tmp 80, .tmp 81]) rfl ?_); refine YtlfbdcobpfainaaH.wpList_copy_sz rfl (.tmp 80) (.tmp 81) 24 24 rfl 3 1 Try.underlying24 HSZ.out (by omega) (some ⟨g, i, none⟩) (some ⟨g2, 0, none⟩) (n + 1 - i) (cap - i) 1 c2 rfl rfl g (i) _ 3 m0_.out xc ?b1 ?b2 ?b3 H1X.out ?_; (case b1 => have := HX.out; omega); (case b2 => exact fun _ => ⟨rfl, _, rfl, fun j v hj => YtlfbdcobpfainaaH.head_cells (YtlfbdcobpfainaaH.grown_heap m1_.out HH2.out (by simp; exact hne)) j v hj⟩); (case b3 => have := HX.out; have := HCUR.out; rw [YtlfbdcobpfainaaH.splice_length (by simp; omega)]; omega); intro w3 hg3 hgr3; have k0_ := Aside0.mk hg3; have k1_ := Aside0.mk hgr3; clear hg3 hgr3)
  go_ret
  refine ⟨_, rfl, k0_.out, ?_, ?_, ?_⟩
  · have := HCUR.out; have := HX.out
    rw [YtlfbdcobpfainaaH.splice_length (by rw [YtlfbdcobpfainaaH.splice_length (by simp; omega)]; omega), YtlfbdcobpfainaaH.splice_length (by simp; omega)]; omega
  · have := HCUR.out; have := HX.out
    have e := YtlfbdcobpfainaaH.splice_two' (L := cur) (xs := xc) (ys := (cur.take (n)).drop (i)) (o1 := i) (o2 := i + 1) (by omega) (by simp; omega)
    rw [← e]
    congr 1
    simp; omega
  · exact YtlfbdcobpfainaaH.grown_trans m1_.out k1_.out (fun b hb => .inl hb)
theorem slices_Insert_int_int.core (u : Value) (l0 : List Int) (i g2 c2 : Nat) (x : Int) (xc rest2 : List Value) (w : World) (base : Nat) (ok okx : Nat → Prop) (ho : (Kd.int .i64).R 3 w base ok u l0)
    (h2 : w.heap[g2]? = some (.cells (xc ++ rest2).toArray 3 (0, 0))) (hne : some g2 ≠ u.ownBlock) (hM : (Kd.int .i64).M w base okx x xc) (hokx : ∀ k, okx k → ok k ∧ some k ≠ u.ownBlock) (hbase : base ≤ w.heap.size) (hfresh : ∀ k, w.heap.size ≤ k → ok k) (hi : i ≤ l0.length) (hl : (l0.length + 1) * 8 ≤ 140737488355328) :
    Calls Try.prog 25 #[u, .int .i64 i, .slice (some ⟨g2, 0, none⟩) 1 c2] w fun e w' => ∃ v, e = .returned v ∧ (Kd.int .i64).R 3 w' base ok v (l0.take i ++ x :: l0.drop i) ∧ w.grownBy w' u.ownBlock := by
  have hs : (Kd.int .i64).sz = 1 := rfl
  have hxl : xc.length = 1 := ((Kd.int .i64)).K_len (((Kd.int .i64)).K_of_M hM)
  have hx1 := ((Kd.int .i64)).K_one (((Kd.int .i64)).K_of_M hM)
  by_cases hin : i = l0.length
  · subst hin
    refine (slices_Insert_int_int.core_end u l0 g2 c2 x xc rest2 w base ok okx ho h2 hxl hM hokx hbase hfresh hl).mono ?_
    rintro e w' ⟨v, rfl, hv, hg⟩
    exact ⟨v, rfl, by simpa using hv, hg⟩
  · rcases YtlfbdcobpfainaaH.R_row ho with ⟨rfl, rfl⟩ | ⟨g, cap, cur, rfl, hbg, hgs, hh, hnc, hcm, hcl, hokg, hr⟩
    · exact absurd (by simpa using hi) hin
    have hone : ∀ u ∈ cur.take (l0.length), u.oneCell' = true := by
      have := Kd.reps_one hr (by decide) (fun x cs hp => ((Kd.int .i64)).K_one (((Kd.int .i64)).K_of_M hp))
      simpa [hs] using this
    have hlen : (l0.take i ++ x :: l0.drop i).length = l0.length + 1 := by simp; omega
    rw [hs] at hcl
    have ecs : cur.take (i) = (cur.take (l0.length)).take (i) := by rw [List.take_take, Nat.min_eq_left (by omega)]
    by_cases hroom : l0.length + 1 ≤ cap
    · refine (slices_Insert_int_int.core_room g cap l0.length i g2 c2 cur xc rest2 w hh (by omega) hroom hcm (by omega) (by simpa [Value.ownBlock] using hne) h2 hxl hone hx1 hl).mono ?_
      rintro e w' ⟨cur', rfl, hh', hcl', htk, hg⟩
      have hR := YtlfbdcobpfainaaH.reps_insert (b := g) hr hM hg (fun k _ _ hk => ⟨by simpa using hk, hk⟩) (fun k _ hk => ⟨(hokx k hk).2, (hokx k hk).1, by simpa [Value.ownBlock] using (hokx k hk).2⟩) i hi
      have hv := YtlfbdcobpfainaaH.row_R (d := (Kd.int .i64)) (xs := l0.take i ++ x :: l0.drop i) (cap := cap) (cur := cur') hbg hh' (by omega) hcm (by rw [hs]; omega) hokg (by
        rw [hlen, hs]
        simp only [hs] at hR
        simp only [Nat.mul_one] at hR htk ⊢
        rw [htk, ecs]
        exact hR)
      rw [hlen] at hv
      exact ⟨_, rfl, hv, hg⟩
    · refine (slices_Insert_int_int.core_grow g cap l0.length i g2 c2 cur xc rest2 w hh (by omega) hnc (by omega) (by omega) h2 hxl hone hx1 hl).mono ?_
      rintro e w' ⟨c, cur', rfl, hh', hnc', hcm', hcl', htk, hg⟩
      have hR := YtlfbdcobpfainaaH.reps_insert (b := w.heap.size) hr hM hg (fun k hlt _ _ => ⟨by simp, by omega⟩) (fun k hlt hk => ⟨by simp, (hokx k hk).1, by omega⟩) i hi
      have hv := YtlfbdcobpfainaaH.row_R (d := (Kd.int .i64)) (xs := l0.take i ++ x :: l0.drop i) (cap := c) (cur := cur') hbase hh' (by omega) hcm' (by rw [hs]; omega) (hfresh _ (Nat.le_refl _)) (by
        rw [hlen, hs]
        simp only [hs] at hR
        simp only [Nat.mul_one] at hR htk ⊢
        rw [htk, ecs]
        exact hR)
      rw [hlen] at hv
      exact ⟨_, rfl, hv, YtlfbdcobpfainaaH.grown_none hg _⟩
theorem slices_Insert_int_int.calls (P0_ : Nat → Prop) (u9000_ : Value) (l0 : List Int) (a1 : Int) (P2_ : Nat → Prop) (u9001_ : Value) (l2 : List Int) (r : List Int) (w0 w : World) (hB : Below w0.heap.size w0 w) (ho0 : Kd.R (Kd.int .i64) 3 w w0.heap.size P0_ u9000_ l0) (hp0_2 : ∀ k_, P0_ k_ → ¬ P2_ k_)
    (ho2 : Kd.R (Kd.int .i64) 3 w w0.heap.size P2_ u9001_ l2) (hp2_0 : ∀ k_, P2_ k_ → ¬ P0_ k_) (h : slices_Insert_int_int.f l0 a1 l2 = some r) :
    Calls Try.prog 25 #[u9000_, .int .i64 a1, u9001_] w fun e w' => ∃ v0_ : Value, e = .returned (v0_) ∧ Kd.R (Kd.int .i64) 3 w' w0.heap.size (fun k_ => ((P0_ k_ ∨ P2_ k_) ∨ w.heap.size ≤ k_)) v0_ r ∧ Below w0.heap.size w0 w' ∧ Kept w w' (fun k_ => P0_ k_ ∨ P2_ k_) := by
  unfold slices_Insert_int_int.f at h
  match l2, h, ho2 with
  | [x], h, ho2 =>
    dsimp only at h
    split at h
    case isFalse => cases h
    rename_i hc
    obtain ⟨h0, h1, h3⟩ := hc
    obtain rfl := Option.some.inj h
    obtain ⟨i, rfl⟩ := Int.eq_ofNat_of_zero_le h0
    rcases YtlfbdcobpfainaaH.R_row ho2 with ⟨_, h4⟩ | ⟨g2, c2, cur2, rfl, hbg, hgs, hh, hnc, hcm, hcl, hokg, hr⟩
    · cases h4
    have e2 : cur2 = cur2.take 1 ++ cur2.drop 1 := (List.take_append_drop 1 cur2).symm
    rw [e2] at hh
    have hM := hr.2 0 x rfl
    have hM' : (Kd.int .i64).M w w0.heap.size (fun _ => False) x (cur2.take 1) := by
      have h5 : ((cur2.take 1).drop 0).take 1 = [Value.int .i64 x] := hM
      rw [List.drop_zero, List.take_take, Nat.min_self] at h5
      exact h5
    have ho : Kd.R (Kd.int .i64) 3 w w0.heap.size (fun k_ => ((P0_ k_ ∨ P2_ k_) ∨ w.heap.size ≤ k_)) u9000_ l0 := Kd.R_mono ho0 (fun k hk => .inl (.inl hk))
    refine (slices_Insert_int_int.core u9000_ l0 i g2 c2 x _ _ w w0.heap.size _ (fun _ => False) ho hh (fun e => hp0_2 g2 (ho0.1 g2 e.symm) hokg) hM' (fun k hk => hk.elim) hB.size (fun k hk => .inr hk) (by omega) h3).mono ?_
    rintro e w' ⟨v, rfl, hv, hg⟩
    exact ⟨v, rfl, hv, YtlfbdcobpfainaaH.below_of_grown hg hB (fun b hb => own_base (Kd.R_own ho0).choose_spec b hb.symm.symm), YtlfbdcobpfainaaH.kept_of_grown hg _ (fun b hb => .inl (ho0.1 b hb))⟩

/-! ### slices_Clone_int_int: function 26, by hand -/
def slices_Clone_int_int.f (l0 : List Int) : Option (List Int) := if l0.length * 8 ≤ 140737488355328 then some l0 else none
set_option maxHeartbeats 800000 in
set_option maxRecDepth 100000 in
theorem slices_Clone_int_int.calls (A0 : Option Addr) (c0 : Nat) (l0 : List Int) (r : List Int) (w : World) (hr0 : Kd.C (Kd.int .i64) w A0 l0.length l0) (hc0 : l0.length ≤ c0) (h : slices_Clone_int_int.f l0 = some r) :
    Calls Try.prog 26 #[.slice A0 l0.length c0] w fun e w' => ∃ v0_ : Value, e = .returned v0_ ∧ Kd.R (Kd.int .i64) 3 w' w.heap.size (fun _ => True) v0_ r ∧ Below w.heap.size w w' := by
  unfold slices_Clone_int_int.f at h
  split at h
  case isFalse => cases h
  rename_i hlen
  obtain rfl := Option.some.inj h
  have hinfo : (Try.prog.info? 3).map (fun i => (i.zero, i.size, i.bytes)) = some (some (.int .i64 0), 1, 8) := by kernel_rfl
  have HR := Aside0.mk hr0
  have HI := Aside0.mk hinfo
  clear hr0 h hinfo
  cases A0 with
  | none =>
    have hl0 : l0 = [] := by
      cases l0 with
      | nil => rfl
      | cons x t => obtain ⟨ad, h, _⟩ := HR.out.2.2 (by simp); cases h
    subst hl0
    have hnil := fun w => Lib.run_eql_slice_nil (P := Try.prog) w 24 3 none 0 c0 0 0 Try.underlying24
    go_enter Try.func26, Try.ntmps26
    go_wp2
    go_ret
    exact ⟨_, rfl, Kd.R_nil _ _ _ _ _, Below.refl _ _⟩
  | some A0 =>
    have hnil := fun w => Lib.run_eql_slice_nil (P := Try.prog) w 24 3 (some A0) l0.length c0 0 0 Try.underlying24
    go_enter Try.func26, Try.ntmps26
    go_wp2_with ((with_reducible refine gate_builtin (b := .append) (xs := #[.tmp 5, .tmp 6]) rfl ?_); at_builtin; refine Kd.R_append_rows (Kd.int .i64) (Rr := (Kd.int .i64).K w) (w0 := w) w.heap.size rfl (.tmp 5) (.tmp 6) 24 3 (.int .i64 0) 8 rfl Try.underlying24 HI.out rfl (by decide) (by omega) (.slice (some ⟨w.heap.size, 0, none⟩) 0 0) [] l0 (some A0) l0.length c0 (fun _ => True) (fun _ => False) rfl rfl ?aO ?aR (fun _ _ hx => hx) (fun _ hk => hk.elim) (fun _ _ => trivial) ((Below.refl _ _).alloc (Nat.le_refl _) _) ?aS ?aL ?_; (case aO => exact YtlfbdcobpfainaaH.R_empty _ _ _ _ (Nat.le_refl _) _ trivial); (case aR => exact ReadsRow.imp_ HR.out ((Below.refl _ _).alloc (Nat.le_refl _) _) (fun _ _ hp => hp)); (case aS => simp); (case aL => simp; omega); intro v1 w1 ho hb hg hat; have n0_ := Aside0.mk hb; have n1_ := Aside0.mk ho; clear ho hb hg hat)
    go_ret
    exact ⟨v1, rfl, by simpa using n1_.out, n0_.out⟩

/-! ### slices_Delete_int_int: function 27, by hand -/
def slices_Delete_int_int.f (l0 : List Int) (a1 : Int) (a2 : Int) : Option (List Int) := if 0 ≤ a1 ∧ a1 ≤ a2 ∧ a2 ≤ l0.length then some (l0.take a1.toNat ++ l0.drop a2.toNat) else none
theorem slices_Delete_int_int.info : (Try.prog.info? 3).map (fun i => (i.zero, i.size, i.bytes)) = some (some (.int .i64 0), 1, 8) := by kernel_rfl
set_option maxHeartbeats 800000 in
set_option maxRecDepth 100000 in
theorem slices_Delete_int_int.core (g cap n i j : Nat) (cur : List Value) (w : World) (hg : w.heap[g]? = some (.cells cur.toArray 3 (0, 0))) (hcur : cur.length = cap) (hn : n ≤ cap) (hcm : cap ≤ maxLen) (hij : i < j) (hjn : j ≤ n) (h1c : ∀ u ∈ cur.take n, u.oneCell' = true) :
    Calls Try.prog 27 #[.slice (some ⟨g, 0, none⟩) n cap, .int .i64 i, .int .i64 j] w fun e w' => ∃ cur' : List Value, e = .returned (.slice (some ⟨g, 0, none⟩) (i + (n - j)) cap) ∧ w'.heap[g]? = some (.cells cur'.toArray 3 (0, 0)) ∧ cur'.length = cap ∧
      cur'.take (i + (n - j)) = cur.take i ++ (cur.take n).drop j ∧ w.grownBy w' (some g) := by
  have hinfo := slices_Delete_int_int.info
  obtain ⟨i0, hi, hz0, hz1, hz2⟩ := info_parts hinfo
  have hsz : (Try.prog.info? 3).map (·.size) = some 1 := by rw [hi]; simp [hz1]
  unfold maxLen at hcm
  have hgs : g < w.heap.size := blk_lt hg
  have hnei : ((i : Int) == (j : Int)) = false := by simp; omega
  have hcut2 : ∀ W : World, (Instr.slice 24 (.slice (some ⟨g, 0, none⟩) n cap) none (some (.int .i64 i)) none).run Try.prog W = .ok (.slice (some ⟨g, 0, none⟩) i cap) W := fun W => by rw [cut_to 24 3 .i64 (P := Try.prog) Try.underlying24 hi _ n cap (i : Int) (by omega) (by omega) (by omega) W]; simp
  obtain ⟨A3, hcut3, hA3⟩ : ∃ A3 : Option Addr, (∀ W : World, (Instr.slice 24 (.slice (some ⟨g, 0, none⟩) n cap) (some (.int .i64 j)) none none).run Try.prog W = .ok (.slice A3 (n - j) (cap - j)) W) ∧ (0 < n - j → A3 = some ⟨g, j, none⟩) := by
    refine ⟨if cap = j then some ⟨g, 0, none⟩ else some ⟨g, j, none⟩, fun W => ?_, fun h => by rw [if_neg (by omega)]⟩
    rw [cut_from 24 3 .i64 (P := Try.prog) Try.underlying24 hi 1 hz1 _ n cap (j : Int) (by omega) (by omega) W]
    simp [YtlfbdcobpfainaaH.add_zero_off]
  have HG := Aside0.mk hg
  have HSZ := Aside0.mk hsz
  have HI := Aside0.mk hinfo
  have HHI := Aside0.mk hi
  have HZ1 := Aside0.mk hz1
  have H1C := Aside0.mk h1c
  have HCUR := Aside0.mk hcur
  have HA3 := Aside0.mk hA3
  clear hg hinfo hsz hi hz0 hz1 hz2 h1c hcur hA3
  go_enter Try.func27, Try.ntmps27
  go_wp2_with fail
  go_still_tail 6, (by kernel_rfl)
  refine YtlfbdcobpfainaaH.wpList_append_fit rfl (.tmp 22) (.tmp 25) 24 24 rfl 3 1 Try.underlying24 Try.underlying24 HSZ.out A3 i cap (n - j) (cap - j) g rfl rfl cur HG.out ((cur.take n).drop j) (by have := HCUR.out; simp; omega) (by omega) (fun h => ⟨_, HA3.out h, YtlfbdcobpfainaaH.drop_cells (w := w.drew) HG.out _ _⟩) (by have := HCUR.out; simp; omega) (fun v hv => H1C.out v (List.mem_of_mem_drop hv)) ?_
  intro w2 hg2 hgr2
  have m0_ := Aside0.mk hg2
  have m1_ := Aside0.mk (YtlfbdcobpfainaaH.drew_grown hgr2)
  clear hg2 hgr2
  go_wp2_with ((with_reducible refine gate_builtin (b := .clear) (xs := #[.tmp 31]) rfl ?_); refine YtlfbdcobpfainaaH.wpList_clear_sz rfl (.tmp 31) 24 3 rfl (.int .i64 0) 1 8 Try.underlying24 HI.out rfl (by decide) (some ⟨g, i + (n - j), none⟩) (n - (i + (n - j))) (cap - (i + (n - j))) g (i + (n - j)) rfl _ m0_.out (fun _ => rfl) ?b1 ?_; (case b1 => intro _; have := HCUR.out; rw [YtlfbdcobpfainaaH.splice_length (by simp; omega)]; omega); intro w3 zs hzl hg3 hgr3; have k0_ := Aside0.mk hg3; have k1_ := Aside0.mk hgr3; have k2_ := Aside0.mk hzl; clear hg3 hgr3 hzl)
  go_ret
  have hzl := k2_.out
  rw [if_neg (by omega)] at hzl
  have hsl : (splice cur (i * 1) ((cur.take n).drop j)).length = cap := by have := HCUR.out; rw [YtlfbdcobpfainaaH.splice_length (by simp; omega)]; exact this
  refine ⟨_, rfl, k0_.out, ?_, ?_, ?_⟩
  · rw [YtlfbdcobpfainaaH.splice_length (by omega)]; exact hsl
  · have := HCUR.out
    rw [YtlfbdcobpfainaaH.splice_take_le (Nat.le_refl _) (by omega)]
    have e := YtlfbdcobpfainaaH.splice_take (L := cur) (xs := (cur.take n).drop j) (o := i) (by simp; omega)
    rw [← e, Nat.mul_one]
    congr 1
    simp; omega
  · exact YtlfbdcobpfainaaH.grown_trans m1_.out k1_.out (fun b hb => .inl hb)
theorem slices_Delete_int_int.same (u : Value) (i n : Nat) (hu : ∃ A c, u = .slice A n c ∧ n ≤ c) (hin : i ≤ n) (w : World) :
    Calls Try.prog 27 #[u, .int .i64 i, .int .i64 i] w fun e w' => e = .returned u ∧ w = w' := by
  obtain ⟨A, c, rfl, hc⟩ := hu
  have hnei : ((i : Int) == (i : Int)) = true := by simp
  obtain ⟨i0, hi, hz0, hz1, hz2⟩ := info_parts slices_Delete_int_int.info
  obtain ⟨A3, hcut3⟩ : ∃ A3 : Option Addr, (∀ W : World, (Instr.slice 24 (.slice A n c) (some (.int .i64 (i : Int))) (some (.int .i64 (i : Int))) (some (.int .i64 (n : Int)))).run Try.prog W = .ok (.slice A3 0 (n - i)) W) := by
    refine ⟨if n = i then A else A.map (·.add (i * 1)), fun W => ?_⟩
    have hel : (Try.prog).elem 24 = 3 := by simp [Program.elem, Try.underlying24]
    have hu : (Try.prog).underlying 24 = some (.slice ((Try.prog).elem 24)) := by rw [hel]; exact Try.underlying24
    rw [run_slice_lhm W 24 A n c hu .i64 .i64 .i64 (i : Int) (i : Int) (n : Int) (by omega) (by omega) (by omega) (by omega), hel]
    simp [sizeOf, typeInfo, hi, hz1, sliced, Result.andThen]
  clear hi hz0 hz1 hz2
  go_enter Try.func27, Try.ntmps27
  go_wp2
  go_ret
  exact ⟨rfl, rfl⟩
theorem slices_Delete_int_int.calls (P0_ : Nat → Prop) (u9000_ : Value) (l0 : List Int) (a1 : Int) (a2 : Int) (r : List Int) (w0 w : World) (hB : Below w0.heap.size w0 w) (ho0 : Kd.R (Kd.int .i64) 3 w w0.heap.size P0_ u9000_ l0) (h : slices_Delete_int_int.f l0 a1 a2 = some r) :
    Calls Try.prog 27 #[u9000_, .int .i64 a1, .int .i64 a2] w fun e w' => ∃ v0_ : Value, e = .returned (v0_) ∧ Kd.R (Kd.int .i64) 3 w' w0.heap.size (fun k_ => (P0_ k_ ∨ w.heap.size ≤ k_)) v0_ r ∧ Below w0.heap.size w0 w' ∧ Kept w w' (fun k_ => P0_ k_) := by
  unfold slices_Delete_int_int.f at h
  split at h
  case isFalse => cases h
  rename_i hc
  obtain ⟨h0, h1, h2⟩ := hc
  obtain rfl := Option.some.inj h
  obtain ⟨i, rfl⟩ := Int.eq_ofNat_of_zero_le h0
  obtain ⟨j, rfl⟩ := Int.eq_ofNat_of_zero_le (show 0 ≤ a2 by omega)
  simp only [Int.toNat_natCast]
  by_cases hij : i = j
  · subst hij
    refine (slices_Delete_int_int.same u9000_ i l0.length (by obtain ⟨A, c, e, hl, _⟩ := Kd.R_reads ho0; exact ⟨A, c, e, hl⟩) (by omega) w).mono ?_
    rintro e w' ⟨rfl, rfl⟩
    refine ⟨u9000_, rfl, ?_, hB, Kept.refl _ _⟩
    rw [List.take_append_drop]
    exact Kd.R_mono ho0 (fun k hk => .inl hk)
  · rcases YtlfbdcobpfainaaH.R_row ho0 with ⟨_, rfl⟩ | ⟨g, cap, cur, rfl, hbg, hgs, hh, hnc, hcm, hcl, hokg, hr⟩
    · simp at h2; omega
    have hs : (Kd.int .i64).sz = 1 := rfl
    rw [hs] at hcl hr
    rw [Nat.mul_one] at hcl hr
    refine (slices_Delete_int_int.core g cap l0.length i j cur w hh hcl hnc hcm (by omega) (by omega) (Kd.reps_one hr (by decide) (fun x cs hp => (Kd.int .i64).K_one ((Kd.int .i64).K_of_M hp)))).mono ?_
    rintro e w' ⟨cur', rfl, hh', hcl', htk, hg⟩
    have hlen : (l0.take i ++ l0.drop j).length = i + (l0.length - j) := by simp; omega
    have hr' := YtlfbdcobpfainaaH.reps_grown (d := Kd.int .i64) hr hg
    have hR := YtlfbdcobpfainaaH.reps_cells (YtlfbdcobpfainaaH.reps_take hr' i (by omega)) (YtlfbdcobpfainaaH.reps_drop hr' j)
    have hv := YtlfbdcobpfainaaH.row_R (d := Kd.int .i64) (xs := l0.take i ++ l0.drop j) (ok := fun k_ => (P0_ k_ ∨ w.heap.size ≤ k_)) (cap := cap) (cur := cur') hbg hh' (by omega) hcm (by rw [hs]; omega) (.inl hokg) (by
      rw [hlen, hs, Nat.mul_one, htk]
      have e1 : cur.take i = (cur.take l0.length).take (i * 1) := by rw [List.take_take, Nat.mul_one, Nat.min_eq_left (by omega)]
      rw [e1]
      have e2 : j * 1 = j := Nat.mul_one j
      have hR' : Reps ((Kd.int .i64).M w' w0.heap.size (fun k => (P0_ k ∨ w.heap.size ≤ k) ∧ k ≠ g)) (Kd.int .i64).sz _ _ := hR.imp_ (fun _ _ hp => (Kd.int .i64).M_mono (fun k hk => ⟨.inl hk.1, hk.2⟩) hp)
      rw [hs, e2] at hR'
      exact hR')
    rw [hlen] at hv
    exact ⟨_, rfl, hv, YtlfbdcobpfainaaH.below_of_grown hg hB (fun b hb => by injection hb with hb; omega), YtlfbdcobpfainaaH.kept_of_grown hg _ (fun b hb => by injection hb with hb; rw [← hb]; exact hokg)⟩

end Go.Proofs.Ytlfbdcobpfainaa.P
