-- PRINTED by print.py (a twelfth state) out of the translation. Not trusted: Lean checks it.
import Derived.Test.YtlfbdcobpfainaaQ0
namespace Go.Proofs.Ytlfbdcobpfainaa.Q
open Go.RowKit Go.Proofs.YtlfbdcobpfainaaW.PrintWords Go.Proofs.YtlfbdcobpfainaaW.PrintLast Go.Proofs.YtlfbdcobpfainaaW.PrintMore
attribute [local go_sem] max2_int min2_int max_two min_two max_three min_three max_four min_four   -- for this text's walks alone
set_option linter.unusedVariables false
set_option linter.unusedSimpArgs false

/-! ### stock_look: function 31 -/
mutual
def stock_look.l0 : Nat → List (S35) → Int → Int → Option (Int)
  | 0, _, _, _ => none
  | k + 1, x8, x9, x10 => if x10 < x9 then (if 0 ≤ x10 then (if x10 < (x8.length : Int) then (if ((rd_T35 x8 x10).f0) = 0 then (stock_look.j1 k x8 x9 x10 true ((rd_T35 x8 x10).f0) ((rd_T35 x8 x10).f1)) else (if ((rd_T35 x8 x10).f0) < (-1000000) then (stock_look.j1 k x8 x9 x10 true ((rd_T35 x8 x10).f0) ((rd_T35 x8 x10).f1)) else (if ((rd_T35 x8 x10).f0) > 1000000 then (stock_look.j1 k x8 x9 x10 true ((rd_T35 x8 x10).f0) ((rd_T35 x8 x10).f1)) else (if ((rd_T35 x8 x10).f1) < 0 then (stock_look.j1 k x8 x9 x10 true ((rd_T35 x8 x10).f0) ((rd_T35 x8 x10).f1)) else (stock_look.j1 k x8 x9 x10 (decide (((rd_T35 x8 x10).f1) > 1000000000000)) ((rd_T35 x8 x10).f0) ((rd_T35 x8 x10).f1)))))) else (none)) else (none)) else (some 0)
def stock_look.j1 : Nat → List (S35) → Int → Int → Bool → Int → Int → Option (Int)
  | 0, _, _, _, _, _, _ => none
  | k + 1, x8, x9, x10, x14, x185000, x185001 => if x14 = true then (some 1) else (if x185000 < 0 then (if x185001 = 0 then (stock_look.l0 k x8 x9 (wrap64 (x10 + 1))) else (some 3)) else (stock_look.l0 k x8 x9 (wrap64 (x10 + 1))))
end
def stock_look.f (k : Nat) (l0 : List (S35)) : Option (Int) := if (l0.length : Int) > 40 then (some 2) else (stock_look.l0 k l0 (l0.length : Int) 0)
theorem stock_look.mono_l : ∀ k, (∀ y0 y1 y2, LeO (stock_look.l0 k y0 y1 y2) (stock_look.l0 (k + 1) y0 y1 y2)) ∧ (∀ y0 y1 y2 y3 y4 y5, LeO (stock_look.j1 k y0 y1 y2 y3 y4 y5) (stock_look.j1 (k + 1) y0 y1 y2 y3 y4 y5))
  | 0 => ⟨fun _ _ _ r h => by simp [stock_look.l0] at h, fun _ _ _ _ _ _ r h => by simp [stock_look.j1] at h⟩
  | k + 1 => by
    obtain ⟨ih0, ih1⟩ := stock_look.mono_l k
    refine ⟨?_, ?_⟩
    · intro y0 y1 y2
      unfold stock_look.l0
      repeat' first
      | (with_reducible exact ih0 _ _ _)
      | (with_reducible exact ih1 _ _ _ _ _ _)
      | (with_reducible exact LeO.refl _)
      | (with_reducible exact LeO.none _)
      | (with_reducible refine LeO.ite ?_ ?_)
      | (with_reducible refine LeO.bind ?_ (fun _ => ?_))
      | exact ih0 _ _ _
      | exact ih1 _ _ _ _ _ _
      | exact LeO.none _
      | refine LeO.ite ?_ ?_
      | refine LeO.bind ?_ (fun _ => ?_)
    · intro y0 y1 y2 y3 y4 y5
      unfold stock_look.j1
      repeat' first
      | (with_reducible exact ih0 _ _ _)
      | (with_reducible exact ih1 _ _ _ _ _ _)
      | (with_reducible exact LeO.refl _)
      | (with_reducible exact LeO.none _)
      | (with_reducible refine LeO.ite ?_ ?_)
      | (with_reducible refine LeO.bind ?_ (fun _ => ?_))
      | exact ih0 _ _ _
      | exact ih1 _ _ _ _ _ _
      | exact LeO.none _
      | refine LeO.ite ?_ ?_
      | refine LeO.bind ?_ (fun _ => ?_)
theorem stock_look.mono : ∀ a0 k, LeO (stock_look.f k a0) (stock_look.f (k + 1) a0) := by
  intro a0 k
  obtain ⟨ih0, ih1⟩ := stock_look.mono_l k
  unfold stock_look.f
  repeat' first
      | (with_reducible exact ih0 _ _ _)
      | (with_reducible exact ih1 _ _ _ _ _ _)
      | (with_reducible exact LeO.refl _)
      | (with_reducible exact LeO.none _)
      | (with_reducible refine LeO.ite ?_ ?_)
      | (with_reducible refine LeO.bind ?_ (fun _ => ?_))
      | exact ih0 _ _ _
      | exact ih1 _ _ _ _ _ _
      | exact LeO.none _
      | refine LeO.ite ?_ ?_
      | refine LeO.bind ?_ (fun _ => ?_)
set_option maxHeartbeats 8000000 in
set_option maxRecDepth 100000 in
theorem stock_look.calls (k : Nat) (A0 : Option Addr) (c0 : Nat) (l0 : List (S35)) (r : Int) (w : World) (hr0 : Kd.C k35 w A0 l0.length l0) (hc0 : l0.length ≤ c0) (h : stock_look.f k l0 = some r) :
    Calls Try.prog 31 #[.slice A0 l0.length c0] w fun e w' => e = .returned (.int .i64 r) ∧ Below w.heap.size w w' := by
  have hu35 := Try.underlying35
  have HR0 := Aside0.mk hr0
  have HC0 := Aside0.mk hc0
  clear hr0 hc0
  have HB := Aside0.mk (Below.refl w.heap.size w)
  have H : (if (l0.length : Int) > 40 then (some 2) else (stock_look.l0 k l0 (l0.length : Int) 0)) = some r := h
  clear h
  by_cases c2 : (l0.length : Int) > 40
  · rw [if_pos c2] at H
    have c2b0 : decide (40 < (l0.length : Int)) = true := decide_eq_true c2
    have c2b1 : decide (40 < l0.length) = true := decide_eq_true (by omega)
    clear c2
    obtain rfl := Option.some.inj H
    go_enter Try.func31, Try.ntmps31
    go_wp2
    go_ret
    exact ⟨by first | rfl | (simp [errW_none, errW_some] <;> rfl) | (simp [*, errW_none, errW_some] <;> rfl), by repeat (first | (with_reducible first | exact HB.out | apply below_alloc | apply pw_below_drewN | apply below_drew1) | exact HB.out)⟩
  · rw [if_neg c2] at H
    have c2b0 : decide (40 < (l0.length : Int)) = false := decide_eq_false c2
    have c2b1 : decide (40 < l0.length) = false := decide_eq_false (by omega)
    clear c2
    have H' := Aside0.mk H
    clear H
    go_enter Try.func31, Try.ntmps31
    go_wp2
    go_loopg [10] k (fun kq v10 w' => ∃ (x10_1 : Int), v10 = .int .i64 x10_1 ∧ Aside0 (stock_look.l0 kq l0 (l0.length : Int) x10_1 = some r) ∧ Aside0 (kq ≤ k) ∧ Aside0 (Below w.heap.size w w'))
    case atStart => exact ⟨(0), (by first | rfl | (simp; done) | (simp [*]; done)), H', ⟨Nat.le_refl _⟩, ⟨by repeat (first | (with_reducible first | exact HB.out | apply below_alloc | apply pw_below_drewN | apply below_drew1) | exact HB.out)⟩⟩
    case round =>
      clear H'
      try clear c2
      try clear c2b0
      try clear c2b1
      try clear p2
      obtain ⟨x10_1, rfl, HA, HK1, HB⟩ := hrel
      cases gk with
      | zero => exact absurd HA.out (by simp [stock_look.l0])
      | succ k1 =>
        have H := HA.out
        clear HA
        simp only [stock_look.l0] at H
        by_cases c3 : x10_1 < (l0.length : Int)
        · rw [if_pos c3] at H
          have c3b0 : decide (x10_1 < (l0.length : Int)) = true := decide_eq_true c3
          clear c3
          by_cases c4 : 0 ≤ x10_1
          · rw [if_pos c4] at H
            have c4b0 : decide (0 ≤ x10_1) = true := decide_eq_true c4
            clear c4
            by_cases c5 : x10_1 < (l0.length : Int)
            · rw [if_pos c5] at H
              have c5b0 : decide (x10_1 < (l0.length : Int)) = true := decide_eq_true c5
              clear c5
              have HC6 := Aside0.mk H
              clear H
              have p183 : 0 ≤ (x10_1 : Int) := of_decide_eq_true (by first | (with_reducible assumption) | assumption)
              have q183 : x10_1 < (l0.length : Int) := of_decide_eq_true (by first | (with_reducible assumption) | assumption)
              obtain ⟨ad183, e183, hx183_0, hx183_1⟩ := at_T35 HR0.out x10_1 p183 q183
              cases e183
              replace hx183_0 := (HB.out.cell (World.block_lt_of_cell? w _ hx183_0)).trans hx183_0
              replace hx183_1 := (HB.out.cell (World.block_lt_of_cell? w _ hx183_1)).trans hx183_1
              replace p183 := eq_true p183
              replace q183 := eq_true q183
              go_upto_region 6 with (first | ((with_reducible refine gate_dst (N := 4) rfl ?_); refine box_event ?hg (N := 4) ?hd (cs := #[.int .i64 0, .int .i64 0]) (t := 35) ?hr ?_; (case hd => rfl); (case hg => rfl); (case hr => first | (go_simp; done) | (go_simp; rfl)); intro gb184 hg w7 hbox hb; have n0_ := Aside0.mk (below_step (by repeat (first | (with_reducible first | exact HB.out | apply below_alloc | apply pw_below_drewN | apply below_drew1) | exact HB.out)) hb); have n1_ := Aside0.mk (hbox); have n2_ := Aside0.mk ((by rw [hg]; exact (below_size (by repeat (first | (with_reducible first | exact HB.out | apply below_alloc | apply pw_below_drewN | apply below_drew1) | exact HB.out))) : w.heap.size ≤ gb184)); have n3_ := Aside0.mk ((by rw [hg]; exact (below_size (by repeat (first | (with_reducible first | exact HB.out | apply below_alloc | apply pw_below_drewN | apply below_drew1) | exact HB.out))) : w.heap.size ≤ gb184)); clear HB; have HB := n0_; have BK184 := n1_; have GW184 := n2_; have GE184 := n3_; clear n0_ n1_ n2_ n3_; clear hb hbox hg; have hcz8_0 : w7.cell? ⟨gb184, 0, none⟩ = some (.int .i64 0) := (blk_cell BK184.out 0).trans rfl; have hcz8_1 : w7.cell? ⟨gb184, 1, none⟩ = some (.int .i64 0) := (blk_cell BK184.out 1).trans rfl; have hfz8_0 := blk_frozen BK184.out 0; have hfz8_1 := blk_frozen BK184.out 1))
              (try simp only [Act.put, List.setIfInBounds_toArray, List.set_cons_zero, List.set_cons_succ])
              go_cut [14] (fun v14 wc => ∃ (kq : Nat) (x14_5 : Bool), v14 = .bool x14_5 ∧ Aside0 (stock_look.j1 kq l0 (l0.length : Int) x10_1 x14_5 ((rd_T35 l0 x10_1).f0) ((rd_T35 l0 x10_1).f1) = some r) ∧ Aside0 (kq ≤ k1) ∧ Aside0 (wc.heap[gb184]? = some (.cells #[.int .i64 ((rd_T35 l0 x10_1).f0), .int .i64 ((rd_T35 l0 x10_1).f1)] 35 (0, 0))) ∧ Aside0 (Below w.heap.size w wc))
              case first =>
                have H := HC6.out
                clear HC6
                by_cases c9 : ((rd_T35 l0 x10_1).f0) = 0
                · rw [if_pos c9] at H
                  have c9b0 : (((rd_T35 l0 x10_1).f0) == 0) = true := beq_iff_eq.mpr c9
                  have c9b1 : (((rd_T35 l0 x10_1).f0) != 0) = false := bne_eq_false_iff_eq.mpr c9
                  clear c9
                  (first | rw [c9b0] | (simp only [i64_w, i32_w]; rw [c9b0]) | skip)
                  have H' := Aside0.mk H
                  clear H
                  have hcz10_0 : w7.cell? ⟨gb184, 0, none⟩ = some (.int .i64 0) := (blk_cell BK184.out 0).trans rfl
                  have hcz10_1 : w7.cell? ⟨gb184, 1, none⟩ = some (.int .i64 0) := (blk_cell BK184.out 1).trans rfl
                  have hfz10_0 := blk_frozen BK184.out 0
                  have hfz10_1 := blk_frozen BK184.out 1
                  go_wp2
                  go_meet
                  case rel => exact ⟨_, (true), (by first | rfl | (simp; done) | (simp [*]; done)), H', ⟨by have := HK1.out; first | omega | exact Nat.le_refl _⟩, ⟨by (with_reducible repeat (first | refine blk_drewN ?_ _ | refine blk_drew ?_ | refine blk_alloc ?_ _)); refine blk_put (cs := #[.int .i64 ((rd_T35 l0 x10_1).f0), .int .i64 0]) ?_ 1 _ rfl; (with_reducible repeat (first | refine blk_drewN ?_ _ | refine blk_drew ?_ | refine blk_alloc ?_ _)); refine blk_put (cs := #[.int .i64 0, .int .i64 0]) ?_ 0 _ rfl; (with_reducible repeat (first | refine blk_drewN ?_ _ | refine blk_drew ?_ | refine blk_alloc ?_ _)); exact BK184.out⟩, ⟨by repeat (first | (with_reducible first | exact HB.out | apply below_alloc | apply pw_below_drewN | apply below_drew1 | refine below_set ?_ GE184.out) | exact HB.out)⟩⟩
                · rw [if_neg c9] at H
                  have c9b0 : (((rd_T35 l0 x10_1).f0) == 0) = false := beq_eq_false_iff_ne.mpr c9
                  have c9b1 : (((rd_T35 l0 x10_1).f0) != 0) = true := bne_iff_ne.mpr c9
                  (first | rw [c9b0] | (simp only [i64_w, i32_w]; rw [c9b0]) | skip)
                  by_cases c11 : ((rd_T35 l0 x10_1).f0) < (-1000000)
                  · rw [if_pos c11] at H
                    have c11b0 : decide (((rd_T35 l0 x10_1).f0) < (-1000000)) = true := decide_eq_true c11
                    clear c11
                    have H' := Aside0.mk H
                    clear H
                    have hcz12_0 : w7.cell? ⟨gb184, 0, none⟩ = some (.int .i64 0) := (blk_cell BK184.out 0).trans rfl
                    have hcz12_1 : w7.cell? ⟨gb184, 1, none⟩ = some (.int .i64 0) := (blk_cell BK184.out 1).trans rfl
                    have hfz12_0 := blk_frozen BK184.out 0
                    have hfz12_1 := blk_frozen BK184.out 1
                    go_wp2
                    go_meet
                    case rel => exact ⟨_, (true), (by first | rfl | (simp; done) | (simp [*]; done)), H', ⟨by have := HK1.out; first | omega | exact Nat.le_refl _⟩, ⟨by (with_reducible repeat (first | refine blk_drewN ?_ _ | refine blk_drew ?_ | refine blk_alloc ?_ _)); refine blk_put (cs := #[.int .i64 ((rd_T35 l0 x10_1).f0), .int .i64 0]) ?_ 1 _ rfl; (with_reducible repeat (first | refine blk_drewN ?_ _ | refine blk_drew ?_ | refine blk_alloc ?_ _)); refine blk_put (cs := #[.int .i64 0, .int .i64 0]) ?_ 0 _ rfl; (with_reducible repeat (first | refine blk_drewN ?_ _ | refine blk_drew ?_ | refine blk_alloc ?_ _)); exact BK184.out⟩, ⟨by repeat (first | (with_reducible first | exact HB.out | apply below_alloc | apply pw_below_drewN | apply below_drew1 | refine below_set ?_ GE184.out) | exact HB.out)⟩⟩
                  · rw [if_neg c11] at H
                    have c11b0 : decide (((rd_T35 l0 x10_1).f0) < (-1000000)) = false := decide_eq_false c11
                    clear c11
                    by_cases c13 : ((rd_T35 l0 x10_1).f0) > 1000000
                    · rw [if_pos c13] at H
                      have c13b0 : decide (1000000 < ((rd_T35 l0 x10_1).f0)) = true := decide_eq_true c13
                      clear c13
                      have H' := Aside0.mk H
                      clear H
                      have hcz14_0 : w7.cell? ⟨gb184, 0, none⟩ = some (.int .i64 0) := (blk_cell BK184.out 0).trans rfl
                      have hcz14_1 : w7.cell? ⟨gb184, 1, none⟩ = some (.int .i64 0) := (blk_cell BK184.out 1).trans rfl
                      have hfz14_0 := blk_frozen BK184.out 0
                      have hfz14_1 := blk_frozen BK184.out 1
                      go_wp2
                      go_meet
                      case rel => exact ⟨_, (true), (by first | rfl | (simp; done) | (simp [*]; done)), H', ⟨by have := HK1.out; first | omega | exact Nat.le_refl _⟩, ⟨by (with_reducible repeat (first | refine blk_drewN ?_ _ | refine blk_drew ?_ | refine blk_alloc ?_ _)); refine blk_put (cs := #[.int .i64 ((rd_T35 l0 x10_1).f0), .int .i64 0]) ?_ 1 _ rfl; (with_reducible repeat (first | refine blk_drewN ?_ _ | refine blk_drew ?_ | refine blk_alloc ?_ _)); refine blk_put (cs := #[.int .i64 0, .int .i64 0]) ?_ 0 _ rfl; (with_reducible repeat (first | refine blk_drewN ?_ _ | refine blk_drew ?_ | refine blk_alloc ?_ _)); exact BK184.out⟩, ⟨by repeat (first | (with_reducible first | exact HB.out | apply below_alloc | apply pw_below_drewN | apply below_drew1 | refine below_set ?_ GE184.out) | exact HB.out)⟩⟩
                    · rw [if_neg c13] at H
                      have c13b0 : decide (1000000 < ((rd_T35 l0 x10_1).f0)) = false := decide_eq_false c13
                      clear c13
                      by_cases c15 : ((rd_T35 l0 x10_1).f1) < 0
                      · rw [if_pos c15] at H
                        have c15b0 : decide (((rd_T35 l0 x10_1).f1) < 0) = true := decide_eq_true c15
                        clear c15
                        have H' := Aside0.mk H
                        clear H
                        have hcz16_0 : w7.cell? ⟨gb184, 0, none⟩ = some (.int .i64 0) := (blk_cell BK184.out 0).trans rfl
                        have hcz16_1 : w7.cell? ⟨gb184, 1, none⟩ = some (.int .i64 0) := (blk_cell BK184.out 1).trans rfl
                        have hfz16_0 := blk_frozen BK184.out 0
                        have hfz16_1 := blk_frozen BK184.out 1
                        go_wp2
                        go_meet
                        case rel => exact ⟨_, (true), (by first | rfl | (simp; done) | (simp [*]; done)), H', ⟨by have := HK1.out; first | omega | exact Nat.le_refl _⟩, ⟨by (with_reducible repeat (first | refine blk_drewN ?_ _ | refine blk_drew ?_ | refine blk_alloc ?_ _)); refine blk_put (cs := #[.int .i64 ((rd_T35 l0 x10_1).f0), .int .i64 0]) ?_ 1 _ rfl; (with_reducible repeat (first | refine blk_drewN ?_ _ | refine blk_drew ?_ | refine blk_alloc ?_ _)); refine blk_put (cs := #[.int .i64 0, .int .i64 0]) ?_ 0 _ rfl; (with_reducible repeat (first | refine blk_drewN ?_ _ | refine blk_drew ?_ | refine blk_alloc ?_ _)); exact BK184.out⟩, ⟨by repeat (first | (with_reducible first | exact HB.out | apply below_alloc | apply pw_below_drewN | apply below_drew1 | refine below_set ?_ GE184.out) | exact HB.out)⟩⟩
                      · rw [if_neg c15] at H
                        have c15b0 : decide (((rd_T35 l0 x10_1).f1) < 0) = false := decide_eq_false c15
                        clear c15
                        have H' := Aside0.mk H
                        clear H
                        have hcz17_0 : w7.cell? ⟨gb184, 0, none⟩ = some (.int .i64 0) := (blk_cell BK184.out 0).trans rfl
                        have hcz17_1 : w7.cell? ⟨gb184, 1, none⟩ = some (.int .i64 0) := (blk_cell BK184.out 1).trans rfl
                        have hfz17_0 := blk_frozen BK184.out 0
                        have hfz17_1 := blk_frozen BK184.out 1
                        go_wp2
                        go_meet
                        case rel => exact ⟨_, (decide (((rd_T35 l0 x10_1).f1) > 1000000000000)), (by first | rfl | (simp; done) | (simp [*]; done)), H', ⟨by have := HK1.out; first | omega | exact Nat.le_refl _⟩, ⟨by (with_reducible repeat (first | refine blk_drewN ?_ _ | refine blk_drew ?_ | refine blk_alloc ?_ _)); refine blk_put (cs := #[.int .i64 ((rd_T35 l0 x10_1).f0), .int .i64 0]) ?_ 1 _ rfl; (with_reducible repeat (first | refine blk_drewN ?_ _ | refine blk_drew ?_ | refine blk_alloc ?_ _)); refine blk_put (cs := #[.int .i64 0, .int .i64 0]) ?_ 0 _ rfl; (with_reducible repeat (first | refine blk_drewN ?_ _ | refine blk_drew ?_ | refine blk_alloc ?_ _)); exact BK184.out⟩, ⟨by repeat (first | (with_reducible first | exact HB.out | apply below_alloc | apply pw_below_drewN | apply below_drew1 | refine below_set ?_ GE184.out) | exact HB.out)⟩⟩
              case rest =>
                clear HC6
                try clear c1
                try clear p1
                try clear q1
                try clear hx1
                try clear c2
                try clear c2b0
                try clear c2b1
                try clear p2
                try clear c3
                try clear c3b0
                try clear c4
                try clear c4b0
                try clear c5
                try clear c5b0
                try clear c9
                try clear c9b0
                try clear c9b1
                try clear c11
                try clear c11b0
                try clear c13
                try clear c13b0
                try clear c15
                try clear c15b0
                try clear hcz10_0
                try clear hcz10_1
                try clear hcz12_0
                try clear hcz12_1
                try clear hcz14_0
                try clear hcz14_1
                try clear hcz16_0
                try clear hcz16_1
                try clear hcz17_0
                try clear hcz17_1
                try clear hcz8_0
                try clear hcz8_1
                try clear hfz10_0
                try clear hfz10_1
                try clear hfz12_0
                try clear hfz12_1
                try clear hfz14_0
                try clear hfz14_1
                try clear hfz16_0
                try clear hfz16_1
                try clear hfz17_0
                try clear hfz17_1
                try clear hfz8_0
                try clear hfz8_1
                try clear hx183_0
                try clear hx183_1
                try clear p183
                try clear p2
                try clear q183
                obtain ⟨kq, x14_5, rfl, HA, HJ5, BK184, HB⟩ := hcut
                cases kq with
                | zero => exact absurd HA.out (by simp [stock_look.j1])
                | succ kj5 =>
                  have H := HA.out
                  clear HA
                  simp only [stock_look.j1] at H
                  by_cases c18 : x14_5 = true
                  · subst c18
                    have H1 : (some 1) = some r := by rw [if_pos rfl] at H; exact H
                    clear H
                    have H := H1
                    clear H1
                    obtain rfl := Option.some.inj H
                    go_wp2
                    go_ret
                    exact ⟨by first | rfl | (simp [errW_none, errW_some] <;> rfl) | (simp [*, errW_none, errW_some] <;> rfl), by repeat (first | (with_reducible first | exact HB.out | apply below_alloc | apply pw_below_drewN | apply below_drew1 | refine below_set ?_ GE184.out) | exact HB.out)⟩
                  · replace c18 := Bool.eq_false_iff.mpr c18
                    subst c18
                    have H1 : (if ((rd_T35 l0 x10_1).f0) < 0 then (if ((rd_T35 l0 x10_1).f1) = 0 then (stock_look.l0 kj5 l0 (l0.length : Int) (wrap64 (x10_1 + 1))) else (some 3)) else (stock_look.l0 kj5 l0 (l0.length : Int) (wrap64 (x10_1 + 1)))) = some r := by rw [if_neg (show ¬ (false = true) by decide)] at H; exact H
                    clear H
                    have H := H1
                    clear H1
                    by_cases c19 : ((rd_T35 l0 x10_1).f0) < 0
                    · rw [if_pos c19] at H
                      have c19b0 : decide (((rd_T35 l0 x10_1).f0) < 0) = true := decide_eq_true c19
                      clear c19
                      by_cases c20 : ((rd_T35 l0 x10_1).f1) = 0
                      · rw [if_pos c20] at H
                        have c20b0 : (((rd_T35 l0 x10_1).f1) == 0) = true := beq_iff_eq.mpr c20
                        have c20b1 : (((rd_T35 l0 x10_1).f1) != 0) = false := bne_eq_false_iff_eq.mpr c20
                        clear c20
                        have H' := Aside0.mk H
                        clear H
                        have hcz21_0 : wc.cell? ⟨gb184, 0, none⟩ = some (.int .i64 ((rd_T35 l0 x10_1).f0)) := (blk_cell BK184.out 0).trans rfl
                        have hcz21_1 : wc.cell? ⟨gb184, 1, none⟩ = some (.int .i64 ((rd_T35 l0 x10_1).f1)) := (blk_cell BK184.out 1).trans rfl
                        have hfz21_0 := blk_frozen BK184.out 0
                        have hfz21_1 := blk_frozen BK184.out 1
                        go_wp2
                        go_roundg kj5
                        case measure => have := HK1.out; have := HJ5.out; omega
                        case rel => exact ⟨(wrap64 (x10_1 + 1)), (by first | rfl | (simp; done) | (simp [*]; done)), H', ⟨by have := HK1.out; have := HJ5.out; omega⟩, ⟨by repeat (first | (with_reducible first | exact HB.out | apply below_alloc | apply pw_below_drewN | apply below_drew1 | refine below_set ?_ GE184.out) | exact HB.out)⟩⟩
                      · rw [if_neg c20] at H
                        have c20b0 : (((rd_T35 l0 x10_1).f1) == 0) = false := beq_eq_false_iff_ne.mpr c20
                        have c20b1 : (((rd_T35 l0 x10_1).f1) != 0) = true := bne_iff_ne.mpr c20
                        obtain rfl := Option.some.inj H
                        have hcz22_0 : wc.cell? ⟨gb184, 0, none⟩ = some (.int .i64 ((rd_T35 l0 x10_1).f0)) := (blk_cell BK184.out 0).trans rfl
                        have hcz22_1 : wc.cell? ⟨gb184, 1, none⟩ = some (.int .i64 ((rd_T35 l0 x10_1).f1)) := (blk_cell BK184.out 1).trans rfl
                        have hfz22_0 := blk_frozen BK184.out 0
                        have hfz22_1 := blk_frozen BK184.out 1
                        go_wp2
                        go_ret
                        exact ⟨by first | rfl | (simp [errW_none, errW_some] <;> rfl) | (simp [*, errW_none, errW_some] <;> rfl), by repeat (first | (with_reducible first | exact HB.out | apply below_alloc | apply pw_below_drewN | apply below_drew1 | refine below_set ?_ GE184.out) | exact HB.out)⟩
                    · rw [if_neg c19] at H
                      have c19b0 : decide (((rd_T35 l0 x10_1).f0) < 0) = false := decide_eq_false c19
                      clear c19
                      have H' := Aside0.mk H
                      clear H
                      have hcz23_0 : wc.cell? ⟨gb184, 0, none⟩ = some (.int .i64 ((rd_T35 l0 x10_1).f0)) := (blk_cell BK184.out 0).trans rfl
                      have hcz23_1 : wc.cell? ⟨gb184, 1, none⟩ = some (.int .i64 ((rd_T35 l0 x10_1).f1)) := (blk_cell BK184.out 1).trans rfl
                      have hfz23_0 := blk_frozen BK184.out 0
                      have hfz23_1 := blk_frozen BK184.out 1
                      go_wp2
                      go_roundg kj5
                      case measure => have := HK1.out; have := HJ5.out; omega
                      case rel => exact ⟨(wrap64 (x10_1 + 1)), (by first | rfl | (simp; done) | (simp [*]; done)), H', ⟨by have := HK1.out; have := HJ5.out; omega⟩, ⟨by repeat (first | (with_reducible first | exact HB.out | apply below_alloc | apply pw_below_drewN | apply below_drew1 | refine below_set ?_ GE184.out) | exact HB.out)⟩⟩
            · rw [if_neg c5] at H
              exact absurd H (by simp)
          · rw [if_neg c4] at H
            exact absurd H (by simp)
        · rw [if_neg c3] at H
          have c3b0 : decide (x10_1 < (l0.length : Int)) = false := decide_eq_false c3
          clear c3
          obtain rfl := Option.some.inj H
          go_wp2
          go_ret
          exact ⟨by first | rfl | (simp [errW_none, errW_some] <;> rfl) | (simp [*, errW_none, errW_some] <;> rfl), by repeat (first | (with_reducible first | exact HB.out | apply below_alloc | apply pw_below_drewN | apply below_drew1) | exact HB.out)⟩

/-! #### stock_look, without rounds -/
def moveE (x : S35) : Int := if x.f0 = 0 ∨ x.f0 < -1000000 ∨ 1000000 < x.f0 ∨ x.f1 < 0 ∨ 1000000000000 < x.f1 then 1 else if x.f0 < 0 ∧ x.f1 ≠ 0 then 3 else 0
def movesLoop : List S35 → Int
  | [] => 0
  | x :: r => if moveE x ≠ 0 then moveE x else movesLoop r
def lookR (l : List S35) : Int := if 40 < l.length then 2 else movesLoop l
theorem stock_look.loop (l : List S35) (hs : l.length ≤ 40) : ∀ (d k i : Nat), i + d = l.length → 2 * d < k → stock_look.l0 k l (l.length : Int) i = some (movesLoop (l.drop i))
  | 0, k, i, hi, hk => by
    obtain ⟨k, rfl⟩ : ∃ m, k = m + 1 := ⟨k - 1, by omega⟩
    simp only [stock_look.l0]
    rw [if_neg (by omega), List.drop_of_length_le (by omega)]
    rfl
  | d + 1, k, i, hi, hk => by
    obtain ⟨k, rfl⟩ : ∃ m, k = m + 2 := ⟨k - 2, by omega⟩
    have hlt : i < l.length := by omega
    have hb : rd_T35 l (i : Int) = l[i] := by simp [rd_T35, List.getD_eq_getElem?_getD, hlt]
    have hw : wrap64 ((i : Int) + 1) = ((i + 1 : Nat) : Int) := by rw [IntWalk.wrap64_in _ ⟨by omega, by omega⟩]; rfl
    have ih := stock_look.loop l hs d k (i + 1) (by omega) (by omega)
    rw [List.drop_eq_getElem_cons hlt]
    generalize hx : l[i] = x at hb ⊢
    have jT : ∀ a b : Int, stock_look.j1 (k + 1) l (l.length : Int) i true a b = some 1 := fun a b => by simp only [stock_look.j1]; exact if_pos trivial
    have jF : stock_look.j1 (k + 1) l (l.length : Int) i false x.f0 x.f1 = if x.f0 < 0 then (if x.f1 = 0 then some (movesLoop (l.drop (i + 1))) else some 3) else some (movesLoop (l.drop (i + 1))) := by
      simp only [stock_look.j1]; rw [hw, ih]; exact if_neg (by decide)
    simp only [stock_look.l0, movesLoop, hb]
    rw [if_pos (by omega), if_pos (by omega), if_pos (by omega)]
    by_cases h1 : x.f0 = 0
    · have e : moveE x = 1 := by unfold moveE; rw [if_pos (Or.inl h1)]
      rw [if_pos h1, jT, e, if_pos (by decide)]
    rw [if_neg h1]
    by_cases h2 : x.f0 < -1000000
    · have e : moveE x = 1 := by unfold moveE; rw [if_pos (by omega)]
      rw [if_pos h2, jT, e, if_pos (by decide)]
    rw [if_neg h2]
    by_cases h3 : x.f0 > 1000000
    · have e : moveE x = 1 := by unfold moveE; rw [if_pos (by omega)]
      rw [if_pos h3, jT, e, if_pos (by decide)]
    rw [if_neg h3]
    by_cases h4 : x.f1 < 0
    · have e : moveE x = 1 := by unfold moveE; rw [if_pos (by omega)]
      rw [if_pos h4, jT, e, if_pos (by decide)]
    rw [if_neg h4]
    by_cases h5 : x.f1 > 1000000000000
    · have e : moveE x = 1 := by unfold moveE; rw [if_pos (by omega)]
      rw [show decide (x.f1 > 1000000000000) = true from decide_eq_true h5, jT, e, if_pos (by decide)]
    rw [show decide (x.f1 > 1000000000000) = false from decide_eq_false h5, jF]
    by_cases h6 : x.f0 < 0
    · rw [if_pos h6]
      by_cases h7 : x.f1 = 0
      · have e : moveE x = 0 := by unfold moveE; rw [if_neg (by omega), if_neg (by omega)]
        rw [if_pos h7, e, if_neg (by decide)]
      · have e : moveE x = 3 := by unfold moveE; rw [if_neg (by omega), if_pos ⟨h6, h7⟩]
        rw [if_neg h7, e, if_pos (by decide)]
    · have e : moveE x = 0 := by unfold moveE; rw [if_neg (by omega), if_neg (by omega)]
      rw [if_neg h6, e, if_neg (by decide)]
theorem stock_look.total (l : List S35) : stock_look.f 100 l = some (lookR l) := by
  unfold stock_look.f lookR
  by_cases h : 40 < l.length
  · rw [if_pos (by omega), if_pos h]
  · rw [if_neg (by omega), if_neg h]
    have := stock_look.loop l (by omega) l.length 100 0 (by omega) (by omega)
    simpa using this
def stock_lookT.f (l0 : List S35) : Option Int := some (lookR l0)
theorem stock_lookT.calls (A0 : Option Addr) (c0 : Nat) (l0 : List (S35)) (r : Int) (w : World) (hr0 : Kd.C k35 w A0 l0.length l0) (hc0 : l0.length ≤ c0) (h : stock_lookT.f l0 = some r) :
    Calls Try.prog 31 #[.slice A0 l0.length c0] w fun e w' => e = .returned (.int .i64 r) ∧ Below w.heap.size w w' := stock_look.calls 100 A0 c0 l0 r w hr0 hc0 (by rw [stock_look.total]; exact h)

/-! ### stock_shelf_take: function 32, by hand -/
def takeL : List S44 → Int → Int → Int × Bool × List S44
  | [], n, c => if n ≤ 0 then (c, true, []) else (0, false, [])
  | l :: r, n, c => if n ≤ 0 then (c, true, l :: r) else if l.f0 ≤ n then takeL r (n - l.f0) (c + l.f1) else (c + (l.f1 * n).tdiv l.f0, true, ⟨l.f0 - n, l.f1 - (l.f1 * n).tdiv l.f0⟩ :: r)
def lotsOk (xs : List S44) : Prop := ∀ l ∈ xs, 1 ≤ l.f0 ∧ l.f0 ≤ 1000000 ∧ 0 ≤ l.f1 ∧ l.f1 ≤ 1000000000000
theorem lot_first {W : World} {base : Nat} {ok : Nat → Prop} {v : Value} {l : S44} {r : List S44} (h : Kd.Q k44 44 W base ok v (l :: r)) :
    ∃ g o cap, v = .slice (some ⟨g, o, none⟩) (r.length + 1) cap ∧ r.length + 1 ≤ cap ∧ W.cell? ⟨g, o, none⟩ = some (.int .i64 l.f0) ∧ W.cell? ⟨g, o + 1, none⟩ = some (.int .i64 l.f1) ∧ W.frozen? ⟨g, o, none⟩ = false ∧ W.frozen? ⟨g, o + 1, none⟩ = false ∧ ok g := by
  obtain ⟨g, o, cap, rfl, _, _, _⟩ := Kd.Q_form h (by simp)
  obtain ⟨c, hcl, hM, hc, hf⟩ := Kd.Q_elem h z44 0 (by omega) (by simp)
  obtain rfl := k44_openM hM
  exact ⟨g, o, cap, rfl, (Kd.Q_reads' h).2.1, by simpa using hc 0 _ rfl, by simpa using hc 1 _ rfl, by simpa using hf 0, by simpa using hf 1, h.1 g (by simp [Value.ownBlock])⟩
theorem lot_set {W : World} {base : Nat} {ok : Nat → Prop} {g o n cap : Nat} {l : S44} {r : List S44} (h : Kd.Q k44 44 W base ok (.slice (some ⟨g, o, none⟩) n cap) (l :: r)) (a b : Int) :
    Kd.Q k44 44 ((W.setCell ⟨g, o, none⟩ (.int .i64 a)).setCell ⟨g, o + 1, none⟩ (.int .i64 b)) base ok (.slice (some ⟨g, o, none⟩) n cap) (⟨a, b⟩ :: r) ∧ W.grownBy ((W.setCell ⟨g, o, none⟩ (.int .i64 a)).setCell ⟨g, o + 1, none⟩ (.int .i64 b)) (some g) := by
  have hn : n = (l :: r).length := (Kd.Q_reads' h).1
  obtain ⟨c, hcl, hM, hc, hf⟩ := Kd.Q_elem h z44 0 (by omega) (by rw [hn]; simp)
  have hlen : c.length = 2 := hcl
  have := Kd.Q_seg (okp := fun _ => False) h 0 (by omega) (by rw [hn]; simp) hcl hc (seg := [.int .i64 a, .int .i64 b]) (j := 0) (by show 0 + 2 ≤ 2; omega) (x' := ⟨a, b⟩) (by
    have e : c.take 0 ++ [Value.int .i64 a, Value.int .i64 b] ++ c.drop (0 + [Value.int .i64 a, Value.int .i64 b].length) = [Value.int .i64 a, Value.int .i64 b] := by rw [List.drop_of_length_le (by rw [hlen]; show 2 ≤ 0 + 2; omega)]; rfl
    rw [e]; exact k44_mkM _ _ _ ⟨a, b⟩) (fun _ hk => hk.elim)
  simpa [World.setCells] using this
set_option maxHeartbeats 1600000 in
set_option maxRecDepth 100000 in
theorem stock_shelf_take.calls (gs : Nat) (v : Value) (xs : List S44) (n : Int) (base : Nat) (ok : Nat → Prop) (w : World) (hgs : w.heap[gs]? = some (.cells #[v] 78 (0, 0))) (hq : Kd.Q k44 44 w base ok v xs) (hok : ∀ k, ok k → k ≠ gs) (base0 : Nat) (hbg : base0 ≤ gs) (hbb : base0 ≤ base)
    (hxs : lotsOk xs) (hlen : xs.length ≤ 40) (hn0 : 0 < n) (hn1 : n ≤ 1000000) :
    Calls Try.prog 32 #[.pointer (some ⟨gs, 0, none⟩), .int .i64 n] w fun e w' => e = .returned (.tuple #[.int .i64 (takeL xs n 0).1, .bool (takeL xs n 0).2.1]) ∧ ∃ v', w'.heap[gs]? = some (.cells #[v'] 78 (0, 0)) ∧ Kd.Q k44 44 w' base ok v' (takeL xs n 0).2.2 ∧ v'.ownBlock = v.ownBlock ∧ Kept w w' (fun k => some k = v.ownBlock ∨ k = gs) ∧ Below base0 w w' := by
  have hu := Try.underlying44
  have hu2 := Try.underlying78
  have HQ := Aside0.mk hq
  have HG := Aside0.mk hgs
  clear hq hgs
  go_enter Try.func32, Try.ntmps32
  have HX := Aside0.mk hxs
  clear hxs
  go_wp2_with fail
  go_loopw [1, 6] (fun sn sc wr => ∃ (ys : List S44) (m c : Int), sn = .int .i64 m ∧ sc = .int .i64 c ∧ m ≤ 1000000 ∧ 0 ≤ c ∧ c ≤ (40 - ys.length) * 1000000000000 ∧ ys.length ≤ 40 ∧ Aside0 (takeL xs n 0 = takeL ys m c) ∧ Aside0 (lotsOk ys) ∧ ∃ v', Aside0 (wr.heap[gs]? = some (.cells #[v'] 78 (0, 0))) ∧ Aside0 (Kd.Q k44 44 wr base ok v' ys) ∧ Aside0 (v'.ownBlock = v.ownBlock) ∧ Aside0 (Kept w wr (fun k => some k = v.ownBlock ∨ k = gs)) ∧ Aside0 (Below base0 w wr)) (fun sn _ _ => (intOf sn).toNat)
  case atStart => exact ⟨xs, n, 0, rfl, rfl, hn1, by omega, by omega, hlen, ⟨rfl⟩, HX, v, HG, HQ, ⟨rfl⟩, ⟨Kept.refl _ _⟩, ⟨Below.refl _ _⟩⟩
  case round =>
    obtain ⟨ys, m, c, rfl, rfl, hm1, hc0, hc1, hyl, HT, HY, v', HG', HQ', HO, HK, HB⟩ := hrel
    clear HX HQ HG
    by_cases hm : 0 < m
    · have hmd : decide (0 < m) = true := decide_eq_true hm
      have hgc : wr.cell? ⟨gs, 0, none⟩ = some v' := (blk_cell HG'.out 0).trans rfl
      have hgf := blk_frozen HG'.out 0
      cases ys with
      | nil =>
        obtain ⟨A, cp, rfl, _⟩ := Kd.Q_slice HQ'.out
        have e : takeL xs n 0 = (0, false, []) := by rw [HT.out]; simp only [takeL]; rw [if_neg (by omega)]
        go_wp2_with fail
        go_ret2
        first | exact ⟨rfl, _, HG'.out, HQ'.out, HO.out, HK.out, HB.out⟩ | (rw [e]; exact ⟨rfl, _, HG'.out, HQ'.out, HO.out, HK.out, HB.out⟩)
      | cons l r =>
        obtain ⟨g, o, cap, rfl, hcap, hl0, hl1, hf0, hf1, hog⟩ := lot_first HQ'.out
        obtain ⟨hb0, hb1, hb2, hb3⟩ := HY.out l (by simp)
        have ht := HT.out
        simp only [takeL] at ht
        rw [if_neg (by omega)] at ht
        have HT1 := Aside0.mk ht
        clear ht HT
        by_cases hle : l.f0 ≤ m
        · have hld : decide (l.f0 ≤ m) = true := decide_eq_true hle
          have hm0 : IntKind.i64.wrap (m - l.f0) = m - l.f0 := by rw [IntKind.wrap_i64]; omega
          have hc2 : IntKind.i64.wrap (c + l.f1) = c + l.f1 := by rw [IntKind.wrap_i64]; omega
          go_wp2_with fail
          go_quiet (fail)
          go_wp2_with fail
          have hs' : lotsOk r := fun y hy => HY.out y (by simp [hy])
          have hQ2 : Kd.Q k44 44 wr base ok (Value.slice (if cap = 1 then some ⟨g, o, none⟩ else some ⟨g, o + 2, none⟩) r.length (cap - 1)) r := by
            have h := Kd.Q_drop HQ'.out (k := 1) (by simp)
            have e1 : (Option.map (fun x : Addr => x.add (1 * (k44).sz)) (some (⟨g, o, none⟩ : Addr))) = some ⟨g, o + 2, none⟩ := by show some (Addr.add ⟨g, o, none⟩ 2) = _; simp [Addr.add]
            rw [e1] at h
            simpa using h
          have hO2 : (Value.slice (if cap = 1 then some (⟨g, o, none⟩ : Addr) else some ⟨g, o + 2, none⟩) r.length (cap - 1)).ownBlock = v.ownBlock := by
            rw [← HO.out]; split <;> simp [Value.ownBlock]
          simp only [List.length_cons] at hc1 hyl
          refine ⟨⟨r, m - l.f0, c + l.f1, rfl, rfl, by omega, by omega, by omega, by omega, ⟨by rw [HT1.out, if_pos hle]⟩, ⟨hs'⟩, _, ⟨blk_put (w := wr.drewN _) HG'.out 0 _ rfl⟩, ⟨Kd.Q_far (Kd.Q_drewN hQ2 _) hok _⟩, ⟨hO2⟩, ⟨?_⟩, ⟨(pw_below_drewN HB.out _).setCell hbg _⟩⟩, by simp [intOf]; omega⟩
          exact ⟨by have := HK.out.1; simpa [World.setCell] using this, fun i hi hn => (Below.heap_setCell (wr.drewN _) ⟨gs, 0, none⟩ _ i (fun e => hn (Or.inr e))).trans (HK.out.2 i hi hn)⟩
        · have hld : decide (l.f0 ≤ m) = false := decide_eq_false hle
          have hl0z : (l.f0 == 0) = false := by rw [beq_eq_false_iff_ne]; omega
          have hmul : IntKind.i64.wrap (l.f1 * m) = l.f1 * m := by
            have h1 : 0 ≤ l.f1 * m := Int.mul_nonneg hb2 (by omega)
            have h2 : l.f1 * m ≤ 1000000000000 * 1000000 := Int.mul_le_mul hb3 hm1 (by omega) (by omega)
            rw [IntKind.wrap_i64]; omega
          obtain ⟨q, hq⟩ : ∃ q, q = (l.f1 * m).tdiv l.f0 := ⟨_, rfl⟩
          have hq0 : 0 ≤ q ∧ q ≤ l.f1 := by
            have h1 : 0 ≤ l.f1 * m := Int.mul_nonneg hb2 (by omega)
            rw [hq, Int.tdiv_eq_ediv_of_nonneg h1]
            refine ⟨Int.ediv_nonneg h1 (by omega), ?_⟩
            have h3 : l.f1 * m ≤ l.f1 * l.f0 := Int.mul_le_mul_of_nonneg_left (by omega) hb2
            have h4 := Int.ediv_le_ediv (by omega : 0 < l.f0) h3
            rwa [Int.mul_ediv_cancel _ (by omega)] at h4
          have hqw : IntKind.i64.wrap ((l.f1 * m).tdiv l.f0) = q := by rw [← hq, IntKind.wrap_i64]; omega
          have hs0 : IntKind.i64.wrap (l.f0 - m) = l.f0 - m := by rw [IntKind.wrap_i64]; omega
          have hs1 : IntKind.i64.wrap (l.f1 - q) = l.f1 - q := by rw [IntKind.wrap_i64]; omega
          have hs2 : IntKind.i64.wrap (c + q) = c + q := by rw [IntKind.wrap_i64]; omega
          rw [hq] at hs1 hs2
          go_wp2_with fail
          go_quiet (fail)
          go_wp2_with fail
          go_region
          go_wp2_with fail
          go_ret2
          have e : takeL xs n 0 = (c + (l.f1 * m).tdiv l.f0, true, ⟨l.f0 - m, l.f1 - (l.f1 * m).tdiv l.f0⟩ :: r) := by rw [HT1.out, if_neg (by omega)]
          rw [e]
          have hset := lot_set (Kd.Q_drewN HQ'.out (nq + 1)) (l.f0 - m) (l.f1 - (l.f1 * m).tdiv l.f0)
          have hgg : gs ≠ g := fun h => hok g hog h.symm
          have hog2 : some g = v.ownBlock := by rw [← HO.out]; simp [Value.ownBlock]
          refine ⟨rfl, _, (Below.heap_setCell _ ⟨g, o + 1, none⟩ _ gs hgg).trans ((Below.heap_setCell _ ⟨g, o, none⟩ _ gs hgg).trans HG'.out), hset.1, HO.out, ⟨by have := HK.out.1; simpa [World.setCell] using this, fun i hi hn => ?_⟩, ?_⟩
          · have hig : i ≠ g := fun h => hn (Or.inl (by rw [h]; exact hog2))
            exact (Below.heap_setCell _ ⟨g, o + 1, none⟩ _ i hig).trans ((Below.heap_setCell _ ⟨g, o, none⟩ _ i hig).trans (HK.out.2 i hi hn))
          · have hbg2 : base0 ≤ g := Nat.le_trans hbb (Kd.Q_base HQ'.out g (by simp [Value.ownBlock]))
            exact ((pw_below_drewN HB.out _).setCell (p := ⟨g, o, none⟩) hbg2 _).setCell (p := ⟨g, o + 1, none⟩) hbg2 _
    · have hmd : decide (0 < m) = false := decide_eq_false hm
      have e : takeL xs n 0 = (c, true, ys) := by
        rw [HT.out]
        cases ys with
        | nil => simp only [takeL]; rw [if_pos (by omega)]
        | cons l r => simp only [takeL]; rw [if_pos (by omega)]
      go_wp2_with fail
      go_ret2
      first | exact ⟨rfl, v', HG'.out, HQ'.out, HO.out, HK.out, HB.out⟩ | (rw [e]; exact ⟨rfl, v', HG'.out, HQ'.out, HO.out, HK.out, HB.out⟩)

/-! ### stock_Fifo: function 9, by hand -/
theorem takeL_ok : ∀ {s : List S44} {n c : Int}, lotsOk s → lotsOk (takeL s n c).2.2 ∧ (takeL s n c).2.2.length ≤ s.length
  | [], n, c, h => by simp only [takeL]; split <;> exact ⟨fun l hl => absurd hl (by simp), Nat.le_refl _⟩
  | l :: r, n, c, h => by
    obtain ⟨h0, h1, h2, h3⟩ := h l (by simp)
    have hr : lotsOk r := fun y hy => h y (by simp [hy])
    simp only [takeL]
    split
    · exact ⟨h, Nat.le_refl _⟩
    · split
      · obtain ⟨h4, h5⟩ := takeL_ok (n := n - l.f0) (c := c + l.f1) hr
        exact ⟨h4, by simp; omega⟩
      · rename_i hn hle
        refine ⟨fun y hy => ?_, by simp⟩
        rcases List.mem_cons.1 hy with rfl | hy
        · have h6 : 0 ≤ l.f1 * n := Int.mul_nonneg h2 (by omega)
          have h7 : 0 ≤ (l.f1 * n).tdiv l.f0 ∧ (l.f1 * n).tdiv l.f0 ≤ l.f1 := by
            rw [Int.tdiv_eq_ediv_of_nonneg h6]
            refine ⟨Int.ediv_nonneg h6 (by omega), ?_⟩
            have h8 : l.f1 * n ≤ l.f1 * l.f0 := Int.mul_le_mul_of_nonneg_left (by omega) h2
            have h9 := Int.ediv_le_ediv (by omega : 0 < l.f0) h8
            rwa [Int.mul_ediv_cancel _ (by omega)] at h9
          exact ⟨by show 1 ≤ l.f0 - n; omega, by show l.f0 - n ≤ 1000000; omega, by show 0 ≤ l.f1 - _; omega, by show l.f1 - _ ≤ 1000000000000; omega⟩
        · exact hr y hy
def fifoLoop : List S35 → List Int → List S44 → Option (List Int × List S44)
  | [], o, s => some (o, s)
  | m :: r, o, s => if 0 < m.f0 then fifoLoop r o (s ++ [⟨m.f0, m.f1⟩]) else if (takeL s (-m.f0) 0).2.1 = false then none else fifoLoop r (o ++ [(takeL s (-m.f0) 0).1]) (takeL s (-m.f0) 0).2.2
def fifoR (l : List S35) : List Int × List S44 × Int :=
  if lookR l ≠ 0 then ([], [], lookR l) else match fifoLoop l [] [] with | none => ([], [], 8) | some (o, s) => (o, s, 0)
def stock_Fifo.f (l : List S35) : Option (List Int × List S44 × Int) := some (fifoR l)
theorem movesLoop_mem : ∀ {l : List S35}, movesLoop l = 0 → ∀ x ∈ l, moveE x = 0
  | [], _, x, hx => absurd hx (by simp)
  | y :: r, h, x, hx => by
    simp only [movesLoop] at h
    by_cases h1 : moveE y = 0
    · rw [if_neg (by simp [h1])] at h
      rcases List.mem_cons.1 hx with rfl | hx
      · exact h1
      · exact movesLoop_mem h x hx
    · rw [if_pos h1] at h; exact absurd h h1
theorem moveE_ok {x : S35} (h : moveE x = 0) : x.f0 ≠ 0 ∧ -1000000 ≤ x.f0 ∧ x.f0 ≤ 1000000 ∧ 0 ≤ x.f1 ∧ x.f1 ≤ 1000000000000 := by
  unfold moveE at h
  split at h
  · exact absurd h (by decide)
  · rename_i h1; omega
theorem lookR_parts {l : List S35} (h : lookR l = 0) : l.length ≤ 40 ∧ movesLoop l = 0 := by
  unfold lookR at h
  split at h
  · exact absurd h (by decide)
  · exact ⟨by omega, h⟩
set_option maxHeartbeats 1600000 in
set_option maxRecDepth 100000 in
theorem stock_Fifo.calls (A0 : Option Addr) (c0 : Nat) (l0 : List (S35)) (r1 : List Int) (r2 : List S44) (r3 : Int) (w : World) (hr0 : Kd.C k35 w A0 l0.length l0) (hc0 : l0.length ≤ c0) (h : stock_Fifo.f l0 = some (r1, r2, r3)) :
    Calls Try.prog 9 #[.slice A0 l0.length c0] w fun e w' => ∃ v0_ v1_ : Value, e = .returned (.tuple #[v0_, v1_, .int .i64 r3]) ∧ Kd.R (Kd.int .i64) 3 w' w.heap.size (fun _ => True) v0_ r1 ∧ Kd.R k44 44 w' w.heap.size (fun _ => True) v1_ r2 ∧ Below w.heap.size w w' := by
  have HR := Aside0.mk hr0
  have hh : fifoR l0 = (r1, r2, r3) := by unfold stock_Fifo.f at h; exact Option.some.inj h
  have HH := Aside0.mk hh
  clear hr0 h hh
  have hu := Try.underlying35
  have hu1 := Try.underlying44
  have hu2 := Try.underlying78
  go_enter Try.func9, Try.ntmps9
  go_wp2_with fail
  refine (stock_lookT.calls A0 c0 l0 (lookR l0) _ HR.out hc0 rfl).mono ?_
  rintro e w1 ⟨rfl, hb⟩
  have HB1 := Aside0.mk hb
  clear hb
  by_cases hlook : lookR l0 = 0
  · obtain ⟨z, hz⟩ : ∃ z, z = lookR l0 := ⟨_, rfl⟩
    have hz0 : z = 0 := hz.trans hlook
    rw [← hz]
    subst hz0
    clear hz
    have hparts := lookR_parts hlook
    have hh := HH.out
    unfold fifoR at hh
    rw [if_neg (by simp [hlook])] at hh
    have HH1 := Aside0.mk hh
    have HP := Aside0.mk hparts.2
    have h40 := hparts.1
    clear hlook hparts hh HH
    go_wp2_with fail
    go_loopw [7, 19] (fun so si wr => ∃ (k : Nat) (ki : Int) (os : List Int) (ss : List S44), k ≤ l0.length ∧ si = .int .i64 ki ∧ Aside0 (ki = k) ∧ os.length ≤ k ∧ ss.length ≤ k ∧ Aside0 (fifoLoop l0 [] [] = fifoLoop (l0.drop k) os ss) ∧ Aside0 (lotsOk ss) ∧ Aside0 (Kd.R (Kd.int .i64) 3 wr (w1.heap.size + 1) (fun k => w1.heap.size + 1 ≤ k) so os) ∧ ∃ v', Aside0 (wr.heap[w1.heap.size]? = some (.cells #[v'] 78 (0, 0))) ∧ Aside0 (Kd.Q k44 44 wr (w1.heap.size + 1) (fun k => w1.heap.size + 1 ≤ k) v' ss) ∧ Aside0 (Below w.heap.size w wr))
      (fun _ si _ => l0.length - (intOf si).toNat)
    case atStart => exact ⟨0, 0, [], [], Nat.zero_le _, rfl, ⟨rfl⟩, Nat.le_refl _, Nat.le_refl _, ⟨rfl⟩, ⟨fun l hl => absurd hl (by simp)⟩, ⟨Kd.R_nil _ _ _ _ _⟩, _, ⟨heap_alloc_new _ _⟩, ⟨Kd.Q_nil _ _ _ _ _⟩, ⟨below_alloc HB1.out _⟩⟩
    case round =>
      obtain ⟨k, ki, os, ss, hk, rfl, HKI, hol, hsl, HF, HS, HO, v', HG, HQ, HB⟩ := hrel
      have hki := HKI.out
      have hs1 : w.heap.size ≤ w1.heap.size := HB1.out.size
      have hsr : w1.heap.size < wr.heap.size := blk_lt HG.out
      by_cases hlt : k < l0.length
      · have hp0 : 0 ≤ ki := by omega
        have hp1 : ki < (l0.length : Int) := by omega
        have hpd : decide (ki < (l0.length : Int)) = true := decide_eq_true hp1
        obtain ⟨ad, hA, h0, h1⟩ := at_T35 HR.out ki hp0 hp1
        subst hA
        replace h0 := (HB.out.cell (World.block_lt_of_cell? w _ h0)).trans h0
        replace h1 := (HB.out.cell (World.block_lt_of_cell? w _ h1)).trans h1
        have hg : rd_T35 l0 ki = l0[k] := by rw [hki]; simp [rd_T35, List.getD_eq_getElem?_getD, hlt]
        rw [hg] at h0 h1
        obtain ⟨m, hm⟩ : ∃ m, m = l0[k] := ⟨_, rfl⟩
        rw [← hm] at h0 h1
        obtain ⟨hm0, hm1, hm2, hm3, hm4⟩ := moveE_ok (movesLoop_mem HP.out m (by rw [hm]; exact List.getElem_mem hlt))
        have hf := HF.out
        rw [List.drop_eq_getElem_cons hlt, ← hm] at hf
        simp only [fifoLoop] at hf
        have HF1 := Aside0.mk hf
        have hiw : IntKind.i64.wrap (ki + 1) = ki + 1 := by rw [IntKind.wrap_i64]; omega
        clear hf HF hm hg hki
        by_cases hpos : 0 < m.f0
        · have hpd2 : decide (0 < m.f0) = true := decide_eq_true hpos
          have hgc : wr.cell? ⟨w1.heap.size, 0, none⟩ = some v' := (blk_cell HG.out 0).trans rfl
          obtain ⟨A, cp, rfl, _⟩ := Kd.Q_slice HQ.out
          have hne : some w1.heap.size ≠ (Value.slice A ss.length cp).ownBlock := fun e => by have := HQ.out.1 _ e.symm; omega
          have HNE := Aside0.mk hne
          clear hne
          go_wp2_with ((with_reducible refine gate_builtin (b := .append) (xs := #[.tmp 26, .tmp 32]) rfl ?_); go_loud (at_builtin; refine Kd.Q_append k44 (w0 := wr.alloc (.cells #[.int .i64 m.f0, .int .i64 m.f1] 35)) (w1.heap.size + 1) rfl (.tmp 26) (.tmp 32) 78 44 (.agg #[(.int .i64 0), (.int .i64 0)]) 16 rfl Try.underlying78 (by kernel_rfl) rfl (by decide) (by omega) (.slice A ss.length cp) ss ⟨m.f0, m.f1⟩ [.int .i64 m.f0, .int .i64 m.f1] (fun k => w1.heap.size + 1 ≤ k) (fun _ => False) rfl (by simp; rfl) (k44_mkM _ _ _ ⟨m.f0, m.f1⟩) (fun _ hk => hk.elim) (fun k hk => by simp at hk; show w1.heap.size + 1 ≤ k; omega) (Kd.Q_alloc HQ.out _) (Below.refl _ _) (by simp; omega) (by omega) ?_; intro v1 w3 hq3 hb3 hg3 hat; obtain ⟨A3, cp3, rfl, _⟩ := Kd.Q_slice hq3; have hg4 := (hg3.block w1.heap.size (by simp; omega) HNE.out).trans ((Below.heap_alloc wr _ _ hsr).trans HG.out); have hgc3 : w3.cell? ⟨w1.heap.size, 0, none⟩ = some (.slice A ss.length cp) := (blk_cell hg4 0).trans rfl; have hgf3 := blk_frozen hg4 0; have HG4 := Aside0.mk hg4; have HQ3 := Aside0.mk hq3; have HB3 := Aside0.mk hb3; have HGR := Aside0.mk hg3; clear hg4 hq3 hb3 hg3 hat))
          have hki := HKI.out
          go_roundw
          case measure => simp [intOf]; omega
          case rel =>
          refine ⟨k + 1, ki + 1, os, ss ++ [⟨m.f0, m.f1⟩], by omega, rfl, ⟨by omega⟩, by omega, by simp; omega, ⟨by rw [HF1.out, if_pos hpos]⟩, ⟨?_⟩, ⟨?_⟩, _, ⟨blk_put HG4.out 0 _ rfl⟩, ⟨?_⟩, ⟨?_⟩⟩
          · intro l hl
            rcases List.mem_append.1 hl with hl | hl
            · exact HS.out l hl
            · obtain rfl := List.mem_singleton.1 hl
              exact ⟨by show 1 ≤ m.f0; omega, by show m.f0 ≤ 1000000; omega, hm3, hm4⟩
          · exact Kd.R_far (p := ⟨w1.heap.size, 0, none⟩) (Kd.R_over' (Kd.R_alloc (HO.out) _) (Kd.Q_typed (Kd.Q_alloc HQ.out _)) (by decide) HGR.out) (fun k hk => by have : w1.heap.size + 1 ≤ k := hk; show k ≠ w1.heap.size; omega) _
          · have h := Kd.Q_far (p := ⟨w1.heap.size, 0, none⟩) HQ3.out (fun k hk => by have : w1.heap.size + 1 ≤ k := hk; show k ≠ w1.heap.size; omega) (.slice A3 (ss.length + 1) cp3)
            rw [List.length_append] at h
            exact h
          · exact ((below_alloc HB.out _).trans (HB3.out.mono (by omega))).setCell (p := ⟨w1.heap.size, 0, none⟩) hs1 _
        · have hpd2 : decide (0 < m.f0) = false := decide_eq_false hpos
          have hnw : IntKind.i64.wrap (-m.f0) = -m.f0 := by rw [IntKind.wrap_i64]; omega
          go_wp2_with fail
          refine (stock_shelf_take.calls w1.heap.size v' ss (-m.f0) (w1.heap.size + 1) (fun k => w1.heap.size + 1 ≤ k) _ ((Below.heap_alloc wr _ _ hsr).trans HG.out) (Kd.Q_alloc HQ.out _) (fun k hk => by have : w1.heap.size + 1 ≤ k := hk; omega) w.heap.size hs1 (by omega) HS.out (by omega) (by omega) (by omega)).mono ?_
          rintro e w3 ⟨rfl, v3, hg3, hq3, ho3, hk3, hb3⟩
          have hO3 : Kd.R (Kd.int .i64) 3 w3 (w1.heap.size + 1) (fun k => w1.heap.size + 1 ≤ k) _ os := Kd.R_mono (Kd.R_step (Kd.R_apart' (Kd.R_alloc HO.out _) (Kd.Q_typed (Kd.Q_alloc HQ.out _)) (by decide)) (fun k hk hlt => hk3.2 k hlt (fun h => by rcases h with h | h; exact hk.2 h; have h1 : w1.heap.size + 1 ≤ k := hk.1; omega))) (fun k hk => hk.1)
          have HO3 := Aside0.mk hO3
          have HG3 := Aside0.mk hg3
          have HQ3 := Aside0.mk hq3
          have HB3 := Aside0.mk (show Below w.heap.size w w3 from (below_alloc HB.out _).trans hb3)
          have hs3 : wr.heap.size < w3.heap.size := by have := hk3.1; simp at this; omega
          obtain ⟨htl, htn⟩ := takeL_ok (n := -m.f0) (c := 0) HS.out
          have HTL := Aside0.mk htl
          clear hO3 hg3 hq3 ho3 hk3 hb3 htl
          obtain ⟨⟨tc, tb, ts⟩, ht⟩ : ∃ z, z = takeL ss (-m.f0) 0 := ⟨_, rfl⟩
          rw [← ht] at HTL HQ3 htn ⊢
          have HF2 := Aside0.mk (show fifoLoop l0 [] [] = if tb = false then none else fifoLoop (l0.drop (k + 1)) (os ++ [tc]) ts by rw [HF1.out, if_neg (by omega), ← ht])
          clear ht HF1
          cases tb with
          | false =>
            have hh := HH1.out
            rw [HF2.out, if_pos rfl] at hh
            obtain ⟨rfl, rfl, rfl⟩ : [] = r1 ∧ [] = r2 ∧ 8 = r3 := by simpa using hh
            clear hh
            go_wp2_with fail
            refine bodyPost_ret (results_tmp3 rfl _ _ _) rfl ?_
            exact ⟨_, _, rfl, Kd.R_nil _ _ _ _ _, Kd.R_nil _ _ _ _ _, HB3.out⟩
          | true =>
            have hf := HF2.out
            rw [if_neg (show ¬ ((true : Bool) = false) by decide)] at hf
            have HF3 := Aside0.mk hf
            have hkl : k < l0.length := hlt
            clear hf HF2
            go_wp2_with ((with_reducible refine gate_builtin (b := .append) (xs := #[.tmp 43, .tmp 45]) rfl ?_); go_loud (at_builtin; refine Kd.R_append (Kd.int .i64) (w0 := w3) (w1.heap.size + 1) rfl (.tmp 43) (.tmp 45) 24 3 (.int .i64 0) 8 rfl Try.underlying24 (by kernel_rfl) rfl (by decide) (by omega) _ os tc [.int .i64 tc] (fun k => w1.heap.size + 1 ≤ k) (fun _ => False) rfl rfl rfl (fun _ hk => hk.elim) (fun k hk => by show w1.heap.size + 1 ≤ k; omega) HO3.out (Below.refl _ _) (by omega) (by omega) ?_; intro v5 w5 hr5 hb5 hg5 hat5; have HR5 := Aside0.mk hr5; have HB5 := Aside0.mk hb5; have HG5 := Aside0.mk hg5; clear hr5 hb5 hg5 hat5))
            have hki := HKI.out
            go_roundw
            case measure => simp [intOf]; omega
            case rel =>
            refine ⟨k + 1, ki + 1, os ++ [tc], ts, by omega, rfl, ⟨by omega⟩, by simp; omega, by omega, HF3, HTL, HR5, v3, ⟨?_⟩, ⟨?_⟩, ⟨HB3.out.trans (HB5.out.mono (by omega))⟩⟩
            · exact (HG5.out.block _ (by omega) (fun e => by have := HO3.out.1 _ e.symm; omega)).trans HG3.out
            · exact Kd.Q_over' HQ3.out (Kd.R_typed HO3.out) (by decide) HG5.out
      · have hpd : decide (ki < (l0.length : Int)) = false := decide_eq_false (by omega)
        have hgc : wr.cell? ⟨w1.heap.size, 0, none⟩ = some v' := (blk_cell HG.out 0).trans rfl
        obtain ⟨A, cp, rfl, _⟩ := Kd.Q_slice HQ.out
        have hkl : k = l0.length := by omega
        have hh := HH1.out
        rw [HF.out, hkl, List.drop_length] at hh
        simp only [fifoLoop] at hh
        obtain ⟨rfl, rfl, rfl⟩ : os = r1 ∧ ss = r2 ∧ 0 = r3 := by simpa using hh
        clear hh HF HH1
        go_wp2_with ((with_reducible refine gate_builtin (b := .append) (xs := #[.const (.slice none 0 0), .tmp 49]) rfl ?_); go_loud (at_builtin; refine YtlfbdcobpfainaaH.wpList_append_nil_rows k44 (Rr := k44.K wr) wr rfl (.const (.slice none 0 0)) (.tmp 49) 25 78 44 rfl (.agg #[(.int .i64 0), (.int .i64 0)]) 16 Try.underlying25 Try.underlying78 (by kernel_rfl) rfl (by decide) (by omega) ss A ss.length cp (fun _ => False) rfl rfl (Kd.Q_reads' HQ.out).2.2 (fun y cs hx => by rw [k44_open hx]; exact k44_mkM _ _ _ y) (fun _ h => h) (by omega) ?_; intro v5 w5 hr5 hg5; have HR5 := Aside0.mk hr5; have HG5 := Aside0.mk hg5; clear hr5 hg5))
        refine bodyPost_ret (results_tmp3 rfl _ _ _) rfl ?_
        have hb5 : Below wr.heap.size wr w5 := (Below.refl wr.heap.size wr).grown HG5.out (Nat.le_refl _) (fun k hk => by cases hk)
        exact ⟨_, _, rfl, Kd.R_mono (Kd.R_lower (Kd.R_below HO.out hb5) (by omega)) (fun _ _ => trivial), Kd.R_lower HR5.out HB.out.size, HB.out.trans (hb5.mono HB.out.size)⟩
  · have hcb : (lookR l0 == 0) = false := by rw [beq_eq_false_iff_ne]; exact hlook
    have hh := HH.out
    unfold fifoR at hh
    rw [if_pos hlook] at hh
    obtain ⟨rfl, rfl, rfl⟩ : [] = r1 ∧ [] = r2 ∧ lookR l0 = r3 := by simpa using hh
    clear hlook hh HH
    go_wp2_with fail
    refine bodyPost_ret (results_tmp3 rfl _ _ _) rfl ?_
    exact ⟨_, _, rfl, Kd.R_nil _ _ _ _ _, Kd.R_nil _ _ _ _ _, HB1.out⟩

/-! ### taltop_sum: function 14 -/
def taltop_sum.l0 : Nat → Int → List Int → Int → Int → Option (Int)
  | 0, _, _, _, _ => none
  | k + 1, x3, x6, x7, x8 => if x8 < x7 then (if 0 ≤ x8 then (if x8 < (x6.length : Int) then (taltop_sum.l0 k (wrap64 (x3 + (rd x6 x8))) x6 x7 (wrap64 (x8 + 1))) else (none)) else (none)) else (some x3)
def taltop_sum.f (k : Nat) (l0 : List Int) : Option (Int) := taltop_sum.l0 k 0 l0 (l0.length : Int) 0
theorem taltop_sum.mono_l : ∀ k, (∀ y0 y1 y2 y3, LeO (taltop_sum.l0 k y0 y1 y2 y3) (taltop_sum.l0 (k + 1) y0 y1 y2 y3))
  | 0 => fun _ _ _ _ r h => by simp [taltop_sum.l0] at h
  | k + 1 => by
    have ih0 := taltop_sum.mono_l k
    · intro y0 y1 y2 y3
      unfold taltop_sum.l0
      repeat' first
      | (with_reducible exact ih0 _ _ _ _)
      | (with_reducible exact LeO.refl _)
      | (with_reducible exact LeO.none _)
      | (with_reducible refine LeO.ite ?_ ?_)
      | (with_reducible refine LeO.bind ?_ (fun _ => ?_))
      | exact ih0 _ _ _ _
      | exact LeO.none _
      | refine LeO.ite ?_ ?_
      | refine LeO.bind ?_ (fun _ => ?_)
theorem taltop_sum.mono : ∀ a0 k, LeO (taltop_sum.f k a0) (taltop_sum.f (k + 1) a0) := by
  intro a0 k
  have ih0 := taltop_sum.mono_l k
  unfold taltop_sum.f
  repeat' first
      | (with_reducible exact ih0 _ _ _ _)
      | (with_reducible exact LeO.refl _)
      | (with_reducible exact LeO.none _)
      | (with_reducible refine LeO.ite ?_ ?_)
      | (with_reducible refine LeO.bind ?_ (fun _ => ?_))
      | exact ih0 _ _ _ _
      | exact LeO.none _
      | refine LeO.ite ?_ ?_
      | refine LeO.bind ?_ (fun _ => ?_)
set_option maxHeartbeats 8000000 in
set_option maxRecDepth 100000 in
theorem taltop_sum.calls (k : Nat) (A0 : Option Addr) (c0 : Nat) (l0 : List Int) (r : Int) (w : World) (hr0 : Kd.C (Kd.int .i64) w A0 l0.length l0) (hc0 : l0.length ≤ c0) (h : taltop_sum.f k l0 = some r) :
    Calls Try.prog 14 #[.slice A0 l0.length c0] w fun e w' => e = .returned (.int .i64 r) ∧ Drawn0 w w' := by
  have HR0 := Aside0.mk hr0
  have HC0 := Aside0.mk hc0
  clear hr0 hc0
  have H : (taltop_sum.l0 k 0 l0 (l0.length : Int) 0) = some r := h
  clear h
  have H' := Aside0.mk H
  clear H
  go_enter Try.func14, Try.ntmps14
  go_wp2
  go_loopg [3, 8] k (fun kq v3 v8 w' => ∃ (x3_1 : Int) (x8_1 : Int), v3 = .int .i64 x3_1 ∧ v8 = .int .i64 x8_1 ∧ Aside0 (taltop_sum.l0 kq x3_1 l0 (l0.length : Int) x8_1 = some r) ∧ Aside0 (kq ≤ k) ∧ Drawn0 w w')
  case atStart => exact ⟨(0), (0), (by first | rfl | (simp; done) | (simp [*]; done)), (by first | rfl | (simp; done) | (simp [*]; done)), H', ⟨Nat.le_refl _⟩, by repeat (first | exact Drawn0.refl _ | apply Drawn0.step)⟩
  case round =>
    clear H'
    try clear c1
    obtain ⟨x3_1, x8_1, rfl, rfl, HA, HK1, ⟨m1, rfl⟩⟩ := hrel
    cases gk with
    | zero => exact absurd HA.out (by simp [taltop_sum.l0])
    | succ k1 =>
      have H := HA.out
      clear HA
      simp only [taltop_sum.l0] at H
      by_cases c2 : x8_1 < (l0.length : Int)
      · rw [if_pos c2] at H
        have c2b0 : decide (x8_1 < (l0.length : Int)) = true := decide_eq_true c2
        clear c2
        by_cases c3 : 0 ≤ x8_1
        · rw [if_pos c3] at H
          have c3b0 : decide (0 ≤ x8_1) = true := decide_eq_true c3
          clear c3
          by_cases c4 : x8_1 < (l0.length : Int)
          · rw [if_pos c4] at H
            have c4b0 : decide (x8_1 < (l0.length : Int)) = true := decide_eq_true c4
            clear c4
            have H' := Aside0.mk H
            clear H
            have p185 : 0 ≤ (x8_1 : Int) := of_decide_eq_true (by first | (with_reducible assumption) | assumption)
            have q185 : x8_1 < (l0.length : Int) := of_decide_eq_true (by first | (with_reducible assumption) | assumption)
            obtain ⟨ad185, e185, hx185_0⟩ := Kd.at_int HR0.out x8_1 p185 q185
            cases e185
            replace p185 := eq_true p185
            replace q185 := eq_true q185
            go_wp2
            go_roundg k1
            case measure => have := HK1.out; omega
            case rel => exact ⟨(wrap64 (x3_1 + (rd l0 x8_1))), (wrap64 (x8_1 + 1)), (by first | rfl | (simp; done) | (simp [*]; done)), (by first | rfl | (simp; done) | (simp [*]; done)), H', ⟨by have := HK1.out; omega⟩, by repeat (first | exact Drawn0.refl _ | apply Drawn0.step)⟩
          · rw [if_neg c4] at H
            exact absurd H (by simp)
        · rw [if_neg c3] at H
          exact absurd H (by simp)
      · rw [if_neg c2] at H
        have c2b0 : decide (x8_1 < (l0.length : Int)) = false := decide_eq_false c2
        clear c2
        obtain rfl := Option.some.inj H
        go_wp2
        go_ret
        exact ⟨by first | rfl | (simp; done) | (simp [*]; done), by repeat (first | exact Drawn0.refl _ | apply Drawn0.step)⟩

end Go.Proofs.Ytlfbdcobpfainaa.Q
