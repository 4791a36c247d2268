/- Part of the proof, with what it needs of the printed words alone. -/
import Derived.Test.YtlfbdcobpfainaaTS0
import Derived.Test.YtlfbdcobpfainaaTS2
import Derived.Test.YtlfbdcobpfainaaTS3
namespace Go.Proofs.Ytlfbdcobpfainaa.S
open Go.RowKit Go.Proofs.YtlfbdcobpfainaaW.PrintWords Go.Proofs.YtlfbdcobpfainaaW.PrintLast Go.Proofs.YtlfbdcobpfainaaW.PrintMore
attribute [local go_sem] max2_int min2_int max_two min_two max_three min_three max_four min_four
set_option linter.unusedVariables false
set_option linter.unusedSimpArgs false
mutual
def acct_Check.l0 : Nat → List (S82) → List (S82) → Int → Int → Option (Int)
  | 0, _, _, _, _ => none
  | k + 1, x0, x8, x9, x10 => if x10 < x9 then (if 0 ≤ x10 then (if x10 < (x8.length : Int) then ((acct_CodeT.f ((rd_T82 x8 x10).f0)).bind fun t123 => (if t123 = true then (if ((rd_T82 x8 x10).f1) < 0 then (acct_Check.j1 k x0 x10 x8 x9 x10 true ((rd_T82 x8 x10).f0) ((rd_T82 x8 x10).f1)) else (acct_Check.j1 k x0 x10 x8 x9 x10 (decide (((rd_T82 x8 x10).f1) > 4)) ((rd_T82 x8 x10).f0) ((rd_T82 x8 x10).f1))) else (some 3))) else (none)) else (none)) else (some 0)
def acct_Check.j1 : Nat → List (S82) → Int → List (S82) → Int → Int → Bool → ByteArray → Int → Option (Int)
  | 0, _, _, _, _, _, _, _, _ => none
  | k + 1, x0, x3, x8, x9, x10, x26, x123000, x123001 => if x26 = true then (some 1) else (if x3 > 0 then (if 0 ≤ (wrap64 (x3 - 1)) then (if (wrap64 (x3 - 1)) < (x0.length : Int) then (if ((Op.bytesLess (((rd_T82 x0 (wrap64 (x3 - 1))).f0).toList) x123000.toList) = true) then (acct_Check.l0 k x0 x8 x9 (wrap64 (x10 + 1))) else (some 3)) else (none)) else (none)) else (acct_Check.l0 k x0 x8 x9 (wrap64 (x10 + 1))))
end
def acct_Check.f (k : Nat) (l0 : List (S82)) : Option (Int) := if (l0.length : Int) > 24 then (some 2) else (acct_Check.l0 k l0 l0 (l0.length : Int) 0)
theorem acct_Check.mono_l : ∀ k, (∀ y0 y1 y2 y3, LeO (acct_Check.l0 k y0 y1 y2 y3) (acct_Check.l0 (k + 1) y0 y1 y2 y3)) ∧ (∀ y0 y1 y2 y3 y4 y5 y6 y7, LeO (acct_Check.j1 k y0 y1 y2 y3 y4 y5 y6 y7) (acct_Check.j1 (k + 1) y0 y1 y2 y3 y4 y5 y6 y7))
  | 0 => ⟨fun _ _ _ _ r h => by simp [acct_Check.l0] at h, fun _ _ _ _ _ _ _ _ r h => by simp [acct_Check.j1] at h⟩
  | k + 1 => by
    obtain ⟨ih0, ih1⟩ := acct_Check.mono_l k
    refine ⟨?_, ?_⟩
    · intro y0 y1 y2 y3
      unfold acct_Check.l0
      repeat' first
      | (with_reducible exact ih0 _ _ _ _)
      | (with_reducible exact ih1 _ _ _ _ _ _ _ _)
      | (with_reducible exact LeO.refl _)
      | (with_reducible exact LeO.none _)
      | (with_reducible refine LeO.ite ?_ ?_)
      | (with_reducible refine LeO.bind ?_ (fun _ => ?_))
      | exact ih0 _ _ _ _
      | exact ih1 _ _ _ _ _ _ _ _
      | exact LeO.none _
      | refine LeO.ite ?_ ?_
      | refine LeO.bind ?_ (fun _ => ?_)
    · intro y0 y1 y2 y3 y4 y5 y6 y7
      unfold acct_Check.j1
      repeat' first
      | (with_reducible exact ih0 _ _ _ _)
      | (with_reducible exact ih1 _ _ _ _ _ _ _ _)
      | (with_reducible exact LeO.refl _)
      | (with_reducible exact LeO.none _)
      | (with_reducible refine LeO.ite ?_ ?_)
      | (with_reducible refine LeO.bind ?_ (fun _ => ?_))
      | exact ih0 _ _ _ _
      | exact ih1 _ _ _ _ _ _ _ _
      | exact LeO.none _
      | refine LeO.ite ?_ ?_
      | refine LeO.bind ?_ (fun _ => ?_)
theorem acct_Check.mono : ∀ a0 k, LeO (acct_Check.f k a0) (acct_Check.f (k + 1) a0) := by
  intro a0 k
  obtain ⟨ih0, ih1⟩ := acct_Check.mono_l k
  unfold acct_Check.f
  repeat' first
      | (with_reducible exact ih0 _ _ _ _)
      | (with_reducible exact ih1 _ _ _ _ _ _ _ _)
      | (with_reducible exact LeO.refl _)
      | (with_reducible exact LeO.none _)
      | (with_reducible refine LeO.ite ?_ ?_)
      | (with_reducible refine LeO.bind ?_ (fun _ => ?_))
      | exact ih0 _ _ _ _
      | exact ih1 _ _ _ _ _ _ _ _
      | exact LeO.none _
      | refine LeO.ite ?_ ?_
      | refine LeO.bind ?_ (fun _ => ?_)
set_option maxHeartbeats 8000000 in
set_option maxRecDepth 100000 in
theorem acct_Check.calls (k : Nat) (A0 : Option Addr) (c0 : Nat) (l0 : List (S82)) (r : Int) (w : World) (hr0 : Kd.C k82 w A0 l0.length l0) (hc0 : l0.length ≤ c0) (h : acct_Check.f k l0 = some r) :
    Calls Try.prog 68 #[.slice A0 l0.length c0] w fun e w' => e = .returned (.int .i64 r) ∧ Below w.heap.size w w' := by
  have hu82 := Try.underlying82
  have HR0 := Aside0.mk hr0
  have HC0 := Aside0.mk hc0
  clear hr0 hc0
  have HB := Aside0.mk (Below.refl w.heap.size w)
  have H : (if (l0.length : Int) > 24 then (some 2) else (acct_Check.l0 k l0 l0 (l0.length : Int) 0)) = some r := h
  clear h
  by_cases c2 : (l0.length : Int) > 24
  · rw [if_pos c2] at H
    have c2b0 : decide (24 < (l0.length : Int)) = true := decide_eq_true c2
    have c2b1 : decide (24 < l0.length) = true := decide_eq_true (by omega)
    clear c2
    obtain rfl := Option.some.inj H
    go_enter Try.func68, Try.ntmps68
    go_wp2
    repeat (go_quiet (fail); try go_wp2)
    go_ret
    exact ⟨by first | rfl | (simp [errW_none, errW_some] <;> rfl) | (simp [*, errW_none, errW_some] <;> rfl), by repeat (first | (with_reducible first | exact HB.out | apply below_alloc | apply pw_below_drewN | apply below_drew1) | exact HB.out)⟩
  · rw [if_neg c2] at H
    have c2b0 : decide (24 < (l0.length : Int)) = false := decide_eq_false c2
    have c2b1 : decide (24 < l0.length) = false := decide_eq_false (by omega)
    clear c2
    have H' := Aside0.mk H
    clear H
    go_enter Try.func68, Try.ntmps68
    go_wp2
    repeat (go_quiet (fail); try go_wp2)
    go_loopg [10] k (fun kq v10 w' => ∃ (x10_1 : Int), v10 = .int .i64 x10_1 ∧ Aside0 (acct_Check.l0 kq l0 l0 (l0.length : Int) x10_1 = some r) ∧ Aside0 (kq ≤ k) ∧ Aside0 (Below w.heap.size w w'))
    case atStart => exact ⟨(0), (by first | rfl | (simp; done) | (simp [*]; done)), H', ⟨Nat.le_refl _⟩, ⟨by repeat (first | (with_reducible first | exact HB.out | apply below_alloc | apply pw_below_drewN | apply below_drew1) | exact HB.out)⟩⟩
    case round =>
      clear H'
      try clear c2
      try clear c2b0
      try clear c2b1
      try clear p2
      obtain ⟨x10_1, rfl, HA, HK1, HB⟩ := hrel
      cases gk with
      | zero => exact absurd HA.out (by simp [acct_Check.l0])
      | succ k1 =>
        have H := HA.out
        clear HA
        simp only [acct_Check.l0] at H
        by_cases c3 : x10_1 < (l0.length : Int)
        · rw [if_pos c3] at H
          have c3b0 : decide (x10_1 < (l0.length : Int)) = true := decide_eq_true c3
          clear c3
          by_cases c4 : 0 ≤ x10_1
          · rw [if_pos c4] at H
            have c4b0 : decide (0 ≤ x10_1) = true := decide_eq_true c4
            clear c4
            by_cases c5 : x10_1 < (l0.length : Int)
            · rw [if_pos c5] at H
              have c5b0 : decide (x10_1 < (l0.length : Int)) = true := decide_eq_true c5
              clear c5
              replace H := Option.bind_eq_some_iff.mp H
              obtain ⟨t123, A60, H⟩ := H
              replace H : (if t123 = true then (if ((rd_T82 l0 x10_1).f1) < 0 then (acct_Check.j1 k1 l0 x10_1 l0 (l0.length : Int) x10_1 true ((rd_T82 l0 x10_1).f0) ((rd_T82 l0 x10_1).f1)) else (acct_Check.j1 k1 l0 x10_1 l0 (l0.length : Int) x10_1 (decide (((rd_T82 l0 x10_1).f1) > 4)) ((rd_T82 l0 x10_1).f0) ((rd_T82 l0 x10_1).f1))) else (some 3)) = some r := H
              have A6 := Aside0.mk A60
              clear A60
              by_cases c7 : t123 = true
              · subst c7
                have H1 : (if ((rd_T82 l0 x10_1).f1) < 0 then (acct_Check.j1 k1 l0 x10_1 l0 (l0.length : Int) x10_1 true ((rd_T82 l0 x10_1).f0) ((rd_T82 l0 x10_1).f1)) else (acct_Check.j1 k1 l0 x10_1 l0 (l0.length : Int) x10_1 (decide (((rd_T82 l0 x10_1).f1) > 4)) ((rd_T82 l0 x10_1).f0) ((rd_T82 l0 x10_1).f1))) = some r := by rw [if_pos rfl] at H; exact H
                clear H
                have H := H1
                clear H1
                have HC8 := Aside0.mk H
                clear H
                have p121 : 0 ≤ (x10_1 : Int) := of_decide_eq_true (by first | (with_reducible assumption) | assumption)
                have q121 : x10_1 < (l0.length : Int) := of_decide_eq_true (by first | (with_reducible assumption) | assumption)
                obtain ⟨ad121, e121, hx121_0, hx121_1⟩ := at_T82 HR0.out x10_1 p121 q121
                cases e121
                replace hx121_0 := (HB.out.cell (World.block_lt_of_cell? w _ hx121_0)).trans hx121_0
                replace hx121_1 := (HB.out.cell (World.block_lt_of_cell? w _ hx121_1)).trans hx121_1
                replace p121 := eq_true p121
                replace q121 := eq_true q121
                go_upto_region 8 with (first | ((with_reducible refine gate_dst (N := 4) rfl ?_); refine box_event ?hg (N := 4) ?hd (cs := #[.string (⟨#[]⟩ : ByteArray), .int .i64 0]) (t := 82) ?hr ?_; (case hd => rfl); (case hg => rfl); (case hr => first | (go_simp; done) | (go_simp; rfl)); intro gb122 hg w9 hbox hb; have n0_ := Aside0.mk (below_step (by repeat (first | (with_reducible first | exact HB.out | apply below_alloc | apply pw_below_drewN | apply below_drew1) | exact HB.out)) hb); have n1_ := Aside0.mk (hbox); have n2_ := Aside0.mk ((by rw [hg]; exact (below_size (by repeat (first | (with_reducible first | exact HB.out | apply below_alloc | apply pw_below_drewN | apply below_drew1) | exact HB.out))) : w.heap.size ≤ gb122)); have n3_ := Aside0.mk ((by rw [hg]; exact (below_size (by repeat (first | (with_reducible first | exact HB.out | apply below_alloc | apply pw_below_drewN | apply below_drew1) | exact HB.out))) : w.heap.size ≤ gb122)); clear HB; have HB := n0_; have BK122 := n1_; have GW122 := n2_; have GE122 := n3_; clear n0_ n1_ n2_ n3_; clear hb hbox hg; have hcz10_0 : w9.cell? ⟨gb122, 0, none⟩ = some (.string (⟨#[]⟩ : ByteArray)) := (blk_cell BK122.out 0).trans rfl; have hcz10_1 : w9.cell? ⟨gb122, 1, none⟩ = some (.int .i64 0) := (blk_cell BK122.out 1).trans rfl; have hfz10_0 := blk_frozen BK122.out 0; have hfz10_1 := blk_frozen BK122.out 1) | (go_at_call 87; (with_reducible refine (acct_CodeT.calls ((rd_T82 l0 x10_1).f0) true _ A6.out).mono ?_); rintro e w' ⟨rfl, ⟨nd, rfl⟩⟩; (try first | exact ⟨rfl, _, World.drewN_drewN _ _ _⟩ | exact ⟨rfl, _, Eq.trans (World.drewN_drewN _ _ _) (congrArg (World.drewN _) (Nat.add_assoc _ _ _))⟩)))
                repeat (go_quiet (first | ((with_reducible refine gate_dst (N := 4) rfl ?_); refine box_event ?hg (N := 4) ?hd (cs := #[.string (⟨#[]⟩ : ByteArray), .int .i64 0]) (t := 82) ?hr ?_; (case hd => rfl); (case hg => rfl); (case hr => first | (go_simp; done) | (go_simp; rfl)); intro gb122 hg w9 hbox hb; have n0_ := Aside0.mk (below_step (by repeat (first | (with_reducible first | exact HB.out | apply below_alloc | apply pw_below_drewN | apply below_drew1) | exact HB.out)) hb); have n1_ := Aside0.mk (hbox); have n2_ := Aside0.mk ((by rw [hg]; exact (below_size (by repeat (first | (with_reducible first | exact HB.out | apply below_alloc | apply pw_below_drewN | apply below_drew1) | exact HB.out))) : w.heap.size ≤ gb122)); have n3_ := Aside0.mk ((by rw [hg]; exact (below_size (by repeat (first | (with_reducible first | exact HB.out | apply below_alloc | apply pw_below_drewN | apply below_drew1) | exact HB.out))) : w.heap.size ≤ gb122)); clear HB; have HB := n0_; have BK122 := n1_; have GW122 := n2_; have GE122 := n3_; clear n0_ n1_ n2_ n3_; clear hb hbox hg; have hcz10_0 : w9.cell? ⟨gb122, 0, none⟩ = some (.string (⟨#[]⟩ : ByteArray)) := (blk_cell BK122.out 0).trans rfl; have hcz10_1 : w9.cell? ⟨gb122, 1, none⟩ = some (.int .i64 0) := (blk_cell BK122.out 1).trans rfl; have hfz10_0 := blk_frozen BK122.out 0; have hfz10_1 := blk_frozen BK122.out 1) | (go_at_call 87; (with_reducible refine (acct_CodeT.calls ((rd_T82 l0 x10_1).f0) true _ A6.out).mono ?_); rintro e w' ⟨rfl, ⟨nd, rfl⟩⟩; (try first | exact ⟨rfl, _, World.drewN_drewN _ _ _⟩ | exact ⟨rfl, _, Eq.trans (World.drewN_drewN _ _ _) (congrArg (World.drewN _) (Nat.add_assoc _ _ _))⟩))); go_upto_region 8 with (first | ((with_reducible refine gate_dst (N := 4) rfl ?_); refine box_event ?hg (N := 4) ?hd (cs := #[.string (⟨#[]⟩ : ByteArray), .int .i64 0]) (t := 82) ?hr ?_; (case hd => rfl); (case hg => rfl); (case hr => first | (go_simp; done) | (go_simp; rfl)); intro gb122 hg w9 hbox hb; have n0_ := Aside0.mk (below_step (by repeat (first | (with_reducible first | exact HB.out | apply below_alloc | apply pw_below_drewN | apply below_drew1) | exact HB.out)) hb); have n1_ := Aside0.mk (hbox); have n2_ := Aside0.mk ((by rw [hg]; exact (below_size (by repeat (first | (with_reducible first | exact HB.out | apply below_alloc | apply pw_below_drewN | apply below_drew1) | exact HB.out))) : w.heap.size ≤ gb122)); have n3_ := Aside0.mk ((by rw [hg]; exact (below_size (by repeat (first | (with_reducible first | exact HB.out | apply below_alloc | apply pw_below_drewN | apply below_drew1) | exact HB.out))) : w.heap.size ≤ gb122)); clear HB; have HB := n0_; have BK122 := n1_; have GW122 := n2_; have GE122 := n3_; clear n0_ n1_ n2_ n3_; clear hb hbox hg; have hcz10_0 : w9.cell? ⟨gb122, 0, none⟩ = some (.string (⟨#[]⟩ : ByteArray)) := (blk_cell BK122.out 0).trans rfl; have hcz10_1 : w9.cell? ⟨gb122, 1, none⟩ = some (.int .i64 0) := (blk_cell BK122.out 1).trans rfl; have hfz10_0 := blk_frozen BK122.out 0; have hfz10_1 := blk_frozen BK122.out 1) | (go_at_call 87; (with_reducible refine (acct_CodeT.calls ((rd_T82 l0 x10_1).f0) true _ A6.out).mono ?_); rintro e w' ⟨rfl, ⟨nd, rfl⟩⟩; (try first | exact ⟨rfl, _, World.drewN_drewN _ _ _⟩ | exact ⟨rfl, _, Eq.trans (World.drewN_drewN _ _ _) (congrArg (World.drewN _) (Nat.add_assoc _ _ _))⟩))))
                (try simp only [Act.put, List.setIfInBounds_toArray, List.set_cons_zero, List.set_cons_succ])
                go_cut [26] (fun v26 wc => ∃ (kq : Nat) (x26_7 : Bool), v26 = .bool x26_7 ∧ Aside0 (acct_Check.j1 kq l0 x10_1 l0 (l0.length : Int) x10_1 x26_7 ((rd_T82 l0 x10_1).f0) ((rd_T82 l0 x10_1).f1) = some r) ∧ Aside0 (kq ≤ k1) ∧ Aside0 (wc.heap[gb122]? = some (.cells #[.string ((rd_T82 l0 x10_1).f0), .int .i64 ((rd_T82 l0 x10_1).f1)] 82 (0, 0))) ∧ Aside0 (Below w.heap.size w wc))
                case first =>
                  have H := HC8.out
                  clear HC8
                  by_cases c11 : ((rd_T82 l0 x10_1).f1) < 0
                  · rw [if_pos c11] at H
                    have c11b0 : decide (((rd_T82 l0 x10_1).f1) < 0) = true := decide_eq_true c11
                    clear c11
                    (first | rw [c11b0] | (simp only [i64_w, i32_w]; rw [c11b0]) | skip)
                    have H' := Aside0.mk H
                    clear H
                    have hcz12_0 : w9.cell? ⟨gb122, 0, none⟩ = some (.string (⟨#[]⟩ : ByteArray)) := (blk_cell BK122.out 0).trans rfl
                    have hcz12_1 : w9.cell? ⟨gb122, 1, none⟩ = some (.int .i64 0) := (blk_cell BK122.out 1).trans rfl
                    have hfz12_0 := blk_frozen BK122.out 0
                    have hfz12_1 := blk_frozen BK122.out 1
                    go_wp2
                    repeat (go_quiet (fail); try go_wp2)
                    go_meet
                    case rel => exact ⟨_, (true), (by first | rfl | (simp; done) | (simp [*]; done)), H', ⟨by have := HK1.out; first | omega | exact Nat.le_refl _⟩, ⟨by (with_reducible repeat (first | refine blk_drewN ?_ _ | refine blk_drew ?_ | refine blk_alloc ?_ _)); refine blk_put (cs := #[.string ((rd_T82 l0 x10_1).f0), .int .i64 0]) ?_ 1 _ rfl; (with_reducible repeat (first | refine blk_drewN ?_ _ | refine blk_drew ?_ | refine blk_alloc ?_ _)); refine blk_put (cs := #[.string (⟨#[]⟩ : ByteArray), .int .i64 0]) ?_ 0 _ rfl; (with_reducible repeat (first | refine blk_drewN ?_ _ | refine blk_drew ?_ | refine blk_alloc ?_ _)); exact BK122.out⟩, ⟨by repeat (first | (with_reducible first | exact HB.out | apply below_alloc | apply pw_below_drewN | apply below_drew1 | refine below_set ?_ GE122.out) | exact HB.out)⟩⟩
                  · rw [if_neg c11] at H
                    have c11b0 : decide (((rd_T82 l0 x10_1).f1) < 0) = false := decide_eq_false c11
                    clear c11
                    (first | rw [c11b0] | (simp only [i64_w, i32_w]; rw [c11b0]) | skip)
                    have H' := Aside0.mk H
                    clear H
                    have hcz13_0 : w9.cell? ⟨gb122, 0, none⟩ = some (.string (⟨#[]⟩ : ByteArray)) := (blk_cell BK122.out 0).trans rfl
                    have hcz13_1 : w9.cell? ⟨gb122, 1, none⟩ = some (.int .i64 0) := (blk_cell BK122.out 1).trans rfl
                    have hfz13_0 := blk_frozen BK122.out 0
                    have hfz13_1 := blk_frozen BK122.out 1
                    go_wp2
                    repeat (go_quiet (fail); try go_wp2)
                    go_meet
                    case rel => exact ⟨_, (decide (((rd_T82 l0 x10_1).f1) > 4)), (by first | rfl | (simp; done) | (simp [*]; done)), H', ⟨by have := HK1.out; first | omega | exact Nat.le_refl _⟩, ⟨by (with_reducible repeat (first | refine blk_drewN ?_ _ | refine blk_drew ?_ | refine blk_alloc ?_ _)); refine blk_put (cs := #[.string ((rd_T82 l0 x10_1).f0), .int .i64 0]) ?_ 1 _ rfl; (with_reducible repeat (first | refine blk_drewN ?_ _ | refine blk_drew ?_ | refine blk_alloc ?_ _)); refine blk_put (cs := #[.string (⟨#[]⟩ : ByteArray), .int .i64 0]) ?_ 0 _ rfl; (with_reducible repeat (first | refine blk_drewN ?_ _ | refine blk_drew ?_ | refine blk_alloc ?_ _)); exact BK122.out⟩, ⟨by repeat (first | (with_reducible first | exact HB.out | apply below_alloc | apply pw_below_drewN | apply below_drew1 | refine below_set ?_ GE122.out) | exact HB.out)⟩⟩
                case rest =>
                  clear HC8
                  try clear c1
                  try clear p1
                  try clear q1
                  try clear hx1
                  try clear c2
                  try clear c2b0
                  try clear c2b1
                  try clear p2
                  try clear c3
                  try clear c3b0
                  try clear c4
                  try clear c4b0
                  try clear c5
                  try clear c5b0
                  try clear c6
                  try clear c7
                  try clear c11
                  try clear c11b0
                  try clear p12
                  try clear q12
                  try clear hx12
                  try clear hcz10_0
                  try clear hcz10_1
                  try clear hcz12_0
                  try clear hcz12_1
                  try clear hcz13_0
                  try clear hcz13_1
                  try clear hfz10_0
                  try clear hfz10_1
                  try clear hfz12_0
                  try clear hfz12_1
                  try clear hfz13_0
                  try clear hfz13_1
                  try clear hx121_0
                  try clear hx121_1
                  try clear p121
                  try clear p2
                  try clear q121
                  obtain ⟨kq, x26_7, rfl, HA, HJ7, BK122, HB⟩ := hcut
                  cases kq with
                  | zero => exact absurd HA.out (by simp [acct_Check.j1])
                  | succ kj7 =>
                    have H := HA.out
                    clear HA
                    simp only [acct_Check.j1] at H
                    by_cases c14 : x26_7 = true
                    · subst c14
                      have H1 : (some 1) = some r := by rw [if_pos rfl] at H; exact H
                      clear H
                      have H := H1
                      clear H1
                      obtain rfl := Option.some.inj H
                      go_wp2
                      repeat (go_quiet (fail); try go_wp2)
                      go_ret
                      exact ⟨by first | rfl | (simp [errW_none, errW_some] <;> rfl) | (simp [*, errW_none, errW_some] <;> rfl), by repeat (first | (with_reducible first | exact HB.out | apply below_alloc | apply pw_below_drewN | apply below_drew1 | refine below_set ?_ GE122.out) | exact HB.out)⟩
                    · replace c14 := Bool.eq_false_iff.mpr c14
                      subst c14
                      have H1 : (if x10_1 > 0 then (if 0 ≤ (wrap64 (x10_1 - 1)) then (if (wrap64 (x10_1 - 1)) < (l0.length : Int) then (if ((Op.bytesLess (((rd_T82 l0 (wrap64 (x10_1 - 1))).f0).toList) ((rd_T82 l0 x10_1).f0).toList) = true) then (acct_Check.l0 kj7 l0 l0 (l0.length : Int) (wrap64 (x10_1 + 1))) else (some 3)) else (none)) else (none)) else (acct_Check.l0 kj7 l0 l0 (l0.length : Int) (wrap64 (x10_1 + 1)))) = some r := by rw [if_neg (show ¬ (false = true) by decide)] at H; exact H
                      clear H
                      have H := H1
                      clear H1
                      by_cases c15 : x10_1 > 0
                      · rw [if_pos c15] at H
                        have c15b0 : decide (0 < x10_1) = true := decide_eq_true c15
                        clear c15
                        obtain ⟨ji16, hji16⟩ : ∃ j_ : Int, (wrap64 (x10_1 - 1)) = j_ := ⟨_, rfl⟩
                        replace H : (if 0 ≤ (ji16) then (if (ji16) < (l0.length : Int) then (if ((Op.bytesLess (((rd_T82 l0 (ji16)).f0).toList) ((rd_T82 l0 x10_1).f0).toList) = true) then (acct_Check.l0 kj7 l0 l0 (l0.length : Int) (wrap64 (x10_1 + 1))) else (some 3)) else (none)) else (none)) = some r := by first | (rw [hji16] at H; exact H) | (simp only [hji16] at H ⊢; exact H)
                        have hji16w : (IntKind.i64.wrap (x10_1 - 1)) = ji16 := (i64_w _).trans hji16
                        by_cases c17 : 0 ≤ (ji16)
                        · rw [if_pos c17] at H
                          have c17b0 : decide (0 ≤ (ji16)) = true := decide_eq_true c17
                          clear c17
                          by_cases c18 : (ji16) < (l0.length : Int)
                          · rw [if_pos c18] at H
                            have c18b0 : decide ((ji16) < (l0.length : Int)) = true := decide_eq_true c18
                            clear c18
                            by_cases c19 : ((Op.bytesLess (((rd_T82 l0 (ji16)).f0).toList) ((rd_T82 l0 x10_1).f0).toList) = true)
                            · rw [if_pos c19] at H
                              have c19b0 : (Op.bytesLess (((rd_T82 l0 (ji16)).f0).toList) ((rd_T82 l0 x10_1).f0).toList) = true := c19
                              clear c19
                              have H' := Aside0.mk H
                              clear H
                              have p124 : 0 ≤ ((ji16) : Int) := of_decide_eq_true (by first | (with_reducible assumption) | assumption)
                              have q124 : (ji16) < (l0.length : Int) := of_decide_eq_true (by first | (with_reducible assumption) | assumption)
                              obtain ⟨ad124, e124, hx124_0, hx124_1⟩ := at_T82 HR0.out (ji16) p124 q124
                              obtain rfl : ad121 = ad124 := (by injection e124)
                              replace hx124_0 := (HB.out.cell (World.block_lt_of_cell? w _ hx124_0)).trans hx124_0
                              replace hx124_1 := (HB.out.cell (World.block_lt_of_cell? w _ hx124_1)).trans hx124_1
                              replace p124 := eq_true p124
                              replace q124 := eq_true q124
                              have hcz20_0 : wc.cell? ⟨gb122, 0, none⟩ = some (.string ((rd_T82 l0 x10_1).f0)) := (blk_cell BK122.out 0).trans rfl
                              have hcz20_1 : wc.cell? ⟨gb122, 1, none⟩ = some (.int .i64 ((rd_T82 l0 x10_1).f1)) := (blk_cell BK122.out 1).trans rfl
                              have hfz20_0 := blk_frozen BK122.out 0
                              have hfz20_1 := blk_frozen BK122.out 1
                              go_wp2
                              repeat (go_quiet (fail); try go_wp2)
                              go_roundg kj7
                              case measure => have := HK1.out; have := HJ7.out; omega
                              case rel => exact ⟨(wrap64 (x10_1 + 1)), (by first | rfl | (simp; done) | (simp [*]; done)), H', ⟨by have := HK1.out; have := HJ7.out; omega⟩, ⟨by repeat (first | (with_reducible first | exact HB.out | apply below_alloc | apply pw_below_drewN | apply below_drew1 | refine below_set ?_ GE122.out) | exact HB.out)⟩⟩
                            · rw [if_neg c19] at H
                              have c19b0 : (Op.bytesLess (((rd_T82 l0 (ji16)).f0).toList) ((rd_T82 l0 x10_1).f0).toList) = false := by simpa using c19
                              clear c19
                              obtain rfl := Option.some.inj H
                              have p124 : 0 ≤ ((ji16) : Int) := of_decide_eq_true (by first | (with_reducible assumption) | assumption)
                              have q124 : (ji16) < (l0.length : Int) := of_decide_eq_true (by first | (with_reducible assumption) | assumption)
                              obtain ⟨ad124, e124, hx124_0, hx124_1⟩ := at_T82 HR0.out (ji16) p124 q124
                              obtain rfl : ad121 = ad124 := (by injection e124)
                              replace hx124_0 := (HB.out.cell (World.block_lt_of_cell? w _ hx124_0)).trans hx124_0
                              replace hx124_1 := (HB.out.cell (World.block_lt_of_cell? w _ hx124_1)).trans hx124_1
                              replace p124 := eq_true p124
                              replace q124 := eq_true q124
                              have hcz21_0 : wc.cell? ⟨gb122, 0, none⟩ = some (.string ((rd_T82 l0 x10_1).f0)) := (blk_cell BK122.out 0).trans rfl
                              have hcz21_1 : wc.cell? ⟨gb122, 1, none⟩ = some (.int .i64 ((rd_T82 l0 x10_1).f1)) := (blk_cell BK122.out 1).trans rfl
                              have hfz21_0 := blk_frozen BK122.out 0
                              have hfz21_1 := blk_frozen BK122.out 1
                              go_wp2
                              repeat (go_quiet (fail); try go_wp2)
                              go_ret
                              exact ⟨by first | rfl | (simp [errW_none, errW_some] <;> rfl) | (simp only [← hji16]; first | rfl | (simp [errW_none, errW_some] <;> rfl)) | (simp [*, errW_none, errW_some] <;> rfl), by repeat (first | (with_reducible first | exact HB.out | apply below_alloc | apply pw_below_drewN | apply below_drew1 | refine below_set ?_ GE122.out) | exact HB.out)⟩
                          · rw [if_neg c18] at H
                            exact absurd H (by simp)
                        · rw [if_neg c17] at H
                          exact absurd H (by simp)
                      · rw [if_neg c15] at H
                        have c15b0 : decide (0 < x10_1) = false := decide_eq_false c15
                        clear c15
                        have H' := Aside0.mk H
                        clear H
                        go_wp2
                        repeat (go_quiet (fail); try go_wp2)
                        go_roundg kj7
                        case measure => have := HK1.out; have := HJ7.out; omega
                        case rel => exact ⟨(wrap64 (x10_1 + 1)), (by first | rfl | (simp; done) | (simp [*]; done)), H', ⟨by have := HK1.out; have := HJ7.out; omega⟩, ⟨by repeat (first | (with_reducible first | exact HB.out | apply below_alloc | apply pw_below_drewN | apply below_drew1 | refine below_set ?_ GE122.out) | exact HB.out)⟩⟩
              · replace c7 := Bool.eq_false_iff.mpr c7
                subst c7
                have H1 : (some 3) = some r := by rw [if_neg (show ¬ (false = true) by decide)] at H; exact H
                clear H
                have H := H1
                clear H1
                obtain rfl := Option.some.inj H
                have p121 : 0 ≤ (x10_1 : Int) := of_decide_eq_true (by first | (with_reducible assumption) | assumption)
                have q121 : x10_1 < (l0.length : Int) := of_decide_eq_true (by first | (with_reducible assumption) | assumption)
                obtain ⟨ad121, e121, hx121_0, hx121_1⟩ := at_T82 HR0.out x10_1 p121 q121
                cases e121
                replace hx121_0 := (HB.out.cell (World.block_lt_of_cell? w _ hx121_0)).trans hx121_0
                replace hx121_1 := (HB.out.cell (World.block_lt_of_cell? w _ hx121_1)).trans hx121_1
                replace p121 := eq_true p121
                replace q121 := eq_true q121
                go_wp2_with (first | ((with_reducible refine gate_dst (N := 4) rfl ?_); refine box_event ?hg (N := 4) ?hd (cs := #[.string (⟨#[]⟩ : ByteArray), .int .i64 0]) (t := 82) ?hr ?_; (case hd => rfl); (case hg => rfl); (case hr => first | (go_simp; done) | (go_simp; rfl)); intro gb122 hg w22 hbox hb; have n0_ := Aside0.mk (below_step (by repeat (first | (with_reducible first | exact HB.out | apply below_alloc | apply pw_below_drewN | apply below_drew1) | exact HB.out)) hb); have n1_ := Aside0.mk (hbox); have n2_ := Aside0.mk ((by rw [hg]; exact (below_size (by repeat (first | (with_reducible first | exact HB.out | apply below_alloc | apply pw_below_drewN | apply below_drew1) | exact HB.out))) : w.heap.size ≤ gb122)); have n3_ := Aside0.mk ((by rw [hg]; exact (below_size (by repeat (first | (with_reducible first | exact HB.out | apply below_alloc | apply pw_below_drewN | apply below_drew1) | exact HB.out))) : w.heap.size ≤ gb122)); clear HB; have HB := n0_; have BK122 := n1_; have GW122 := n2_; have GE122 := n3_; clear n0_ n1_ n2_ n3_; clear hb hbox hg; have hcz23_0 : w22.cell? ⟨gb122, 0, none⟩ = some (.string (⟨#[]⟩ : ByteArray)) := (blk_cell BK122.out 0).trans rfl; have hcz23_1 : w22.cell? ⟨gb122, 1, none⟩ = some (.int .i64 0) := (blk_cell BK122.out 1).trans rfl; have hfz23_0 := blk_frozen BK122.out 0; have hfz23_1 := blk_frozen BK122.out 1) | (go_at_call 87; (with_reducible refine (acct_CodeT.calls ((rd_T82 l0 x10_1).f0) false _ A6.out).mono ?_); rintro e w' ⟨rfl, ⟨nd, rfl⟩⟩; (try first | exact ⟨rfl, _, World.drewN_drewN _ _ _⟩ | exact ⟨rfl, _, Eq.trans (World.drewN_drewN _ _ _) (congrArg (World.drewN _) (Nat.add_assoc _ _ _))⟩)))
                repeat (go_quiet (first | ((with_reducible refine gate_dst (N := 4) rfl ?_); refine box_event ?hg (N := 4) ?hd (cs := #[.string (⟨#[]⟩ : ByteArray), .int .i64 0]) (t := 82) ?hr ?_; (case hd => rfl); (case hg => rfl); (case hr => first | (go_simp; done) | (go_simp; rfl)); intro gb122 hg w22 hbox hb; have n0_ := Aside0.mk (below_step (by repeat (first | (with_reducible first | exact HB.out | apply below_alloc | apply pw_below_drewN | apply below_drew1) | exact HB.out)) hb); have n1_ := Aside0.mk (hbox); have n2_ := Aside0.mk ((by rw [hg]; exact (below_size (by repeat (first | (with_reducible first | exact HB.out | apply below_alloc | apply pw_below_drewN | apply below_drew1) | exact HB.out))) : w.heap.size ≤ gb122)); have n3_ := Aside0.mk ((by rw [hg]; exact (below_size (by repeat (first | (with_reducible first | exact HB.out | apply below_alloc | apply pw_below_drewN | apply below_drew1) | exact HB.out))) : w.heap.size ≤ gb122)); clear HB; have HB := n0_; have BK122 := n1_; have GW122 := n2_; have GE122 := n3_; clear n0_ n1_ n2_ n3_; clear hb hbox hg; have hcz23_0 : w22.cell? ⟨gb122, 0, none⟩ = some (.string (⟨#[]⟩ : ByteArray)) := (blk_cell BK122.out 0).trans rfl; have hcz23_1 : w22.cell? ⟨gb122, 1, none⟩ = some (.int .i64 0) := (blk_cell BK122.out 1).trans rfl; have hfz23_0 := blk_frozen BK122.out 0; have hfz23_1 := blk_frozen BK122.out 1) | (go_at_call 87; (with_reducible refine (acct_CodeT.calls ((rd_T82 l0 x10_1).f0) false _ A6.out).mono ?_); rintro e w' ⟨rfl, ⟨nd, rfl⟩⟩; (try first | exact ⟨rfl, _, World.drewN_drewN _ _ _⟩ | exact ⟨rfl, _, Eq.trans (World.drewN_drewN _ _ _) (congrArg (World.drewN _) (Nat.add_assoc _ _ _))⟩))); try go_wp2_with (first | ((with_reducible refine gate_dst (N := 4) rfl ?_); refine box_event ?hg (N := 4) ?hd (cs := #[.string (⟨#[]⟩ : ByteArray), .int .i64 0]) (t := 82) ?hr ?_; (case hd => rfl); (case hg => rfl); (case hr => first | (go_simp; done) | (go_simp; rfl)); intro gb122 hg w22 hbox hb; have n0_ := Aside0.mk (below_step (by repeat (first | (with_reducible first | exact HB.out | apply below_alloc | apply pw_below_drewN | apply below_drew1) | exact HB.out)) hb); have n1_ := Aside0.mk (hbox); have n2_ := Aside0.mk ((by rw [hg]; exact (below_size (by repeat (first | (with_reducible first | exact HB.out | apply below_alloc | apply pw_below_drewN | apply below_drew1) | exact HB.out))) : w.heap.size ≤ gb122)); have n3_ := Aside0.mk ((by rw [hg]; exact (below_size (by repeat (first | (with_reducible first | exact HB.out | apply below_alloc | apply pw_below_drewN | apply below_drew1) | exact HB.out))) : w.heap.size ≤ gb122)); clear HB; have HB := n0_; have BK122 := n1_; have GW122 := n2_; have GE122 := n3_; clear n0_ n1_ n2_ n3_; clear hb hbox hg; have hcz23_0 : w22.cell? ⟨gb122, 0, none⟩ = some (.string (⟨#[]⟩ : ByteArray)) := (blk_cell BK122.out 0).trans rfl; have hcz23_1 : w22.cell? ⟨gb122, 1, none⟩ = some (.int .i64 0) := (blk_cell BK122.out 1).trans rfl; have hfz23_0 := blk_frozen BK122.out 0; have hfz23_1 := blk_frozen BK122.out 1) | (go_at_call 87; (with_reducible refine (acct_CodeT.calls ((rd_T82 l0 x10_1).f0) false _ A6.out).mono ?_); rintro e w' ⟨rfl, ⟨nd, rfl⟩⟩; (try first | exact ⟨rfl, _, World.drewN_drewN _ _ _⟩ | exact ⟨rfl, _, Eq.trans (World.drewN_drewN _ _ _) (congrArg (World.drewN _) (Nat.add_assoc _ _ _))⟩))))
                go_ret
                exact ⟨by first | rfl | (simp [errW_none, errW_some] <;> rfl) | (simp [*, errW_none, errW_some] <;> rfl), by repeat (first | (with_reducible first | exact HB.out | apply below_alloc | apply pw_below_drewN | apply below_drew1 | refine below_set ?_ GE122.out) | exact HB.out)⟩
            · rw [if_neg c5] at H
              exact absurd H (by simp)
          · rw [if_neg c4] at H
            exact absurd H (by simp)
        · rw [if_neg c3] at H
          have c3b0 : decide (x10_1 < (l0.length : Int)) = false := decide_eq_false c3
          clear c3
          obtain rfl := Option.some.inj H
          go_wp2
          repeat (go_quiet (fail); try go_wp2)
          go_ret
          exact ⟨by first | rfl | (simp [errW_none, errW_some] <;> rfl) | (simp [*, errW_none, errW_some] <;> rfl), by repeat (first | (with_reducible first | exact HB.out | apply below_alloc | apply pw_below_drewN | apply below_drew1) | exact HB.out)⟩
def acctsLoop : Option (List UInt8) → List S82 → Int
  | _, [] => 0
  | p, a :: r => if codeB a.f0 = false then 3 else if a.f1 < 0 ∨ 4 < a.f1 then 1 else if (match p with | none => true | some q => Op.bytesLess q a.f0.toList) = false then 3 else acctsLoop (some a.f0.toList) r
def acctR (l : List S82) : Int := if 24 < l.length then 2 else acctsLoop none l
def acctPrev (l : List S82) (i : Nat) : Option (List UInt8) := if i = 0 then none else some (rd_T82 l ((i - 1 : Nat) : Int)).f0.toList
theorem acct_Check.loop (l : List S82) (hs : l.length ≤ 24) : ∀ (d k i : Nat), i + d = l.length → 2 * d < k → acct_Check.l0 k l l (l.length : Int) i = some (acctsLoop (acctPrev l i) (l.drop i))
  | 0, k, i, hi, hk => by
    obtain ⟨k, rfl⟩ : ∃ m, k = m + 1 := ⟨k - 1, by omega⟩
    simp only [acct_Check.l0]
    rw [if_neg (by omega), List.drop_of_length_le (by omega)]
    rfl
  | d + 1, k, i, hi, hk => by
    obtain ⟨k, rfl⟩ : ∃ m, k = m + 2 := ⟨k - 2, by omega⟩
    have hlt : i < l.length := by omega
    have hb : rd_T82 l (i : Int) = l[i] := by simp [rd_T82, List.getD_eq_getElem?_getD, hlt]
    have hp : acctPrev l (i + 1) = some l[i].f0.toList := by unfold acctPrev; rw [if_neg (by omega), Nat.add_sub_cancel, hb]
    have hw : wrap64 ((i : Int) + 1) = ((i + 1 : Nat) : Int) := by rw [IntWalk.wrap64_in _ ⟨by omega, by omega⟩]; rfl
    have ih := acct_Check.loop l hs d k (i + 1) (by omega) (by omega)
    rw [hp] at ih
    rw [List.drop_eq_getElem_cons hlt]
    simp only [acct_Check.l0, acctsLoop, hb]
    rw [if_pos (by omega), if_pos (by omega), if_pos (by omega)]
    show (some (codeB l[i].f0)).bind _ = _
    rw [Option.bind_some]
    cases hc : codeB l[i].f0 with
    | false => rw [if_neg (show ¬ ((false : Bool) = true) by decide), if_pos rfl]
    | true =>
      rw [if_pos rfl, if_neg (show ¬ ((true : Bool) = false) by decide)]
      by_cases h1 : l[i].f1 < 0
      · rw [if_pos h1, if_pos (Or.inl h1)]; simp only [acct_Check.j1]; exact if_pos trivial
      · rw [if_neg h1]
        by_cases h2 : 4 < l[i].f1
        · rw [if_pos (Or.inr h2)]; simp only [acct_Check.j1]; rw [if_pos (by simpa using h2)]
        · rw [if_neg (by omega)]
          simp only [acct_Check.j1]
          rw [if_neg (by simpa using h2)]
          by_cases h0 : i = 0
          · subst h0
            rw [if_neg (by decide), hw, ih]
            rfl
          · have hw2 : wrap64 ((i : Int) - 1) = ((i - 1 : Nat) : Int) := by rw [IntWalk.wrap64_in _ ⟨by omega, by omega⟩]; omega
            rw [if_pos (by omega), hw2, if_pos (by omega), if_pos (by omega)]
            have hq : acctPrev l i = some (rd_T82 l ((i - 1 : Nat) : Int)).f0.toList := by unfold acctPrev; rw [if_neg h0]
            rw [hq]
            show (if Op.bytesLess _ _ = true then _ else _) = some (if Op.bytesLess _ _ = false then _ else _)
            cases hx : Op.bytesLess (rd_T82 l ((i - 1 : Nat) : Int)).f0.toList l[i].f0.toList with
            | false => rw [if_neg (show ¬ ((false : Bool) = true) by decide), if_pos rfl]
            | true => rw [if_pos rfl, if_neg (show ¬ ((true : Bool) = false) by decide), hw, ih]
theorem acct_Check.total (l : List S82) : acct_Check.f 60 l = some (acctR l) := by
  unfold acct_Check.f acctR
  by_cases h : 24 < l.length
  · rw [if_pos (by omega), if_pos h]
  · rw [if_neg (by omega), if_neg h]
    have := acct_Check.loop l (by omega) l.length 60 0 (by omega) (by omega)
    simpa [acctPrev] using this
def acct_CheckT.f (l0 : List S82) : Option Int := some (acctR l0)
theorem acct_CheckT.calls (A0 : Option Addr) (c0 : Nat) (l0 : List (S82)) (r : Int) (w : World) (hr0 : Kd.C k82 w A0 l0.length l0) (hc0 : l0.length ≤ c0) (h : acct_CheckT.f l0 = some r) :
    Calls Try.prog 68 #[.slice A0 l0.length c0] w fun e w' => e = .returned (.int .i64 r) ∧ Below w.heap.size w w' := acct_Check.calls 60 A0 c0 l0 r w hr0 hc0 (by rw [acct_Check.total]; exact h)
def dayB (n : Int) : Bool := decide (0 ≤ n) && decide (n ≤ 292193)
theorem cal_Is.total (n : Int) : cal_Is.f n = some (dayB n) := by
  unfold cal_Is.f dayB
  by_cases h : n ≥ 0
  · rw [if_pos h]; simp [h]
  · rw [if_neg h]; simp [h]
def entryR (k : ByteArray) (d : Int) (l : List S41) : Int := if keyB k = false then 3 else if dayB d = false then 1 else linesR l
theorem entry_Check.total (k : ByteArray) (d : Int) (l : List S41) : entry_Check.f k d l = some (entryR k d l) := by
  unfold entry_Check.f entryR
  show (some (keyB k)).bind _ = _
  rw [Option.bind_some]
  cases keyB k with
  | false => rfl
  | true =>
    rw [if_pos rfl, if_neg (show ¬ ((true : Bool) = false) by decide), cal_Is.total, Option.bind_some]
    cases dayB d with
    | false => rfl
    | true => rfl
def knownB (accts : List S82) (l : List S41) : Bool := !(l.any fun x => !(accts.any fun a => a.f0.toList == x.f0.toList))
def cmpW (a b : S38) : Int := if a.f1 = b.f1 then Go.Lib.compareBytes a.f0.data.toList b.f0.data.toList else wrap64 (a.f1 - b.f1)
theorem book_cmp.total (a b : S38) : book_cmp.f a.f0 a.f1 a.f2 b.f0 b.f1 b.f2 = some (cmpW a b) := by
  unfold book_cmp.f cmpW
  by_cases h : a.f1 = b.f1
  · rw [if_pos h, if_pos h]; rfl
  · rw [if_neg h, if_neg h]
def entriesLoop (accts : List S82) : List (List UInt8) → Option S38 → List S38 → Int
  | _, _, [] => 0
  | seen, p, x :: r => if entryR x.f0 x.f1 x.f2 ≠ 0 then entryR x.f0 x.f1 x.f2 else if knownB accts x.f2 = false then 4 else if seen.any (· == x.f0.data.toList) = true then 5 else if (match p with | none => true | some q => decide (cmpW q x < 0)) = false then 3 else entriesLoop accts (seen ++ [x.f0.data.toList]) (some x) r
def bookR (accts : List S82) (es : List S38) (shut : Int) : Int :=
  if acctR accts ≠ 0 then acctR accts else if shut < -1 ∨ 292193 < shut then 1 else if 60 < es.length then 2 else entriesLoop accts [] none es
def book_Check.f (l0_0 : List S82) (l0_1 : List S38) (a0_2 : Int) : Option Int := some (bookR l0_0 l0_1 a0_2)
set_option maxHeartbeats 1600000 in
set_option maxRecDepth 100000 in
theorem book_Check.calls (A0_0 : Option Addr) (c0_0 : Nat) (l0_0 : List (S82)) (A0_1 : Option Addr) (c0_1 : Nat) (l0_1 : List (S38)) (a0_2 : Int) (r : Int) (w : World) (hr0_0 : Kd.C k82 w A0_0 l0_0.length l0_0) (hc0_0 : l0_0.length ≤ c0_0) (hr0_1 : Kd.C k38 w A0_1 l0_1.length l0_1) (hc0_1 : l0_1.length ≤ c0_1) (h : book_Check.f l0_0 l0_1 a0_2 = some r) :
    Calls Try.prog 34 #[.agg #[.slice A0_0 l0_0.length c0_0, .slice A0_1 l0_1.length c0_1, .int .i64 a0_2]] w fun e w' => e = .returned (.int .i64 r) ∧ Below w.heap.size w w' := by
  unfold book_Check.f at h
  obtain rfl := Option.some.inj h
  have hn : l0_1.length ≤ 9223372036854775807 := hr0_1.2.1
  have HR0 := Aside0.mk hr0_0
  have HR1 := Aside0.mk hr0_1
  clear hr0_0 hr0_1 h
  have hu := Try.underlying32
  have hu2 := Try.underlying38
  go_enter Try.func34, Try.ntmps34
  have hcell : ∀ (W : World), Below (w.heap.size + 1) (w.alloc (.cells #[.slice A0_0 l0_0.length c0_0, .slice A0_1 l0_1.length c0_1, .int .i64 a0_2] 32)) W → W.cell? ⟨w.heap.size, 0, none⟩ = some (.slice A0_0 l0_0.length c0_0) ∧ W.cell? ⟨w.heap.size, 1, none⟩ = some (.slice A0_1 l0_1.length c0_1) ∧ W.cell? ⟨w.heap.size, 2, none⟩ = some (.int .i64 a0_2) := fun W hb =>
    ⟨(hb.cell (by simp)).trans (YtlfbdcobpfainaaH.new_cell _ _ _ 0 _ rfl _ rfl), (hb.cell (by simp)).trans (YtlfbdcobpfainaaH.new_cell _ _ _ 1 _ rfl _ rfl), (hb.cell (by simp)).trans (YtlfbdcobpfainaaH.new_cell _ _ _ 2 _ rfl _ rfl)⟩
  have HCELL := Aside0.mk hcell
  clear hcell
  have hww : ∀ (W : World), Below (w.heap.size + 1) (w.alloc (.cells #[.slice A0_0 l0_0.length c0_0, .slice A0_1 l0_1.length c0_1, .int .i64 a0_2] 32)) W → Below w.heap.size w W := fun W hb => (below_alloc (Below.refl _ _) _).trans (hb.mono (by omega))
  have HWW := Aside0.mk hww
  clear hww
  go_wp2_with fail
  refine (acct_CheckT.calls A0_0 c0_0 l0_0 (acctR l0_0) _ (Kd.C_below HR0.out (HWW.out _ (Below.refl _ _))) hc0_0 rfl).mono ?_
  rintro e w1 ⟨rfl, hb⟩
  have hb1 : Below (w.heap.size + 1) (w.alloc (.cells #[.slice A0_0 l0_0.length c0_0, .slice A0_1 l0_1.length c0_1, .int .i64 a0_2] 32)) w1 := hb.mono (by simp)
  have HB1 := Aside0.mk hb1
  clear hb hb1
  by_cases hacc : acctR l0_0 = 0
  · have hl : bookR l0_0 l0_1 a0_2 = if a0_2 < -1 ∨ 292193 < a0_2 then 1 else if 60 < l0_1.length then 2 else entriesLoop l0_0 [] none l0_1 := by unfold bookR; rw [if_neg (by simp [hacc])]
    have HL0 := Aside0.mk hl
    have hcb : (acctR l0_0 == 0) = true := by rw [hacc]; rfl
    have hr2 := (HCELL.out w1 HB1.out).2.2
    have hr1 := (HCELL.out w1 HB1.out).2.1
    clear hl
    by_cases hs1 : a0_2 < -1
    · have e : bookR l0_0 l0_1 a0_2 = 1 := by rw [HL0.out, if_pos (Or.inl hs1)]
      have hd : decide (a0_2 < -1) = true := by simpa using hs1
      go_wp2_with fail
      go_ret
      exact ⟨by first | rfl | (rw [e]; rfl), HWW.out _ HB1.out⟩
    · have hd : decide (a0_2 < -1) = false := by simpa using hs1
      by_cases hs2 : 292193 < a0_2
      · have e : bookR l0_0 l0_1 a0_2 = 1 := by rw [HL0.out, if_pos (Or.inr hs2)]
        have hd2 : decide (a0_2 > 292193) = true := by simpa using hs2
        go_wp2_with fail
        go_ret
        exact ⟨by first | rfl | (rw [e]; rfl), HWW.out _ HB1.out⟩
      · have hd2 : decide (a0_2 > 292193) = false := by simpa using hs2
        by_cases hlen : 60 < l0_1.length
        · have e : bookR l0_0 l0_1 a0_2 = 2 := by rw [HL0.out, if_neg (by omega), if_pos hlen]
          have hd3 : decide (l0_1.length > 60) = true := by simpa using hlen
          go_wp2_with fail
          go_ret
          exact ⟨by first | rfl | (rw [e]; rfl), HWW.out _ HB1.out⟩
        · have hd3 : decide (l0_1.length > 60) = false := by simpa using hlen
          have hl : bookR l0_0 l0_1 a0_2 = entriesLoop l0_0 [] none l0_1 := by rw [HL0.out, if_neg (by omega), if_neg hlen]
          have HL := Aside0.mk hl
          clear hl HL0
          have hmm := @run_makeMap Try.prog
          have hz1 : w.heap.size + 1 ≤ w1.heap.size := by have := HB1.out.size; simpa using this
          have HB2 := Aside0.mk (HB1.out.alloc hz1 (.map #[] 0))
          have hr1b := (HCELL.out _ HB2.out).2.1
          go_wp2_with fail
          go_loopw [30] (fun i wr => ∃ (k : Nat) (ki : Int), k ≤ l0_1.length ∧ i = .int .i64 ki ∧ Aside0 (ki = k) ∧ Aside0 (bookR l0_0 l0_1 a0_2 = entriesLoop l0_0 ((l0_1.take k).map (·.f0.data.toList)) (if k = 0 then none else some (rd_T38 l0_1 ((k - 1 : Nat) : Int))) (l0_1.drop k)) ∧ Aside0 (YtlfbdcobpfainaaH.KeysOwn Try.prog 9 4 wr w1.heap.size k ((l0_1.take k).map (·.f0.data.toList))) ∧ Aside0 (Below (w.heap.size + 1) (w.alloc (.cells #[.slice A0_0 l0_0.length c0_0, .slice A0_1 l0_1.length c0_1, .int .i64 a0_2] 32)) wr))
            (fun i _ => l0_1.length - (intOf i).toNat)
          case atStart => exact ⟨0, 0, Nat.zero_le _, rfl, ⟨rfl⟩, ⟨HL.out⟩, ⟨YtlfbdcobpfainaaH.KeysOwn.made _ _ _ _⟩, HB2⟩
          case round =>
            obtain ⟨k, ki, hk, rfl, HKI, HLk, HM, HB⟩ := hrel
            have hki := HKI.out
            clear HL
            by_cases hlt : k < l0_1.length
            · obtain ⟨ad, A2, c2, hA, h0, h1, h2, h2c, h2r⟩ := at_T38 HR1.out ki (by omega) (by omega)
              subst hA
              replace h0 := ((HWW.out _ HB.out).cell (World.block_lt_of_cell? w _ h0)).trans h0
              replace h1 := ((HWW.out _ HB.out).cell (World.block_lt_of_cell? w _ h1)).trans h1
              replace h2 := ((HWW.out _ HB.out).cell (World.block_lt_of_cell? w _ h2)).trans h2
              have hg : rd_T38 l0_1 ki = l0_1[k] := by rw [hki]; simp [rd_T38, List.getD_eq_getElem?_getD, hlt]
              rw [hg] at h0 h1 h2 h2c h2r
              obtain ⟨x, hx⟩ : ∃ x, x = l0_1[k] := ⟨_, rfl⟩
              rw [← hx] at h0 h1 h2 h2c h2r
              have HX := Aside0.mk hx
              have HXR := Aside0.mk h2r
              have hl := HLk.out
              rw [List.drop_eq_getElem_cons hlt, ← hx] at hl
              simp only [entriesLoop] at hl
              have HL1 := Aside0.mk hl
              have hki0 : decide (0 ≤ ki) = true := decide_eq_true (by omega)
              have hki1 : decide (ki < (l0_1.length : Int)) = true := decide_eq_true (by omega)
              have hp0 : 0 ≤ ki := by omega
              have hp1 : ki < (l0_1.length : Int) := by omega
              clear hx hg h2r hl HLk hki
              have hxc : ∀ (W : World), Below (wr.heap.size + 1) (wr.alloc (.cells #[.string x.f0, .int .i64 x.f1, .slice A2 x.f2.length c2] 38)) W → W.cell? ⟨wr.heap.size, 0, none⟩ = some (.string x.f0) ∧ W.cell? ⟨wr.heap.size, 1, none⟩ = some (.int .i64 x.f1) ∧ W.cell? ⟨wr.heap.size, 2, none⟩ = some (.slice A2 x.f2.length c2) := fun W hb =>
                ⟨(hb.cell (by simp)).trans (YtlfbdcobpfainaaH.new_cell _ _ _ 0 _ rfl _ rfl), (hb.cell (by simp)).trans (YtlfbdcobpfainaaH.new_cell _ _ _ 1 _ rfl _ rfl), (hb.cell (by simp)).trans (YtlfbdcobpfainaaH.new_cell _ _ _ 2 _ rfl _ rfl)⟩
              have HXC := Aside0.mk hxc
              have hzr : w.heap.size + 1 ≤ wr.heap.size := by have := HB.out.size; simpa using this
              have HBX := Aside0.mk (HB.out.alloc hzr (.cells #[.string x.f0, .int .i64 x.f1, .slice A2 x.f2.length c2] 38))
              clear hxc
              go_wp2_with fail
              refine (entry_Check.calls x.f0 x.f1 A2 c2 x.f2 (entryR x.f0 x.f1 x.f2) _ (Kd.C_below HXR.out (HWW.out _ HBX.out)) h2c (entry_Check.total _ _ _)).mono ?_
              rintro e w2 ⟨rfl, hb⟩
              have hb' := hb.mono (show wr.heap.size + 1 ≤ _ by simp)
              have HY2 := Aside0.mk hb'
              have HB2 := Aside0.mk (HBX.out.trans (hb.mono (by simp; omega)))
              clear hb hb'
              by_cases hent : entryR x.f0 x.f1 x.f2 = 0
              · have hcb2 : (entryR x.f0 x.f1 x.f2 == 0) = true := by rw [hent]; rfl
                have hl := HL1.out
                rw [if_neg (by simp [hent])] at hl
                have HL2 := Aside0.mk hl
                have hks : x.f0.size ≤ maxLen := by
                  by_cases hkk : keyB x.f0 = false
                  · exfalso; unfold entryR at hent; rw [if_pos hkk] at hent; exact absurd hent (by decide)
                  · unfold keyB at hkk; simp at hkk; unfold maxLen; omega
                have hq0 := (HCELL.out w2 HB2.out).1
                have hq1 := (HCELL.out w2 HB2.out).2.1
                have hq2 := (HCELL.out w2 HB2.out).2.2
                have hx0 := (HXC.out w2 HY2.out).1
                have hx1 := (HXC.out w2 HY2.out).2.1
                have hx2 := (HXC.out w2 HY2.out).2.2
                clear hl hent HL1
                go_wp2_with fail
                refine (book_known.calls A0_0 c0_0 l0_0 (some ad) c0_1 l0_1 a0_2 x.f0 x.f1 A2 c2 x.f2 (knownB l0_0 x.f2) _ (Kd.C_below HR0.out (HWW.out _ HB2.out)) hc0_0 (Kd.C_below HR1.out (HWW.out _ HB2.out)) hc0_1 (Kd.C_below HXR.out (HWW.out _ HB2.out)) h2c rfl).mono ?_
                rintro e w3 ⟨rfl, hb⟩
                have hs2w : wr.heap.size + 1 ≤ w2.heap.size := by have := HY2.out.size; simpa using this
                have HY3 := Aside0.mk (HY2.out.trans (hb.mono hs2w))
                have HB3 := Aside0.mk (HB2.out.trans (hb.mono (by omega)))
                clear hb
                cases hkn : knownB l0_0 x.f2 with
                | false =>
                  have e : bookR l0_0 l0_1 a0_2 = 4 := by rw [HL2.out, if_pos hkn]
                  clear hkn HL2
                  go_wp2_with fail
                  go_ret
                  exact ⟨by first | rfl | (rw [e]; rfl), HWW.out _ HB3.out⟩
                | true =>
                  have hl := HL2.out
                  rw [if_neg (by simp [hkn])] at hl
                  have HL3 := Aside0.mk hl
                  have hlt1 := HM.out.lt
                  have HM3 := Aside0.mk (HM.out.below (HY3.out.mono (Nat.le_succ _) |> fun h => ((Below.refl wr.heap.size wr).alloc (Nat.le_refl _) _).trans h) hlt1)
                  have hx0b := (HXC.out w3 HY3.out).1
                  have hx1b := (HXC.out w3 HY3.out).2.1
                  have hx2b := (HXC.out w3 HY3.out).2.2
                  clear hkn HL2 hl
                  cases hseen : (((l0_1.take k).map (·.f0.data.toList)).any (· == x.f0.data.toList)) with
                  | true =>
                    have e : bookR l0_0 l0_1 a0_2 = 5 := by rw [HL3.out, if_pos hseen]
                    go_wp2_with (first | (at_lookup; refine YtlfbdcobpfainaaH.wpList_look_keys _ rfl _ _ 117 rfl 9 4 Try.underlying9 Try.underlying4 Try.underlying117 (by simp [Try.zeroValue4]) _ k _ rfl HM3.out x.f0 hks rfl ?_; rw [hseen]) | fail)
                    go_ret
                    exact ⟨by first | rfl | (rw [e]; rfl), HWW.out _ HB3.out⟩
                  | false =>
                    have hl := HL3.out
                    rw [if_neg (by simp only [hseen]; decide)] at hl
                    have HL4 := Aside0.mk hl
                    clear hl HL3
                    go_wp2_with (first | (at_lookup; refine YtlfbdcobpfainaaH.wpList_look_keys _ rfl _ _ 117 rfl 9 4 Try.underlying9 Try.underlying4 Try.underlying117 (by simp [Try.zeroValue4]) _ k _ rfl HM3.out x.f0 hks rfl ?_; rw [hseen]) | (at_mapUpdate; refine YtlfbdcobpfainaaH.wpList_put_keys _ rfl _ _ _ 117 rfl 9 4 Try.underlying9 Try.underlying4 Try.underlying117 _ k _ rfl HM3.out (by unfold maxLen; omega) x.f0 hks rfl rfl rfl ?_; intro w4 hm4 hg4) | fail)
                    have HM4 := Aside0.mk hm4
                    have HB4 := Aside0.mk (HB3.out.grown hg4 (by have := HB3.out.size; simp at this; omega) (fun j hj => by have := Option.some.inj hj; omega))
                    have hxk : ∀ c u, w3.cell? ⟨wr.heap.size, c, none⟩ = some u → w4.cell? ⟨wr.heap.size, c, none⟩ = some u := fun c u hc => (World.cell?_of_block (w := w3) (hg4.block wr.heap.size (by have := HY3.out.size; simp at this; omega) (fun e => by have := Option.some.inj e; omega))).trans hc
                    have hx0c := hxk 0 _ hx0b
                    have hx1c := hxk 1 _ hx1b
                    have hx2c := hxk 2 _ hx2b
                    have hq0b := (HCELL.out w4 HB4.out).1
                    have hq1b := (HCELL.out w4 HB4.out).2.1
                    have hq2b := (HCELL.out w4 HB4.out).2.2
                    have HK4 := Aside0.mk hg4
                    have HQ0 := Aside0.mk hq0b
                    have HQ1 := Aside0.mk hq1b
                    have HQ2 := Aside0.mk hq2b
                    have HX0 := Aside0.mk hx0c
                    have HX1 := Aside0.mk hx1c
                    have HX2 := Aside0.mk hx2c
                    clear hm4 hxk hg4 hq0b hq1b hq2b hx0c hx1c hx2c
                    go_wp2_with fail
                    obtain ⟨ok, hok⟩ : ∃ ok : Bool, ok = (match (if k = 0 then none else some (rd_T38 l0_1 ((k - 1 : Nat) : Int))) with | none => true | some q => decide (cmpW q x < 0)) := ⟨_, rfl⟩
                    have HOK := Aside0.mk hok
                    clear hok
                    go_cut [63] from 31 to 64 (fun v wx => v = .bool (!ok) ∧ Aside0 (Below w4.heap.size w4 wx))
                    case first =>
                      by_cases hk0 : k = 0
                      · have hgt : decide (0 < ki) = false := decide_eq_false (by have := HKI.out; omega)
                        have hq : ok = true := by rw [HOK.out, if_pos hk0]
                        subst hq
                        clear hk0
                        go_quiet (fail)
                        go_wp2_with fail
                        go_meet
                        exact ⟨rfl, ⟨pw_below_drewN (Below.refl _ _) _⟩⟩
                      · have hgt : decide (0 < ki) = true := decide_eq_true (by have := HKI.out; omega)
                        obtain ⟨kj, hkj⟩ : ∃ j : Int, j = ((k - 1 : Nat) : Int) := ⟨_, rfl⟩
                        have hk1 : IntKind.i64.wrap (ki - 1) = kj := by have := HKI.out; rw [hkj, IntKind.wrap_i64]; omega
                        have hj0 : 0 ≤ kj := by omega
                        have hj1 : kj < (l0_1.length : Int) := by omega
                        obtain ⟨ad', A3, c3, hA, g0, g1, g2, g2c, g2r⟩ := at_T38 HR1.out kj hj0 hj1
                        obtain rfl := Option.some.inj hA
                        replace g0 := ((HWW.out _ HB4.out).cell (World.block_lt_of_cell? w _ g0)).trans g0
                        replace g1 := ((HWW.out _ HB4.out).cell (World.block_lt_of_cell? w _ g1)).trans g1
                        replace g2 := ((HWW.out _ HB4.out).cell (World.block_lt_of_cell? w _ g2)).trans g2
                        obtain ⟨y, hy⟩ : ∃ y, y = rd_T38 l0_1 kj := ⟨_, rfl⟩
                        rw [← hy] at g0 g1 g2 g2c g2r
                        have HYR := Aside0.mk g2r
                        have hq : ok = decide (cmpW y x < 0) := by rw [HOK.out, if_neg hk0, ← hkj, ← hy]
                        have HQ := Aside0.mk hq
                        have hq0 := HQ0.out
                        have hq1 := HQ1.out
                        have hq2 := HQ2.out
                        have hx0 := HX0.out
                        have hx1 := HX1.out
                        have hx2 := HX2.out
                        clear hq hy g2r hkj hk0 hA
                        go_still_tail 10, (by kernel_rfl)
                        go_wp2_with fail
                        refine (book_cmp.calls y.f0 y.f1 A3 c3 y.f2 x.f0 x.f1 A2 c2 x.f2 (cmpW y x) _ (Kd.C_below HYR.out (HWW.out _ HB4.out.drew)) g2c (Kd.C_below HXR.out (HWW.out _ HB4.out.drew)) h2c (book_cmp.total y x)).mono ?_
                        rintro e w5 ⟨rfl, hb⟩
                        have HB5 := Aside0.mk (show Below w4.heap.size w4 w5 from (Below.refl w4.heap.size w4).drew.trans hb)
                        clear hb
                        by_cases hc : cmpW y x < 0
                        · have hcd : decide (0 ≤ cmpW y x) = false := decide_eq_false (by omega)
                          have ho : ok = true := by rw [HQ.out]; exact decide_eq_true hc
                          subst ho
                          clear hc
                          go_wp2_with fail
                          go_meet
                          exact ⟨rfl, HB5⟩
                        · have hcd : decide (0 ≤ cmpW y x) = true := decide_eq_true (by omega)
                          have ho : ok = false := by rw [HQ.out]; exact decide_eq_false hc
                          subst ho
                          clear hc
                          go_wp2_with fail
                          go_meet
                          exact ⟨rfl, HB5⟩
                    case rest =>
                      obtain ⟨rfl, HB5⟩ := hcut
                      have HB6 := Aside0.mk (HB4.out.trans (HB5.out.mono (by have := HB4.out.size; simp at this; omega)))
                      have hm4 := HM4.out.lt
                      have HM6 := Aside0.mk (HM4.out.below HB5.out hm4)
                      clear hm4
                      cases ok with
                      | false =>
                        have e : bookR l0_0 l0_1 a0_2 = 3 := by rw [HL4.out, ← HOK.out, if_pos rfl]
                        go_wp2_with fail
                        go_ret
                        exact ⟨by first | rfl | (rw [e]; rfl), HWW.out _ HB6.out⟩
                      | true =>
                        have hl := HL4.out
                        rw [← HOK.out, if_neg (show ¬ ((true : Bool) = false) by decide)] at hl
                        have HL5 := Aside0.mk hl
                        clear hl HL4
                        have hk1 : IntKind.i64.wrap (ki + 1) = ki + 1 := by have := HKI.out; rw [IntKind.wrap_i64]; omega
                        go_wp2_with fail
                        have hkk := HKI.out
                        have htk : (l0_1.take (k + 1)).map (·.f0.data.toList) = (l0_1.take k).map (·.f0.data.toList) ++ [x.f0.data.toList] := by
                          rw [List.take_succ_eq_append_getElem hlt, ← HX.out, List.map_append]; rfl
                        refine ⟨⟨k + 1, ki + 1, by omega, rfl, ⟨by omega⟩, ⟨?_⟩, ⟨?_⟩, HB6⟩, by simp [intOf]; omega⟩
                        · rw [HL5.out, htk, if_neg (by omega), Nat.add_sub_cancel]
                          have hg : rd_T38 l0_1 (k : Int) = l0_1[k] := by simp [rd_T38, List.getD_eq_getElem?_getD, hlt]
                          rw [hg, ← HX.out]
                        · rw [htk]; exact HM6.out
              · have e : bookR l0_0 l0_1 a0_2 = entryR x.f0 x.f1 x.f2 := by rw [HL1.out, if_pos hent]
                have hcb2 : (entryR x.f0 x.f1 x.f2 == 0) = false := by rw [beq_eq_false_iff_ne]; exact hent
                clear hent HL1
                go_wp2_with fail
                go_ret
                exact ⟨by first | rfl | (rw [e]; rfl), HWW.out _ HB2.out⟩
            · have hkl : k = l0_1.length := by omega
              have hp1 : decide (ki < (l0_1.length : Int)) = false := decide_eq_false (by omega)
              clear hki
              subst hkl
              have hl := HLk.out
              rw [List.drop_length] at hl
              simp only [entriesLoop] at hl
              clear HLk
              go_wp2_with fail
              go_ret
              exact ⟨by first | rfl | (rw [hl]; rfl), HWW.out _ HB.out⟩
  · have e : bookR l0_0 l0_1 a0_2 = acctR l0_0 := by unfold bookR; rw [if_pos hacc]
    have hcb : (acctR l0_0 == 0) = false := by rw [beq_eq_false_iff_ne]; exact hacc
    clear hacc
    go_wp2_with fail
    go_ret
    exact ⟨by first | rfl | (rw [e]; rfl), HWW.out _ HB1.out⟩
set_option maxHeartbeats 800000 in
set_option maxRecDepth 100000 in
theorem indexFunc_Entry (g : FuncId) (vs : Array Value) (eg : ∀ (args : Array Value) (W : World), (callFunc g args).run Try.prog W = .ok (.enter g args) W) (p : S38 → Bool) (A0 : Option Addr) (c0 : Nat) (l0 : List S38) (w : World) (hr0 : Kd.C k38 w A0 l0.length l0) (hc0 : l0.length ≤ c0)
    (hf : ∀ (x : S38) (W : World) (A2 : Option Addr) (c2 : Nat), x ∈ l0 → Below w.heap.size w W → x.f2.length ≤ c2 → Kd.C k41 W A2 x.f2.length x.f2 → Calls Try.prog g (#[.agg #[.string x.f0, .int .i64 x.f1, .slice A2 x.f2.length c2]] ++ vs) W fun e W' => e = .returned (.bool (p x)) ∧ Below W.heap.size W W') :
    Calls Try.prog 71 #[.slice A0 l0.length c0, .func (.func g) #[] vs] w fun e w' => e = .returned (.int .i64 (YtlfbdcobpfainaaH.idx p l0)) ∧ Below w.heap.size w w' := by
  have hn : l0.length ≤ 9223372036854775807 := hr0.2.1
  have HR := Aside0.mk hr0
  have HF := Aside0.mk hf
  clear hr0 hf
  go_enter Try.func71, Try.ntmps71
  go_wp2_with fail
  go_loopw [8] (fun i wr => ∃ k : Nat, k ≤ l0.length ∧ i = .int .i64 k ∧ Aside0 (∀ j (hj : j < k), ∀ (hl : j < l0.length), p l0[j] = false) ∧ Aside0 (Below w.heap.size w wr)) (fun i _ => l0.length - (intOf i).toNat)
  case atStart => exact ⟨0, Nat.zero_le _, rfl, ⟨fun j hj => absurd hj (by omega)⟩, ⟨Below.refl _ _⟩⟩
  case round =>
    obtain ⟨k, hk, rfl, hno, HB⟩ := hrel
    by_cases hlt : k < l0.length
    · obtain ⟨ad, A2, c2, hA, h0, h1, h2, hl2, hc2⟩ := at_T38 (Kd.C_below HR.out HB.out) (k : Int) (by omega) (by omega)
      subst hA
      rw [Int.toNat_natCast] at h0 h1 h2
      have hg : rd_T38 l0 (k : Int) = l0[k] := by simp [rd_T38, List.getD_eq_getElem?_getD, hlt]
      rw [hg] at h0 h1 h2 hl2 hc2
      obtain ⟨x, hx⟩ : ∃ x, x = l0[k] := ⟨_, rfl⟩
      rw [← hx] at h0 h1 h2 hl2 hc2
      have HX := Aside0.mk hx
      clear hx hg
      have HL2 := Aside0.mk hl2
      have HC2 := Aside0.mk hc2
      clear hl2 hc2
      go_wp2_with fail
      refine (HF.out x wr A2 c2 (by rw [HX.out]; exact List.getElem_mem hlt) HB.out HL2.out HC2.out).mono ?_
      rintro e w1 ⟨rfl, hb⟩
      have HB1 := Aside0.mk (HB.out.trans (hb.mono HB.out.size))
      clear hb
      by_cases hp : p x = true
      · have hp' := hp
        simp only [hp]
        go_wp2
        go_ret
        have e := YtlfbdcobpfainaaH.idx_hit (p := p) hlt (by rw [← HX.out]; exact hp') (fun j hj => hno.out j hj (by omega))
        exact ⟨by rw [e]; rfl, HB1.out⟩
      · have hp2 : p x = false := by simpa using hp
        simp only [hp2]
        go_wp2
        go_roundw
        case rel =>
          refine ⟨k + 1, by omega, by go_num, ⟨fun j hj hl => ?_⟩, HB1⟩
          by_cases hjk : j = k
          · subst hjk; rw [← HX.out]; exact hp2
          · exact hno.out j (by omega) hl
        case measure => simp [intOf]; omega
    · have hkl : k = l0.length := by omega
      subst hkl
      go_wp2
      go_ret
      have e := YtlfbdcobpfainaaH.idx_miss (p := p) (l := l0) (fun j hj => hno.out j hj hj)
      exact ⟨by rw [e]; rfl, HB.out⟩
theorem eg_72 : ∀ (args : Array Value) (W : World), (callFunc 72 args).run Try.prog W = .ok (.enter 72 args) W := fun args W => by simp [callFunc, Try.func72]; rfl
set_option maxHeartbeats 800000 in
set_option maxRecDepth 100000 in
theorem book_find.clos (x : S38) (key : ByteArray) (b : Nat) (A2 : Option Addr) (c2 : Nat) (W : World) (hk : W.cell? ⟨b, 0, none⟩ = some (.string key)) :
    Calls Try.prog 72 #[.agg #[.string x.f0, .int .i64 x.f1, .slice A2 x.f2.length c2], .pointer (some ⟨b, 0, none⟩)] W fun e W' => e = .returned (.bool (x.f0.toList == key.toList)) ∧ Below W.heap.size W W' := by
  have hu := Try.underlying38
  go_enter Try.func72, Try.ntmps72
  have hb : b < W.heap.size := World.block_lt_of_cell? W _ hk
  go_wp2
  go_ret
  exact ⟨rfl, by repeat (first | exact Below.refl _ _ | apply below_alloc | apply pw_below_drewN | apply below_drew1)⟩
def book_find.f (l0_0 : List S82) (l0_1 : List S38) (a0_2 : Int) (a1 : ByteArray) : Option Int := some (YtlfbdcobpfainaaH.idx (fun x : S38 => x.f0.toList == a1.toList) l0_1)
set_option maxHeartbeats 800000 in
set_option maxRecDepth 100000 in
theorem book_find.calls (A0_0 : Option Addr) (c0_0 : Nat) (l0_0 : List (S82)) (A0_1 : Option Addr) (c0_1 : Nat) (l0_1 : List (S38)) (a0_2 : Int) (a1 : ByteArray) (r : Int) (w : World) (hr0_0 : Kd.C k82 w A0_0 l0_0.length l0_0) (hc0_0 : l0_0.length ≤ c0_0) (hr0_1 : Kd.C k38 w A0_1 l0_1.length l0_1) (hc0_1 : l0_1.length ≤ c0_1) (h : book_find.f l0_0 l0_1 a0_2 a1 = some r) :
    Calls Try.prog 36 #[.agg #[.slice A0_0 l0_0.length c0_0, .slice A0_1 l0_1.length c0_1, .int .i64 a0_2], .string a1] w fun e w' => e = .returned (.int .i64 r) ∧ Below w.heap.size w w' := by
  unfold book_find.f at h
  obtain rfl := Option.some.inj h
  have HR1 := Aside0.mk hr0_1
  have hu := Try.underlying32
  clear hr0_0 hr0_1 h
  go_enter Try.func36, Try.ntmps36
  go_wp2_with (go_at_call 71; (with_reducible refine (indexFunc_Entry 72 #[.pointer (some ⟨w.heap.size + 1, 0, none⟩)] eg_72 (fun x : S38 => x.f0.toList == a1.toList) A0_1 c0_1 l0_1 _ ?side1 hc0_1 ?side2).mono ?_); (case side1 => exact Kd.C_below HR1.out (by repeat (first | exact Below.refl _ _ | apply below_alloc | apply pw_below_drewN | apply below_drew1))); (case side2 => exact fun x W A2 c2 _ hb _ _ => book_find.clos x a1 _ A2 c2 W (by rw [hb.cell (by simp)]; exact YtlfbdcobpfainaaH.new_cell _ _ _ 0 _ rfl _ (by simp))); rintro e w1 ⟨rfl, hb⟩; have HB := Aside0.mk (show Below w.heap.size w w1 from ((below_alloc (below_alloc (Below.refl _ _) _) _).trans (hb.mono (by simp; omega)))); clear hb)
  go_ret
  exact ⟨rfl, HB.out⟩
end Go.Proofs.Ytlfbdcobpfainaa.S
