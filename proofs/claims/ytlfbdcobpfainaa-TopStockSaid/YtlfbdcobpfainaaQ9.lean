-- PRINTED by print.py (a twelfth state) out of the translation. Not trusted: Lean checks it.
import Derived.Test.YtlfbdcobpfainaaQ0
import Derived.Test.YtlfbdcobpfainaaQ2
import Derived.Test.YtlfbdcobpfainaaQ6
import Derived.Test.YtlfbdcobpfainaaQ7
import Derived.Test.YtlfbdcobpfainaaQ8
namespace Go.Proofs.Ytlfbdcobpfainaa.Q
open Go.RowKit Go.Proofs.YtlfbdcobpfainaaW.PrintWords Go.Proofs.YtlfbdcobpfainaaW.PrintLast Go.Proofs.YtlfbdcobpfainaaW.PrintMore
attribute [local go_sem] max2_int min2_int max_two min_two max_three min_three max_four min_four   -- for this text's walks alone
set_option linter.unusedVariables false
set_option linter.unusedSimpArgs false

/-! ### taltop_TopStock: function 3 -/
mutual
def taltop_TopStock.l0 : Nat → List Int → List (S44) → Int → List (S35) → Int → Int → List (S82) → List (S38) → Int → Option (Bool)
  | 0, _, _, _, _, _, _, _, _, _ => none
  | k + 1, x3, x4, x7, x37, x38, x39, x202000, x202001, x202002 => if x39 < x38 then (if 0 ≤ x39 then (if x39 < (x37.length : Int) then ((taltop_moved.f k x39 x39 ((rd_T35 x37 x39).f1) (⟨#[49, 53]⟩ : ByteArray) (⟨#[49, 48]⟩ : ByteArray)).bind fun bt204 => (if ((rd_T35 x37 x39).f0) < 0 then (if x7 = (x3.length : Int) then (some false) else (if 0 ≤ x7 then (if x7 < (x3.length : Int) then ((taltop_moved.f k x39 x39 (rd x3 x7) (⟨#[53, 48]⟩ : ByteArray) (⟨#[49, 53]⟩ : ByteArray)).bind fun bt211 => (if (rd x3 x7) > 1000000000000 then (some true) else (taltop_TopStock.j1 k x3 x4 (wrap64 (x7 + 1)) x37 x38 x39 x202000 x202001 x202002 bt211.1 bt211.2.1 bt211.2.2))) else (none)) else (none))) else (taltop_TopStock.j1 k x3 x4 x7 x37 x38 x39 x202000 x202001 x202002 bt204.1 bt204.2.1 bt204.2.2))) else (none)) else (none)) else (taltop_TopStock.l1 k x3 0 x4 (x4.length : Int) 0 x202000 x202001 x202002)
def taltop_TopStock.j1 : Nat → List Int → List (S44) → Int → List (S35) → Int → Int → List (S82) → List (S38) → Int → ByteArray → Int → List (S41) → Option (Bool)
  | 0, _, _, _, _, _, _, _, _, _, _, _, _ => none
  | k + 1, x3, x4, x7, x37, x38, x39, x202000, x202001, x202002, x210000, x210001, x210002 => if 0 < (x210002.length : Int) then (if ((rd_T41 x210002 0).f1) = 0 then (taltop_TopStock.l0 k x3 x4 x7 x37 x38 (wrap64 (x39 + 1)) x202000 x202001 x202002) else ((book_Post.f x202000 x202001 x202002 x210000 x210001 x210002).bind fun bt218 => (if bt218.2.2.2 = 0 then (taltop_TopStock.l0 k x3 x4 x7 x37 x38 (wrap64 (x39 + 1)) bt218.1 bt218.2.1 bt218.2.2.1) else (some false)))) else (none)
def taltop_TopStock.l1 : Nat → List Int → Int → List (S44) → Int → Int → List (S82) → List (S38) → Int → Option (Bool)
  | 0, _, _, _, _, _, _, _, _ => none
  | k + 1, x3, x11, x85, x86, x87, x202000, x202001, x202002 => if x87 < x86 then (if 0 ≤ x87 then (if x87 < (x85.length : Int) then (taltop_TopStock.l1 k x3 (wrap64 (x11 + ((rd_T44 x85 x87).f1))) x85 x86 (wrap64 (x87 + 1)) x202000 x202001 x202002) else (none)) else (none)) else ((book_Balance.f k x202000 x202001 x202002 (⟨#[49, 53]⟩ : ByteArray) 99).bind fun bt228 => ((book_Balance.f k x202000 x202001 x202002 (⟨#[53, 48]⟩ : ByteArray) 99).bind fun bt230 => (if bt228.2 = 0 then (if bt230.2 = 0 then (if bt228.1 = x11 then ((taltop_sum.f k x3).bind fun t232 => (some (bt230.1 == t232))) else (some false)) else (some false)) else (some false))))
end
def taltop_TopStock.f (k : Nat) (l0 : List (S35)) : Option (Bool) := (taltop_begun.f k).bind fun t186 => (if t186 = true then ((stock_Fifo.f l0).bind fun bt187 => (if bt187.2.2 = 0 then ((taltop_plain.f).bind fun bt194 => (taltop_TopStock.l0 k bt187.1 bt187.2.1 0 l0 (l0.length : Int) 0 bt194.1 bt194.2.1 bt194.2.2)) else (if (bt187.1.length : Int) = 0 then (some ((bt187.2.1.length : Int) == 0)) else (some false)))) else (some false))
theorem taltop_TopStock.mono_l : ∀ k, (∀ y0 y1 y2 y3 y4 y5 y6 y7 y8, LeO (taltop_TopStock.l0 k y0 y1 y2 y3 y4 y5 y6 y7 y8) (taltop_TopStock.l0 (k + 1) y0 y1 y2 y3 y4 y5 y6 y7 y8)) ∧ (∀ y0 y1 y2 y3 y4 y5 y6 y7 y8 y9 y10 y11, LeO (taltop_TopStock.j1 k y0 y1 y2 y3 y4 y5 y6 y7 y8 y9 y10 y11) (taltop_TopStock.j1 (k + 1) y0 y1 y2 y3 y4 y5 y6 y7 y8 y9 y10 y11)) ∧ (∀ y0 y1 y2 y3 y4 y5 y6 y7, LeO (taltop_TopStock.l1 k y0 y1 y2 y3 y4 y5 y6 y7) (taltop_TopStock.l1 (k + 1) y0 y1 y2 y3 y4 y5 y6 y7))
  | 0 => ⟨fun _ _ _ _ _ _ _ _ _ r h => by simp [taltop_TopStock.l0] at h, fun _ _ _ _ _ _ _ _ _ _ _ _ r h => by simp [taltop_TopStock.j1] at h, fun _ _ _ _ _ _ _ _ r h => by simp [taltop_TopStock.l1] at h⟩
  | k + 1 => by
    obtain ⟨ih0, ih1, ih2⟩ := taltop_TopStock.mono_l k
    refine ⟨?_, ?_, ?_⟩
    · intro y0 y1 y2 y3 y4 y5 y6 y7 y8
      unfold taltop_TopStock.l0
      repeat' first
      | (with_reducible exact ih0 _ _ _ _ _ _ _ _ _)
      | (with_reducible exact ih1 _ _ _ _ _ _ _ _ _ _ _ _)
      | (with_reducible exact ih2 _ _ _ _ _ _ _ _)
      | (with_reducible exact book_Balance.mono _ _ _ _ _ _)
      | (with_reducible exact taltop_begun.mono _)
      | (with_reducible exact taltop_moved.mono _ _ _ _ _ _)
      | (with_reducible exact taltop_sum.mono _ _)
      | (with_reducible exact LeO.refl _)
      | (with_reducible exact LeO.none _)
      | (with_reducible refine LeO.ite ?_ ?_)
      | (with_reducible refine LeO.bind ?_ (fun _ => ?_))
      | exact ih0 _ _ _ _ _ _ _ _ _
      | exact ih1 _ _ _ _ _ _ _ _ _ _ _ _
      | exact ih2 _ _ _ _ _ _ _ _
      | exact book_Balance.mono _ _ _ _ _ _
      | exact taltop_begun.mono _
      | exact taltop_moved.mono _ _ _ _ _ _
      | exact taltop_sum.mono _ _
      | exact LeO.none _
      | refine LeO.ite ?_ ?_
      | refine LeO.bind ?_ (fun _ => ?_)
    · intro y0 y1 y2 y3 y4 y5 y6 y7 y8 y9 y10 y11
      unfold taltop_TopStock.j1
      repeat' first
      | (with_reducible exact ih0 _ _ _ _ _ _ _ _ _)
      | (with_reducible exact ih1 _ _ _ _ _ _ _ _ _ _ _ _)
      | (with_reducible exact ih2 _ _ _ _ _ _ _ _)
      | (with_reducible exact book_Balance.mono _ _ _ _ _ _)
      | (with_reducible exact taltop_begun.mono _)
      | (with_reducible exact taltop_moved.mono _ _ _ _ _ _)
      | (with_reducible exact taltop_sum.mono _ _)
      | (with_reducible exact LeO.refl _)
      | (with_reducible exact LeO.none _)
      | (with_reducible refine LeO.ite ?_ ?_)
      | (with_reducible refine LeO.bind ?_ (fun _ => ?_))
      | exact ih0 _ _ _ _ _ _ _ _ _
      | exact ih1 _ _ _ _ _ _ _ _ _ _ _ _
      | exact ih2 _ _ _ _ _ _ _ _
      | exact book_Balance.mono _ _ _ _ _ _
      | exact taltop_begun.mono _
      | exact taltop_moved.mono _ _ _ _ _ _
      | exact taltop_sum.mono _ _
      | exact LeO.none _
      | refine LeO.ite ?_ ?_
      | refine LeO.bind ?_ (fun _ => ?_)
    · intro y0 y1 y2 y3 y4 y5 y6 y7
      unfold taltop_TopStock.l1
      repeat' first
      | (with_reducible exact ih0 _ _ _ _ _ _ _ _ _)
      | (with_reducible exact ih1 _ _ _ _ _ _ _ _ _ _ _ _)
      | (with_reducible exact ih2 _ _ _ _ _ _ _ _)
      | (with_reducible exact book_Balance.mono _ _ _ _ _ _)
      | (with_reducible exact taltop_begun.mono _)
      | (with_reducible exact taltop_moved.mono _ _ _ _ _ _)
      | (with_reducible exact taltop_sum.mono _ _)
      | (with_reducible exact LeO.refl _)
      | (with_reducible exact LeO.none _)
      | (with_reducible refine LeO.ite ?_ ?_)
      | (with_reducible refine LeO.bind ?_ (fun _ => ?_))
      | exact ih0 _ _ _ _ _ _ _ _ _
      | exact ih1 _ _ _ _ _ _ _ _ _ _ _ _
      | exact ih2 _ _ _ _ _ _ _ _
      | exact book_Balance.mono _ _ _ _ _ _
      | exact taltop_begun.mono _
      | exact taltop_moved.mono _ _ _ _ _ _
      | exact taltop_sum.mono _ _
      | exact LeO.none _
      | refine LeO.ite ?_ ?_
      | refine LeO.bind ?_ (fun _ => ?_)
theorem taltop_TopStock.mono : ∀ a0 k, LeO (taltop_TopStock.f k a0) (taltop_TopStock.f (k + 1) a0) := by
  intro a0 k
  obtain ⟨ih0, ih1, ih2⟩ := taltop_TopStock.mono_l k
  unfold taltop_TopStock.f
  repeat' first
      | (with_reducible exact ih0 _ _ _ _ _ _ _ _ _)
      | (with_reducible exact ih1 _ _ _ _ _ _ _ _ _ _ _ _)
      | (with_reducible exact ih2 _ _ _ _ _ _ _ _)
      | (with_reducible exact book_Balance.mono _ _ _ _ _ _)
      | (with_reducible exact taltop_begun.mono _)
      | (with_reducible exact taltop_moved.mono _ _ _ _ _ _)
      | (with_reducible exact taltop_sum.mono _ _)
      | (with_reducible exact LeO.refl _)
      | (with_reducible exact LeO.none _)
      | (with_reducible refine LeO.ite ?_ ?_)
      | (with_reducible refine LeO.bind ?_ (fun _ => ?_))
      | exact ih0 _ _ _ _ _ _ _ _ _
      | exact ih1 _ _ _ _ _ _ _ _ _ _ _ _
      | exact ih2 _ _ _ _ _ _ _ _
      | exact book_Balance.mono _ _ _ _ _ _
      | exact taltop_begun.mono _
      | exact taltop_moved.mono _ _ _ _ _ _
      | exact taltop_sum.mono _ _
      | exact LeO.none _
      | refine LeO.ite ?_ ?_
      | refine LeO.bind ?_ (fun _ => ?_)
set_option maxHeartbeats 8000000 in
set_option maxRecDepth 100000 in
theorem taltop_TopStock.calls (k : Nat) (A0 : Option Addr) (c0 : Nat) (l0 : List (S35)) (r : Bool) (w : World) (hr0 : Kd.C k35 w A0 l0.length l0) (hc0 : l0.length ≤ c0) (h : taltop_TopStock.f k l0 = some r) :
    Calls Try.prog 3 #[.slice A0 l0.length c0] w fun e w' => e = .returned (.bool r) ∧ Below w.heap.size w w' := by
  have hu32 := Try.underlying32
  have hu35 := Try.underlying35
  have hu38 := Try.underlying38
  have hu44 := Try.underlying44
  have HR0 := Aside0.mk hr0
  have HC0 := Aside0.mk hc0
  clear hr0 hc0
  have HB := Aside0.mk (Below.refl w.heap.size w)
  have H : ((taltop_begun.f k).bind fun t186 => (if t186 = true then ((stock_Fifo.f l0).bind fun bt187 => (if bt187.2.2 = 0 then ((taltop_plain.f).bind fun bt194 => (taltop_TopStock.l0 k bt187.1 bt187.2.1 0 l0 (l0.length : Int) 0 bt194.1 bt194.2.1 bt194.2.2)) else (if (bt187.1.length : Int) = 0 then (some ((bt187.2.1.length : Int) == 0)) else (some false)))) else (some false))) = some r := h
  clear h
  replace H := Option.bind_eq_some_iff.mp H
  obtain ⟨t186, A20, H⟩ := H
  replace H : (if t186 = true then ((stock_Fifo.f l0).bind fun bt187 => (if bt187.2.2 = 0 then ((taltop_plain.f).bind fun bt194 => (taltop_TopStock.l0 k bt187.1 bt187.2.1 0 l0 (l0.length : Int) 0 bt194.1 bt194.2.1 bt194.2.2)) else (if (bt187.1.length : Int) = 0 then (some ((bt187.2.1.length : Int) == 0)) else (some false)))) else (some false)) = some r := H
  have A2 := Aside0.mk A20
  clear A20
  by_cases c3 : t186 = true
  · subst c3
    have H1 : ((stock_Fifo.f l0).bind fun bt187 => (if bt187.2.2 = 0 then ((taltop_plain.f).bind fun bt194 => (taltop_TopStock.l0 k bt187.1 bt187.2.1 0 l0 (l0.length : Int) 0 bt194.1 bt194.2.1 bt194.2.2)) else (if (bt187.1.length : Int) = 0 then (some ((bt187.2.1.length : Int) == 0)) else (some false)))) = some r := by rw [if_pos rfl] at H; exact H
    clear H
    have H := H1
    clear H1
    replace H := Option.bind_eq_some_iff.mp H
    obtain ⟨⟨t187, t188, t189⟩, A40, H⟩ := H
    replace H : (if t189 = 0 then ((taltop_plain.f).bind fun bt194 => (taltop_TopStock.l0 k t187 t188 0 l0 (l0.length : Int) 0 bt194.1 bt194.2.1 bt194.2.2)) else (if (t187.length : Int) = 0 then (some ((t188.length : Int) == 0)) else (some false))) = some r := H
    have A4 := Aside0.mk A40
    clear A40
    by_cases c5 : t189 = 0
    · rw [if_pos c5] at H
      have c5b0 : (t189 == 0) = true := beq_iff_eq.mpr c5
      have c5b1 : (t189 != 0) = false := bne_eq_false_iff_eq.mpr c5
      clear c5
      replace H := Option.bind_eq_some_iff.mp H
      obtain ⟨⟨t194, t197, t200⟩, A60, H⟩ := H
      replace H : (taltop_TopStock.l0 k t187 t188 0 l0 (l0.length : Int) 0 t194 t197 t200) = some r := H
      have A6 := Aside0.mk A60
      clear A60
      have H' := Aside0.mk H
      clear H
      go_enter Try.func3, Try.ntmps3
      go_wp2_with (first | ((with_reducible refine gate_callee (f := 8) rfl ?_); refine goesL_ (some 18) rfl rfl Try.func8 (by kernel_rfl) rfl #[] rfl (by (try simp only [List.map_toArray, List.map_cons, List.map_nil]); first | done | rfl | (simp only [List.length_drop, List.length_take]; rfl)) ?_; (with_reducible refine (taltop_begun.calls k  true _ A2.out).mono ?_); rintro e w7 ⟨rfl, hb⟩; refine ⟨_, rfl, ?_⟩; have n0_ := Aside0.mk (below_step (by repeat (first | (with_reducible first | exact HB.out | apply below_alloc | apply pw_below_drewN | apply below_drew1) | exact HB.out)) hb); clear HB; have HB := n0_; clear n0_; (try clear hb); (try clear hb2); (try clear hk); (try clear hi)) | ((with_reducible refine gate_callee (f := 9) rfl ?_); refine goesL_ (some 22) rfl rfl Try.func9 (by kernel_rfl) rfl #[.slice A0 l0.length c0] rfl (by (try simp only [List.map_toArray, List.map_cons, List.map_nil]); first | done | rfl | (simp only [List.length_drop, List.length_take]; rfl)) ?_; (with_reducible refine (stock_Fifo.calls _ _ l0 t187 t188 t189 _ ?side1 ?side2 A4.out).mono ?_); (case side1 => repeat (first | exact (Kd.C_below HR0.out HB.out) | (with_reducible refine Kd.C_alloc ?_ _) | (with_reducible refine Kd.C_drewN ?_ _) | (with_reducible refine Kd.C_drew ?_))); (case side2 => exact HC0.out); rintro e w8 ⟨v190, v192, rfl, ho0, ho1, hb⟩; refine ⟨_, rfl, ?_⟩; have n0_ := Aside0.mk (Kd.R_lower ho0 (below_size (by repeat (first | (with_reducible first | exact HB.out | apply below_alloc | apply pw_below_drewN | apply below_drew1) | exact HB.out)))); have n1_ := Aside0.mk (Kd.R_lower ho1 (below_size (by repeat (first | (with_reducible first | exact HB.out | apply below_alloc | apply pw_below_drewN | apply below_drew1) | exact HB.out)))); have n2_ := Aside0.mk (below_step (by repeat (first | (with_reducible first | exact HB.out | apply below_alloc | apply pw_below_drewN | apply below_drew1) | exact HB.out)) hb); clear HB; have HO191 := n0_; have HO193 := n1_; have HB := n2_; clear n0_ n1_ n2_; (try clear hb); (try clear hb2); (try clear hk); (try clear hi); (try clear ho0); (try clear ho1)) | ((with_reducible refine gate_callee (f := 10) rfl ?_); refine goesL_ (some 36) rfl rfl Try.func10 (by kernel_rfl) rfl #[] rfl (by (try simp only [List.map_toArray, List.map_cons, List.map_nil]); first | done | rfl | (simp only [List.length_drop, List.length_take]; rfl)) ?_; (with_reducible refine (taltop_plain.calls  t194 t197 t200 _ A6.out).mono ?_); rintro e w9 ⟨v195, v198, rfl, ho0, ho1, hb⟩; refine ⟨_, rfl, ?_⟩; have n0_ := Aside0.mk (Kd.R_below (by (with_reducible repeat (first | apply Kd.R_alloc | apply Kd.R_drewN | apply Kd.R_drew)); exact HO191.out) hb); have n1_ := Aside0.mk (Kd.R_below (by (with_reducible repeat (first | apply Kd.R_alloc | apply Kd.R_drewN | apply Kd.R_drew)); exact HO193.out) hb); have n2_ := Aside0.mk (Kd.R_lower ho0 (below_size (by repeat (first | (with_reducible first | exact HB.out | apply below_alloc | apply pw_below_drewN | apply below_drew1) | exact HB.out)))); have n3_ := Aside0.mk (Kd.S_lower ho1 (below_size (by repeat (first | (with_reducible first | exact HB.out | apply below_alloc | apply pw_below_drewN | apply below_drew1) | exact HB.out)))); have n4_ := Aside0.mk (below_step (by repeat (first | (with_reducible first | exact HB.out | apply below_alloc | apply pw_below_drewN | apply below_drew1) | exact HB.out)) hb); clear HO191; clear HO193; clear HB; have HO191 := n0_; have HO193 := n1_; have HO196 := n2_; have HO199 := n3_; have HB := n4_; clear n0_ n1_ n2_ n3_ n4_; (try clear hb); (try clear hb2); (try clear hk); (try clear hi); (try clear ho0); (try clear ho1)) | ((with_reducible refine gate_dst (N := 6) rfl ?_); (try (refine gate_guard (by rfl) ?_; dsimp only)); refine box_event ?hg (N := 6) ?hd (cs := #[.slice none 0 0, .slice none 0 0, .int .i64 0]) (t := 32) ?hr ?_; (case hd => rfl); (case hg => rfl); (case hr => first | (go_simp; done) | (go_simp; rfl)); intro gb201 hg w10 hbox hb; have n0_ := Aside0.mk (Kd.R_below (by (with_reducible repeat (first | apply Kd.R_alloc | apply Kd.R_drewN | apply Kd.R_drew)); exact HO191.out) hb); have n1_ := Aside0.mk (Kd.R_below (by (with_reducible repeat (first | apply Kd.R_alloc | apply Kd.R_drewN | apply Kd.R_drew)); exact HO193.out) hb); have n2_ := Aside0.mk (Kd.R_below (by (with_reducible repeat (first | apply Kd.R_alloc | apply Kd.R_drewN | apply Kd.R_drew)); exact HO196.out) hb); have n3_ := Aside0.mk (Kd.S_below (by (with_reducible repeat (first | apply Kd.S_alloc | apply Kd.S_drewN | apply Kd.S_drew)); exact HO199.out) hb); have n4_ := Aside0.mk (below_step (by repeat (first | (with_reducible first | exact HB.out | apply below_alloc | apply pw_below_drewN | apply below_drew1) | exact HB.out)) hb); have n5_ := Aside0.mk (hbox); have n6_ := Aside0.mk ((by rw [hg]; exact (below_size (by repeat (first | (with_reducible first | exact HB.out | apply below_alloc | apply pw_below_drewN | apply below_drew1) | exact HB.out))) : w.heap.size ≤ gb201)); have n7_ := Aside0.mk ((by rw [hg]; exact (below_size (by repeat (first | (with_reducible first | exact HB.out | apply below_alloc | apply pw_below_drewN | apply below_drew1) | exact HB.out))) : w.heap.size ≤ gb201)); clear HO191; clear HO193; clear HO196; clear HO199; clear HB; have HO191 := n0_; have HO193 := n1_; have HO196 := n2_; have HO199 := n3_; have HB := n4_; have BK201 := n5_; have GW201 := n6_; have GE201 := n7_; clear n0_ n1_ n2_ n3_ n4_ n5_ n6_ n7_; clear hb hbox hg; obtain ⟨Ao11, co11, eo11⟩ := Kd.R_slice HO196.out; subst eo11; have hcz12_0 : w10.cell? ⟨gb201, 0, none⟩ = some (.slice none 0 0) := (blk_cell BK201.out 0).trans rfl; have hcz12_1 : w10.cell? ⟨gb201, 1, none⟩ = some (.slice none 0 0) := (blk_cell BK201.out 1).trans rfl; have hcz12_2 : w10.cell? ⟨gb201, 2, none⟩ = some (.int .i64 0) := (blk_cell BK201.out 2).trans rfl; have hfz12_0 := blk_frozen BK201.out 0; have hfz12_1 := blk_frozen BK201.out 1; have hfz12_2 := blk_frozen BK201.out 2; obtain ⟨Ao13, co13, eo13⟩ := Kd.S_slice HO199.out; subst eo13))
      go_loopg [7, 39] k (fun kq v7 v39 w' => ∃ (x7_1 : Int) (x39_1 : Int) (x202000_1 : List (S82)) (x202001_1 : List (S38)) (x202002_1 : Int) (u202000 : Value) (u202001 : Value), v7 = .int .i64 x7_1 ∧ v39 = .int .i64 x39_1 ∧ Aside0 (taltop_TopStock.l0 kq t187 t188 x7_1 l0 (l0.length : Int) x39_1 x202000_1 x202001_1 x202002_1 = some r) ∧ Aside0 (kq ≤ k) ∧ Aside0 (Kd.R (Kd.int .i64) 3 w' w.heap.size (fun _ => True) v190 t187) ∧ Aside0 (Kd.R k44 44 w' w.heap.size (fun _ => True) v192 t188) ∧ Aside0 (Kd.R k82 82 w' w.heap.size (fun _ => True) u202000 x202000_1) ∧ Aside0 (Kd.S k38 38 w' w.heap.size (fun _ => True) u202001 x202001_1) ∧ Aside0 (w'.heap[gb201]? = some (.cells #[u202000, u202001, .int .i64 x202002_1] 32 (0, 0))) ∧ Aside0 (Below w.heap.size w w'))
      case atStart => exact ⟨(0), (0), (t194), (t197), (t200), (.slice Ao11 t194.length co11), (.slice Ao13 t197.length co13), (by first | rfl | (simp; done) | (simp [*]; done)), (by first | rfl | (simp; done) | (simp [*]; done)), H', ⟨Nat.le_refl _⟩, ⟨by (with_reducible repeat (first | apply Kd.R_alloc | apply Kd.R_drewN | apply Kd.R_drew)); exact Kd.R_mono (Kd.R_far (p := ⟨gb201, 2, none⟩) (Kd.R_far (p := ⟨gb201, 1, none⟩) (Kd.R_far (p := ⟨gb201, 0, none⟩) (Kd.R_types HO191.out BK201.out (by decide)) (fun _ hk => hk.2) (.slice Ao11 t194.length co11)) (fun _ hk => hk.2) (.slice Ao13 t197.length co13)) (fun _ hk => hk.2) (.int .i64 t200)) (fun _ hk => trivial)⟩, ⟨by (with_reducible repeat (first | apply Kd.R_alloc | apply Kd.R_drewN | apply Kd.R_drew)); exact Kd.R_mono (Kd.R_far (p := ⟨gb201, 2, none⟩) (Kd.R_far (p := ⟨gb201, 1, none⟩) (Kd.R_far (p := ⟨gb201, 0, none⟩) (Kd.R_types HO193.out BK201.out (by decide)) (fun _ hk => hk.2) (.slice Ao11 t194.length co11)) (fun _ hk => hk.2) (.slice Ao13 t197.length co13)) (fun _ hk => hk.2) (.int .i64 t200)) (fun _ hk => trivial)⟩, ⟨by (with_reducible repeat (first | apply Kd.R_alloc | apply Kd.R_drewN | apply Kd.R_drew)); exact Kd.R_mono (Kd.R_far (p := ⟨gb201, 2, none⟩) (Kd.R_far (p := ⟨gb201, 1, none⟩) (Kd.R_far (p := ⟨gb201, 0, none⟩) (Kd.R_types HO196.out BK201.out (by decide)) (fun _ hk => hk.2) (.slice Ao11 t194.length co11)) (fun _ hk => hk.2) (.slice Ao13 t197.length co13)) (fun _ hk => hk.2) (.int .i64 t200)) (fun _ hk => trivial)⟩, ⟨by (with_reducible repeat (first | apply Kd.S_alloc | apply Kd.S_drewN | apply Kd.S_drew)); exact Kd.S_mono (Kd.S_far (p := ⟨gb201, 2, none⟩) (Kd.S_far (p := ⟨gb201, 1, none⟩) (Kd.S_far (p := ⟨gb201, 0, none⟩) (Kd.S_types HO199.out BK201.out (by decide)) (fun _ hk => hk.2) (.slice Ao11 t194.length co11)) (fun _ hk => hk.2) (.slice Ao13 t197.length co13)) (fun _ hk => hk.2) (.int .i64 t200)) (fun _ hk => trivial)⟩, ⟨by (with_reducible repeat (first | refine blk_drewN ?_ _ | refine blk_drew ?_ | refine blk_alloc ?_ _)); refine blk_put (cs := #[.slice Ao11 t194.length co11, .slice Ao13 t197.length co13, .int .i64 0]) ?_ 2 _ rfl; (with_reducible repeat (first | refine blk_drewN ?_ _ | refine blk_drew ?_ | refine blk_alloc ?_ _)); refine blk_put (cs := #[.slice Ao11 t194.length co11, .slice none 0 0, .int .i64 0]) ?_ 1 _ rfl; (with_reducible repeat (first | refine blk_drewN ?_ _ | refine blk_drew ?_ | refine blk_alloc ?_ _)); refine blk_put (cs := #[.slice none 0 0, .slice none 0 0, .int .i64 0]) ?_ 0 _ rfl; (with_reducible repeat (first | refine blk_drewN ?_ _ | refine blk_drew ?_ | refine blk_alloc ?_ _)); exact BK201.out⟩, ⟨by repeat (first | (with_reducible first | exact HB.out | apply below_alloc | apply pw_below_drewN | apply below_drew1 | refine below_set ?_ GE201.out) | exact HB.out)⟩⟩
      case round =>
        clear H'
        try clear c1
        try clear p2
        try clear c3
        try clear c5
        try clear c5b0
        try clear c5b1
        try clear c8
        try clear c9
        try clear c10
        try clear hcz12_0
        try clear hcz12_1
        try clear hcz12_2
        try clear hfz12_0
        try clear hfz12_1
        try clear hfz12_2
        obtain ⟨x7_1, x39_1, x202000_1, x202001_1, x202002_1, u202000, u202001, rfl, rfl, HA, HK1, HO_3, HO_4, HO_202000, HO_202001, BK201, HB⟩ := hrel
        cases gk with
        | zero => exact absurd HA.out (by simp [taltop_TopStock.l0])
        | succ k1 =>
          have H := HA.out
          clear HA
          simp only [taltop_TopStock.l0] at H
          by_cases c14 : x39_1 < (l0.length : Int)
          · rw [if_pos c14] at H
            have c14b0 : decide (x39_1 < (l0.length : Int)) = true := decide_eq_true c14
            clear c14
            by_cases c15 : 0 ≤ x39_1
            · rw [if_pos c15] at H
              have c15b0 : decide (0 ≤ x39_1) = true := decide_eq_true c15
              clear c15
              by_cases c16 : x39_1 < (l0.length : Int)
              · rw [if_pos c16] at H
                have c16b0 : decide (x39_1 < (l0.length : Int)) = true := decide_eq_true c16
                clear c16
                replace H := Option.bind_eq_some_iff.mp H
                obtain ⟨⟨t204, t205, t206⟩, A170, H⟩ := H
                replace H : (if ((rd_T35 l0 x39_1).f0) < 0 then (if x7_1 = (t187.length : Int) then (some false) else (if 0 ≤ x7_1 then (if x7_1 < (t187.length : Int) then ((taltop_moved.f k1 x39_1 x39_1 (rd t187 x7_1) (⟨#[53, 48]⟩ : ByteArray) (⟨#[49, 53]⟩ : ByteArray)).bind fun bt211 => (if (rd t187 x7_1) > 1000000000000 then (some true) else (taltop_TopStock.j1 k1 t187 t188 (wrap64 (x7_1 + 1)) l0 (l0.length : Int) x39_1 x202000_1 x202001_1 x202002_1 bt211.1 bt211.2.1 bt211.2.2))) else (none)) else (none))) else (taltop_TopStock.j1 k1 t187 t188 x7_1 l0 (l0.length : Int) x39_1 x202000_1 x202001_1 x202002_1 t204 t205 t206)) = some r := H
                have A17 := Aside0.mk A170
                clear A170
                have HC18 := Aside0.mk H
                clear H
                have p202 : 0 ≤ (x39_1 : Int) := of_decide_eq_true (by first | (with_reducible assumption) | assumption)
                have q202 : x39_1 < (l0.length : Int) := of_decide_eq_true (by first | (with_reducible assumption) | assumption)
                obtain ⟨ad202, e202, hx202_0, hx202_1⟩ := at_T35 HR0.out x39_1 p202 q202
                cases e202
                replace hx202_0 := (HB.out.cell (World.block_lt_of_cell? w _ hx202_0)).trans hx202_0
                replace hx202_1 := (HB.out.cell (World.block_lt_of_cell? w _ hx202_1)).trans hx202_1
                replace p202 := eq_true p202
                replace q202 := eq_true q202
                go_upto_if 51 with (first | ((with_reducible refine gate_dst (N := 9) rfl ?_); (try (refine gate_guard (by rfl) ?_; dsimp only)); refine box_event ?hg (N := 9) ?hd (cs := #[.int .i64 0, .int .i64 0]) (t := 35) ?hr ?_; (case hd => rfl); (case hg => rfl); (case hr => first | (go_simp; done) | (go_simp; rfl)); intro gb203 hg w19 hbox hb; have n0_ := Aside0.mk (Kd.R_below (by (with_reducible repeat (first | apply Kd.R_alloc | apply Kd.R_drewN | apply Kd.R_drew)); exact HO_3.out) hb); have n1_ := Aside0.mk (Kd.R_below (by (with_reducible repeat (first | apply Kd.R_alloc | apply Kd.R_drewN | apply Kd.R_drew)); exact HO_4.out) hb); have n2_ := Aside0.mk (Kd.R_below (by (with_reducible repeat (first | apply Kd.R_alloc | apply Kd.R_drewN | apply Kd.R_drew)); exact HO_202000.out) hb); have n3_ := Aside0.mk (Kd.S_below (by (with_reducible repeat (first | apply Kd.S_alloc | apply Kd.S_drewN | apply Kd.S_drew)); exact HO_202001.out) hb); have n4_ := Aside0.mk (blk_below (g := gb201) (o := .cells #[u202000, u202001, .int .i64 x202002_1] 32 (0, 0)) (by (with_reducible repeat (first | refine blk_drewN ?_ _ | refine blk_drew ?_ | refine blk_alloc ?_ _)); exact BK201.out) hb); have n5_ := Aside0.mk (below_step (by repeat (first | (with_reducible first | exact HB.out | apply below_alloc | apply pw_below_drewN | apply below_drew1 | refine below_set ?_ GE201.out) | exact HB.out)) hb); have n6_ := Aside0.mk (hbox); have n7_ := Aside0.mk ((by rw [hg]; exact (below_size (by repeat (first | (with_reducible first | exact HB.out | apply below_alloc | apply pw_below_drewN | apply below_drew1 | refine below_set ?_ GE201.out) | exact HB.out))) : w.heap.size ≤ gb203)); have n8_ := Aside0.mk ((by rw [hg]; exact (below_size (by repeat (first | (with_reducible first | exact HB.out | apply below_alloc | apply pw_below_drewN | apply below_drew1 | refine below_set ?_ GE201.out) | exact HB.out))) : w.heap.size ≤ gb203)); have n9_ := Aside0.mk ((by rw [hg]; exact Nat.ne_of_lt (blk_lt (g := gb201) (o := .cells #[u202000, u202001, .int .i64 x202002_1] 32 (0, 0)) (by (with_reducible repeat (first | refine blk_drewN ?_ _ | refine blk_drew ?_ | refine blk_alloc ?_ _)); exact BK201.out)) : gb201 ≠ gb203)); have n10_ := Aside0.mk ((by rw [hg]; exact Nat.ne_of_gt (blk_lt (g := gb201) (o := .cells #[u202000, u202001, .int .i64 x202002_1] 32 (0, 0)) (by (with_reducible repeat (first | refine blk_drewN ?_ _ | refine blk_drew ?_ | refine blk_alloc ?_ _)); exact BK201.out)) : gb203 ≠ gb201)); clear HO_3; clear HO_4; clear HO_202000; clear HO_202001; clear BK201; clear HB; have HO_3 := n0_; have HO_4 := n1_; have HO_202000 := n2_; have HO_202001 := n3_; have BK201 := n4_; have HB := n5_; have BK203 := n6_; have GW203 := n7_; have GE203 := n8_; have NB201_203 := n9_; have NB203_201 := n10_; clear n0_ n1_ n2_ n3_ n4_ n5_ n6_ n7_ n8_ n9_ n10_; clear hb hbox hg; have hnb20 := NB203_201.out; have hnc20 := NB201_203.out; have hcz21_0 : w19.cell? ⟨gb203, 0, none⟩ = some (.int .i64 0) := (blk_cell BK203.out 0).trans rfl; have hcz21_1 : w19.cell? ⟨gb203, 1, none⟩ = some (.int .i64 0) := (blk_cell BK203.out 1).trans rfl; have hfz21_0 := blk_frozen BK203.out 0; have hfz21_1 := blk_frozen BK203.out 1) | ((with_reducible refine gate_callee (f := 11) rfl ?_); refine goesL_ (some 48) rfl rfl Try.func11 (by kernel_rfl) rfl #[.int .i64 x39_1, .int .i64 x39_1, .int .i64 ((rd_T35 l0 x39_1).f1), .string (⟨#[49, 53]⟩ : ByteArray), .string (⟨#[49, 48]⟩ : ByteArray)] rfl (by (try simp only [List.map_toArray, List.map_cons, List.map_nil]); first | done | rfl | (simp only [List.length_drop, List.length_take]; rfl)) ?_; (with_reducible refine (taltop_moved.calls k1 x39_1 x39_1 ((rd_T35 l0 x39_1).f1) (⟨#[49, 53]⟩ : ByteArray) (⟨#[49, 48]⟩ : ByteArray) t204 t205 t206 _ A17.out).mono ?_); rintro e w22 ⟨v207, rfl, ho0, hb⟩; refine ⟨_, rfl, ?_⟩; have n0_ := Aside0.mk (Kd.R_below (by (with_reducible repeat (first | apply Kd.R_alloc | apply Kd.R_drewN | apply Kd.R_drew)); exact (Kd.R_mono (Kd.R_far (p := ⟨gb203, 1, none⟩) (Kd.R_far (p := ⟨gb203, 0, none⟩) (Kd.R_types HO_3.out BK203.out (by decide)) (fun _ hk => hk.2) (.int .i64 ((rd_T35 l0 x39_1).f0))) (fun _ hk => hk.2) (.int .i64 ((rd_T35 l0 x39_1).f1))) (fun _ h_ => h_.1))) hb); have n1_ := Aside0.mk (Kd.R_below (by (with_reducible repeat (first | apply Kd.R_alloc | apply Kd.R_drewN | apply Kd.R_drew)); exact (Kd.R_mono (Kd.R_far (p := ⟨gb203, 1, none⟩) (Kd.R_far (p := ⟨gb203, 0, none⟩) (Kd.R_types HO_4.out BK203.out (by decide)) (fun _ hk => hk.2) (.int .i64 ((rd_T35 l0 x39_1).f0))) (fun _ hk => hk.2) (.int .i64 ((rd_T35 l0 x39_1).f1))) (fun _ h_ => h_.1))) hb); have n2_ := Aside0.mk (Kd.R_below (by (with_reducible repeat (first | apply Kd.R_alloc | apply Kd.R_drewN | apply Kd.R_drew)); exact (Kd.R_mono (Kd.R_far (p := ⟨gb203, 1, none⟩) (Kd.R_far (p := ⟨gb203, 0, none⟩) (Kd.R_types HO_202000.out BK203.out (by decide)) (fun _ hk => hk.2) (.int .i64 ((rd_T35 l0 x39_1).f0))) (fun _ hk => hk.2) (.int .i64 ((rd_T35 l0 x39_1).f1))) (fun _ h_ => h_.1))) hb); have n3_ := Aside0.mk (Kd.S_elder' (by (with_reducible repeat (first | apply Kd.S_alloc | apply Kd.S_drewN | apply Kd.S_drew)); exact (Kd.S_mono (Kd.S_far (p := ⟨gb203, 1, none⟩) (Kd.S_far (p := ⟨gb203, 0, none⟩) (Kd.S_types HO_202001.out BK203.out (by decide)) (fun _ hk => hk.2) (.int .i64 ((rd_T35 l0 x39_1).f0))) (fun _ hk => hk.2) (.int .i64 ((rd_T35 l0 x39_1).f1))) (fun _ h_ => h_.1))) (Kd.R_base ho0) hb); have n4_ := Aside0.mk (Kd.R_lower ho0 (below_size (by repeat (first | (with_reducible first | exact HB.out | apply below_alloc | apply pw_below_drewN | apply below_drew1 | refine below_set ?_ GE201.out | refine below_set ?_ GE203.out) | exact HB.out)))); have n5_ := Aside0.mk (blk_below (g := gb201) (o := .cells #[u202000, u202001, .int .i64 x202002_1] 32 (0, 0)) (by (with_reducible repeat (first | refine blk_drewN ?_ _ | refine blk_drew ?_ | refine blk_alloc ?_ _)); refine blk_far ?_ NB201_203.out _; (with_reducible repeat (first | refine blk_drewN ?_ _ | refine blk_drew ?_ | refine blk_alloc ?_ _)); refine blk_far ?_ NB201_203.out _; (with_reducible repeat (first | refine blk_drewN ?_ _ | refine blk_drew ?_ | refine blk_alloc ?_ _)); exact BK201.out) hb); have n6_ := Aside0.mk (blk_below (g := gb203) (o := .cells #[.int .i64 ((rd_T35 l0 x39_1).f0), .int .i64 ((rd_T35 l0 x39_1).f1)] 35 (0, 0)) (by (with_reducible repeat (first | refine blk_drewN ?_ _ | refine blk_drew ?_ | refine blk_alloc ?_ _)); refine blk_put (cs := #[.int .i64 ((rd_T35 l0 x39_1).f0), .int .i64 0]) ?_ 1 _ rfl; (with_reducible repeat (first | refine blk_drewN ?_ _ | refine blk_drew ?_ | refine blk_alloc ?_ _)); refine blk_put (cs := #[.int .i64 0, .int .i64 0]) ?_ 0 _ rfl; (with_reducible repeat (first | refine blk_drewN ?_ _ | refine blk_drew ?_ | refine blk_alloc ?_ _)); exact BK203.out) hb); have n7_ := Aside0.mk (below_step (by repeat (first | (with_reducible first | exact HB.out | apply below_alloc | apply pw_below_drewN | apply below_drew1 | refine below_set ?_ GE201.out | refine below_set ?_ GE203.out) | exact HB.out)) hb); clear HO_3; clear HO_4; clear HO_202000; clear HO_202001; clear BK201; clear BK203; clear HB; have HO_3 := n0_; have HO_4 := n1_; have HO_202000 := n2_; have HO_202001 := n3_; have HO208 := n4_; have BK201 := n5_; have BK203 := n6_; have HB := n7_; clear n0_ n1_ n2_ n3_ n4_ n5_ n6_ n7_; (try clear hb); (try clear hb2); (try clear hk); (try clear hi); (try clear ho0)) | ((with_reducible refine gate_dst (N := 10) rfl ?_); (try (refine gate_guard (by rfl) ?_; dsimp only)); refine box_event ?hg (N := 10) ?hd (cs := #[.string (⟨#[]⟩ : ByteArray), .int .i64 0, .slice none 0 0]) (t := 38) ?hr ?_; (case hd => rfl); (case hg => rfl); (case hr => first | (go_simp; done) | (go_simp; rfl)); intro gb209 hg w23 hbox hb; have n0_ := Aside0.mk (Kd.R_below (by (with_reducible repeat (first | apply Kd.R_alloc | apply Kd.R_drewN | apply Kd.R_drew)); exact HO_3.out) hb); have n1_ := Aside0.mk (Kd.R_below (by (with_reducible repeat (first | apply Kd.R_alloc | apply Kd.R_drewN | apply Kd.R_drew)); exact HO_4.out) hb); have n2_ := Aside0.mk (Kd.R_below (by (with_reducible repeat (first | apply Kd.R_alloc | apply Kd.R_drewN | apply Kd.R_drew)); exact HO_202000.out) hb); have n3_ := Aside0.mk (Kd.S_below (Kd.S_elderB (by (with_reducible repeat (first | apply Kd.S_alloc | apply Kd.S_drewN | apply Kd.S_drew)); exact HO_202001.out) gb209 (Nat.le_of_eq hg.symm)) hb); have n4_ := Aside0.mk (Kd.R_below (by (with_reducible repeat (first | apply Kd.R_alloc | apply Kd.R_drewN | apply Kd.R_drew)); exact HO208.out) hb); have n5_ := Aside0.mk (blk_below (g := gb201) (o := .cells #[u202000, u202001, .int .i64 x202002_1] 32 (0, 0)) (by (with_reducible repeat (first | refine blk_drewN ?_ _ | refine blk_drew ?_ | refine blk_alloc ?_ _)); exact BK201.out) hb); have n6_ := Aside0.mk (blk_below (g := gb203) (o := .cells #[.int .i64 ((rd_T35 l0 x39_1).f0), .int .i64 ((rd_T35 l0 x39_1).f1)] 35 (0, 0)) (by (with_reducible repeat (first | refine blk_drewN ?_ _ | refine blk_drew ?_ | refine blk_alloc ?_ _)); exact BK203.out) hb); have n7_ := Aside0.mk (below_step (by repeat (first | (with_reducible first | exact HB.out | apply below_alloc | apply pw_below_drewN | apply below_drew1 | refine below_set ?_ GE201.out | refine below_set ?_ GE203.out) | exact HB.out)) hb); have n8_ := Aside0.mk (hbox); have n9_ := Aside0.mk ((by rw [hg]; exact (below_size (by repeat (first | (with_reducible first | exact HB.out | apply below_alloc | apply pw_below_drewN | apply below_drew1 | refine below_set ?_ GE201.out | refine below_set ?_ GE203.out) | exact HB.out))) : w.heap.size ≤ gb209)); have n10_ := Aside0.mk ((by rw [hg]; exact (below_size (by repeat (first | (with_reducible first | exact HB.out | apply below_alloc | apply pw_below_drewN | apply below_drew1 | refine below_set ?_ GE201.out | refine below_set ?_ GE203.out) | exact HB.out))) : w.heap.size ≤ gb209)); have n11_ := Aside0.mk ((by rw [hg]; exact Nat.ne_of_lt (blk_lt (g := gb201) (o := .cells #[u202000, u202001, .int .i64 x202002_1] 32 (0, 0)) (by (with_reducible repeat (first | refine blk_drewN ?_ _ | refine blk_drew ?_ | refine blk_alloc ?_ _)); exact BK201.out)) : gb201 ≠ gb209)); have n12_ := Aside0.mk ((by rw [hg]; exact Nat.ne_of_gt (blk_lt (g := gb201) (o := .cells #[u202000, u202001, .int .i64 x202002_1] 32 (0, 0)) (by (with_reducible repeat (first | refine blk_drewN ?_ _ | refine blk_drew ?_ | refine blk_alloc ?_ _)); exact BK201.out)) : gb209 ≠ gb201)); have n13_ := Aside0.mk ((by rw [hg]; exact Nat.ne_of_lt (blk_lt (g := gb203) (o := .cells #[.int .i64 ((rd_T35 l0 x39_1).f0), .int .i64 ((rd_T35 l0 x39_1).f1)] 35 (0, 0)) (by (with_reducible repeat (first | refine blk_drewN ?_ _ | refine blk_drew ?_ | refine blk_alloc ?_ _)); exact BK203.out)) : gb203 ≠ gb209)); have n14_ := Aside0.mk ((by rw [hg]; exact Nat.ne_of_gt (blk_lt (g := gb203) (o := .cells #[.int .i64 ((rd_T35 l0 x39_1).f0), .int .i64 ((rd_T35 l0 x39_1).f1)] 35 (0, 0)) (by (with_reducible repeat (first | refine blk_drewN ?_ _ | refine blk_drew ?_ | refine blk_alloc ?_ _)); exact BK203.out)) : gb209 ≠ gb203)); clear HO_3; clear HO_4; clear HO_202000; clear HO_202001; clear HO208; clear BK201; clear BK203; clear HB; have HO_3 := n0_; have HO_4 := n1_; have HO_202000 := n2_; have HO_202001 := n3_; have HO208 := n4_; have BK201 := n5_; have BK203 := n6_; have HB := n7_; have BK209 := n8_; have GW209 := n9_; have GE209 := n10_; have NB201_209 := n11_; have NB209_201 := n12_; have NB203_209 := n13_; have NB209_203 := n14_; clear n0_ n1_ n2_ n3_ n4_ n5_ n6_ n7_ n8_ n9_ n10_ n11_ n12_ n13_ n14_; clear hb hbox hg; have hnb24 := NB209_201.out; have hnc24 := NB201_209.out; have hnb25 := NB209_203.out; have hnc25 := NB203_209.out; have hcz26_0 : w23.cell? ⟨gb209, 0, none⟩ = some (.string (⟨#[]⟩ : ByteArray)) := (blk_cell BK209.out 0).trans rfl; have hcz26_1 : w23.cell? ⟨gb209, 1, none⟩ = some (.int .i64 0) := (blk_cell BK209.out 1).trans rfl; have hcz26_2 : w23.cell? ⟨gb209, 2, none⟩ = some (.slice none 0 0) := (blk_cell BK209.out 2).trans rfl; have hfz26_0 := blk_frozen BK209.out 0; have hfz26_1 := blk_frozen BK209.out 1; have hfz26_2 := blk_frozen BK209.out 2; obtain ⟨Ao27, co27, eo27⟩ := Kd.R_slice HO208.out; subst eo27; have hcz28_0 : w23.cell? ⟨gb203, 0, none⟩ = some (.int .i64 ((rd_T35 l0 x39_1).f0)) := (blk_cell BK203.out 0).trans rfl; have hcz28_1 : w23.cell? ⟨gb203, 1, none⟩ = some (.int .i64 ((rd_T35 l0 x39_1).f1)) := (blk_cell BK203.out 1).trans rfl; have hfz28_0 := blk_frozen BK203.out 0; have hfz28_1 := blk_frozen BK203.out 1))
                (try simp only [Act.put, List.setIfInBounds_toArray, List.set_cons_zero, List.set_cons_succ])
                go_cut [7] (fun v7 wc => ∃ (kq : Nat) (x7_17 : Int) (x210000_17 : ByteArray) (x210001_17 : Int) (x210002_17 : List (S41)) (u210002 : Value), v7 = .int .i64 x7_17 ∧ Aside0 (taltop_TopStock.j1 kq t187 t188 x7_17 l0 (l0.length : Int) x39_1 x202000_1 x202001_1 x202002_1 x210000_17 x210001_17 x210002_17 = some r) ∧ Aside0 (kq ≤ k1) ∧ Aside0 (Kd.R (Kd.int .i64) 3 wc w.heap.size (fun _ => True) v190 t187) ∧ Aside0 (Kd.R k44 44 wc w.heap.size (fun _ => True) v192 t188) ∧ Aside0 (Kd.R k82 82 wc w.heap.size (fun _ => True) u202000 x202000_1) ∧ Aside0 (Kd.S k38 38 wc w.heap.size (fun k_ => some k_ ≠ (u210002 : Value).ownBlock ∧ k_ ≠ gb209) u202001 x202001_1) ∧ Aside0 (Kd.R k41 41 wc w.heap.size (fun _ => True) u210002 x210002_17) ∧ Aside0 (wc.heap[gb201]? = some (.cells #[u202000, u202001, .int .i64 x202002_1] 32 (0, 0))) ∧ Aside0 (wc.heap[gb203]? = some (.cells #[.int .i64 ((rd_T35 l0 x39_1).f0), .int .i64 ((rd_T35 l0 x39_1).f1)] 35 (0, 0))) ∧ Aside0 (wc.heap[gb209]? = some (.cells #[.string x210000_17, .int .i64 x210001_17, u210002] 38 (0, 0))) ∧ Aside0 (Below w.heap.size w wc))
                case first =>
                  have H := HC18.out
                  clear HC18
                  by_cases c29 : ((rd_T35 l0 x39_1).f0) < 0
                  · rw [if_pos c29] at H
                    have c29b0 : decide (((rd_T35 l0 x39_1).f0) < 0) = true := decide_eq_true c29
                    clear c29
                    (first | rw [c29b0] | (simp only [i64_w, i32_w]; rw [c29b0]) | skip)
                    by_cases c30 : x7_1 = (t187.length : Int)
                    · rw [if_pos c30] at H
                      have c30b0 : (x7_1 == (t187.length : Int)) = true := beq_iff_eq.mpr c30
                      have c30b1 : (x7_1 != (t187.length : Int)) = false := bne_eq_false_iff_eq.mpr c30
                      clear c30
                      obtain rfl := Option.some.inj H
                      obtain ⟨Ao31, co31, eo31⟩ := Kd.R_slice HO_3.out
                      subst eo31
                      go_wp2
                      go_ret
                      exact ⟨by first | rfl | (simp [errW_none, errW_some] <;> rfl) | (simp [*, errW_none, errW_some] <;> rfl), by repeat (first | (with_reducible first | exact HB.out | apply below_alloc | apply pw_below_drewN | apply below_drew1 | refine below_set ?_ GE201.out | refine below_set ?_ GE203.out | refine below_set ?_ GE209.out) | exact HB.out)⟩
                    · rw [if_neg c30] at H
                      have c30b0 : (x7_1 == (t187.length : Int)) = false := beq_eq_false_iff_ne.mpr c30
                      have c30b1 : (x7_1 != (t187.length : Int)) = true := bne_iff_ne.mpr c30
                      by_cases c32 : 0 ≤ x7_1
                      · rw [if_pos c32] at H
                        have c32b0 : decide (0 ≤ x7_1) = true := decide_eq_true c32
                        clear c32
                        by_cases c33 : x7_1 < (t187.length : Int)
                        · rw [if_pos c33] at H
                          have c33b0 : decide (x7_1 < (t187.length : Int)) = true := decide_eq_true c33
                          clear c33
                          replace H := Option.bind_eq_some_iff.mp H
                          obtain ⟨⟨t211, t212, t213⟩, A340, H⟩ := H
                          replace H : (if (rd t187 x7_1) > 1000000000000 then (some true) else (taltop_TopStock.j1 k1 t187 t188 (wrap64 (x7_1 + 1)) l0 (l0.length : Int) x39_1 x202000_1 x202001_1 x202002_1 t211 t212 t213)) = some r := H
                          have A34 := Aside0.mk A340
                          clear A340
                          by_cases c35 : (rd t187 x7_1) > 1000000000000
                          · rw [if_pos c35] at H
                            have c35b0 : decide (1000000000000 < (rd t187 x7_1)) = true := decide_eq_true c35
                            clear c35
                            obtain rfl := Option.some.inj H
                            obtain ⟨Ao36, co36, eo36⟩ := Kd.R_slice HO_3.out
                            subst eo36
                            have p210 : 0 ≤ (x7_1 : Int) := of_decide_eq_true (by first | (with_reducible assumption) | assumption)
                            have q210 : x7_1 < (t187.length : Int) := of_decide_eq_true (by first | (with_reducible assumption) | assumption)
                            obtain ⟨ad210, e210, hx210_0⟩ := Kd.at_int (Kd.R_reads' HO_3.out).2.2 x7_1 p210 q210
                            cases e210
                            have hn210_0 : ad210.block ≠ gb209 := Kd.own_blk (Kd.R_ne HO_3.out BK209.out (by decide))
                            have hn210_1 : ad210.block ≠ gb209 := Kd.own_blk (Kd.R_ne HO_3.out BK209.out (by decide))
                            have hn210_2 : ad210.block ≠ gb209 := Kd.own_blk (Kd.R_ne HO_3.out BK209.out (by decide))
                            replace hx210_0 := (cell_far (p := ⟨gb209, 0, none⟩) (by first | (rw [add_block]; exact hn210_0) | (show (Addr.add _ _).block ≠ _; rw [add_block]; exact hn210_0) | exact hn210_0) (.string t204)).trans hx210_0
                            replace hx210_0 := (cell_far (p := ⟨gb209, 1, none⟩) (by first | (rw [add_block]; exact hn210_1) | (show (Addr.add _ _).block ≠ _; rw [add_block]; exact hn210_1) | exact hn210_1) (.int .i64 t205)).trans hx210_0
                            replace hx210_0 := (cell_far (p := ⟨gb209, 2, none⟩) (by first | (rw [add_block]; exact hn210_2) | (show (Addr.add _ _).block ≠ _; rw [add_block]; exact hn210_2) | exact hn210_2) (.slice Ao27 t206.length co27)).trans hx210_0
                            clear hn210_0
                            clear hn210_1
                            clear hn210_2
                            replace p210 := eq_true p210
                            replace q210 := eq_true q210
                            go_wp2_with (first | ((with_reducible refine gate_callee (f := 11) rfl ?_); refine goesL_ (some 62) rfl rfl Try.func11 (by kernel_rfl) rfl #[.int .i64 x39_1, .int .i64 x39_1, .int .i64 (rd t187 x7_1), .string (⟨#[53, 48]⟩ : ByteArray), .string (⟨#[49, 53]⟩ : ByteArray)] rfl (by (try simp only [List.map_toArray, List.map_cons, List.map_nil]); first | done | rfl | (simp only [List.length_drop, List.length_take]; rfl)) ?_; (with_reducible refine (taltop_moved.calls k1 x39_1 x39_1 (rd t187 x7_1) (⟨#[53, 48]⟩ : ByteArray) (⟨#[49, 53]⟩ : ByteArray) t211 t212 t213 _ A34.out).mono ?_); rintro e w37 ⟨v214, rfl, ho0, hb⟩; refine ⟨_, rfl, ?_⟩; have n0_ := Aside0.mk (Kd.R_below (by (with_reducible repeat (first | apply Kd.R_alloc | apply Kd.R_drewN | apply Kd.R_drew)); exact (Kd.R_mono (Kd.R_far (p := ⟨gb209, 2, none⟩) (Kd.R_far (p := ⟨gb209, 1, none⟩) (Kd.R_far (p := ⟨gb209, 0, none⟩) (Kd.R_types HO_3.out BK209.out (by decide)) (fun _ hk => hk.2) (.string t204)) (fun _ hk => hk.2) (.int .i64 t205)) (fun _ hk => hk.2) (.slice Ao27 t206.length co27)) (fun _ h_ => h_.1))) hb); have n1_ := Aside0.mk (Kd.R_below (by (with_reducible repeat (first | apply Kd.R_alloc | apply Kd.R_drewN | apply Kd.R_drew)); exact (Kd.R_mono (Kd.R_far (p := ⟨gb209, 2, none⟩) (Kd.R_far (p := ⟨gb209, 1, none⟩) (Kd.R_far (p := ⟨gb209, 0, none⟩) (Kd.R_types HO_4.out BK209.out (by decide)) (fun _ hk => hk.2) (.string t204)) (fun _ hk => hk.2) (.int .i64 t205)) (fun _ hk => hk.2) (.slice Ao27 t206.length co27)) (fun _ h_ => h_.1))) hb); have n2_ := Aside0.mk (Kd.R_below (by (with_reducible repeat (first | apply Kd.R_alloc | apply Kd.R_drewN | apply Kd.R_drew)); exact (Kd.R_mono (Kd.R_far (p := ⟨gb209, 2, none⟩) (Kd.R_far (p := ⟨gb209, 1, none⟩) (Kd.R_far (p := ⟨gb209, 0, none⟩) (Kd.R_types HO_202000.out BK209.out (by decide)) (fun _ hk => hk.2) (.string t204)) (fun _ hk => hk.2) (.int .i64 t205)) (fun _ hk => hk.2) (.slice Ao27 t206.length co27)) (fun _ h_ => h_.1))) hb); have n3_ := Aside0.mk (Kd.S_elder' (by (with_reducible repeat (first | apply Kd.S_alloc | apply Kd.S_drewN | apply Kd.S_drew)); exact (Kd.S_mono (Kd.S_far (p := ⟨gb209, 2, none⟩) (Kd.S_far (p := ⟨gb209, 1, none⟩) (Kd.S_far (p := ⟨gb209, 0, none⟩) (Kd.S_mono HO_202001.out (fun k_ hk => (⟨hk, hk.2⟩ : _ ∧ k_ ≠ gb209))) (fun _ hk => hk.2) (.string t204)) (fun _ hk => hk.2) (.int .i64 t205)) (fun _ hk => hk.2) (.slice Ao27 t206.length co27)) (fun _ h_ => h_.1))) (Kd.R_base ho0) hb); have n4_ := Aside0.mk (Kd.R_elder' (by (with_reducible repeat (first | apply Kd.R_alloc | apply Kd.R_drewN | apply Kd.R_drew)); exact (Kd.R_mono (Kd.R_far (p := ⟨gb209, 2, none⟩) (Kd.R_far (p := ⟨gb209, 1, none⟩) (Kd.R_far (p := ⟨gb209, 0, none⟩) (Kd.R_types HO208.out BK209.out (by decide)) (fun _ hk => hk.2) (.string t204)) (fun _ hk => hk.2) (.int .i64 t205)) (fun _ hk => hk.2) (.slice Ao27 t206.length co27)) (fun _ h_ => h_.1))) (Kd.R_base ho0) hb); have n5_ := Aside0.mk (Kd.R_lower (Kd.R_new' ho0 (Kd.R_lt (by (with_reducible repeat (first | apply Kd.R_alloc | apply Kd.R_drewN | apply Kd.R_drew)); exact (Kd.R_mono (Kd.R_far (p := ⟨gb209, 2, none⟩) (Kd.R_far (p := ⟨gb209, 1, none⟩) (Kd.R_far (p := ⟨gb209, 0, none⟩) (Kd.R_types HO208.out BK209.out (by decide)) (fun _ hk => hk.2) (.string t204)) (fun _ hk => hk.2) (.int .i64 t205)) (fun _ hk => hk.2) (.slice Ao27 t206.length co27)) (fun _ h_ => h_.1))))) (below_size (by repeat (first | (with_reducible first | exact HB.out | apply below_alloc | apply pw_below_drewN | apply below_drew1 | refine below_set ?_ GE201.out | refine below_set ?_ GE203.out | refine below_set ?_ GE209.out) | exact HB.out)))); have n6_ := Aside0.mk (blk_below (g := gb201) (o := .cells #[u202000, u202001, .int .i64 x202002_1] 32 (0, 0)) (by (with_reducible repeat (first | refine blk_drewN ?_ _ | refine blk_drew ?_ | refine blk_alloc ?_ _)); refine blk_far ?_ NB201_209.out _; (with_reducible repeat (first | refine blk_drewN ?_ _ | refine blk_drew ?_ | refine blk_alloc ?_ _)); refine blk_far ?_ NB201_209.out _; (with_reducible repeat (first | refine blk_drewN ?_ _ | refine blk_drew ?_ | refine blk_alloc ?_ _)); refine blk_far ?_ NB201_209.out _; (with_reducible repeat (first | refine blk_drewN ?_ _ | refine blk_drew ?_ | refine blk_alloc ?_ _)); exact BK201.out) hb); have n7_ := Aside0.mk (blk_below (g := gb203) (o := .cells #[.int .i64 ((rd_T35 l0 x39_1).f0), .int .i64 ((rd_T35 l0 x39_1).f1)] 35 (0, 0)) (by (with_reducible repeat (first | refine blk_drewN ?_ _ | refine blk_drew ?_ | refine blk_alloc ?_ _)); refine blk_far ?_ NB203_209.out _; (with_reducible repeat (first | refine blk_drewN ?_ _ | refine blk_drew ?_ | refine blk_alloc ?_ _)); refine blk_far ?_ NB203_209.out _; (with_reducible repeat (first | refine blk_drewN ?_ _ | refine blk_drew ?_ | refine blk_alloc ?_ _)); refine blk_far ?_ NB203_209.out _; (with_reducible repeat (first | refine blk_drewN ?_ _ | refine blk_drew ?_ | refine blk_alloc ?_ _)); exact BK203.out) hb); have n8_ := Aside0.mk (blk_below (g := gb209) (o := .cells #[.string t204, .int .i64 t205, .slice Ao27 t206.length co27] 38 (0, 0)) (by (with_reducible repeat (first | refine blk_drewN ?_ _ | refine blk_drew ?_ | refine blk_alloc ?_ _)); refine blk_put (cs := #[.string t204, .int .i64 t205, .slice none 0 0]) ?_ 2 _ rfl; (with_reducible repeat (first | refine blk_drewN ?_ _ | refine blk_drew ?_ | refine blk_alloc ?_ _)); refine blk_put (cs := #[.string t204, .int .i64 0, .slice none 0 0]) ?_ 1 _ rfl; (with_reducible repeat (first | refine blk_drewN ?_ _ | refine blk_drew ?_ | refine blk_alloc ?_ _)); refine blk_put (cs := #[.string (⟨#[]⟩ : ByteArray), .int .i64 0, .slice none 0 0]) ?_ 0 _ rfl; (with_reducible repeat (first | refine blk_drewN ?_ _ | refine blk_drew ?_ | refine blk_alloc ?_ _)); exact BK209.out) hb); have n9_ := Aside0.mk (below_step (by repeat (first | (with_reducible first | exact HB.out | apply below_alloc | apply pw_below_drewN | apply below_drew1 | refine below_set ?_ GE201.out | refine below_set ?_ GE203.out | refine below_set ?_ GE209.out) | exact HB.out)) hb); clear HO_3; clear HO_4; clear HO_202000; clear HO_202001; clear HO208; clear BK201; clear BK203; clear BK209; clear HB; have HO_3 := n0_; have HO_4 := n1_; have HO_202000 := n2_; have HO_202001 := n3_; have HO208 := n4_; have HO215 := n5_; have BK201 := n6_; have BK203 := n7_; have BK209 := n8_; have HB := n9_; clear n0_ n1_ n2_ n3_ n4_ n5_ n6_ n7_ n8_ n9_; (try clear hb); (try clear hb2); (try clear hk); (try clear hi); (try clear ho0); have hnb38 := NB209_201.out; have hnc38 := NB201_209.out; have hnb39 := NB209_203.out; have hnc39 := NB203_209.out; have hcz40_0 : w37.cell? ⟨gb209, 0, none⟩ = some (.string t204) := (blk_cell BK209.out 0).trans rfl; have hcz40_1 : w37.cell? ⟨gb209, 1, none⟩ = some (.int .i64 t205) := (blk_cell BK209.out 1).trans rfl; have hcz40_2 : w37.cell? ⟨gb209, 2, none⟩ = some (.slice Ao27 t206.length co27) := (blk_cell BK209.out 2).trans rfl; have hfz40_0 := blk_frozen BK209.out 0; have hfz40_1 := blk_frozen BK209.out 1; have hfz40_2 := blk_frozen BK209.out 2; obtain ⟨Ao41, co41, eo41⟩ := Kd.R_slice HO215.out; subst eo41; have p216 : 0 ≤ (x7_1 : Int) := of_decide_eq_true (by first | (with_reducible assumption) | assumption); have q216 : x7_1 < (t187.length : Int) := of_decide_eq_true (by first | (with_reducible assumption) | assumption); obtain ⟨ad216, e216, hx216_0⟩ := Kd.at_int (Kd.R_reads' HO_3.out).2.2 x7_1 p216 q216; obtain rfl : ad210 = ad216 := (by injection e216); have hn216_0 : ad210.block ≠ gb209 := Kd.own_blk (Kd.R_ne HO_3.out BK209.out (by decide)); have hn216_1 : ad210.block ≠ gb209 := Kd.own_blk (Kd.R_ne HO_3.out BK209.out (by decide)); have hn216_2 : ad210.block ≠ gb209 := Kd.own_blk (Kd.R_ne HO_3.out BK209.out (by decide)); replace hx216_0 := (cell_far (p := ⟨gb209, 0, none⟩) (by first | (rw [add_block]; exact hn216_0) | (show (Addr.add _ _).block ≠ _; rw [add_block]; exact hn216_0) | exact hn216_0) (.string t211)).trans hx216_0; replace hx216_0 := (cell_far (p := ⟨gb209, 1, none⟩) (by first | (rw [add_block]; exact hn216_1) | (show (Addr.add _ _).block ≠ _; rw [add_block]; exact hn216_1) | exact hn216_1) (.int .i64 t212)).trans hx216_0; replace hx216_0 := (cell_far (p := ⟨gb209, 2, none⟩) (by first | (rw [add_block]; exact hn216_2) | (show (Addr.add _ _).block ≠ _; rw [add_block]; exact hn216_2) | exact hn216_2) (.slice Ao41 t213.length co41)).trans hx216_0; clear hn216_0; clear hn216_1; clear hn216_2; replace p216 := eq_true p216; replace q216 := eq_true q216))
                            go_ret
                            exact ⟨by first | rfl | (simp [errW_none, errW_some] <;> rfl) | (simp [*, errW_none, errW_some] <;> rfl), by repeat (first | (with_reducible first | exact HB.out | apply below_alloc | apply pw_below_drewN | apply below_drew1 | refine below_set ?_ GE201.out | refine below_set ?_ GE203.out | refine below_set ?_ GE209.out) | exact HB.out)⟩
                          · rw [if_neg c35] at H
                            have c35b0 : decide (1000000000000 < (rd t187 x7_1)) = false := decide_eq_false c35
                            clear c35
                            have H' := Aside0.mk H
                            clear H
                            obtain ⟨Ao42, co42, eo42⟩ := Kd.R_slice HO_3.out
                            subst eo42
                            have p210 : 0 ≤ (x7_1 : Int) := of_decide_eq_true (by first | (with_reducible assumption) | assumption)
                            have q210 : x7_1 < (t187.length : Int) := of_decide_eq_true (by first | (with_reducible assumption) | assumption)
                            obtain ⟨ad210, e210, hx210_0⟩ := Kd.at_int (Kd.R_reads' HO_3.out).2.2 x7_1 p210 q210
                            cases e210
                            have hn210_0 : ad210.block ≠ gb209 := Kd.own_blk (Kd.R_ne HO_3.out BK209.out (by decide))
                            have hn210_1 : ad210.block ≠ gb209 := Kd.own_blk (Kd.R_ne HO_3.out BK209.out (by decide))
                            have hn210_2 : ad210.block ≠ gb209 := Kd.own_blk (Kd.R_ne HO_3.out BK209.out (by decide))
                            replace hx210_0 := (cell_far (p := ⟨gb209, 0, none⟩) (by first | (rw [add_block]; exact hn210_0) | (show (Addr.add _ _).block ≠ _; rw [add_block]; exact hn210_0) | exact hn210_0) (.string t204)).trans hx210_0
                            replace hx210_0 := (cell_far (p := ⟨gb209, 1, none⟩) (by first | (rw [add_block]; exact hn210_1) | (show (Addr.add _ _).block ≠ _; rw [add_block]; exact hn210_1) | exact hn210_1) (.int .i64 t205)).trans hx210_0
                            replace hx210_0 := (cell_far (p := ⟨gb209, 2, none⟩) (by first | (rw [add_block]; exact hn210_2) | (show (Addr.add _ _).block ≠ _; rw [add_block]; exact hn210_2) | exact hn210_2) (.slice Ao27 t206.length co27)).trans hx210_0
                            clear hn210_0
                            clear hn210_1
                            clear hn210_2
                            replace p210 := eq_true p210
                            replace q210 := eq_true q210
                            go_wp2_with (first | ((with_reducible refine gate_callee (f := 11) rfl ?_); refine goesL_ (some 62) rfl rfl Try.func11 (by kernel_rfl) rfl #[.int .i64 x39_1, .int .i64 x39_1, .int .i64 (rd t187 x7_1), .string (⟨#[53, 48]⟩ : ByteArray), .string (⟨#[49, 53]⟩ : ByteArray)] rfl (by (try simp only [List.map_toArray, List.map_cons, List.map_nil]); first | done | rfl | (simp only [List.length_drop, List.length_take]; rfl)) ?_; (with_reducible refine (taltop_moved.calls k1 x39_1 x39_1 (rd t187 x7_1) (⟨#[53, 48]⟩ : ByteArray) (⟨#[49, 53]⟩ : ByteArray) t211 t212 t213 _ A34.out).mono ?_); rintro e w43 ⟨v214, rfl, ho0, hb⟩; refine ⟨_, rfl, ?_⟩; have n0_ := Aside0.mk (Kd.R_below (by (with_reducible repeat (first | apply Kd.R_alloc | apply Kd.R_drewN | apply Kd.R_drew)); exact (Kd.R_mono (Kd.R_far (p := ⟨gb209, 2, none⟩) (Kd.R_far (p := ⟨gb209, 1, none⟩) (Kd.R_far (p := ⟨gb209, 0, none⟩) (Kd.R_types HO_3.out BK209.out (by decide)) (fun _ hk => hk.2) (.string t204)) (fun _ hk => hk.2) (.int .i64 t205)) (fun _ hk => hk.2) (.slice Ao27 t206.length co27)) (fun _ h_ => h_.1))) hb); have n1_ := Aside0.mk (Kd.R_below (by (with_reducible repeat (first | apply Kd.R_alloc | apply Kd.R_drewN | apply Kd.R_drew)); exact (Kd.R_mono (Kd.R_far (p := ⟨gb209, 2, none⟩) (Kd.R_far (p := ⟨gb209, 1, none⟩) (Kd.R_far (p := ⟨gb209, 0, none⟩) (Kd.R_types HO_4.out BK209.out (by decide)) (fun _ hk => hk.2) (.string t204)) (fun _ hk => hk.2) (.int .i64 t205)) (fun _ hk => hk.2) (.slice Ao27 t206.length co27)) (fun _ h_ => h_.1))) hb); have n2_ := Aside0.mk (Kd.R_below (by (with_reducible repeat (first | apply Kd.R_alloc | apply Kd.R_drewN | apply Kd.R_drew)); exact (Kd.R_mono (Kd.R_far (p := ⟨gb209, 2, none⟩) (Kd.R_far (p := ⟨gb209, 1, none⟩) (Kd.R_far (p := ⟨gb209, 0, none⟩) (Kd.R_types HO_202000.out BK209.out (by decide)) (fun _ hk => hk.2) (.string t204)) (fun _ hk => hk.2) (.int .i64 t205)) (fun _ hk => hk.2) (.slice Ao27 t206.length co27)) (fun _ h_ => h_.1))) hb); have n3_ := Aside0.mk (Kd.S_elder' (by (with_reducible repeat (first | apply Kd.S_alloc | apply Kd.S_drewN | apply Kd.S_drew)); exact (Kd.S_mono (Kd.S_far (p := ⟨gb209, 2, none⟩) (Kd.S_far (p := ⟨gb209, 1, none⟩) (Kd.S_far (p := ⟨gb209, 0, none⟩) (Kd.S_mono HO_202001.out (fun k_ hk => (⟨hk, hk.2⟩ : _ ∧ k_ ≠ gb209))) (fun _ hk => hk.2) (.string t204)) (fun _ hk => hk.2) (.int .i64 t205)) (fun _ hk => hk.2) (.slice Ao27 t206.length co27)) (fun _ h_ => h_.1))) (Kd.R_base ho0) hb); have n4_ := Aside0.mk (Kd.R_elder' (by (with_reducible repeat (first | apply Kd.R_alloc | apply Kd.R_drewN | apply Kd.R_drew)); exact (Kd.R_mono (Kd.R_far (p := ⟨gb209, 2, none⟩) (Kd.R_far (p := ⟨gb209, 1, none⟩) (Kd.R_far (p := ⟨gb209, 0, none⟩) (Kd.R_types HO208.out BK209.out (by decide)) (fun _ hk => hk.2) (.string t204)) (fun _ hk => hk.2) (.int .i64 t205)) (fun _ hk => hk.2) (.slice Ao27 t206.length co27)) (fun _ h_ => h_.1))) (Kd.R_base ho0) hb); have n5_ := Aside0.mk (Kd.R_lower (Kd.R_new' ho0 (Kd.R_lt (by (with_reducible repeat (first | apply Kd.R_alloc | apply Kd.R_drewN | apply Kd.R_drew)); exact (Kd.R_mono (Kd.R_far (p := ⟨gb209, 2, none⟩) (Kd.R_far (p := ⟨gb209, 1, none⟩) (Kd.R_far (p := ⟨gb209, 0, none⟩) (Kd.R_types HO208.out BK209.out (by decide)) (fun _ hk => hk.2) (.string t204)) (fun _ hk => hk.2) (.int .i64 t205)) (fun _ hk => hk.2) (.slice Ao27 t206.length co27)) (fun _ h_ => h_.1))))) (below_size (by repeat (first | (with_reducible first | exact HB.out | apply below_alloc | apply pw_below_drewN | apply below_drew1 | refine below_set ?_ GE201.out | refine below_set ?_ GE203.out | refine below_set ?_ GE209.out) | exact HB.out)))); have n6_ := Aside0.mk (blk_below (g := gb201) (o := .cells #[u202000, u202001, .int .i64 x202002_1] 32 (0, 0)) (by (with_reducible repeat (first | refine blk_drewN ?_ _ | refine blk_drew ?_ | refine blk_alloc ?_ _)); refine blk_far ?_ NB201_209.out _; (with_reducible repeat (first | refine blk_drewN ?_ _ | refine blk_drew ?_ | refine blk_alloc ?_ _)); refine blk_far ?_ NB201_209.out _; (with_reducible repeat (first | refine blk_drewN ?_ _ | refine blk_drew ?_ | refine blk_alloc ?_ _)); refine blk_far ?_ NB201_209.out _; (with_reducible repeat (first | refine blk_drewN ?_ _ | refine blk_drew ?_ | refine blk_alloc ?_ _)); exact BK201.out) hb); have n7_ := Aside0.mk (blk_below (g := gb203) (o := .cells #[.int .i64 ((rd_T35 l0 x39_1).f0), .int .i64 ((rd_T35 l0 x39_1).f1)] 35 (0, 0)) (by (with_reducible repeat (first | refine blk_drewN ?_ _ | refine blk_drew ?_ | refine blk_alloc ?_ _)); refine blk_far ?_ NB203_209.out _; (with_reducible repeat (first | refine blk_drewN ?_ _ | refine blk_drew ?_ | refine blk_alloc ?_ _)); refine blk_far ?_ NB203_209.out _; (with_reducible repeat (first | refine blk_drewN ?_ _ | refine blk_drew ?_ | refine blk_alloc ?_ _)); refine blk_far ?_ NB203_209.out _; (with_reducible repeat (first | refine blk_drewN ?_ _ | refine blk_drew ?_ | refine blk_alloc ?_ _)); exact BK203.out) hb); have n8_ := Aside0.mk (blk_below (g := gb209) (o := .cells #[.string t204, .int .i64 t205, .slice Ao27 t206.length co27] 38 (0, 0)) (by (with_reducible repeat (first | refine blk_drewN ?_ _ | refine blk_drew ?_ | refine blk_alloc ?_ _)); refine blk_put (cs := #[.string t204, .int .i64 t205, .slice none 0 0]) ?_ 2 _ rfl; (with_reducible repeat (first | refine blk_drewN ?_ _ | refine blk_drew ?_ | refine blk_alloc ?_ _)); refine blk_put (cs := #[.string t204, .int .i64 0, .slice none 0 0]) ?_ 1 _ rfl; (with_reducible repeat (first | refine blk_drewN ?_ _ | refine blk_drew ?_ | refine blk_alloc ?_ _)); refine blk_put (cs := #[.string (⟨#[]⟩ : ByteArray), .int .i64 0, .slice none 0 0]) ?_ 0 _ rfl; (with_reducible repeat (first | refine blk_drewN ?_ _ | refine blk_drew ?_ | refine blk_alloc ?_ _)); exact BK209.out) hb); have n9_ := Aside0.mk (below_step (by repeat (first | (with_reducible first | exact HB.out | apply below_alloc | apply pw_below_drewN | apply below_drew1 | refine below_set ?_ GE201.out | refine below_set ?_ GE203.out | refine below_set ?_ GE209.out) | exact HB.out)) hb); clear HO_3; clear HO_4; clear HO_202000; clear HO_202001; clear HO208; clear BK201; clear BK203; clear BK209; clear HB; have HO_3 := n0_; have HO_4 := n1_; have HO_202000 := n2_; have HO_202001 := n3_; have HO208 := n4_; have HO215 := n5_; have BK201 := n6_; have BK203 := n7_; have BK209 := n8_; have HB := n9_; clear n0_ n1_ n2_ n3_ n4_ n5_ n6_ n7_ n8_ n9_; (try clear hb); (try clear hb2); (try clear hk); (try clear hi); (try clear ho0); have hnb44 := NB209_201.out; have hnc44 := NB201_209.out; have hnb45 := NB209_203.out; have hnc45 := NB203_209.out; have hcz46_0 : w43.cell? ⟨gb209, 0, none⟩ = some (.string t204) := (blk_cell BK209.out 0).trans rfl; have hcz46_1 : w43.cell? ⟨gb209, 1, none⟩ = some (.int .i64 t205) := (blk_cell BK209.out 1).trans rfl; have hcz46_2 : w43.cell? ⟨gb209, 2, none⟩ = some (.slice Ao27 t206.length co27) := (blk_cell BK209.out 2).trans rfl; have hfz46_0 := blk_frozen BK209.out 0; have hfz46_1 := blk_frozen BK209.out 1; have hfz46_2 := blk_frozen BK209.out 2; obtain ⟨Ao47, co47, eo47⟩ := Kd.R_slice HO215.out; subst eo47; have p216 : 0 ≤ (x7_1 : Int) := of_decide_eq_true (by first | (with_reducible assumption) | assumption); have q216 : x7_1 < (t187.length : Int) := of_decide_eq_true (by first | (with_reducible assumption) | assumption); obtain ⟨ad216, e216, hx216_0⟩ := Kd.at_int (Kd.R_reads' HO_3.out).2.2 x7_1 p216 q216; obtain rfl : ad210 = ad216 := (by injection e216); have hn216_0 : ad210.block ≠ gb209 := Kd.own_blk (Kd.R_ne HO_3.out BK209.out (by decide)); have hn216_1 : ad210.block ≠ gb209 := Kd.own_blk (Kd.R_ne HO_3.out BK209.out (by decide)); have hn216_2 : ad210.block ≠ gb209 := Kd.own_blk (Kd.R_ne HO_3.out BK209.out (by decide)); replace hx216_0 := (cell_far (p := ⟨gb209, 0, none⟩) (by first | (rw [add_block]; exact hn216_0) | (show (Addr.add _ _).block ≠ _; rw [add_block]; exact hn216_0) | exact hn216_0) (.string t211)).trans hx216_0; replace hx216_0 := (cell_far (p := ⟨gb209, 1, none⟩) (by first | (rw [add_block]; exact hn216_1) | (show (Addr.add _ _).block ≠ _; rw [add_block]; exact hn216_1) | exact hn216_1) (.int .i64 t212)).trans hx216_0; replace hx216_0 := (cell_far (p := ⟨gb209, 2, none⟩) (by first | (rw [add_block]; exact hn216_2) | (show (Addr.add _ _).block ≠ _; rw [add_block]; exact hn216_2) | exact hn216_2) (.slice Ao47 t213.length co47)).trans hx216_0; clear hn216_0; clear hn216_1; clear hn216_2; replace p216 := eq_true p216; replace q216 := eq_true q216))
                            go_meet
                            case rel => exact ⟨_, (wrap64 (x7_1 + 1)), (t211), (t212), (t213), (.slice Ao47 t213.length co47), (by first | rfl | (simp; done) | (simp [*]; done)), H', ⟨by have := HK1.out; first | omega | exact Nat.le_refl _⟩, ⟨by (with_reducible repeat (first | apply Kd.R_alloc | apply Kd.R_drewN | apply Kd.R_drew)); exact Kd.R_mono (Kd.R_far (p := ⟨gb209, 2, none⟩) (Kd.R_far (p := ⟨gb209, 1, none⟩) (Kd.R_far (p := ⟨gb209, 0, none⟩) (Kd.R_types HO_3.out BK209.out (by decide)) (fun _ hk => hk.2) (.string t211)) (fun _ hk => hk.2) (.int .i64 t212)) (fun _ hk => hk.2) (.slice Ao47 t213.length co47)) (fun _ hk => trivial)⟩, ⟨by (with_reducible repeat (first | apply Kd.R_alloc | apply Kd.R_drewN | apply Kd.R_drew)); exact Kd.R_mono (Kd.R_far (p := ⟨gb209, 2, none⟩) (Kd.R_far (p := ⟨gb209, 1, none⟩) (Kd.R_far (p := ⟨gb209, 0, none⟩) (Kd.R_types HO_4.out BK209.out (by decide)) (fun _ hk => hk.2) (.string t211)) (fun _ hk => hk.2) (.int .i64 t212)) (fun _ hk => hk.2) (.slice Ao47 t213.length co47)) (fun _ hk => trivial)⟩, ⟨by (with_reducible repeat (first | apply Kd.R_alloc | apply Kd.R_drewN | apply Kd.R_drew)); exact Kd.R_mono (Kd.R_far (p := ⟨gb209, 2, none⟩) (Kd.R_far (p := ⟨gb209, 1, none⟩) (Kd.R_far (p := ⟨gb209, 0, none⟩) (Kd.R_types HO_202000.out BK209.out (by decide)) (fun _ hk => hk.2) (.string t211)) (fun _ hk => hk.2) (.int .i64 t212)) (fun _ hk => hk.2) (.slice Ao47 t213.length co47)) (fun _ hk => trivial)⟩, ⟨by (with_reducible repeat (first | apply Kd.S_alloc | apply Kd.S_drewN | apply Kd.S_drew)); exact Kd.S_mono (Kd.S_far (p := ⟨gb209, 2, none⟩) (Kd.S_far (p := ⟨gb209, 1, none⟩) (Kd.S_far (p := ⟨gb209, 0, none⟩) (Kd.S_mono HO_202001.out (fun k_ hk => (⟨hk, hk.1.2⟩ : _ ∧ k_ ≠ gb209))) (fun _ hk => hk.2) (.string t211)) (fun _ hk => hk.2) (.int .i64 t212)) (fun _ hk => hk.2) (.slice Ao47 t213.length co47)) (fun _ hk => ⟨hk.1.2, hk.1.1.2⟩)⟩, ⟨by (with_reducible repeat (first | apply Kd.R_alloc | apply Kd.R_drewN | apply Kd.R_drew)); exact Kd.R_mono (Kd.R_far (p := ⟨gb209, 2, none⟩) (Kd.R_far (p := ⟨gb209, 1, none⟩) (Kd.R_far (p := ⟨gb209, 0, none⟩) (Kd.R_types HO215.out BK209.out (by decide)) (fun _ hk => hk.2) (.string t211)) (fun _ hk => hk.2) (.int .i64 t212)) (fun _ hk => hk.2) (.slice Ao47 t213.length co47)) (fun _ hk => trivial)⟩, ⟨by (with_reducible repeat (first | refine blk_drewN ?_ _ | refine blk_drew ?_ | refine blk_alloc ?_ _)); refine blk_far ?_ NB201_209.out _; (with_reducible repeat (first | refine blk_drewN ?_ _ | refine blk_drew ?_ | refine blk_alloc ?_ _)); refine blk_far ?_ NB201_209.out _; (with_reducible repeat (first | refine blk_drewN ?_ _ | refine blk_drew ?_ | refine blk_alloc ?_ _)); refine blk_far ?_ NB201_209.out _; (with_reducible repeat (first | refine blk_drewN ?_ _ | refine blk_drew ?_ | refine blk_alloc ?_ _)); exact BK201.out⟩, ⟨by (with_reducible repeat (first | refine blk_drewN ?_ _ | refine blk_drew ?_ | refine blk_alloc ?_ _)); refine blk_far ?_ NB203_209.out _; (with_reducible repeat (first | refine blk_drewN ?_ _ | refine blk_drew ?_ | refine blk_alloc ?_ _)); refine blk_far ?_ NB203_209.out _; (with_reducible repeat (first | refine blk_drewN ?_ _ | refine blk_drew ?_ | refine blk_alloc ?_ _)); refine blk_far ?_ NB203_209.out _; (with_reducible repeat (first | refine blk_drewN ?_ _ | refine blk_drew ?_ | refine blk_alloc ?_ _)); exact BK203.out⟩, ⟨by (with_reducible repeat (first | refine blk_drewN ?_ _ | refine blk_drew ?_ | refine blk_alloc ?_ _)); refine blk_put (cs := #[.string t211, .int .i64 t212, .slice Ao27 t206.length co27]) ?_ 2 _ rfl; (with_reducible repeat (first | refine blk_drewN ?_ _ | refine blk_drew ?_ | refine blk_alloc ?_ _)); refine blk_put (cs := #[.string t211, .int .i64 t205, .slice Ao27 t206.length co27]) ?_ 1 _ rfl; (with_reducible repeat (first | refine blk_drewN ?_ _ | refine blk_drew ?_ | refine blk_alloc ?_ _)); refine blk_put (cs := #[.string t204, .int .i64 t205, .slice Ao27 t206.length co27]) ?_ 0 _ rfl; (with_reducible repeat (first | refine blk_drewN ?_ _ | refine blk_drew ?_ | refine blk_alloc ?_ _)); exact BK209.out⟩, ⟨by repeat (first | (with_reducible first | exact HB.out | apply below_alloc | apply pw_below_drewN | apply below_drew1 | refine below_set ?_ GE201.out | refine below_set ?_ GE203.out | refine below_set ?_ GE209.out) | exact HB.out)⟩⟩
                        · rw [if_neg c33] at H
                          exact absurd H (by simp)
                      · rw [if_neg c32] at H
                        exact absurd H (by simp)
                  · rw [if_neg c29] at H
                    have c29b0 : decide (((rd_T35 l0 x39_1).f0) < 0) = false := decide_eq_false c29
                    clear c29
                    (first | rw [c29b0] | (simp only [i64_w, i32_w]; rw [c29b0]) | skip)
                    have H' := Aside0.mk H
                    clear H
                    go_wp2
                    go_meet
                    case rel => exact ⟨_, (x7_1), (t204), (t205), (t206), (.slice Ao27 t206.length co27), (by first | rfl | (simp; done) | (simp [*]; done)), H', ⟨by have := HK1.out; first | omega | exact Nat.le_refl _⟩, ⟨by (with_reducible repeat (first | apply Kd.R_alloc | apply Kd.R_drewN | apply Kd.R_drew)); exact Kd.R_mono (Kd.R_far (p := ⟨gb209, 2, none⟩) (Kd.R_far (p := ⟨gb209, 1, none⟩) (Kd.R_far (p := ⟨gb209, 0, none⟩) (Kd.R_types HO_3.out BK209.out (by decide)) (fun _ hk => hk.2) (.string t204)) (fun _ hk => hk.2) (.int .i64 t205)) (fun _ hk => hk.2) (.slice Ao27 t206.length co27)) (fun _ hk => trivial)⟩, ⟨by (with_reducible repeat (first | apply Kd.R_alloc | apply Kd.R_drewN | apply Kd.R_drew)); exact Kd.R_mono (Kd.R_far (p := ⟨gb209, 2, none⟩) (Kd.R_far (p := ⟨gb209, 1, none⟩) (Kd.R_far (p := ⟨gb209, 0, none⟩) (Kd.R_types HO_4.out BK209.out (by decide)) (fun _ hk => hk.2) (.string t204)) (fun _ hk => hk.2) (.int .i64 t205)) (fun _ hk => hk.2) (.slice Ao27 t206.length co27)) (fun _ hk => trivial)⟩, ⟨by (with_reducible repeat (first | apply Kd.R_alloc | apply Kd.R_drewN | apply Kd.R_drew)); exact Kd.R_mono (Kd.R_far (p := ⟨gb209, 2, none⟩) (Kd.R_far (p := ⟨gb209, 1, none⟩) (Kd.R_far (p := ⟨gb209, 0, none⟩) (Kd.R_types HO_202000.out BK209.out (by decide)) (fun _ hk => hk.2) (.string t204)) (fun _ hk => hk.2) (.int .i64 t205)) (fun _ hk => hk.2) (.slice Ao27 t206.length co27)) (fun _ hk => trivial)⟩, ⟨by (with_reducible repeat (first | apply Kd.S_alloc | apply Kd.S_drewN | apply Kd.S_drew)); exact Kd.S_mono (Kd.S_far (p := ⟨gb209, 2, none⟩) (Kd.S_far (p := ⟨gb209, 1, none⟩) (Kd.S_far (p := ⟨gb209, 0, none⟩) (Kd.S_mono HO_202001.out (fun k_ hk => (⟨hk, hk.2⟩ : _ ∧ k_ ≠ gb209))) (fun _ hk => hk.2) (.string t204)) (fun _ hk => hk.2) (.int .i64 t205)) (fun _ hk => hk.2) (.slice Ao27 t206.length co27)) (fun _ hk => ⟨hk.1.1.2, hk.1.2⟩)⟩, ⟨by (with_reducible repeat (first | apply Kd.R_alloc | apply Kd.R_drewN | apply Kd.R_drew)); exact Kd.R_mono (Kd.R_far (p := ⟨gb209, 2, none⟩) (Kd.R_far (p := ⟨gb209, 1, none⟩) (Kd.R_far (p := ⟨gb209, 0, none⟩) (Kd.R_types HO208.out BK209.out (by decide)) (fun _ hk => hk.2) (.string t204)) (fun _ hk => hk.2) (.int .i64 t205)) (fun _ hk => hk.2) (.slice Ao27 t206.length co27)) (fun _ hk => trivial)⟩, ⟨by (with_reducible repeat (first | refine blk_drewN ?_ _ | refine blk_drew ?_ | refine blk_alloc ?_ _)); refine blk_far ?_ NB201_209.out _; (with_reducible repeat (first | refine blk_drewN ?_ _ | refine blk_drew ?_ | refine blk_alloc ?_ _)); refine blk_far ?_ NB201_209.out _; (with_reducible repeat (first | refine blk_drewN ?_ _ | refine blk_drew ?_ | refine blk_alloc ?_ _)); refine blk_far ?_ NB201_209.out _; (with_reducible repeat (first | refine blk_drewN ?_ _ | refine blk_drew ?_ | refine blk_alloc ?_ _)); exact BK201.out⟩, ⟨by (with_reducible repeat (first | refine blk_drewN ?_ _ | refine blk_drew ?_ | refine blk_alloc ?_ _)); refine blk_far ?_ NB203_209.out _; (with_reducible repeat (first | refine blk_drewN ?_ _ | refine blk_drew ?_ | refine blk_alloc ?_ _)); refine blk_far ?_ NB203_209.out _; (with_reducible repeat (first | refine blk_drewN ?_ _ | refine blk_drew ?_ | refine blk_alloc ?_ _)); refine blk_far ?_ NB203_209.out _; (with_reducible repeat (first | refine blk_drewN ?_ _ | refine blk_drew ?_ | refine blk_alloc ?_ _)); exact BK203.out⟩, ⟨by (with_reducible repeat (first | refine blk_drewN ?_ _ | refine blk_drew ?_ | refine blk_alloc ?_ _)); refine blk_put (cs := #[.string t204, .int .i64 t205, .slice none 0 0]) ?_ 2 _ rfl; (with_reducible repeat (first | refine blk_drewN ?_ _ | refine blk_drew ?_ | refine blk_alloc ?_ _)); refine blk_put (cs := #[.string t204, .int .i64 0, .slice none 0 0]) ?_ 1 _ rfl; (with_reducible repeat (first | refine blk_drewN ?_ _ | refine blk_drew ?_ | refine blk_alloc ?_ _)); refine blk_put (cs := #[.string (⟨#[]⟩ : ByteArray), .int .i64 0, .slice none 0 0]) ?_ 0 _ rfl; (with_reducible repeat (first | refine blk_drewN ?_ _ | refine blk_drew ?_ | refine blk_alloc ?_ _)); exact BK209.out⟩, ⟨by repeat (first | (with_reducible first | exact HB.out | apply below_alloc | apply pw_below_drewN | apply below_drew1 | refine below_set ?_ GE201.out | refine below_set ?_ GE203.out | refine below_set ?_ GE209.out) | exact HB.out)⟩⟩
                case rest =>
                  clear HC18
                  try clear c1
                  try clear c2
                  try clear p2
                  try clear q2
                  try clear hx2
                  try clear c3
                  try clear c4
                  try clear c5
                  try clear c5b0
                  try clear c5b1
                  try clear p6
                  try clear c8
                  try clear c9
                  try clear c10
                  try clear c11
                  try clear c14
                  try clear c14b0
                  try clear c15
                  try clear c15b0
                  try clear c16
                  try clear c16b0
                  try clear c20
                  try clear p20
                  try clear q20
                  try clear hx20
                  try clear p21
                  try clear q21
                  try clear hx21
                  try clear c24
                  try clear c25
                  try clear c29
                  try clear c29b0
                  try clear c30
                  try clear c30b0
                  try clear c30b1
                  try clear c32
                  try clear c32b0
                  try clear c33
                  try clear c33b0
                  try clear c35
                  try clear c35b0
                  try clear c38
                  try clear c39
                  try clear c44
                  try clear c45
                  try clear hcz12_0
                  try clear hcz12_1
                  try clear hcz12_2
                  try clear hcz21_0
                  try clear hcz21_1
                  try clear hcz26_0
                  try clear hcz26_1
                  try clear hcz26_2
                  try clear hcz28_0
                  try clear hcz28_1
                  try clear hcz40_0
                  try clear hcz40_1
                  try clear hcz40_2
                  try clear hcz46_0
                  try clear hcz46_1
                  try clear hcz46_2
                  try clear hfz12_0
                  try clear hfz12_1
                  try clear hfz12_2
                  try clear hfz21_0
                  try clear hfz21_1
                  try clear hfz26_0
                  try clear hfz26_1
                  try clear hfz26_2
                  try clear hfz28_0
                  try clear hfz28_1
                  try clear hfz40_0
                  try clear hfz40_1
                  try clear hfz40_2
                  try clear hfz46_0
                  try clear hfz46_1
                  try clear hfz46_2
                  try clear hx202_0
                  try clear hx202_1
                  try clear hx210_0
                  try clear hx216_0
                  try clear p2
                  try clear p202
                  try clear p210
                  try clear p216
                  try clear q202
                  try clear q210
                  try clear q216
                  obtain ⟨kq, x7_17, x210000_17, x210001_17, x210002_17, u210002, rfl, HA, HJ17, HO_3, HO_4, HO_202000, HO_202001, HO_210002, BK201, BK203, BK209, HB⟩ := hcut
                  cases kq with
                  | zero => exact absurd HA.out (by simp [taltop_TopStock.j1])
                  | succ kj17 =>
                    have H := HA.out
                    clear HA
                    simp only [taltop_TopStock.j1] at H
                    by_cases c48 : 0 < (x210002_17.length : Int)
                    · rw [if_pos c48] at H
                      have c48b0 : decide (0 < (x210002_17.length : Int)) = true := decide_eq_true c48
                      have c48b1 : decide (0 < x210002_17.length) = true := decide_eq_true (by omega)
                      clear c48
                      by_cases c49 : ((rd_T41 x210002_17 0).f1) = 0
                      · rw [if_pos c49] at H
                        have c49b0 : (((rd_T41 x210002_17 0).f1) == 0) = true := beq_iff_eq.mpr c49
                        have c49b1 : (((rd_T41 x210002_17 0).f1) != 0) = false := bne_eq_false_iff_eq.mpr c49
                        clear c49
                        have H' := Aside0.mk H
                        clear H
                        have hnb50 := NB209_201.out
                        have hnc50 := NB201_209.out
                        have hnb51 := NB209_203.out
                        have hnc51 := NB203_209.out
                        have hcz52_0 : wc.cell? ⟨gb209, 0, none⟩ = some (.string x210000_17) := (blk_cell BK209.out 0).trans rfl
                        have hcz52_1 : wc.cell? ⟨gb209, 1, none⟩ = some (.int .i64 x210001_17) := (blk_cell BK209.out 1).trans rfl
                        have hcz52_2 : wc.cell? ⟨gb209, 2, none⟩ = some (u210002) := (blk_cell BK209.out 2).trans rfl
                        have hfz52_0 := blk_frozen BK209.out 0
                        have hfz52_1 := blk_frozen BK209.out 1
                        have hfz52_2 := blk_frozen BK209.out 2
                        obtain ⟨Ao53, co53, eo53⟩ := Kd.R_slice HO_210002.out
                        subst eo53
                        have p217 : 0 ≤ (0 : Int) := (by omega)
                        have q217 : 0 < (x210002_17.length : Int) := of_decide_eq_true (by first | (with_reducible assumption) | assumption)
                        obtain ⟨ad217, e217, hx217_0, hx217_1⟩ := at_T41 (Kd.R_reads' HO_210002.out).2.2 0 p217 q217
                        cases e217
                        have qi217 : (0 < x210002_17.length) = True := eq_true (by omega)
                        (try rw [show ((0 : Int)).toNat = 0 from rfl] at hx217_0)
                        (try rw [show 0 * 2 = 0 from rfl] at hx217_0)
                        (try rw [Addr.add_zero'] at hx217_0)
                        (try rw [show ((0 : Int)).toNat = 0 from rfl] at hx217_1)
                        (try rw [show 0 * 2 = 0 from rfl] at hx217_1)
                        (try rw [Addr.add_zero'] at hx217_1)
                        replace p217 := eq_true p217
                        replace q217 := eq_true q217
                        go_wp2
                        go_roundg kj17
                        case measure => have := HK1.out; have := HJ17.out; omega
                        case rel => exact ⟨(x7_17), (wrap64 (x39_1 + 1)), (x202000_1), (x202001_1), (x202002_1), (u202000), (u202001), (by first | rfl | (simp; done) | (simp [*]; done)), (by first | rfl | (simp; done) | (simp [*]; done)), H', ⟨by have := HK1.out; have := HJ17.out; omega⟩, ⟨by (with_reducible repeat (first | apply Kd.R_alloc | apply Kd.R_drewN | apply Kd.R_drew)); exact HO_3.out⟩, ⟨by (with_reducible repeat (first | apply Kd.R_alloc | apply Kd.R_drewN | apply Kd.R_drew)); exact HO_4.out⟩, ⟨by (with_reducible repeat (first | apply Kd.R_alloc | apply Kd.R_drewN | apply Kd.R_drew)); exact HO_202000.out⟩, ⟨by (with_reducible repeat (first | apply Kd.S_alloc | apply Kd.S_drewN | apply Kd.S_drew)); exact Kd.S_mono HO_202001.out (fun _ hk => trivial)⟩, ⟨by (with_reducible repeat (first | refine blk_drewN ?_ _ | refine blk_drew ?_ | refine blk_alloc ?_ _)); exact BK201.out⟩, ⟨by repeat (first | (with_reducible first | exact HB.out | apply below_alloc | apply pw_below_drewN | apply below_drew1 | refine below_set ?_ GE201.out | refine below_set ?_ GE203.out | refine below_set ?_ GE209.out) | exact HB.out)⟩⟩
                      · rw [if_neg c49] at H
                        have c49b0 : (((rd_T41 x210002_17 0).f1) == 0) = false := beq_eq_false_iff_ne.mpr c49
                        have c49b1 : (((rd_T41 x210002_17 0).f1) != 0) = true := bne_iff_ne.mpr c49
                        replace H := Option.bind_eq_some_iff.mp H
                        obtain ⟨⟨t218, t221, t224, t225⟩, A540, H⟩ := H
                        replace H : (if t225 = 0 then (taltop_TopStock.l0 kj17 t187 t188 x7_17 l0 (l0.length : Int) (wrap64 (x39_1 + 1)) t218 t221 t224) else (some false)) = some r := H
                        have A54 := Aside0.mk A540
                        clear A540
                        by_cases c55 : t225 = 0
                        · rw [if_pos c55] at H
                          have c55b0 : (t225 == 0) = true := beq_iff_eq.mpr c55
                          have c55b1 : (t225 != 0) = false := bne_eq_false_iff_eq.mpr c55
                          clear c55
                          have H' := Aside0.mk H
                          clear H
                          have hnb56 := NB209_201.out
                          have hnc56 := NB201_209.out
                          have hnb57 := NB209_203.out
                          have hnc57 := NB203_209.out
                          have hcz58_0 : wc.cell? ⟨gb209, 0, none⟩ = some (.string x210000_17) := (blk_cell BK209.out 0).trans rfl
                          have hcz58_1 : wc.cell? ⟨gb209, 1, none⟩ = some (.int .i64 x210001_17) := (blk_cell BK209.out 1).trans rfl
                          have hcz58_2 : wc.cell? ⟨gb209, 2, none⟩ = some (u210002) := (blk_cell BK209.out 2).trans rfl
                          have hfz58_0 := blk_frozen BK209.out 0
                          have hfz58_1 := blk_frozen BK209.out 1
                          have hfz58_2 := blk_frozen BK209.out 2
                          obtain ⟨Ao59, co59, eo59⟩ := Kd.R_slice HO_210002.out
                          subst eo59
                          have p217 : 0 ≤ (0 : Int) := (by omega)
                          have q217 : 0 < (x210002_17.length : Int) := of_decide_eq_true (by first | (with_reducible assumption) | assumption)
                          obtain ⟨ad217, e217, hx217_0, hx217_1⟩ := at_T41 (Kd.R_reads' HO_210002.out).2.2 0 p217 q217
                          cases e217
                          have qi217 : (0 < x210002_17.length) = True := eq_true (by omega)
                          (try rw [show ((0 : Int)).toNat = 0 from rfl] at hx217_0)
                          (try rw [show 0 * 2 = 0 from rfl] at hx217_0)
                          (try rw [Addr.add_zero'] at hx217_0)
                          (try rw [show ((0 : Int)).toNat = 0 from rfl] at hx217_1)
                          (try rw [show 0 * 2 = 0 from rfl] at hx217_1)
                          (try rw [Addr.add_zero'] at hx217_1)
                          replace p217 := eq_true p217
                          replace q217 := eq_true q217
                          have hnb60 := NB201_203.out
                          have hnc60 := NB203_201.out
                          have hcz61_0 : wc.cell? ⟨gb201, 0, none⟩ = some (u202000) := (blk_cell BK201.out 0).trans rfl
                          have hcz61_1 : wc.cell? ⟨gb201, 1, none⟩ = some (u202001) := (blk_cell BK201.out 1).trans rfl
                          have hcz61_2 : wc.cell? ⟨gb201, 2, none⟩ = some (.int .i64 x202002_1) := (blk_cell BK201.out 2).trans rfl
                          have hfz61_0 := blk_frozen BK201.out 0
                          have hfz61_1 := blk_frozen BK201.out 1
                          have hfz61_2 := blk_frozen BK201.out 2
                          obtain ⟨Ao62, co62, eo62⟩ := Kd.R_slice HO_202000.out
                          subst eo62
                          obtain ⟨Ao63, co63, eo63⟩ := Kd.S_slice HO_202001.out
                          subst eo63
                          go_wp2_with (first | ((with_reducible refine gate_callee (f := 12) rfl ?_); refine goesL_ (some 79) rfl rfl Try.func12 (by kernel_rfl) rfl #[.agg #[.slice Ao62 x202000_1.length co62, .slice Ao63 x202001_1.length co63, .int .i64 x202002_1], .agg #[.string x210000_17, .int .i64 x210001_17, .slice (some ad217) x210002_17.length co59]] rfl (by (try simp only [List.map_toArray, List.map_cons, List.map_nil]); first | done | rfl | (simp only [List.length_drop, List.length_take]; rfl)) ?_; (with_reducible refine (book_Post.calls _ _ x202000_1 _ _ x202001_1 x202002_1 x210000_17 x210001_17 _ _ x210002_17 t218 t221 t224 t225 _ ?side1 ?side2 ?side3 ?side4 ?side5 ?side6 A54.out).mono ?_); (case side1 => repeat (first | exact (Kd.R_reads' HO_202000.out).2.2 | (with_reducible refine Kd.C_alloc ?_ _) | (with_reducible refine Kd.C_drewN ?_ _) | (with_reducible refine Kd.C_drew ?_))); (case side2 => exact (Kd.R_reads' HO_202000.out).2.1); (case side3 => repeat (first | exact (Kd.S_reads' HO_202001.out).2.2 | (with_reducible refine Kd.C_alloc ?_ _) | (with_reducible refine Kd.C_drewN ?_ _) | (with_reducible refine Kd.C_drew ?_))); (case side4 => exact (Kd.S_reads' HO_202001.out).2.1); (case side5 => repeat (first | exact (Kd.R_reads' HO_210002.out).2.2 | (with_reducible refine Kd.C_alloc ?_ _) | (with_reducible refine Kd.C_drewN ?_ _) | (with_reducible refine Kd.C_drew ?_))); (case side6 => exact (Kd.R_reads' HO_210002.out).2.1); rintro e w64 ⟨v219, v222, rfl, ho0, ho1, hb⟩; refine ⟨_, rfl, ?_⟩; have n0_ := Aside0.mk (Kd.R_below (by (with_reducible repeat (first | apply Kd.R_alloc | apply Kd.R_drewN | apply Kd.R_drew)); exact HO_3.out) hb); have n1_ := Aside0.mk (Kd.R_below (by (with_reducible repeat (first | apply Kd.R_alloc | apply Kd.R_drewN | apply Kd.R_drew)); exact HO_4.out) hb); have n2_ := Aside0.mk (Kd.R_elder' (by (with_reducible repeat (first | apply Kd.R_alloc | apply Kd.R_drewN | apply Kd.R_drew)); exact HO_202000.out) (Kd.R_base ho0) hb); have n3_ := Aside0.mk (Kd.S_elder' (by (with_reducible repeat (first | apply Kd.S_alloc | apply Kd.S_drewN | apply Kd.S_drew)); exact HO_202001.out) (Kd.S_base ho1) hb); have n4_ := Aside0.mk (Kd.R_below (by (with_reducible repeat (first | apply Kd.R_alloc | apply Kd.R_drewN | apply Kd.R_drew)); exact HO_210002.out) hb); have n5_ := Aside0.mk (Kd.R_lower (Kd.R_new' ho0 (Kd.R_lt (by (with_reducible repeat (first | apply Kd.R_alloc | apply Kd.R_drewN | apply Kd.R_drew)); exact HO_202000.out))) (below_size (by repeat (first | (with_reducible first | exact HB.out | apply below_alloc | apply pw_below_drewN | apply below_drew1 | refine below_set ?_ GE201.out | refine below_set ?_ GE203.out | refine below_set ?_ GE209.out) | exact HB.out)))); have n6_ := Aside0.mk (Kd.S_lower (Kd.S_newB (Kd.S_new' (Kd.S_new' ho1 (Kd.S_lt (by (with_reducible repeat (first | apply Kd.S_alloc | apply Kd.S_drewN | apply Kd.S_drew)); exact HO_202001.out))) (Kd.R_lt (by (with_reducible repeat (first | apply Kd.R_alloc | apply Kd.R_drewN | apply Kd.R_drew)); exact HO_210002.out))) (g := gb209) (o := .cells #[.string x210000_17, .int .i64 x210001_17, .slice (some ad217) x210002_17.length co59] 38 (0, 0)) (by (with_reducible repeat (first | refine blk_drewN ?_ _ | refine blk_drew ?_ | refine blk_alloc ?_ _)); exact BK209.out)) (below_size (by repeat (first | (with_reducible first | exact HB.out | apply below_alloc | apply pw_below_drewN | apply below_drew1 | refine below_set ?_ GE201.out | refine below_set ?_ GE203.out | refine below_set ?_ GE209.out) | exact HB.out)))); have n7_ := Aside0.mk (blk_below (g := gb201) (o := .cells #[.slice Ao62 x202000_1.length co62, .slice Ao63 x202001_1.length co63, .int .i64 x202002_1] 32 (0, 0)) (by (with_reducible repeat (first | refine blk_drewN ?_ _ | refine blk_drew ?_ | refine blk_alloc ?_ _)); exact BK201.out) hb); have n8_ := Aside0.mk (blk_below (g := gb203) (o := .cells #[.int .i64 ((rd_T35 l0 x39_1).f0), .int .i64 ((rd_T35 l0 x39_1).f1)] 35 (0, 0)) (by (with_reducible repeat (first | refine blk_drewN ?_ _ | refine blk_drew ?_ | refine blk_alloc ?_ _)); exact BK203.out) hb); have n9_ := Aside0.mk (blk_below (g := gb209) (o := .cells #[.string x210000_17, .int .i64 x210001_17, .slice (some ad217) x210002_17.length co59] 38 (0, 0)) (by (with_reducible repeat (first | refine blk_drewN ?_ _ | refine blk_drew ?_ | refine blk_alloc ?_ _)); exact BK209.out) hb); have n10_ := Aside0.mk (below_step (by repeat (first | (with_reducible first | exact HB.out | apply below_alloc | apply pw_below_drewN | apply below_drew1 | refine below_set ?_ GE201.out | refine below_set ?_ GE203.out | refine below_set ?_ GE209.out) | exact HB.out)) hb); clear HO_3; clear HO_4; clear HO_202000; clear HO_202001; clear HO_210002; clear BK201; clear BK203; clear BK209; clear HB; have HO_3 := n0_; have HO_4 := n1_; have HO_202000 := n2_; have HO_202001 := n3_; have HO_210002 := n4_; have HO220 := n5_; have HO223 := n6_; have BK201 := n7_; have BK203 := n8_; have BK209 := n9_; have HB := n10_; clear n0_ n1_ n2_ n3_ n4_ n5_ n6_ n7_ n8_ n9_ n10_; (try clear hb); (try clear hb2); (try clear hk); (try clear hi); (try clear ho0); (try clear ho1); obtain ⟨Ao65, co65, eo65⟩ := Kd.R_slice HO220.out; subst eo65; have hcz66_0 : w64.cell? ⟨gb201, 0, none⟩ = some (.slice Ao62 x202000_1.length co62) := (blk_cell BK201.out 0).trans rfl; have hcz66_1 : w64.cell? ⟨gb201, 1, none⟩ = some (.slice Ao63 x202001_1.length co63) := (blk_cell BK201.out 1).trans rfl; have hcz66_2 : w64.cell? ⟨gb201, 2, none⟩ = some (.int .i64 x202002_1) := (blk_cell BK201.out 2).trans rfl; have hfz66_0 := blk_frozen BK201.out 0; have hfz66_1 := blk_frozen BK201.out 1; have hfz66_2 := blk_frozen BK201.out 2; obtain ⟨Ao67, co67, eo67⟩ := Kd.S_slice HO223.out; subst eo67))
                          go_roundg kj17
                          case measure => have := HK1.out; have := HJ17.out; omega
                          case rel => exact ⟨(x7_17), (wrap64 (x39_1 + 1)), (t218), (t221), (t224), (.slice Ao65 t218.length co65), (.slice Ao67 t221.length co67), (by first | rfl | (simp; done) | (simp [*]; done)), (by first | rfl | (simp; done) | (simp [*]; done)), H', ⟨by have := HK1.out; have := HJ17.out; omega⟩, ⟨by (with_reducible repeat (first | apply Kd.R_alloc | apply Kd.R_drewN | apply Kd.R_drew)); exact Kd.R_mono (Kd.R_far (p := ⟨gb201, 2, none⟩) (Kd.R_far (p := ⟨gb201, 1, none⟩) (Kd.R_far (p := ⟨gb201, 0, none⟩) (Kd.R_types HO_3.out BK201.out (by decide)) (fun _ hk => hk.2) (.slice Ao65 t218.length co65)) (fun _ hk => hk.2) (.slice Ao67 t221.length co67)) (fun _ hk => hk.2) (.int .i64 t224)) (fun _ hk => trivial)⟩, ⟨by (with_reducible repeat (first | apply Kd.R_alloc | apply Kd.R_drewN | apply Kd.R_drew)); exact Kd.R_mono (Kd.R_far (p := ⟨gb201, 2, none⟩) (Kd.R_far (p := ⟨gb201, 1, none⟩) (Kd.R_far (p := ⟨gb201, 0, none⟩) (Kd.R_types HO_4.out BK201.out (by decide)) (fun _ hk => hk.2) (.slice Ao65 t218.length co65)) (fun _ hk => hk.2) (.slice Ao67 t221.length co67)) (fun _ hk => hk.2) (.int .i64 t224)) (fun _ hk => trivial)⟩, ⟨by (with_reducible repeat (first | apply Kd.R_alloc | apply Kd.R_drewN | apply Kd.R_drew)); exact Kd.R_mono (Kd.R_far (p := ⟨gb201, 2, none⟩) (Kd.R_far (p := ⟨gb201, 1, none⟩) (Kd.R_far (p := ⟨gb201, 0, none⟩) (Kd.R_types HO220.out BK201.out (by decide)) (fun _ hk => hk.2) (.slice Ao65 t218.length co65)) (fun _ hk => hk.2) (.slice Ao67 t221.length co67)) (fun _ hk => hk.2) (.int .i64 t224)) (fun _ hk => trivial)⟩, ⟨by (with_reducible repeat (first | apply Kd.S_alloc | apply Kd.S_drewN | apply Kd.S_drew)); exact Kd.S_mono (Kd.S_far (p := ⟨gb201, 2, none⟩) (Kd.S_far (p := ⟨gb201, 1, none⟩) (Kd.S_far (p := ⟨gb201, 0, none⟩) (Kd.S_types HO223.out BK201.out (by decide)) (fun _ hk => hk.2) (.slice Ao65 t218.length co65)) (fun _ hk => hk.2) (.slice Ao67 t221.length co67)) (fun _ hk => hk.2) (.int .i64 t224)) (fun _ hk => trivial)⟩, ⟨by (with_reducible repeat (first | refine blk_drewN ?_ _ | refine blk_drew ?_ | refine blk_alloc ?_ _)); refine blk_put (cs := #[.slice Ao65 t218.length co65, .slice Ao67 t221.length co67, .int .i64 x202002_1]) ?_ 2 _ rfl; (with_reducible repeat (first | refine blk_drewN ?_ _ | refine blk_drew ?_ | refine blk_alloc ?_ _)); refine blk_put (cs := #[.slice Ao65 t218.length co65, .slice Ao63 x202001_1.length co63, .int .i64 x202002_1]) ?_ 1 _ rfl; (with_reducible repeat (first | refine blk_drewN ?_ _ | refine blk_drew ?_ | refine blk_alloc ?_ _)); refine blk_put (cs := #[.slice Ao62 x202000_1.length co62, .slice Ao63 x202001_1.length co63, .int .i64 x202002_1]) ?_ 0 _ rfl; (with_reducible repeat (first | refine blk_drewN ?_ _ | refine blk_drew ?_ | refine blk_alloc ?_ _)); exact BK201.out⟩, ⟨by repeat (first | (with_reducible first | exact HB.out | apply below_alloc | apply pw_below_drewN | apply below_drew1 | refine below_set ?_ GE201.out | refine below_set ?_ GE203.out | refine below_set ?_ GE209.out) | exact HB.out)⟩⟩
                        · rw [if_neg c55] at H
                          have c55b0 : (t225 == 0) = false := beq_eq_false_iff_ne.mpr c55
                          have c55b1 : (t225 != 0) = true := bne_iff_ne.mpr c55
                          obtain rfl := Option.some.inj H
                          have hnb68 := NB209_201.out
                          have hnc68 := NB201_209.out
                          have hnb69 := NB209_203.out
                          have hnc69 := NB203_209.out
                          have hcz70_0 : wc.cell? ⟨gb209, 0, none⟩ = some (.string x210000_17) := (blk_cell BK209.out 0).trans rfl
                          have hcz70_1 : wc.cell? ⟨gb209, 1, none⟩ = some (.int .i64 x210001_17) := (blk_cell BK209.out 1).trans rfl
                          have hcz70_2 : wc.cell? ⟨gb209, 2, none⟩ = some (u210002) := (blk_cell BK209.out 2).trans rfl
                          have hfz70_0 := blk_frozen BK209.out 0
                          have hfz70_1 := blk_frozen BK209.out 1
                          have hfz70_2 := blk_frozen BK209.out 2
                          obtain ⟨Ao71, co71, eo71⟩ := Kd.R_slice HO_210002.out
                          subst eo71
                          have p217 : 0 ≤ (0 : Int) := (by omega)
                          have q217 : 0 < (x210002_17.length : Int) := of_decide_eq_true (by first | (with_reducible assumption) | assumption)
                          obtain ⟨ad217, e217, hx217_0, hx217_1⟩ := at_T41 (Kd.R_reads' HO_210002.out).2.2 0 p217 q217
                          cases e217
                          have qi217 : (0 < x210002_17.length) = True := eq_true (by omega)
                          (try rw [show ((0 : Int)).toNat = 0 from rfl] at hx217_0)
                          (try rw [show 0 * 2 = 0 from rfl] at hx217_0)
                          (try rw [Addr.add_zero'] at hx217_0)
                          (try rw [show ((0 : Int)).toNat = 0 from rfl] at hx217_1)
                          (try rw [show 0 * 2 = 0 from rfl] at hx217_1)
                          (try rw [Addr.add_zero'] at hx217_1)
                          replace p217 := eq_true p217
                          replace q217 := eq_true q217
                          have hnb72 := NB201_203.out
                          have hnc72 := NB203_201.out
                          have hcz73_0 : wc.cell? ⟨gb201, 0, none⟩ = some (u202000) := (blk_cell BK201.out 0).trans rfl
                          have hcz73_1 : wc.cell? ⟨gb201, 1, none⟩ = some (u202001) := (blk_cell BK201.out 1).trans rfl
                          have hcz73_2 : wc.cell? ⟨gb201, 2, none⟩ = some (.int .i64 x202002_1) := (blk_cell BK201.out 2).trans rfl
                          have hfz73_0 := blk_frozen BK201.out 0
                          have hfz73_1 := blk_frozen BK201.out 1
                          have hfz73_2 := blk_frozen BK201.out 2
                          obtain ⟨Ao74, co74, eo74⟩ := Kd.R_slice HO_202000.out
                          subst eo74
                          obtain ⟨Ao75, co75, eo75⟩ := Kd.S_slice HO_202001.out
                          subst eo75
                          go_wp2_with (first | ((with_reducible refine gate_callee (f := 12) rfl ?_); refine goesL_ (some 79) rfl rfl Try.func12 (by kernel_rfl) rfl #[.agg #[.slice Ao74 x202000_1.length co74, .slice Ao75 x202001_1.length co75, .int .i64 x202002_1], .agg #[.string x210000_17, .int .i64 x210001_17, .slice (some ad217) x210002_17.length co71]] rfl (by (try simp only [List.map_toArray, List.map_cons, List.map_nil]); first | done | rfl | (simp only [List.length_drop, List.length_take]; rfl)) ?_; (with_reducible refine (book_Post.calls _ _ x202000_1 _ _ x202001_1 x202002_1 x210000_17 x210001_17 _ _ x210002_17 t218 t221 t224 t225 _ ?side1 ?side2 ?side3 ?side4 ?side5 ?side6 A54.out).mono ?_); (case side1 => repeat (first | exact (Kd.R_reads' HO_202000.out).2.2 | (with_reducible refine Kd.C_alloc ?_ _) | (with_reducible refine Kd.C_drewN ?_ _) | (with_reducible refine Kd.C_drew ?_))); (case side2 => exact (Kd.R_reads' HO_202000.out).2.1); (case side3 => repeat (first | exact (Kd.S_reads' HO_202001.out).2.2 | (with_reducible refine Kd.C_alloc ?_ _) | (with_reducible refine Kd.C_drewN ?_ _) | (with_reducible refine Kd.C_drew ?_))); (case side4 => exact (Kd.S_reads' HO_202001.out).2.1); (case side5 => repeat (first | exact (Kd.R_reads' HO_210002.out).2.2 | (with_reducible refine Kd.C_alloc ?_ _) | (with_reducible refine Kd.C_drewN ?_ _) | (with_reducible refine Kd.C_drew ?_))); (case side6 => exact (Kd.R_reads' HO_210002.out).2.1); rintro e w76 ⟨v219, v222, rfl, ho0, ho1, hb⟩; refine ⟨_, rfl, ?_⟩; have n0_ := Aside0.mk (Kd.R_below (by (with_reducible repeat (first | apply Kd.R_alloc | apply Kd.R_drewN | apply Kd.R_drew)); exact HO_3.out) hb); have n1_ := Aside0.mk (Kd.R_below (by (with_reducible repeat (first | apply Kd.R_alloc | apply Kd.R_drewN | apply Kd.R_drew)); exact HO_4.out) hb); have n2_ := Aside0.mk (Kd.R_elder' (by (with_reducible repeat (first | apply Kd.R_alloc | apply Kd.R_drewN | apply Kd.R_drew)); exact HO_202000.out) (Kd.R_base ho0) hb); have n3_ := Aside0.mk (Kd.S_elder' (by (with_reducible repeat (first | apply Kd.S_alloc | apply Kd.S_drewN | apply Kd.S_drew)); exact HO_202001.out) (Kd.S_base ho1) hb); have n4_ := Aside0.mk (Kd.R_below (by (with_reducible repeat (first | apply Kd.R_alloc | apply Kd.R_drewN | apply Kd.R_drew)); exact HO_210002.out) hb); have n5_ := Aside0.mk (Kd.R_lower (Kd.R_new' ho0 (Kd.R_lt (by (with_reducible repeat (first | apply Kd.R_alloc | apply Kd.R_drewN | apply Kd.R_drew)); exact HO_202000.out))) (below_size (by repeat (first | (with_reducible first | exact HB.out | apply below_alloc | apply pw_below_drewN | apply below_drew1 | refine below_set ?_ GE201.out | refine below_set ?_ GE203.out | refine below_set ?_ GE209.out) | exact HB.out)))); have n6_ := Aside0.mk (Kd.S_lower (Kd.S_newB (Kd.S_new' (Kd.S_new' ho1 (Kd.S_lt (by (with_reducible repeat (first | apply Kd.S_alloc | apply Kd.S_drewN | apply Kd.S_drew)); exact HO_202001.out))) (Kd.R_lt (by (with_reducible repeat (first | apply Kd.R_alloc | apply Kd.R_drewN | apply Kd.R_drew)); exact HO_210002.out))) (g := gb209) (o := .cells #[.string x210000_17, .int .i64 x210001_17, .slice (some ad217) x210002_17.length co71] 38 (0, 0)) (by (with_reducible repeat (first | refine blk_drewN ?_ _ | refine blk_drew ?_ | refine blk_alloc ?_ _)); exact BK209.out)) (below_size (by repeat (first | (with_reducible first | exact HB.out | apply below_alloc | apply pw_below_drewN | apply below_drew1 | refine below_set ?_ GE201.out | refine below_set ?_ GE203.out | refine below_set ?_ GE209.out) | exact HB.out)))); have n7_ := Aside0.mk (blk_below (g := gb201) (o := .cells #[.slice Ao74 x202000_1.length co74, .slice Ao75 x202001_1.length co75, .int .i64 x202002_1] 32 (0, 0)) (by (with_reducible repeat (first | refine blk_drewN ?_ _ | refine blk_drew ?_ | refine blk_alloc ?_ _)); exact BK201.out) hb); have n8_ := Aside0.mk (blk_below (g := gb203) (o := .cells #[.int .i64 ((rd_T35 l0 x39_1).f0), .int .i64 ((rd_T35 l0 x39_1).f1)] 35 (0, 0)) (by (with_reducible repeat (first | refine blk_drewN ?_ _ | refine blk_drew ?_ | refine blk_alloc ?_ _)); exact BK203.out) hb); have n9_ := Aside0.mk (blk_below (g := gb209) (o := .cells #[.string x210000_17, .int .i64 x210001_17, .slice (some ad217) x210002_17.length co71] 38 (0, 0)) (by (with_reducible repeat (first | refine blk_drewN ?_ _ | refine blk_drew ?_ | refine blk_alloc ?_ _)); exact BK209.out) hb); have n10_ := Aside0.mk (below_step (by repeat (first | (with_reducible first | exact HB.out | apply below_alloc | apply pw_below_drewN | apply below_drew1 | refine below_set ?_ GE201.out | refine below_set ?_ GE203.out | refine below_set ?_ GE209.out) | exact HB.out)) hb); clear HO_3; clear HO_4; clear HO_202000; clear HO_202001; clear HO_210002; clear BK201; clear BK203; clear BK209; clear HB; have HO_3 := n0_; have HO_4 := n1_; have HO_202000 := n2_; have HO_202001 := n3_; have HO_210002 := n4_; have HO220 := n5_; have HO223 := n6_; have BK201 := n7_; have BK203 := n8_; have BK209 := n9_; have HB := n10_; clear n0_ n1_ n2_ n3_ n4_ n5_ n6_ n7_ n8_ n9_ n10_; (try clear hb); (try clear hb2); (try clear hk); (try clear hi); (try clear ho0); (try clear ho1); obtain ⟨Ao77, co77, eo77⟩ := Kd.R_slice HO220.out; subst eo77; have hcz78_0 : w76.cell? ⟨gb201, 0, none⟩ = some (.slice Ao74 x202000_1.length co74) := (blk_cell BK201.out 0).trans rfl; have hcz78_1 : w76.cell? ⟨gb201, 1, none⟩ = some (.slice Ao75 x202001_1.length co75) := (blk_cell BK201.out 1).trans rfl; have hcz78_2 : w76.cell? ⟨gb201, 2, none⟩ = some (.int .i64 x202002_1) := (blk_cell BK201.out 2).trans rfl; have hfz78_0 := blk_frozen BK201.out 0; have hfz78_1 := blk_frozen BK201.out 1; have hfz78_2 := blk_frozen BK201.out 2; obtain ⟨Ao79, co79, eo79⟩ := Kd.S_slice HO223.out; subst eo79))
                          go_ret
                          exact ⟨by first | rfl | (simp [errW_none, errW_some] <;> rfl) | (simp [*, errW_none, errW_some] <;> rfl), by repeat (first | (with_reducible first | exact HB.out | apply below_alloc | apply pw_below_drewN | apply below_drew1 | refine below_set ?_ GE201.out | refine below_set ?_ GE203.out | refine below_set ?_ GE209.out) | exact HB.out)⟩
                    · rw [if_neg c48] at H
                      exact absurd H (by simp)
              · rw [if_neg c16] at H
                exact absurd H (by simp)
            · rw [if_neg c15] at H
              exact absurd H (by simp)
          · rw [if_neg c14] at H
            have c14b0 : decide (x39_1 < (l0.length : Int)) = false := decide_eq_false c14
            clear c14
            have H' := Aside0.mk H
            clear H
            obtain ⟨Ao80, co80, eo80⟩ := Kd.R_slice HO_4.out
            subst eo80
            go_wp2
            go_loopg [11, 87] k1 (fun kq v11 v87 w' => ∃ (x11_2 : Int) (x87_2 : Int), v11 = .int .i64 x11_2 ∧ v87 = .int .i64 x87_2 ∧ Aside0 (taltop_TopStock.l1 kq t187 x11_2 t188 (t188.length : Int) x87_2 x202000_1 x202001_1 x202002_1 = some r) ∧ Aside0 (kq ≤ k1) ∧ Aside0 (Kd.R (Kd.int .i64) 3 w' w.heap.size (fun _ => True) v190 t187) ∧ Aside0 (Kd.R k44 44 w' w.heap.size (fun _ => True) (.slice Ao80 t188.length co80) t188) ∧ Aside0 (Kd.R k82 82 w' w.heap.size (fun _ => True) u202000 x202000_1) ∧ Aside0 (Kd.S k38 38 w' w.heap.size (fun _ => True) u202001 x202001_1) ∧ Aside0 (w'.heap[gb201]? = some (.cells #[u202000, u202001, .int .i64 x202002_1] 32 (0, 0))) ∧ Aside0 (Below w.heap.size w w'))
            case atStart => exact ⟨(0), (0), (by first | rfl | (simp; done) | (simp [*]; done)), (by first | rfl | (simp; done) | (simp [*]; done)), H', ⟨Nat.le_refl _⟩, ⟨by (with_reducible repeat (first | apply Kd.R_alloc | apply Kd.R_drewN | apply Kd.R_drew)); exact HO_3.out⟩, ⟨by (with_reducible repeat (first | apply Kd.R_alloc | apply Kd.R_drewN | apply Kd.R_drew)); exact HO_4.out⟩, ⟨by (with_reducible repeat (first | apply Kd.R_alloc | apply Kd.R_drewN | apply Kd.R_drew)); exact HO_202000.out⟩, ⟨by (with_reducible repeat (first | apply Kd.S_alloc | apply Kd.S_drewN | apply Kd.S_drew)); exact HO_202001.out⟩, ⟨by (with_reducible repeat (first | refine blk_drewN ?_ _ | refine blk_drew ?_ | refine blk_alloc ?_ _)); exact BK201.out⟩, ⟨by repeat (first | (with_reducible first | exact HB.out | apply below_alloc | apply pw_below_drewN | apply below_drew1 | refine below_set ?_ GE201.out) | exact HB.out)⟩⟩
            case round =>
              clear H'
              try clear c1
              try clear c2
              try clear p2
              try clear q2
              try clear hx2
              try clear qi2
              try clear c3
              try clear c4
              try clear c5
              try clear c5b0
              try clear c5b1
              try clear c6
              try clear p6
              try clear c7
              try clear c8
              try clear c9
              try clear c10
              try clear c11
              try clear c12
              try clear c14
              try clear c14b0
              try clear c15
              try clear c15b0
              try clear c16
              try clear c16b0
              try clear c20
              try clear p20
              try clear q20
              try clear hx20
              try clear p21
              try clear q21
              try clear hx21
              try clear qi21
              try clear c24
              try clear c25
              try clear c29
              try clear c29b0
              try clear c30
              try clear c30b0
              try clear c30b1
              try clear c32
              try clear c32b0
              try clear c33
              try clear c33b0
              try clear c35
              try clear c35b0
              try clear c38
              try clear c39
              try clear c44
              try clear c45
              try clear c48
              try clear c48b0
              try clear c48b1
              try clear c49
              try clear c49b0
              try clear c49b1
              try clear c50
              try clear c51
              try clear c55
              try clear c55b0
              try clear c55b1
              try clear c56
              try clear c57
              try clear c60
              try clear p64
              try clear c68
              try clear c69
              try clear c72
              try clear hcz12_0
              try clear hcz12_1
              try clear hcz12_2
              try clear hcz21_0
              try clear hcz21_1
              try clear hcz26_0
              try clear hcz26_1
              try clear hcz26_2
              try clear hcz28_0
              try clear hcz28_1
              try clear hcz40_0
              try clear hcz40_1
              try clear hcz40_2
              try clear hcz46_0
              try clear hcz46_1
              try clear hcz46_2
              try clear hcz52_0
              try clear hcz52_1
              try clear hcz52_2
              try clear hcz58_0
              try clear hcz58_1
              try clear hcz58_2
              try clear hcz61_0
              try clear hcz61_1
              try clear hcz61_2
              try clear hcz66_0
              try clear hcz66_1
              try clear hcz66_2
              try clear hcz70_0
              try clear hcz70_1
              try clear hcz70_2
              try clear hcz73_0
              try clear hcz73_1
              try clear hcz73_2
              try clear hcz78_0
              try clear hcz78_1
              try clear hcz78_2
              try clear hfz12_0
              try clear hfz12_1
              try clear hfz12_2
              try clear hfz21_0
              try clear hfz21_1
              try clear hfz26_0
              try clear hfz26_1
              try clear hfz26_2
              try clear hfz28_0
              try clear hfz28_1
              try clear hfz40_0
              try clear hfz40_1
              try clear hfz40_2
              try clear hfz46_0
              try clear hfz46_1
              try clear hfz46_2
              try clear hfz52_0
              try clear hfz52_1
              try clear hfz52_2
              try clear hfz58_0
              try clear hfz58_1
              try clear hfz58_2
              try clear hfz61_0
              try clear hfz61_1
              try clear hfz61_2
              try clear hfz66_0
              try clear hfz66_1
              try clear hfz66_2
              try clear hfz70_0
              try clear hfz70_1
              try clear hfz70_2
              try clear hfz73_0
              try clear hfz73_1
              try clear hfz73_2
              try clear hfz78_0
              try clear hfz78_1
              try clear hfz78_2
              try clear hx202_0
              try clear hx202_1
              try clear hx210_0
              try clear hx216_0
              try clear hx217_0
              try clear hx217_1
              try clear p2
              try clear p20
              try clear p202
              try clear p21
              try clear p210
              try clear p216
              try clear p217
              try clear p6
              try clear q2
              try clear q20
              try clear q202
              try clear q21
              try clear q210
              try clear q216
              try clear q217
              obtain ⟨x11_2, x87_2, rfl, rfl, HA, HK2, HO_3, HO_85, HO_202000, HO_202001, BK201, HB⟩ := hrel
              cases gk with
              | zero => exact absurd HA.out (by simp [taltop_TopStock.l1])
              | succ k2 =>
                have H := HA.out
                clear HA
                simp only [taltop_TopStock.l1] at H
                by_cases c81 : x87_2 < (t188.length : Int)
                · rw [if_pos c81] at H
                  have c81b0 : decide (x87_2 < (t188.length : Int)) = true := decide_eq_true c81
                  clear c81
                  by_cases c82 : 0 ≤ x87_2
                  · rw [if_pos c82] at H
                    have c82b0 : decide (0 ≤ x87_2) = true := decide_eq_true c82
                    clear c82
                    by_cases c83 : x87_2 < (t188.length : Int)
                    · rw [if_pos c83] at H
                      have c83b0 : decide (x87_2 < (t188.length : Int)) = true := decide_eq_true c83
                      clear c83
                      have H' := Aside0.mk H
                      clear H
                      have p226 : 0 ≤ (x87_2 : Int) := of_decide_eq_true (by first | (with_reducible assumption) | assumption)
                      have q226 : x87_2 < (t188.length : Int) := of_decide_eq_true (by first | (with_reducible assumption) | assumption)
                      obtain ⟨ad226, e226, hx226_0, hx226_1⟩ := at_T44 (Kd.R_reads' HO_85.out).2.2 x87_2 p226 q226
                      cases e226
                      replace p226 := eq_true p226
                      replace q226 := eq_true q226
                      go_wp2_with (first | ((with_reducible refine gate_dst (N := 13) rfl ?_); (try (refine gate_guard (by rfl) ?_; dsimp only)); refine box_event ?hg (N := 13) ?hd (cs := #[.int .i64 0, .int .i64 0]) (t := 44) ?hr ?_; (case hd => rfl); (case hg => rfl); (case hr => first | (go_simp; done) | (go_simp; rfl)); intro gb227 hg w84 hbox hb; have n0_ := Aside0.mk (Kd.R_below (by (with_reducible repeat (first | apply Kd.R_alloc | apply Kd.R_drewN | apply Kd.R_drew)); exact HO_3.out) hb); have n1_ := Aside0.mk (Kd.R_below (Kd.R_elderB (by (with_reducible repeat (first | apply Kd.R_alloc | apply Kd.R_drewN | apply Kd.R_drew)); exact HO_85.out) gb227 (Nat.le_of_eq hg.symm)) hb); have n2_ := Aside0.mk (Kd.R_below (by (with_reducible repeat (first | apply Kd.R_alloc | apply Kd.R_drewN | apply Kd.R_drew)); exact HO_202000.out) hb); have n3_ := Aside0.mk (Kd.S_below (by (with_reducible repeat (first | apply Kd.S_alloc | apply Kd.S_drewN | apply Kd.S_drew)); exact HO_202001.out) hb); have n4_ := Aside0.mk (blk_below (g := gb201) (o := .cells #[u202000, u202001, .int .i64 x202002_1] 32 (0, 0)) (by (with_reducible repeat (first | refine blk_drewN ?_ _ | refine blk_drew ?_ | refine blk_alloc ?_ _)); exact BK201.out) hb); have n5_ := Aside0.mk (below_step (by repeat (first | (with_reducible first | exact HB.out | apply below_alloc | apply pw_below_drewN | apply below_drew1 | refine below_set ?_ GE201.out) | exact HB.out)) hb); have n6_ := Aside0.mk (hbox); have n7_ := Aside0.mk ((by rw [hg]; exact (below_size (by repeat (first | (with_reducible first | exact HB.out | apply below_alloc | apply pw_below_drewN | apply below_drew1 | refine below_set ?_ GE201.out) | exact HB.out))) : w.heap.size ≤ gb227)); have n8_ := Aside0.mk ((by rw [hg]; exact (below_size (by repeat (first | (with_reducible first | exact HB.out | apply below_alloc | apply pw_below_drewN | apply below_drew1 | refine below_set ?_ GE201.out) | exact HB.out))) : w.heap.size ≤ gb227)); have n9_ := Aside0.mk ((by rw [hg]; exact Nat.ne_of_lt (blk_lt (g := gb201) (o := .cells #[u202000, u202001, .int .i64 x202002_1] 32 (0, 0)) (by (with_reducible repeat (first | refine blk_drewN ?_ _ | refine blk_drew ?_ | refine blk_alloc ?_ _)); exact BK201.out)) : gb201 ≠ gb227)); have n10_ := Aside0.mk ((by rw [hg]; exact Nat.ne_of_gt (blk_lt (g := gb201) (o := .cells #[u202000, u202001, .int .i64 x202002_1] 32 (0, 0)) (by (with_reducible repeat (first | refine blk_drewN ?_ _ | refine blk_drew ?_ | refine blk_alloc ?_ _)); exact BK201.out)) : gb227 ≠ gb201)); clear HO_3; clear HO_85; clear HO_202000; clear HO_202001; clear BK201; clear HB; have HO_3 := n0_; have HO_85 := n1_; have HO_202000 := n2_; have HO_202001 := n3_; have BK201 := n4_; have HB := n5_; have BK227 := n6_; have GW227 := n7_; have GE227 := n8_; have NB201_227 := n9_; have NB227_201 := n10_; clear n0_ n1_ n2_ n3_ n4_ n5_ n6_ n7_ n8_ n9_ n10_; clear hb hbox hg; have hnb85 := NB227_201.out; have hnc85 := NB201_227.out; have hcz86_0 : w84.cell? ⟨gb227, 0, none⟩ = some (.int .i64 0) := (blk_cell BK227.out 0).trans rfl; have hcz86_1 : w84.cell? ⟨gb227, 1, none⟩ = some (.int .i64 0) := (blk_cell BK227.out 1).trans rfl; have hfz86_0 := blk_frozen BK227.out 0; have hfz86_1 := blk_frozen BK227.out 1))
                      go_roundg k2
                      case measure => have := HK1.out; have := HK2.out; omega
                      case rel => exact ⟨(wrap64 (x11_2 + ((rd_T44 t188 x87_2).f1))), (wrap64 (x87_2 + 1)), (by first | rfl | (simp; done) | (simp [*]; done)), (by first | rfl | (simp; done) | (simp [*]; done)), H', ⟨by have := HK1.out; have := HK2.out; omega⟩, ⟨by (with_reducible repeat (first | apply Kd.R_alloc | apply Kd.R_drewN | apply Kd.R_drew)); exact Kd.R_mono (Kd.R_far (p := ⟨gb227, 1, none⟩) (Kd.R_far (p := ⟨gb227, 0, none⟩) (Kd.R_types HO_3.out BK227.out (by decide)) (fun _ hk => hk.2) (.int .i64 ((rd_T44 t188 x87_2).f0))) (fun _ hk => hk.2) (.int .i64 ((rd_T44 t188 x87_2).f1))) (fun _ hk => trivial)⟩, ⟨by (with_reducible repeat (first | apply Kd.R_alloc | apply Kd.R_drewN | apply Kd.R_drew)); exact Kd.R_mono (Kd.R_far (p := ⟨gb227, 1, none⟩) (Kd.R_far (p := ⟨gb227, 0, none⟩) (Kd.R_mono HO_85.out (fun k_ hk => (⟨hk, hk.2⟩ : _ ∧ k_ ≠ gb227))) (fun _ hk => hk.2) (.int .i64 ((rd_T44 t188 x87_2).f0))) (fun _ hk => hk.2) (.int .i64 ((rd_T44 t188 x87_2).f1))) (fun _ hk => trivial)⟩, ⟨by (with_reducible repeat (first | apply Kd.R_alloc | apply Kd.R_drewN | apply Kd.R_drew)); exact Kd.R_mono (Kd.R_far (p := ⟨gb227, 1, none⟩) (Kd.R_far (p := ⟨gb227, 0, none⟩) (Kd.R_types HO_202000.out BK227.out (by decide)) (fun _ hk => hk.2) (.int .i64 ((rd_T44 t188 x87_2).f0))) (fun _ hk => hk.2) (.int .i64 ((rd_T44 t188 x87_2).f1))) (fun _ hk => trivial)⟩, ⟨by (with_reducible repeat (first | apply Kd.S_alloc | apply Kd.S_drewN | apply Kd.S_drew)); exact Kd.S_mono (Kd.S_far (p := ⟨gb227, 1, none⟩) (Kd.S_far (p := ⟨gb227, 0, none⟩) (Kd.S_types HO_202001.out BK227.out (by decide)) (fun _ hk => hk.2) (.int .i64 ((rd_T44 t188 x87_2).f0))) (fun _ hk => hk.2) (.int .i64 ((rd_T44 t188 x87_2).f1))) (fun _ hk => trivial)⟩, ⟨by (with_reducible repeat (first | refine blk_drewN ?_ _ | refine blk_drew ?_ | refine blk_alloc ?_ _)); refine blk_far ?_ NB201_227.out _; (with_reducible repeat (first | refine blk_drewN ?_ _ | refine blk_drew ?_ | refine blk_alloc ?_ _)); refine blk_far ?_ NB201_227.out _; (with_reducible repeat (first | refine blk_drewN ?_ _ | refine blk_drew ?_ | refine blk_alloc ?_ _)); exact BK201.out⟩, ⟨by repeat (first | (with_reducible first | exact HB.out | apply below_alloc | apply pw_below_drewN | apply below_drew1 | refine below_set ?_ GE201.out | refine below_set ?_ GE227.out) | exact HB.out)⟩⟩
                    · rw [if_neg c83] at H
                      exact absurd H (by simp)
                  · rw [if_neg c82] at H
                    exact absurd H (by simp)
                · rw [if_neg c81] at H
                  have c81b0 : decide (x87_2 < (t188.length : Int)) = false := decide_eq_false c81
                  clear c81
                  replace H := Option.bind_eq_some_iff.mp H
                  obtain ⟨⟨t228, t229⟩, A870, H⟩ := H
                  replace H : ((book_Balance.f k2 x202000_1 x202001_1 x202002_1 (⟨#[53, 48]⟩ : ByteArray) 99).bind fun bt230 => (if t229 = 0 then (if bt230.2 = 0 then (if t228 = x11_2 then ((taltop_sum.f k2 t187).bind fun t232 => (some (bt230.1 == t232))) else (some false)) else (some false)) else (some false))) = some r := H
                  have A87 := Aside0.mk A870
                  clear A870
                  replace H := Option.bind_eq_some_iff.mp H
                  obtain ⟨⟨t230, t231⟩, A880, H⟩ := H
                  replace H : (if t229 = 0 then (if t231 = 0 then (if t228 = x11_2 then ((taltop_sum.f k2 t187).bind fun t232 => (some (t230 == t232))) else (some false)) else (some false)) else (some false)) = some r := H
                  have A88 := Aside0.mk A880
                  clear A880
                  by_cases c89 : t229 = 0
                  · rw [if_pos c89] at H
                    have c89b0 : (t229 == 0) = true := beq_iff_eq.mpr c89
                    have c89b1 : (t229 != 0) = false := bne_eq_false_iff_eq.mpr c89
                    clear c89
                    by_cases c90 : t231 = 0
                    · rw [if_pos c90] at H
                      have c90b0 : (t231 == 0) = true := beq_iff_eq.mpr c90
                      have c90b1 : (t231 != 0) = false := bne_eq_false_iff_eq.mpr c90
                      clear c90
                      by_cases c91 : t228 = x11_2
                      · rw [if_pos c91] at H
                        have c91b0 : (t228 == x11_2) = true := beq_iff_eq.mpr c91
                        have c91b1 : (t228 != x11_2) = false := bne_eq_false_iff_eq.mpr c91
                        clear c91
                        replace H := Option.bind_eq_some_iff.mp H
                        obtain ⟨t232, A920, H⟩ := H
                        replace H : (some (t230 == t232)) = some r := H
                        have A92 := Aside0.mk A920
                        clear A920
                        obtain rfl := Option.some.inj H
                        have hcz93_0 : wr.cell? ⟨gb201, 0, none⟩ = some (u202000) := (blk_cell BK201.out 0).trans rfl
                        have hcz93_1 : wr.cell? ⟨gb201, 1, none⟩ = some (u202001) := (blk_cell BK201.out 1).trans rfl
                        have hcz93_2 : wr.cell? ⟨gb201, 2, none⟩ = some (.int .i64 x202002_1) := (blk_cell BK201.out 2).trans rfl
                        have hfz93_0 := blk_frozen BK201.out 0
                        have hfz93_1 := blk_frozen BK201.out 1
                        have hfz93_2 := blk_frozen BK201.out 2
                        obtain ⟨Ao94, co94, eo94⟩ := Kd.R_slice HO_202000.out
                        subst eo94
                        obtain ⟨Ao95, co95, eo95⟩ := Kd.S_slice HO_202001.out
                        subst eo95
                        go_wp2_with (first | ((with_reducible refine gate_callee (f := 13) rfl ?_); refine goesL_ (some 98) rfl rfl Try.func13 (by kernel_rfl) rfl #[.agg #[.slice Ao94 x202000_1.length co94, .slice Ao95 x202001_1.length co95, .int .i64 x202002_1], .string (⟨#[49, 53]⟩ : ByteArray), .int .i64 99] rfl (by (try simp only [List.map_toArray, List.map_cons, List.map_nil]); first | done | rfl | (simp only [List.length_drop, List.length_take]; rfl)) ?_; (with_reducible refine (book_Balance.calls k2 _ _ x202000_1 _ _ x202001_1 x202002_1 (⟨#[49, 53]⟩ : ByteArray) 99 t228 t229 _ ?side1 ?side2 ?side3 ?side4 A87.out).mono ?_); (case side1 => repeat (first | exact (Kd.R_reads' HO_202000.out).2.2 | (with_reducible refine Kd.C_alloc ?_ _) | (with_reducible refine Kd.C_drewN ?_ _) | (with_reducible refine Kd.C_drew ?_))); (case side2 => exact (Kd.R_reads' HO_202000.out).2.1); (case side3 => repeat (first | exact (Kd.S_reads' HO_202001.out).2.2 | (with_reducible refine Kd.C_alloc ?_ _) | (with_reducible refine Kd.C_drewN ?_ _) | (with_reducible refine Kd.C_drew ?_))); (case side4 => exact (Kd.S_reads' HO_202001.out).2.1); rintro e w96 ⟨rfl, hb⟩; refine ⟨_, rfl, ?_⟩; have n0_ := Aside0.mk (Kd.R_below (by (with_reducible repeat (first | apply Kd.R_alloc | apply Kd.R_drewN | apply Kd.R_drew)); exact HO_3.out) hb); have n1_ := Aside0.mk (Kd.R_below (by (with_reducible repeat (first | apply Kd.R_alloc | apply Kd.R_drewN | apply Kd.R_drew)); exact HO_85.out) hb); have n2_ := Aside0.mk (Kd.R_below (by (with_reducible repeat (first | apply Kd.R_alloc | apply Kd.R_drewN | apply Kd.R_drew)); exact HO_202000.out) hb); have n3_ := Aside0.mk (Kd.S_below (by (with_reducible repeat (first | apply Kd.S_alloc | apply Kd.S_drewN | apply Kd.S_drew)); exact HO_202001.out) hb); have n4_ := Aside0.mk (blk_below (g := gb201) (o := .cells #[.slice Ao94 x202000_1.length co94, .slice Ao95 x202001_1.length co95, .int .i64 x202002_1] 32 (0, 0)) (by (with_reducible repeat (first | refine blk_drewN ?_ _ | refine blk_drew ?_ | refine blk_alloc ?_ _)); exact BK201.out) hb); have n5_ := Aside0.mk (below_step (by repeat (first | (with_reducible first | exact HB.out | apply below_alloc | apply pw_below_drewN | apply below_drew1 | refine below_set ?_ GE201.out) | exact HB.out)) hb); clear HO_3; clear HO_85; clear HO_202000; clear HO_202001; clear BK201; clear HB; have HO_3 := n0_; have HO_85 := n1_; have HO_202000 := n2_; have HO_202001 := n3_; have BK201 := n4_; have HB := n5_; clear n0_ n1_ n2_ n3_ n4_ n5_; (try clear hb); (try clear hb2); (try clear hk); (try clear hi); have hcz97_0 : w96.cell? ⟨gb201, 0, none⟩ = some (.slice Ao94 x202000_1.length co94) := (blk_cell BK201.out 0).trans rfl; have hcz97_1 : w96.cell? ⟨gb201, 1, none⟩ = some (.slice Ao95 x202001_1.length co95) := (blk_cell BK201.out 1).trans rfl; have hcz97_2 : w96.cell? ⟨gb201, 2, none⟩ = some (.int .i64 x202002_1) := (blk_cell BK201.out 2).trans rfl; have hfz97_0 := blk_frozen BK201.out 0; have hfz97_1 := blk_frozen BK201.out 1; have hfz97_2 := blk_frozen BK201.out 2) | ((with_reducible refine gate_callee (f := 13) rfl ?_); refine goesL_ (some 103) rfl rfl Try.func13 (by kernel_rfl) rfl #[.agg #[.slice Ao94 x202000_1.length co94, .slice Ao95 x202001_1.length co95, .int .i64 x202002_1], .string (⟨#[53, 48]⟩ : ByteArray), .int .i64 99] rfl (by (try simp only [List.map_toArray, List.map_cons, List.map_nil]); first | done | rfl | (simp only [List.length_drop, List.length_take]; rfl)) ?_; (with_reducible refine (book_Balance.calls k2 _ _ x202000_1 _ _ x202001_1 x202002_1 (⟨#[53, 48]⟩ : ByteArray) 99 t230 t231 _ ?side1 ?side2 ?side3 ?side4 A88.out).mono ?_); (case side1 => repeat (first | exact (Kd.R_reads' HO_202000.out).2.2 | (with_reducible refine Kd.C_alloc ?_ _) | (with_reducible refine Kd.C_drewN ?_ _) | (with_reducible refine Kd.C_drew ?_))); (case side2 => exact (Kd.R_reads' HO_202000.out).2.1); (case side3 => repeat (first | exact (Kd.S_reads' HO_202001.out).2.2 | (with_reducible refine Kd.C_alloc ?_ _) | (with_reducible refine Kd.C_drewN ?_ _) | (with_reducible refine Kd.C_drew ?_))); (case side4 => exact (Kd.S_reads' HO_202001.out).2.1); rintro e w98 ⟨rfl, hb⟩; refine ⟨_, rfl, ?_⟩; have n0_ := Aside0.mk (Kd.R_below (by (with_reducible repeat (first | apply Kd.R_alloc | apply Kd.R_drewN | apply Kd.R_drew)); exact HO_3.out) hb); have n1_ := Aside0.mk (Kd.R_below (by (with_reducible repeat (first | apply Kd.R_alloc | apply Kd.R_drewN | apply Kd.R_drew)); exact HO_85.out) hb); have n2_ := Aside0.mk (Kd.R_below (by (with_reducible repeat (first | apply Kd.R_alloc | apply Kd.R_drewN | apply Kd.R_drew)); exact HO_202000.out) hb); have n3_ := Aside0.mk (Kd.S_below (by (with_reducible repeat (first | apply Kd.S_alloc | apply Kd.S_drewN | apply Kd.S_drew)); exact HO_202001.out) hb); have n4_ := Aside0.mk (blk_below (g := gb201) (o := .cells #[.slice Ao94 x202000_1.length co94, .slice Ao95 x202001_1.length co95, .int .i64 x202002_1] 32 (0, 0)) (by (with_reducible repeat (first | refine blk_drewN ?_ _ | refine blk_drew ?_ | refine blk_alloc ?_ _)); exact BK201.out) hb); have n5_ := Aside0.mk (below_step (by repeat (first | (with_reducible first | exact HB.out | apply below_alloc | apply pw_below_drewN | apply below_drew1 | refine below_set ?_ GE201.out) | exact HB.out)) hb); clear HO_3; clear HO_85; clear HO_202000; clear HO_202001; clear BK201; clear HB; have HO_3 := n0_; have HO_85 := n1_; have HO_202000 := n2_; have HO_202001 := n3_; have BK201 := n4_; have HB := n5_; clear n0_ n1_ n2_ n3_ n4_ n5_; (try clear hb); (try clear hb2); (try clear hk); (try clear hi); obtain ⟨Ao99, co99, eo99⟩ := Kd.R_slice HO_3.out; subst eo99) | (go_at_call 14; (with_reducible refine (taltop_sum.calls k2 _ _ t187 t232 _ ?side1 ?side2 A92.out).mono ?_); (case side1 => repeat (first | exact (Kd.R_reads' HO_3.out).2.2 | (with_reducible refine Kd.C_alloc ?_ _) | (with_reducible refine Kd.C_drewN ?_ _) | (with_reducible refine Kd.C_drew ?_))); (case side2 => exact (Kd.R_reads' HO_3.out).2.1); rintro e w' ⟨rfl, ⟨nd, rfl⟩⟩))
                        go_ret
                        exact ⟨by first | rfl | (simp [errW_none, errW_some] <;> rfl) | (simp [*, errW_none, errW_some] <;> rfl), by repeat (first | (with_reducible first | exact HB.out | apply below_alloc | apply pw_below_drewN | apply below_drew1 | refine below_set ?_ GE201.out) | exact HB.out)⟩
                      · rw [if_neg c91] at H
                        have c91b0 : (t228 == x11_2) = false := beq_eq_false_iff_ne.mpr c91
                        have c91b1 : (t228 != x11_2) = true := bne_iff_ne.mpr c91
                        obtain rfl := Option.some.inj H
                        have hcz100_0 : wr.cell? ⟨gb201, 0, none⟩ = some (u202000) := (blk_cell BK201.out 0).trans rfl
                        have hcz100_1 : wr.cell? ⟨gb201, 1, none⟩ = some (u202001) := (blk_cell BK201.out 1).trans rfl
                        have hcz100_2 : wr.cell? ⟨gb201, 2, none⟩ = some (.int .i64 x202002_1) := (blk_cell BK201.out 2).trans rfl
                        have hfz100_0 := blk_frozen BK201.out 0
                        have hfz100_1 := blk_frozen BK201.out 1
                        have hfz100_2 := blk_frozen BK201.out 2
                        obtain ⟨Ao101, co101, eo101⟩ := Kd.R_slice HO_202000.out
                        subst eo101
                        obtain ⟨Ao102, co102, eo102⟩ := Kd.S_slice HO_202001.out
                        subst eo102
                        go_wp2_with (first | ((with_reducible refine gate_callee (f := 13) rfl ?_); refine goesL_ (some 98) rfl rfl Try.func13 (by kernel_rfl) rfl #[.agg #[.slice Ao101 x202000_1.length co101, .slice Ao102 x202001_1.length co102, .int .i64 x202002_1], .string (⟨#[49, 53]⟩ : ByteArray), .int .i64 99] rfl (by (try simp only [List.map_toArray, List.map_cons, List.map_nil]); first | done | rfl | (simp only [List.length_drop, List.length_take]; rfl)) ?_; (with_reducible refine (book_Balance.calls k2 _ _ x202000_1 _ _ x202001_1 x202002_1 (⟨#[49, 53]⟩ : ByteArray) 99 t228 t229 _ ?side1 ?side2 ?side3 ?side4 A87.out).mono ?_); (case side1 => repeat (first | exact (Kd.R_reads' HO_202000.out).2.2 | (with_reducible refine Kd.C_alloc ?_ _) | (with_reducible refine Kd.C_drewN ?_ _) | (with_reducible refine Kd.C_drew ?_))); (case side2 => exact (Kd.R_reads' HO_202000.out).2.1); (case side3 => repeat (first | exact (Kd.S_reads' HO_202001.out).2.2 | (with_reducible refine Kd.C_alloc ?_ _) | (with_reducible refine Kd.C_drewN ?_ _) | (with_reducible refine Kd.C_drew ?_))); (case side4 => exact (Kd.S_reads' HO_202001.out).2.1); rintro e w103 ⟨rfl, hb⟩; refine ⟨_, rfl, ?_⟩; have n0_ := Aside0.mk (Kd.R_below (by (with_reducible repeat (first | apply Kd.R_alloc | apply Kd.R_drewN | apply Kd.R_drew)); exact HO_3.out) hb); have n1_ := Aside0.mk (Kd.R_below (by (with_reducible repeat (first | apply Kd.R_alloc | apply Kd.R_drewN | apply Kd.R_drew)); exact HO_85.out) hb); have n2_ := Aside0.mk (Kd.R_below (by (with_reducible repeat (first | apply Kd.R_alloc | apply Kd.R_drewN | apply Kd.R_drew)); exact HO_202000.out) hb); have n3_ := Aside0.mk (Kd.S_below (by (with_reducible repeat (first | apply Kd.S_alloc | apply Kd.S_drewN | apply Kd.S_drew)); exact HO_202001.out) hb); have n4_ := Aside0.mk (blk_below (g := gb201) (o := .cells #[.slice Ao101 x202000_1.length co101, .slice Ao102 x202001_1.length co102, .int .i64 x202002_1] 32 (0, 0)) (by (with_reducible repeat (first | refine blk_drewN ?_ _ | refine blk_drew ?_ | refine blk_alloc ?_ _)); exact BK201.out) hb); have n5_ := Aside0.mk (below_step (by repeat (first | (with_reducible first | exact HB.out | apply below_alloc | apply pw_below_drewN | apply below_drew1 | refine below_set ?_ GE201.out) | exact HB.out)) hb); clear HO_3; clear HO_85; clear HO_202000; clear HO_202001; clear BK201; clear HB; have HO_3 := n0_; have HO_85 := n1_; have HO_202000 := n2_; have HO_202001 := n3_; have BK201 := n4_; have HB := n5_; clear n0_ n1_ n2_ n3_ n4_ n5_; (try clear hb); (try clear hb2); (try clear hk); (try clear hi); have hcz104_0 : w103.cell? ⟨gb201, 0, none⟩ = some (.slice Ao101 x202000_1.length co101) := (blk_cell BK201.out 0).trans rfl; have hcz104_1 : w103.cell? ⟨gb201, 1, none⟩ = some (.slice Ao102 x202001_1.length co102) := (blk_cell BK201.out 1).trans rfl; have hcz104_2 : w103.cell? ⟨gb201, 2, none⟩ = some (.int .i64 x202002_1) := (blk_cell BK201.out 2).trans rfl; have hfz104_0 := blk_frozen BK201.out 0; have hfz104_1 := blk_frozen BK201.out 1; have hfz104_2 := blk_frozen BK201.out 2) | ((with_reducible refine gate_callee (f := 13) rfl ?_); refine goesL_ (some 103) rfl rfl Try.func13 (by kernel_rfl) rfl #[.agg #[.slice Ao101 x202000_1.length co101, .slice Ao102 x202001_1.length co102, .int .i64 x202002_1], .string (⟨#[53, 48]⟩ : ByteArray), .int .i64 99] rfl (by (try simp only [List.map_toArray, List.map_cons, List.map_nil]); first | done | rfl | (simp only [List.length_drop, List.length_take]; rfl)) ?_; (with_reducible refine (book_Balance.calls k2 _ _ x202000_1 _ _ x202001_1 x202002_1 (⟨#[53, 48]⟩ : ByteArray) 99 t230 t231 _ ?side1 ?side2 ?side3 ?side4 A88.out).mono ?_); (case side1 => repeat (first | exact (Kd.R_reads' HO_202000.out).2.2 | (with_reducible refine Kd.C_alloc ?_ _) | (with_reducible refine Kd.C_drewN ?_ _) | (with_reducible refine Kd.C_drew ?_))); (case side2 => exact (Kd.R_reads' HO_202000.out).2.1); (case side3 => repeat (first | exact (Kd.S_reads' HO_202001.out).2.2 | (with_reducible refine Kd.C_alloc ?_ _) | (with_reducible refine Kd.C_drewN ?_ _) | (with_reducible refine Kd.C_drew ?_))); (case side4 => exact (Kd.S_reads' HO_202001.out).2.1); rintro e w105 ⟨rfl, hb⟩; refine ⟨_, rfl, ?_⟩; have n0_ := Aside0.mk (Kd.R_below (by (with_reducible repeat (first | apply Kd.R_alloc | apply Kd.R_drewN | apply Kd.R_drew)); exact HO_3.out) hb); have n1_ := Aside0.mk (Kd.R_below (by (with_reducible repeat (first | apply Kd.R_alloc | apply Kd.R_drewN | apply Kd.R_drew)); exact HO_85.out) hb); have n2_ := Aside0.mk (Kd.R_below (by (with_reducible repeat (first | apply Kd.R_alloc | apply Kd.R_drewN | apply Kd.R_drew)); exact HO_202000.out) hb); have n3_ := Aside0.mk (Kd.S_below (by (with_reducible repeat (first | apply Kd.S_alloc | apply Kd.S_drewN | apply Kd.S_drew)); exact HO_202001.out) hb); have n4_ := Aside0.mk (blk_below (g := gb201) (o := .cells #[.slice Ao101 x202000_1.length co101, .slice Ao102 x202001_1.length co102, .int .i64 x202002_1] 32 (0, 0)) (by (with_reducible repeat (first | refine blk_drewN ?_ _ | refine blk_drew ?_ | refine blk_alloc ?_ _)); exact BK201.out) hb); have n5_ := Aside0.mk (below_step (by repeat (first | (with_reducible first | exact HB.out | apply below_alloc | apply pw_below_drewN | apply below_drew1 | refine below_set ?_ GE201.out) | exact HB.out)) hb); clear HO_3; clear HO_85; clear HO_202000; clear HO_202001; clear BK201; clear HB; have HO_3 := n0_; have HO_85 := n1_; have HO_202000 := n2_; have HO_202001 := n3_; have BK201 := n4_; have HB := n5_; clear n0_ n1_ n2_ n3_ n4_ n5_; (try clear hb); (try clear hb2); (try clear hk); (try clear hi)))
                        go_ret
                        exact ⟨by first | rfl | (simp [errW_none, errW_some] <;> rfl) | (simp [*, errW_none, errW_some] <;> rfl), by repeat (first | (with_reducible first | exact HB.out | apply below_alloc | apply pw_below_drewN | apply below_drew1 | refine below_set ?_ GE201.out) | exact HB.out)⟩
                    · rw [if_neg c90] at H
                      have c90b0 : (t231 == 0) = false := beq_eq_false_iff_ne.mpr c90
                      have c90b1 : (t231 != 0) = true := bne_iff_ne.mpr c90
                      obtain rfl := Option.some.inj H
                      have hcz106_0 : wr.cell? ⟨gb201, 0, none⟩ = some (u202000) := (blk_cell BK201.out 0).trans rfl
                      have hcz106_1 : wr.cell? ⟨gb201, 1, none⟩ = some (u202001) := (blk_cell BK201.out 1).trans rfl
                      have hcz106_2 : wr.cell? ⟨gb201, 2, none⟩ = some (.int .i64 x202002_1) := (blk_cell BK201.out 2).trans rfl
                      have hfz106_0 := blk_frozen BK201.out 0
                      have hfz106_1 := blk_frozen BK201.out 1
                      have hfz106_2 := blk_frozen BK201.out 2
                      obtain ⟨Ao107, co107, eo107⟩ := Kd.R_slice HO_202000.out
                      subst eo107
                      obtain ⟨Ao108, co108, eo108⟩ := Kd.S_slice HO_202001.out
                      subst eo108
                      go_wp2_with (first | ((with_reducible refine gate_callee (f := 13) rfl ?_); refine goesL_ (some 98) rfl rfl Try.func13 (by kernel_rfl) rfl #[.agg #[.slice Ao107 x202000_1.length co107, .slice Ao108 x202001_1.length co108, .int .i64 x202002_1], .string (⟨#[49, 53]⟩ : ByteArray), .int .i64 99] rfl (by (try simp only [List.map_toArray, List.map_cons, List.map_nil]); first | done | rfl | (simp only [List.length_drop, List.length_take]; rfl)) ?_; (with_reducible refine (book_Balance.calls k2 _ _ x202000_1 _ _ x202001_1 x202002_1 (⟨#[49, 53]⟩ : ByteArray) 99 t228 t229 _ ?side1 ?side2 ?side3 ?side4 A87.out).mono ?_); (case side1 => repeat (first | exact (Kd.R_reads' HO_202000.out).2.2 | (with_reducible refine Kd.C_alloc ?_ _) | (with_reducible refine Kd.C_drewN ?_ _) | (with_reducible refine Kd.C_drew ?_))); (case side2 => exact (Kd.R_reads' HO_202000.out).2.1); (case side3 => repeat (first | exact (Kd.S_reads' HO_202001.out).2.2 | (with_reducible refine Kd.C_alloc ?_ _) | (with_reducible refine Kd.C_drewN ?_ _) | (with_reducible refine Kd.C_drew ?_))); (case side4 => exact (Kd.S_reads' HO_202001.out).2.1); rintro e w109 ⟨rfl, hb⟩; refine ⟨_, rfl, ?_⟩; have n0_ := Aside0.mk (Kd.R_below (by (with_reducible repeat (first | apply Kd.R_alloc | apply Kd.R_drewN | apply Kd.R_drew)); exact HO_3.out) hb); have n1_ := Aside0.mk (Kd.R_below (by (with_reducible repeat (first | apply Kd.R_alloc | apply Kd.R_drewN | apply Kd.R_drew)); exact HO_85.out) hb); have n2_ := Aside0.mk (Kd.R_below (by (with_reducible repeat (first | apply Kd.R_alloc | apply Kd.R_drewN | apply Kd.R_drew)); exact HO_202000.out) hb); have n3_ := Aside0.mk (Kd.S_below (by (with_reducible repeat (first | apply Kd.S_alloc | apply Kd.S_drewN | apply Kd.S_drew)); exact HO_202001.out) hb); have n4_ := Aside0.mk (blk_below (g := gb201) (o := .cells #[.slice Ao107 x202000_1.length co107, .slice Ao108 x202001_1.length co108, .int .i64 x202002_1] 32 (0, 0)) (by (with_reducible repeat (first | refine blk_drewN ?_ _ | refine blk_drew ?_ | refine blk_alloc ?_ _)); exact BK201.out) hb); have n5_ := Aside0.mk (below_step (by repeat (first | (with_reducible first | exact HB.out | apply below_alloc | apply pw_below_drewN | apply below_drew1 | refine below_set ?_ GE201.out) | exact HB.out)) hb); clear HO_3; clear HO_85; clear HO_202000; clear HO_202001; clear BK201; clear HB; have HO_3 := n0_; have HO_85 := n1_; have HO_202000 := n2_; have HO_202001 := n3_; have BK201 := n4_; have HB := n5_; clear n0_ n1_ n2_ n3_ n4_ n5_; (try clear hb); (try clear hb2); (try clear hk); (try clear hi); have hcz110_0 : w109.cell? ⟨gb201, 0, none⟩ = some (.slice Ao107 x202000_1.length co107) := (blk_cell BK201.out 0).trans rfl; have hcz110_1 : w109.cell? ⟨gb201, 1, none⟩ = some (.slice Ao108 x202001_1.length co108) := (blk_cell BK201.out 1).trans rfl; have hcz110_2 : w109.cell? ⟨gb201, 2, none⟩ = some (.int .i64 x202002_1) := (blk_cell BK201.out 2).trans rfl; have hfz110_0 := blk_frozen BK201.out 0; have hfz110_1 := blk_frozen BK201.out 1; have hfz110_2 := blk_frozen BK201.out 2) | ((with_reducible refine gate_callee (f := 13) rfl ?_); refine goesL_ (some 103) rfl rfl Try.func13 (by kernel_rfl) rfl #[.agg #[.slice Ao107 x202000_1.length co107, .slice Ao108 x202001_1.length co108, .int .i64 x202002_1], .string (⟨#[53, 48]⟩ : ByteArray), .int .i64 99] rfl (by (try simp only [List.map_toArray, List.map_cons, List.map_nil]); first | done | rfl | (simp only [List.length_drop, List.length_take]; rfl)) ?_; (with_reducible refine (book_Balance.calls k2 _ _ x202000_1 _ _ x202001_1 x202002_1 (⟨#[53, 48]⟩ : ByteArray) 99 t230 t231 _ ?side1 ?side2 ?side3 ?side4 A88.out).mono ?_); (case side1 => repeat (first | exact (Kd.R_reads' HO_202000.out).2.2 | (with_reducible refine Kd.C_alloc ?_ _) | (with_reducible refine Kd.C_drewN ?_ _) | (with_reducible refine Kd.C_drew ?_))); (case side2 => exact (Kd.R_reads' HO_202000.out).2.1); (case side3 => repeat (first | exact (Kd.S_reads' HO_202001.out).2.2 | (with_reducible refine Kd.C_alloc ?_ _) | (with_reducible refine Kd.C_drewN ?_ _) | (with_reducible refine Kd.C_drew ?_))); (case side4 => exact (Kd.S_reads' HO_202001.out).2.1); rintro e w111 ⟨rfl, hb⟩; refine ⟨_, rfl, ?_⟩; have n0_ := Aside0.mk (Kd.R_below (by (with_reducible repeat (first | apply Kd.R_alloc | apply Kd.R_drewN | apply Kd.R_drew)); exact HO_3.out) hb); have n1_ := Aside0.mk (Kd.R_below (by (with_reducible repeat (first | apply Kd.R_alloc | apply Kd.R_drewN | apply Kd.R_drew)); exact HO_85.out) hb); have n2_ := Aside0.mk (Kd.R_below (by (with_reducible repeat (first | apply Kd.R_alloc | apply Kd.R_drewN | apply Kd.R_drew)); exact HO_202000.out) hb); have n3_ := Aside0.mk (Kd.S_below (by (with_reducible repeat (first | apply Kd.S_alloc | apply Kd.S_drewN | apply Kd.S_drew)); exact HO_202001.out) hb); have n4_ := Aside0.mk (blk_below (g := gb201) (o := .cells #[.slice Ao107 x202000_1.length co107, .slice Ao108 x202001_1.length co108, .int .i64 x202002_1] 32 (0, 0)) (by (with_reducible repeat (first | refine blk_drewN ?_ _ | refine blk_drew ?_ | refine blk_alloc ?_ _)); exact BK201.out) hb); have n5_ := Aside0.mk (below_step (by repeat (first | (with_reducible first | exact HB.out | apply below_alloc | apply pw_below_drewN | apply below_drew1 | refine below_set ?_ GE201.out) | exact HB.out)) hb); clear HO_3; clear HO_85; clear HO_202000; clear HO_202001; clear BK201; clear HB; have HO_3 := n0_; have HO_85 := n1_; have HO_202000 := n2_; have HO_202001 := n3_; have BK201 := n4_; have HB := n5_; clear n0_ n1_ n2_ n3_ n4_ n5_; (try clear hb); (try clear hb2); (try clear hk); (try clear hi)))
                      go_ret
                      exact ⟨by first | rfl | (simp [errW_none, errW_some] <;> rfl) | (simp [*, errW_none, errW_some] <;> rfl), by repeat (first | (with_reducible first | exact HB.out | apply below_alloc | apply pw_below_drewN | apply below_drew1 | refine below_set ?_ GE201.out) | exact HB.out)⟩
                  · rw [if_neg c89] at H
                    have c89b0 : (t229 == 0) = false := beq_eq_false_iff_ne.mpr c89
                    have c89b1 : (t229 != 0) = true := bne_iff_ne.mpr c89
                    obtain rfl := Option.some.inj H
                    have hcz112_0 : wr.cell? ⟨gb201, 0, none⟩ = some (u202000) := (blk_cell BK201.out 0).trans rfl
                    have hcz112_1 : wr.cell? ⟨gb201, 1, none⟩ = some (u202001) := (blk_cell BK201.out 1).trans rfl
                    have hcz112_2 : wr.cell? ⟨gb201, 2, none⟩ = some (.int .i64 x202002_1) := (blk_cell BK201.out 2).trans rfl
                    have hfz112_0 := blk_frozen BK201.out 0
                    have hfz112_1 := blk_frozen BK201.out 1
                    have hfz112_2 := blk_frozen BK201.out 2
                    obtain ⟨Ao113, co113, eo113⟩ := Kd.R_slice HO_202000.out
                    subst eo113
                    obtain ⟨Ao114, co114, eo114⟩ := Kd.S_slice HO_202001.out
                    subst eo114
                    go_wp2_with (first | ((with_reducible refine gate_callee (f := 13) rfl ?_); refine goesL_ (some 98) rfl rfl Try.func13 (by kernel_rfl) rfl #[.agg #[.slice Ao113 x202000_1.length co113, .slice Ao114 x202001_1.length co114, .int .i64 x202002_1], .string (⟨#[49, 53]⟩ : ByteArray), .int .i64 99] rfl (by (try simp only [List.map_toArray, List.map_cons, List.map_nil]); first | done | rfl | (simp only [List.length_drop, List.length_take]; rfl)) ?_; (with_reducible refine (book_Balance.calls k2 _ _ x202000_1 _ _ x202001_1 x202002_1 (⟨#[49, 53]⟩ : ByteArray) 99 t228 t229 _ ?side1 ?side2 ?side3 ?side4 A87.out).mono ?_); (case side1 => repeat (first | exact (Kd.R_reads' HO_202000.out).2.2 | (with_reducible refine Kd.C_alloc ?_ _) | (with_reducible refine Kd.C_drewN ?_ _) | (with_reducible refine Kd.C_drew ?_))); (case side2 => exact (Kd.R_reads' HO_202000.out).2.1); (case side3 => repeat (first | exact (Kd.S_reads' HO_202001.out).2.2 | (with_reducible refine Kd.C_alloc ?_ _) | (with_reducible refine Kd.C_drewN ?_ _) | (with_reducible refine Kd.C_drew ?_))); (case side4 => exact (Kd.S_reads' HO_202001.out).2.1); rintro e w115 ⟨rfl, hb⟩; refine ⟨_, rfl, ?_⟩; have n0_ := Aside0.mk (Kd.R_below (by (with_reducible repeat (first | apply Kd.R_alloc | apply Kd.R_drewN | apply Kd.R_drew)); exact HO_3.out) hb); have n1_ := Aside0.mk (Kd.R_below (by (with_reducible repeat (first | apply Kd.R_alloc | apply Kd.R_drewN | apply Kd.R_drew)); exact HO_85.out) hb); have n2_ := Aside0.mk (Kd.R_below (by (with_reducible repeat (first | apply Kd.R_alloc | apply Kd.R_drewN | apply Kd.R_drew)); exact HO_202000.out) hb); have n3_ := Aside0.mk (Kd.S_below (by (with_reducible repeat (first | apply Kd.S_alloc | apply Kd.S_drewN | apply Kd.S_drew)); exact HO_202001.out) hb); have n4_ := Aside0.mk (blk_below (g := gb201) (o := .cells #[.slice Ao113 x202000_1.length co113, .slice Ao114 x202001_1.length co114, .int .i64 x202002_1] 32 (0, 0)) (by (with_reducible repeat (first | refine blk_drewN ?_ _ | refine blk_drew ?_ | refine blk_alloc ?_ _)); exact BK201.out) hb); have n5_ := Aside0.mk (below_step (by repeat (first | (with_reducible first | exact HB.out | apply below_alloc | apply pw_below_drewN | apply below_drew1 | refine below_set ?_ GE201.out) | exact HB.out)) hb); clear HO_3; clear HO_85; clear HO_202000; clear HO_202001; clear BK201; clear HB; have HO_3 := n0_; have HO_85 := n1_; have HO_202000 := n2_; have HO_202001 := n3_; have BK201 := n4_; have HB := n5_; clear n0_ n1_ n2_ n3_ n4_ n5_; (try clear hb); (try clear hb2); (try clear hk); (try clear hi); have hcz116_0 : w115.cell? ⟨gb201, 0, none⟩ = some (.slice Ao113 x202000_1.length co113) := (blk_cell BK201.out 0).trans rfl; have hcz116_1 : w115.cell? ⟨gb201, 1, none⟩ = some (.slice Ao114 x202001_1.length co114) := (blk_cell BK201.out 1).trans rfl; have hcz116_2 : w115.cell? ⟨gb201, 2, none⟩ = some (.int .i64 x202002_1) := (blk_cell BK201.out 2).trans rfl; have hfz116_0 := blk_frozen BK201.out 0; have hfz116_1 := blk_frozen BK201.out 1; have hfz116_2 := blk_frozen BK201.out 2) | ((with_reducible refine gate_callee (f := 13) rfl ?_); refine goesL_ (some 103) rfl rfl Try.func13 (by kernel_rfl) rfl #[.agg #[.slice Ao113 x202000_1.length co113, .slice Ao114 x202001_1.length co114, .int .i64 x202002_1], .string (⟨#[53, 48]⟩ : ByteArray), .int .i64 99] rfl (by (try simp only [List.map_toArray, List.map_cons, List.map_nil]); first | done | rfl | (simp only [List.length_drop, List.length_take]; rfl)) ?_; (with_reducible refine (book_Balance.calls k2 _ _ x202000_1 _ _ x202001_1 x202002_1 (⟨#[53, 48]⟩ : ByteArray) 99 t230 t231 _ ?side1 ?side2 ?side3 ?side4 A88.out).mono ?_); (case side1 => repeat (first | exact (Kd.R_reads' HO_202000.out).2.2 | (with_reducible refine Kd.C_alloc ?_ _) | (with_reducible refine Kd.C_drewN ?_ _) | (with_reducible refine Kd.C_drew ?_))); (case side2 => exact (Kd.R_reads' HO_202000.out).2.1); (case side3 => repeat (first | exact (Kd.S_reads' HO_202001.out).2.2 | (with_reducible refine Kd.C_alloc ?_ _) | (with_reducible refine Kd.C_drewN ?_ _) | (with_reducible refine Kd.C_drew ?_))); (case side4 => exact (Kd.S_reads' HO_202001.out).2.1); rintro e w117 ⟨rfl, hb⟩; refine ⟨_, rfl, ?_⟩; have n0_ := Aside0.mk (Kd.R_below (by (with_reducible repeat (first | apply Kd.R_alloc | apply Kd.R_drewN | apply Kd.R_drew)); exact HO_3.out) hb); have n1_ := Aside0.mk (Kd.R_below (by (with_reducible repeat (first | apply Kd.R_alloc | apply Kd.R_drewN | apply Kd.R_drew)); exact HO_85.out) hb); have n2_ := Aside0.mk (Kd.R_below (by (with_reducible repeat (first | apply Kd.R_alloc | apply Kd.R_drewN | apply Kd.R_drew)); exact HO_202000.out) hb); have n3_ := Aside0.mk (Kd.S_below (by (with_reducible repeat (first | apply Kd.S_alloc | apply Kd.S_drewN | apply Kd.S_drew)); exact HO_202001.out) hb); have n4_ := Aside0.mk (blk_below (g := gb201) (o := .cells #[.slice Ao113 x202000_1.length co113, .slice Ao114 x202001_1.length co114, .int .i64 x202002_1] 32 (0, 0)) (by (with_reducible repeat (first | refine blk_drewN ?_ _ | refine blk_drew ?_ | refine blk_alloc ?_ _)); exact BK201.out) hb); have n5_ := Aside0.mk (below_step (by repeat (first | (with_reducible first | exact HB.out | apply below_alloc | apply pw_below_drewN | apply below_drew1 | refine below_set ?_ GE201.out) | exact HB.out)) hb); clear HO_3; clear HO_85; clear HO_202000; clear HO_202001; clear BK201; clear HB; have HO_3 := n0_; have HO_85 := n1_; have HO_202000 := n2_; have HO_202001 := n3_; have BK201 := n4_; have HB := n5_; clear n0_ n1_ n2_ n3_ n4_ n5_; (try clear hb); (try clear hb2); (try clear hk); (try clear hi)))
                    go_ret
                    exact ⟨by first | rfl | (simp [errW_none, errW_some] <;> rfl) | (simp [*, errW_none, errW_some] <;> rfl), by repeat (first | (with_reducible first | exact HB.out | apply below_alloc | apply pw_below_drewN | apply below_drew1 | refine below_set ?_ GE201.out) | exact HB.out)⟩
    · rw [if_neg c5] at H
      have c5b0 : (t189 == 0) = false := beq_eq_false_iff_ne.mpr c5
      have c5b1 : (t189 != 0) = true := bne_iff_ne.mpr c5
      by_cases c118 : (t187.length : Int) = 0
      · rw [if_pos c118] at H
        have c118b0 : ((t187.length : Int) == 0) = true := beq_iff_eq.mpr c118
        have c118b1 : ((t187.length : Int) != 0) = false := bne_eq_false_iff_eq.mpr c118
        clear c118
        obtain rfl := Option.some.inj H
        go_enter Try.func3, Try.ntmps3
        go_wp2_with (first | ((with_reducible refine gate_callee (f := 8) rfl ?_); refine goesL_ (some 18) rfl rfl Try.func8 (by kernel_rfl) rfl #[] rfl (by (try simp only [List.map_toArray, List.map_cons, List.map_nil]); first | done | rfl | (simp only [List.length_drop, List.length_take]; rfl)) ?_; (with_reducible refine (taltop_begun.calls k  true _ A2.out).mono ?_); rintro e w119 ⟨rfl, hb⟩; refine ⟨_, rfl, ?_⟩; have n0_ := Aside0.mk (below_step (by repeat (first | (with_reducible first | exact HB.out | apply below_alloc | apply pw_below_drewN | apply below_drew1) | exact HB.out)) hb); clear HB; have HB := n0_; clear n0_; (try clear hb); (try clear hb2); (try clear hk); (try clear hi)) | ((with_reducible refine gate_callee (f := 9) rfl ?_); refine goesL_ (some 22) rfl rfl Try.func9 (by kernel_rfl) rfl #[.slice A0 l0.length c0] rfl (by (try simp only [List.map_toArray, List.map_cons, List.map_nil]); first | done | rfl | (simp only [List.length_drop, List.length_take]; rfl)) ?_; (with_reducible refine (stock_Fifo.calls _ _ l0 t187 t188 t189 _ ?side1 ?side2 A4.out).mono ?_); (case side1 => repeat (first | exact (Kd.C_below HR0.out HB.out) | (with_reducible refine Kd.C_alloc ?_ _) | (with_reducible refine Kd.C_drewN ?_ _) | (with_reducible refine Kd.C_drew ?_))); (case side2 => exact HC0.out); rintro e w120 ⟨v190, v192, rfl, ho0, ho1, hb⟩; refine ⟨_, rfl, ?_⟩; have n0_ := Aside0.mk (Kd.R_lower ho0 (below_size (by repeat (first | (with_reducible first | exact HB.out | apply below_alloc | apply pw_below_drewN | apply below_drew1) | exact HB.out)))); have n1_ := Aside0.mk (Kd.R_lower ho1 (below_size (by repeat (first | (with_reducible first | exact HB.out | apply below_alloc | apply pw_below_drewN | apply below_drew1) | exact HB.out)))); have n2_ := Aside0.mk (below_step (by repeat (first | (with_reducible first | exact HB.out | apply below_alloc | apply pw_below_drewN | apply below_drew1) | exact HB.out)) hb); clear HB; have HO191 := n0_; have HO193 := n1_; have HB := n2_; clear n0_ n1_ n2_; (try clear hb); (try clear hb2); (try clear hk); (try clear hi); (try clear ho0); (try clear ho1); obtain ⟨Ao121, co121, eo121⟩ := Kd.R_slice HO191.out; subst eo121; obtain ⟨Ao122, co122, eo122⟩ := Kd.R_slice HO193.out; subst eo122))
        go_ret
        exact ⟨by first | rfl | (simp [errW_none, errW_some] <;> rfl) | (simp [*, errW_none, errW_some] <;> rfl), by repeat (first | (with_reducible first | exact HB.out | apply below_alloc | apply pw_below_drewN | apply below_drew1) | exact HB.out)⟩
      · rw [if_neg c118] at H
        have c118b0 : ((t187.length : Int) == 0) = false := beq_eq_false_iff_ne.mpr c118
        have c118b1 : ((t187.length : Int) != 0) = true := bne_iff_ne.mpr c118
        have c118b2 : ¬ (t187 = []) := fun h_ => c118 (by rw [h_]; rfl)
        obtain rfl := Option.some.inj H
        go_enter Try.func3, Try.ntmps3
        go_wp2_with (first | ((with_reducible refine gate_callee (f := 8) rfl ?_); refine goesL_ (some 18) rfl rfl Try.func8 (by kernel_rfl) rfl #[] rfl (by (try simp only [List.map_toArray, List.map_cons, List.map_nil]); first | done | rfl | (simp only [List.length_drop, List.length_take]; rfl)) ?_; (with_reducible refine (taltop_begun.calls k  true _ A2.out).mono ?_); rintro e w123 ⟨rfl, hb⟩; refine ⟨_, rfl, ?_⟩; have n0_ := Aside0.mk (below_step (by repeat (first | (with_reducible first | exact HB.out | apply below_alloc | apply pw_below_drewN | apply below_drew1) | exact HB.out)) hb); clear HB; have HB := n0_; clear n0_; (try clear hb); (try clear hb2); (try clear hk); (try clear hi)) | ((with_reducible refine gate_callee (f := 9) rfl ?_); refine goesL_ (some 22) rfl rfl Try.func9 (by kernel_rfl) rfl #[.slice A0 l0.length c0] rfl (by (try simp only [List.map_toArray, List.map_cons, List.map_nil]); first | done | rfl | (simp only [List.length_drop, List.length_take]; rfl)) ?_; (with_reducible refine (stock_Fifo.calls _ _ l0 t187 t188 t189 _ ?side1 ?side2 A4.out).mono ?_); (case side1 => repeat (first | exact (Kd.C_below HR0.out HB.out) | (with_reducible refine Kd.C_alloc ?_ _) | (with_reducible refine Kd.C_drewN ?_ _) | (with_reducible refine Kd.C_drew ?_))); (case side2 => exact HC0.out); rintro e w124 ⟨v190, v192, rfl, ho0, ho1, hb⟩; refine ⟨_, rfl, ?_⟩; have n0_ := Aside0.mk (Kd.R_lower ho0 (below_size (by repeat (first | (with_reducible first | exact HB.out | apply below_alloc | apply pw_below_drewN | apply below_drew1) | exact HB.out)))); have n1_ := Aside0.mk (Kd.R_lower ho1 (below_size (by repeat (first | (with_reducible first | exact HB.out | apply below_alloc | apply pw_below_drewN | apply below_drew1) | exact HB.out)))); have n2_ := Aside0.mk (below_step (by repeat (first | (with_reducible first | exact HB.out | apply below_alloc | apply pw_below_drewN | apply below_drew1) | exact HB.out)) hb); clear HB; have HO191 := n0_; have HO193 := n1_; have HB := n2_; clear n0_ n1_ n2_; (try clear hb); (try clear hb2); (try clear hk); (try clear hi); (try clear ho0); (try clear ho1); obtain ⟨Ao125, co125, eo125⟩ := Kd.R_slice HO191.out; subst eo125))
        go_ret
        exact ⟨by first | rfl | (simp [errW_none, errW_some] <;> rfl) | (simp [*, errW_none, errW_some] <;> rfl), by repeat (first | (with_reducible first | exact HB.out | apply below_alloc | apply pw_below_drewN | apply below_drew1) | exact HB.out)⟩
  · replace c3 := Bool.eq_false_iff.mpr c3
    subst c3
    have H1 : (some false) = some r := by rw [if_neg (show ¬ (false = true) by decide)] at H; exact H
    clear H
    have H := H1
    clear H1
    obtain rfl := Option.some.inj H
    go_enter Try.func3, Try.ntmps3
    go_wp2_with (first | ((with_reducible refine gate_callee (f := 8) rfl ?_); refine goesL_ (some 18) rfl rfl Try.func8 (by kernel_rfl) rfl #[] rfl (by (try simp only [List.map_toArray, List.map_cons, List.map_nil]); first | done | rfl | (simp only [List.length_drop, List.length_take]; rfl)) ?_; (with_reducible refine (taltop_begun.calls k  false _ A2.out).mono ?_); rintro e w126 ⟨rfl, hb⟩; refine ⟨_, rfl, ?_⟩; have n0_ := Aside0.mk (below_step (by repeat (first | (with_reducible first | exact HB.out | apply below_alloc | apply pw_below_drewN | apply below_drew1) | exact HB.out)) hb); clear HB; have HB := n0_; clear n0_; (try clear hb); (try clear hb2); (try clear hk); (try clear hi)))
    go_ret
    exact ⟨by first | rfl | (simp [errW_none, errW_some] <;> rfl) | (simp [*, errW_none, errW_some] <;> rfl), by repeat (first | (with_reducible first | exact HB.out | apply below_alloc | apply pw_below_drewN | apply below_drew1) | exact HB.out)⟩

end Go.Proofs.Ytlfbdcobpfainaa.Q
