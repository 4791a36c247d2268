-- PRINTED by print.py (a twelfth state) out of the translation. Not trusted: Lean checks it.
import Derived.Test.YtlfbdcobpfainaaL0
import Derived.Test.YtlfbdcobpfainaaL2
import Derived.Test.YtlfbdcobpfainaaL7
import Derived.Test.YtlfbdcobpfainaaL8
namespace Go.Proofs.Ytlfbdcobpfainaa.L
open Go.RowKit Go.Proofs.YtlfbdcobpfainaaW.PrintWords Go.Proofs.YtlfbdcobpfainaaW.PrintLast Go.Proofs.YtlfbdcobpfainaaW.PrintMore
attribute [local go_sem] max2_int min2_int max_two min_two max_three min_three max_four min_four   -- for this text's walks alone
set_option linter.unusedVariables false
set_option linter.unusedSimpArgs false

/-! ### trial_kinds: function 52, by hand -/
/-- What accounts of each kind come to, account by account. -/
def kindsL (k : Nat) (A : List S82) (es : List S38) (s a b : Int) : List S82 → List Int → Option (List Int)
  | [], acc => some acc
  | x :: r, acc => if 0 ≤ x.f1 then (if x.f1 < 5 then (book_Of.f k A es s x.f0 a b).bind fun t => kindsL k A es s a b r (acc.set x.f1.toNat (wrap64 (acc.getD x.f1.toNat 0 + t))) else none) else none
theorem kindsL_mono (A : List S82) (es : List S38) (s a b : Int) (k : Nat) : ∀ (l : List S82) (acc : List Int), LeO (kindsL k A es s a b l acc) (kindsL (k + 1) A es s a b l acc)
  | [], acc => LeO.refl _
  | x :: r, acc => LeO.ite (LeO.ite (LeO.bind (book_Of.mono _ _ _ _ _ _ _) (fun _ => kindsL_mono A es s a b k r _)) (LeO.none _)) (LeO.none _)
def trial_kinds.f (k : Nat) (A : List S82) (es : List S38) (s a b : Int) : Option (List Int) := kindsL k A es s a b A [0, 0, 0, 0, 0]
def five (acc : List Int) : List Value := acc.map (Value.int .i64)
theorem five_get {acc : List Int} (h : acc.length = 5) {i : Int} (h0 : 0 ≤ i) (h1 : i < 5) : (five acc).toArray[i.toNat]? = some (.int .i64 (acc.getD i.toNat 0)) := by
  have : i.toNat < acc.length := by omega
  simp [five, List.getD_eq_getElem?_getD, this]
theorem five_set (acc : List Int) (i : Nat) (x : Int) : (five acc).toArray.set! i (.int .i64 x) = (five (acc.set i x)).toArray := by
  simp [five]
set_option maxHeartbeats 1600000 in
set_option maxRecDepth 100000 in
theorem trial_kinds.calls (k : Nat) (A0_0 : Option Addr) (c0_0 : Nat) (l0_0 : List (S82)) (A0_1 : Option Addr) (c0_1 : Nat) (l0_1 : List (S38)) (a0_2 : Int) (a1 : Int) (a2 : Int) (r : List Int) (w : World) (hr0_0 : Kd.C k82 w A0_0 l0_0.length l0_0) (hc0_0 : l0_0.length ≤ c0_0) (hr0_1 : Kd.C k38 w A0_1 l0_1.length l0_1) (hc0_1 : l0_1.length ≤ c0_1) (h : trial_kinds.f k l0_0 l0_1 a0_2 a1 a2 = some r) :
    Calls Try.prog 52 #[.agg #[.slice A0_0 l0_0.length c0_0, .slice A0_1 l0_1.length c0_1, .int .i64 a0_2], .int .i64 a1, .int .i64 a2] w fun e w' => (r.length = 5 ∧ e = .returned (.agg (five r).toArray)) ∧ Below w.heap.size w w' := by
  have hu32 := Try.underlying32
  have hu82 := Try.underlying82
  have hu102 := Try.underlying102
  have HR0 := Aside0.mk hr0_0
  have HR1 := Aside0.mk hr0_1
  have H := Aside0.mk (show kindsL k l0_0 l0_1 a0_2 a1 a2 l0_0 [0, 0, 0, 0, 0] = some r from h)
  have hlm : l0_0.length ≤ 9223372036854775807 := hr0_0.2.1
  clear hr0_0 hr0_1 h
  go_enter Try.func52, Try.ntmps52
  go_wp2_with fail
  go_loopw [13] (fun si wr => ∃ (i : Nat) (ki : Int) (acc : List Int), i ≤ l0_0.length ∧ si = .int .i64 ki ∧ Aside0 (ki = i) ∧ acc.length = 5 ∧ Aside0 (kindsL k l0_0 l0_1 a0_2 a1 a2 (l0_0.drop i) acc = some r) ∧ Aside0 (wr.heap[w.heap.size]? = some (.cells #[.slice A0_0 l0_0.length c0_0, .slice A0_1 l0_1.length c0_1, .int .i64 a0_2] 32 (0, 0))) ∧
      Aside0 (wr.heap[w.heap.size + 1]? = some (.cells #[.int .i64 0, .int .i64 0, .int .i64 0, .int .i64 0, .int .i64 0] 102 (0, 0))) ∧ Aside0 (wr.heap[w.heap.size + 1 + 1]? = some (.cells (five acc).toArray 102 (0, 0))) ∧ Aside0 (Below w.heap.size w wr)) (fun si _ => l0_0.length - (intOf si).toNat)
  case atStart =>
    refine ⟨0, 0, [0, 0, 0, 0, 0], Nat.zero_le _, rfl, ⟨rfl⟩, rfl, H, ⟨?_⟩, ⟨?_⟩, ⟨?_⟩, ⟨below_alloc (below_alloc (below_alloc (Below.refl _ _) _) _) _⟩⟩
    · exact (Below.heap_alloc _ _ _ (by simp; omega)).trans ((Below.heap_alloc _ _ _ (by simp)).trans (heap_alloc_new _ _))
    · exact (Below.heap_alloc _ _ _ (by simp)).trans (by simpa using heap_alloc_new (w.alloc (.cells #[.slice A0_0 l0_0.length c0_0, .slice A0_1 l0_1.length c0_1, .int .i64 a0_2] 32)) _)
    · simpa [five] using heap_alloc_new ((w.alloc (.cells #[.slice A0_0 l0_0.length c0_0, .slice A0_1 l0_1.length c0_1, .int .i64 a0_2] 32)).alloc (.cells #[.int .i64 0, .int .i64 0, .int .i64 0, .int .i64 0, .int .i64 0] 102)) (.cells #[.int .i64 0, .int .i64 0, .int .i64 0, .int .i64 0, .int .i64 0] 102)
  case round =>
    obtain ⟨i, ki, acc, hi, rfl, HKI, h5, HL, G0, G1, G2, HB⟩ := hrel
    have hki := HKI.out
    by_cases hlt : i < l0_0.length
    · have hi0 : decide (ki < (l0_0.length : Int)) = true := decide_eq_true (by omega)
      have hi2 : 0 ≤ ki := by omega
      have hi1 : ki < (l0_0.length : Int) := by omega
      have hiw : IntKind.i64.wrap (ki + 1) = ki + 1 := by rw [IntKind.wrap_i64]; omega
      obtain ⟨ad, hA, h0, h1⟩ := at_T82 HR0.out ki hi2 hi1
      subst hA
      replace h0 := (HB.out.cell (World.block_lt_of_cell? w _ h0)).trans h0
      replace h1 := (HB.out.cell (World.block_lt_of_cell? w _ h1)).trans h1
      have hg : rd_T82 l0_0 ki = l0_0[i] := by rw [hki]; simp [rd_T82, List.getD_eq_getElem?_getD, hlt]
      have hl := HL.out
      rw [List.drop_eq_getElem_cons hlt, ← hg] at hl
      obtain ⟨x, hx⟩ : ∃ x, x = rd_T82 l0_0 ki := ⟨_, rfl⟩
      rw [← hx] at hl h0 h1
      clear HL hg hx hki
      by_cases k0 : 0 ≤ x.f1
      · by_cases k1 : x.f1 < 5
        · simp only [kindsL] at hl
          rw [if_pos k0, if_pos k1] at hl
          obtain ⟨t, ht, hl2⟩ := Option.bind_eq_some_iff.1 hl
          have HT := Aside0.mk ht
          have HL := Aside0.mk hl2
          have H5 := Aside0.mk h5
          have b0 : wr.cell? ⟨w.heap.size, 0, none⟩ = some (.slice (some ad) l0_0.length c0_0) := (blk_cell G0.out 0).trans rfl
          have b1 : wr.cell? ⟨w.heap.size, 1, none⟩ = some (.slice A0_1 l0_1.length c0_1) := (blk_cell G0.out 1).trans rfl
          have b2 : wr.cell? ⟨w.heap.size, 2, none⟩ = some (.int .i64 a0_2) := (blk_cell G0.out 2).trans rfl
          have b3 : wr.cell? ⟨w.heap.size + 1 + 1, x.f1.toNat, none⟩ = some (.int .i64 (acc.getD x.f1.toNat 0)) := (blk_cell G2.out _).trans (five_get h5 k0 k1)
          have hbs : w.heap.size + 1 + 1 < wr.heap.size := blk_lt G2.out
          clear ht hl hl2 h5
          have hcs : ∀ W : World, Below (wr.heap.size + 1) (wr.alloc (.cells #[.string x.f0, .int .i64 x.f1] 82)) W → W.cell? ⟨wr.heap.size, 0, none⟩ = some (.string x.f0) ∧ W.cell? ⟨wr.heap.size, 1, none⟩ = some (.int .i64 x.f1) ∧
              W.cell? ⟨w.heap.size, 0, none⟩ = some (.slice (some ad) l0_0.length c0_0) ∧ W.cell? ⟨w.heap.size, 1, none⟩ = some (.slice A0_1 l0_1.length c0_1) ∧ W.cell? ⟨w.heap.size, 2, none⟩ = some (.int .i64 a0_2) ∧ W.cell? ⟨w.heap.size + 1 + 1, x.f1.toNat, none⟩ = some (.int .i64 (acc.getD x.f1.toNat 0)) := fun W hb =>
            ⟨(hb.cell (by simp)).trans (YtlfbdcobpfainaaH.new_cell _ _ _ 0 _ rfl _ rfl), (hb.cell (by simp)).trans (YtlfbdcobpfainaaH.new_cell _ _ _ 1 _ rfl _ rfl), (hb.cell (by simp; omega)).trans (YtlfbdcobpfainaaH.old_cell b0 _), (hb.cell (by simp; omega)).trans (YtlfbdcobpfainaaH.old_cell b1 _), (hb.cell (by simp; omega)).trans (YtlfbdcobpfainaaH.old_cell b2 _), (hb.cell (by simp; omega)).trans (YtlfbdcobpfainaaH.old_cell b3 _)⟩
          have HS2 := Aside0.mk hcs
          have HBS := Aside0.mk hbs
          obtain ⟨wq, hwq⟩ : ∃ wq, wq = wr.alloc (.cells #[.string x.f0, .int .i64 x.f1] 82) := ⟨_, rfl⟩
          have HBQ : Aside0 (Below w.heap.size w wq) := ⟨by rw [hwq]; exact below_alloc HB.out _⟩
          have hqs : wq.heap.size = wr.heap.size + 1 := by rw [hwq]; simp
          have HG2 : Aside0 (wq.heap[w.heap.size + 1 + 1]? = some (.cells (five acc).toArray 102 (0, 0))) := ⟨by rw [hwq]; exact (Below.heap_alloc _ _ _ hbs).trans G2.out⟩
          have HG0 : Aside0 (wq.heap[w.heap.size]? = some (.cells #[.slice (some ad) l0_0.length c0_0, .slice A0_1 l0_1.length c0_1, .int .i64 a0_2] 32 (0, 0))) := ⟨by rw [hwq]; exact (Below.heap_alloc _ _ _ (by omega)).trans G0.out⟩
          have HG1 : Aside0 (wq.heap[w.heap.size + 1]? = some (.cells #[.int .i64 0, .int .i64 0, .int .i64 0, .int .i64 0, .int .i64 0] 102 (0, 0))) := ⟨by rw [hwq]; exact (Below.heap_alloc _ _ _ (by omega)).trans G1.out⟩
          have HQS := Aside0.mk hqs
          have HWQ := Aside0.mk hwq
          clear hcs hbs b0 b1 b2 b3 hqs hwq
          go_wp2_with fail
          rw [← HWQ.out]
          rw [← HWQ.out] at HS2
          refine start_ (n := 13) (S := fun W => W.cell? ⟨wr.heap.size, 0, none⟩ = some (.string x.f0) ∧ W.cell? ⟨wr.heap.size, 1, none⟩ = some (.int .i64 x.f1) ∧ W.cell? ⟨w.heap.size, 0, none⟩ = some (.slice (some ad) l0_0.length c0_0) ∧ W.cell? ⟨w.heap.size, 1, none⟩ = some (.slice A0_1 l0_1.length c0_1) ∧ W.cell? ⟨w.heap.size, 2, none⟩ = some (.int .i64 a0_2) ∧ W.cell? ⟨w.heap.size + 1 + 1, x.f1.toNat, none⟩ = some (.int .i64 (acc.getD x.f1.toNat 0))) (ds := [12]) #[false, false, false, false, false, false, false, false, false, false, false, false, false] (by kernel_rfl) rfl rfl (HS2.out _ (Below.refl _ _).drew) (fun hHeld => ?_)
          refine pure_ (i := 0) (N := some 17) (v := ?_) (a' := ?_) #[true, false, false, false, false, false, false, false, false, false, false, false, false] rfl rfl (by kernel_rfl) (fun _ _ _ h => h) (Or.inl ⟨by rfl, ?_⟩) ?_ ?_
          rotate_left
          · intro w'
            go_simp
            with_reducible rfl
          rotate_left
          · simp only [Act.put, List.setIfInBounds_toArray, List.set_cons_zero, List.set_cons_succ, i64_w, i32_w]
            rfl
          refine take_ (i := 1) (N := some 18) (v := ?_) (a' := ?_) #[true, true, false, false, false, false, false, false, false, false, false, false, false] rfl rfl (by kernel_rfl) (fun _ _ _ h => h) (Or.inl ⟨by rfl, ?_⟩) hHeld ?_ ?_
          rotate_left
          · rintro w' ⟨s0, s1, s2, s3, s4, s5⟩
            go_simp
            with_reducible rfl
          rotate_left
          · simp only [Act.put, List.setIfInBounds_toArray, List.set_cons_zero, List.set_cons_succ, i64_w, i32_w]
            rfl
          refine pure_ (i := 2) (N := some 19) (v := ?_) (a' := ?_) #[true, true, true, false, false, false, false, false, false, false, false, false, false] rfl rfl (by kernel_rfl) (fun _ _ _ h => h) (Or.inl ⟨by rfl, ?_⟩) ?_ ?_
          rotate_left
          · intro w'
            go_simp
            with_reducible rfl
          rotate_left
          · simp only [Act.put, List.setIfInBounds_toArray, List.set_cons_zero, List.set_cons_succ, i64_w, i32_w]
            rfl
          refine take_ (i := 3) (N := some 20) (v := ?_) (a' := ?_) #[true, true, true, true, false, false, false, false, false, false, false, false, false] rfl rfl (by kernel_rfl) (fun _ _ _ h => h) (Or.inl ⟨by rfl, ?_⟩) hHeld ?_ ?_
          rotate_left
          · rintro w' ⟨s0, s1, s2, s3, s4, s5⟩
            go_simp
            with_reducible rfl
          rotate_left
          · simp only [Act.put, List.setIfInBounds_toArray, List.set_cons_zero, List.set_cons_succ, i64_w, i32_w]
            rfl
          refine take_ (i := 4) (N := some 21) (v := ?_) (a' := ?_) #[true, true, true, true, true, false, false, false, false, false, false, false, false] rfl rfl (by kernel_rfl) (fun _ _ _ h => h) (Or.inl ⟨by rfl, ?_⟩) hHeld ?_ ?_
          rotate_left
          · rintro w' ⟨s0, s1, s2, s3, s4, s5⟩
            go_simp
            with_reducible rfl
          rotate_left
          · simp only [Act.put, List.setIfInBounds_toArray, List.set_cons_zero, List.set_cons_succ, i64_w, i32_w]
            rfl
          refine pure_ (i := 5) (N := some 22) (v := ?_) (a' := ?_) #[true, true, true, true, true, true, false, false, false, false, false, false, false] rfl rfl (by kernel_rfl) (fun _ _ _ h => h) (Or.inl ⟨by rfl, ?_⟩) ?_ ?_
          rotate_left
          · intro w'
            go_simp
            with_reducible rfl
          rotate_left
          · simp only [Act.put, List.setIfInBounds_toArray, List.set_cons_zero, List.set_cons_succ, i64_w, i32_w]
            rfl
          refine take_ (i := 6) (N := some 23) (v := ?_) (a' := ?_) #[true, true, true, true, true, true, true, false, false, false, false, false, false] rfl rfl (by kernel_rfl) (fun _ _ _ h => h) (Or.inl ⟨by rfl, ?_⟩) hHeld ?_ ?_
          rotate_left
          · rintro w' ⟨s0, s1, s2, s3, s4, s5⟩
            go_simp
            with_reducible rfl
          rotate_left
          · simp only [Act.put, List.setIfInBounds_toArray, List.set_cons_zero, List.set_cons_succ, i64_w, i32_w]
            rfl
          refine pure_ (i := 7) (N := some 24) (v := ?_) (a' := ?_) #[true, true, true, true, true, true, true, true, false, false, false, false, false] rfl rfl (by kernel_rfl) (fun _ _ _ h => h) (Or.inl ⟨by rfl, ?_⟩) ?_ ?_
          rotate_left
          · intro w'
            go_simp
            with_reducible rfl
          rotate_left
          · simp only [Act.put, List.setIfInBounds_toArray, List.set_cons_zero, List.set_cons_succ, i64_w, i32_w]
            rfl
          refine pure_ (i := 8) (N := some 25) (v := ?_) (a' := ?_) #[true, true, true, true, true, true, true, true, true, false, false, false, false] rfl rfl (by kernel_rfl) (fun _ _ _ h => h) (Or.inl ⟨by rfl, ?_⟩) ?_ ?_
          rotate_left
          · intro w'
            go_simp
            with_reducible rfl
          rotate_left
          · simp only [Act.put, List.setIfInBounds_toArray, List.set_cons_zero, List.set_cons_succ, i64_w, i32_w]
            rfl
          refine one_ (i := 9) (N := some 26) #[true, true, true, true, true, true, true, true, true, true, false, false, false] rfl rfl (by kernel_rfl) (by decide) (fun K hK => ?_)
          refine goes_ Try.func46 (by kernel_rfl) rfl #[.agg #[.slice (some ad) l0_0.length c0_0, .slice A0_1 l0_1.length c0_1, .int .i64 a0_2], .string x.f0, .int .i64 a1, .int .i64 a2] (by rfl) rfl rfl (by simp only [List.map_toArray, List.map_cons, List.map_nil]; rfl) ?_
          refine (book_Of.calls k (some ad) c0_0 l0_0 A0_1 c0_1 l0_1 a0_2 x.f0 a1 a2 t _ (Kd.C_below HR0.out HBQ.out.drew) hc0_0 (Kd.C_below HR1.out HBQ.out.drew) hc0_1 HT.out).mono ?_
          rintro e w5 ⟨rfl, hb⟩
          have HB5 := Aside0.mk (show Below (wr.heap.size + 1) wq w5 from (Below.refl _ _).drew.trans (hb.mono (by have := HQS.out; simp; omega)))
          clear hb
          refine ⟨_, rfl, ?_⟩
          refine hK.out _ _ (HS2.out _ HB5.out) (fun _ => ?_)
          clear hK K hHeld
          have g5 := (HB5.out.block (w.heap.size + 1 + 1) (by have := HBS.out; omega)).trans HG2.out
          have c5 : w5.cell? ⟨w.heap.size + 1 + 1, x.f1.toNat, none⟩ = some (.int .i64 (acc.getD x.f1.toNat 0)) := (blk_cell g5 _).trans (five_get H5.out k0 k1)
          have f5 := blk_frozen g5 x.f1.toNat
          have HG5 := Aside0.mk g5
          clear g5
          refine norm_ (by simp only [Act.put, List.setIfInBounds_toArray, List.set_cons_zero, List.set_cons_succ]; rfl) ?_
          refine pure_ (i := 10) (N := some 27) (v := ?_) (a' := ?_) #[true, true, true, true, true, true, true, true, true, true, true, false, false] rfl rfl (by kernel_rfl) (fun _ _ _ h => h) (Or.inl ⟨by rfl, ?_⟩) ?_ ?_
          rotate_left
          · intro w'
            go_simp
            with_reducible rfl
          rotate_left
          · simp only [Act.put, List.setIfInBounds_toArray, List.set_cons_zero, List.set_cons_succ, i64_w, i32_w]
            rfl
          refine pure_ (i := 11) (N := some 28) (v := ?_) (a' := ?_) #[true, true, true, true, true, true, true, true, true, true, true, true, false] rfl rfl (by kernel_rfl) (fun _ _ _ h => h) (Or.inl ⟨by rfl, ?_⟩) ?_ ?_
          rotate_left
          · intro w'
            go_simp
            with_reducible rfl
          rotate_left
          · simp only [Act.put, List.setIfInBounds_toArray, List.set_cons_zero, List.set_cons_succ, i64_w, i32_w]
            rfl
          refine last_ (i := 12) (N := none) #[true, true, true, true, true, true, true, true, true, true, true, true, true] rfl rfl (by kernel_rfl) (by decide) (fun K hK => ?_)
          refine skip_ (w1 := ?_) (by rfl) rfl ?_ ?_
          rotate_left
          · go_simp
            rfl
          refine hK.out _ _ ?_
          clear hK K
          refine done_ (by kernel_rfl) ?_
          go_wp2_with fail
          have hki := HKI.out
          have hbs := HBS.out
          have hqs := HQS.out
          have h5' := H5.out
          refine ⟨⟨i + 1, ki + 1, acc.set x.f1.toNat (wrap64 (acc.getD x.f1.toNat 0 + t)), by omega, rfl, ⟨by omega⟩, by simp [h5'], HL, ⟨?_⟩, ⟨?_⟩, ⟨?_⟩, ⟨?_⟩⟩, by simp [intOf]; omega⟩
          · exact (Below.heap_setCell w5 ⟨w.heap.size + 1 + 1, x.f1.toNat, none⟩ _ w.heap.size (by show w.heap.size ≠ w.heap.size + 1 + 1; omega)).trans ((HB5.out.block _ (by omega)).trans HG0.out)
          · exact (Below.heap_setCell w5 ⟨w.heap.size + 1 + 1, x.f1.toNat, none⟩ _ (w.heap.size + 1) (by show w.heap.size + 1 ≠ w.heap.size + 1 + 1; omega)).trans ((HB5.out.block _ (by omega)).trans HG1.out)
          · exact blk_put HG5.out x.f1.toNat _ (by rw [← List.getD_eq_getElem?_getD]; simp [five])
          · exact ((HBQ.out.trans (HB5.out.mono (by have := HBQ.out.size; omega)))).setCell (p := ⟨w.heap.size + 1 + 1, x.f1.toNat, none⟩) (by show w.heap.size ≤ w.heap.size + 1 + 1; omega) _
        · simp only [kindsL] at hl
          rw [if_pos k0, if_neg k1] at hl
          cases hl
      · simp only [kindsL] at hl
        rw [if_neg k0] at hl
        cases hl
    · have hi0 : decide (ki < (l0_0.length : Int)) = false := decide_eq_false (by omega)
      have hl := HL.out
      rw [List.drop_of_length_le (by omega)] at hl
      obtain rfl : acc = r := Option.some.inj hl
      obtain ⟨x0, x1, x2, x3, x4, rfl⟩ : ∃ x0 x1 x2 x3 x4 : Int, acc = [x0, x1, x2, x3, x4] := by
        match acc, h5 with
        | [x0, x1, x2, x3, x4], _ => exact ⟨x0, x1, x2, x3, x4, rfl⟩
      have g0 := (blk_cell G2.out 0).trans (show (five [x0, x1, x2, x3, x4]).toArray[0]? = some (.int .i64 x0) from rfl)
      have g1 := (blk_cell G2.out 1).trans (show (five [x0, x1, x2, x3, x4]).toArray[1]? = some (.int .i64 x1) from rfl)
      have g2 := (blk_cell G2.out 2).trans (show (five [x0, x1, x2, x3, x4]).toArray[2]? = some (.int .i64 x2) from rfl)
      have g3 := (blk_cell G2.out 3).trans (show (five [x0, x1, x2, x3, x4]).toArray[3]? = some (.int .i64 x3) from rfl)
      have g4 := (blk_cell G2.out 4).trans (show (five [x0, x1, x2, x3, x4]).toArray[4]? = some (.int .i64 x4) from rfl)
      have z0 := (blk_cell G1.out 0).trans (show (#[.int .i64 0, .int .i64 0, .int .i64 0, .int .i64 0, .int .i64 0] : Array Value)[0]? = some (.int .i64 0) from rfl)
      have z1 := (blk_cell G1.out 1).trans (show (#[.int .i64 0, .int .i64 0, .int .i64 0, .int .i64 0, .int .i64 0] : Array Value)[1]? = some (.int .i64 0) from rfl)
      have z2 := (blk_cell G1.out 2).trans (show (#[.int .i64 0, .int .i64 0, .int .i64 0, .int .i64 0, .int .i64 0] : Array Value)[2]? = some (.int .i64 0) from rfl)
      have z3 := (blk_cell G1.out 3).trans (show (#[.int .i64 0, .int .i64 0, .int .i64 0, .int .i64 0, .int .i64 0] : Array Value)[3]? = some (.int .i64 0) from rfl)
      have z4 := (blk_cell G1.out 4).trans (show (#[.int .i64 0, .int .i64 0, .int .i64 0, .int .i64 0, .int .i64 0] : Array Value)[4]? = some (.int .i64 0) from rfl)
      have f0 := blk_frozen G1.out 0
      have f1 := blk_frozen G1.out 1
      have f2 := blk_frozen G1.out 2
      have f3 := blk_frozen G1.out 3
      have f4 := blk_frozen G1.out 4
      have hbl : w.heap.size ≤ w.heap.size + 1 := by omega
      clear hl hki h5 HL G0 G2
      go_wp2_with fail
      have hbz := ((((HB.out.setCell (p := ⟨w.heap.size + 1, 0, none⟩) hbl (.int .i64 x0)).setCell (p := ⟨w.heap.size + 1, 1, none⟩) hbl (.int .i64 x1)).setCell (p := ⟨w.heap.size + 1, 2, none⟩) hbl (.int .i64 x2)).setCell (p := ⟨w.heap.size + 1, 3, none⟩) hbl (.int .i64 x3)).setCell (p := ⟨w.heap.size + 1, 4, none⟩) hbl (.int .i64 x4)
      have gz := blk_put (blk_put (blk_put (blk_put (blk_put G1.out 0 (.int .i64 x0) rfl) 1 (.int .i64 x1) rfl) 2 (.int .i64 x2) rfl) 3 (.int .i64 x3) rfl) 4 (.int .i64 x4) rfl
      generalize ((((wr.setCell ⟨w.heap.size + 1, 0, none⟩ (.int .i64 x0)).setCell ⟨w.heap.size + 1, 1, none⟩ (.int .i64 x1)).setCell ⟨w.heap.size + 1, 2, none⟩ (.int .i64 x2)).setCell ⟨w.heap.size + 1, 3, none⟩ (.int .i64 x3)).setCell ⟨w.heap.size + 1, 4, none⟩ (.int .i64 x4) = wz at hbz gz ⊢
      have y0 := (blk_cell gz 0).trans (show (#[.int .i64 x0, .int .i64 x1, .int .i64 x2, .int .i64 x3, .int .i64 x4] : Array Value)[0]? = some (.int .i64 x0) from rfl)
      have y1 := (blk_cell gz 1).trans (show (#[.int .i64 x0, .int .i64 x1, .int .i64 x2, .int .i64 x3, .int .i64 x4] : Array Value)[1]? = some (.int .i64 x1) from rfl)
      have y2 := (blk_cell gz 2).trans (show (#[.int .i64 x0, .int .i64 x1, .int .i64 x2, .int .i64 x3, .int .i64 x4] : Array Value)[2]? = some (.int .i64 x2) from rfl)
      have y3 := (blk_cell gz 3).trans (show (#[.int .i64 x0, .int .i64 x1, .int .i64 x2, .int .i64 x3, .int .i64 x4] : Array Value)[3]? = some (.int .i64 x3) from rfl)
      have y4 := (blk_cell gz 4).trans (show (#[.int .i64 x0, .int .i64 x1, .int .i64 x2, .int .i64 x3, .int .i64 x4] : Array Value)[4]? = some (.int .i64 x4) from rfl)
      refine bodyPost_ret (v := .agg #[.int .i64 x0, .int .i64 x1, .int .i64 x2, .int .i64 x3, .int .i64 x4]) (by simp [results, Try.results52, go_sem, y0, y1, y2, y3, y4]) rfl ⟨⟨rfl, rfl⟩, hbz⟩

/-! ### trial_Sheet: function 18, by hand -/
def trial_Sheet.f (k : Nat) (A : List S82) (es : List S38) (s day : Int) : Option (Int × Int × Int × Int) :=
  (trial_look.f A es s day).bind fun t => if t = 0 then (trial_kinds.f k A es s 0 day).bind fun l => some (l.getD 0 0, wrap64 (-l.getD 1 0), wrap64 (-l.getD 2 0), 0) else some (0, 0, 0, t)
theorem trial_Sheet.mono : ∀ a0 a1 a2 a3 k, LeO (trial_Sheet.f k a0 a1 a2 a3) (trial_Sheet.f (k + 1) a0 a1 a2 a3) := by
  intro a0 a1 a2 a3 k
  unfold trial_Sheet.f
  exact LeO.bind (LeO.refl _) (fun _ => LeO.ite (LeO.bind (kindsL_mono _ _ _ _ _ _ _ _) (fun _ => LeO.refl _)) (LeO.refl _))
set_option maxHeartbeats 1600000 in
set_option maxRecDepth 100000 in
theorem trial_Sheet.calls (k : Nat) (A0_0 : Option Addr) (c0_0 : Nat) (l0_0 : List (S82)) (A0_1 : Option Addr) (c0_1 : Nat) (l0_1 : List (S38)) (a0_2 : Int) (a1 : Int) (r1 r2 r3 r4 : Int) (w : World) (hr0_0 : Kd.C k82 w A0_0 l0_0.length l0_0) (hc0_0 : l0_0.length ≤ c0_0) (hr0_1 : Kd.C k38 w A0_1 l0_1.length l0_1) (hc0_1 : l0_1.length ≤ c0_1) (h : trial_Sheet.f k l0_0 l0_1 a0_2 a1 = some (r1, r2, r3, r4)) :
    Calls Try.prog 18 #[.agg #[.slice A0_0 l0_0.length c0_0, .slice A0_1 l0_1.length c0_1, .int .i64 a0_2], .int .i64 a1] w fun e w' => e = .returned (.tuple #[.int .i64 r1, .int .i64 r2, .int .i64 r3, .int .i64 r4]) ∧ Below w.heap.size w w' := by
  have hu32 := Try.underlying32
  have hu102 := Try.underlying102
  have HR0 := Aside0.mk hr0_0
  have HR1 := Aside0.mk hr0_1
  unfold trial_Sheet.f at h
  obtain ⟨t, ht, h⟩ := Option.bind_eq_some_iff.1 h
  have HT := Aside0.mk ht
  clear hr0_0 hr0_1 ht
  by_cases c : t = 0
  · subst c
    rw [if_pos rfl] at h
    obtain ⟨l, hl, h⟩ := Option.bind_eq_some_iff.1 h
    have HL := Aside0.mk hl
    have HH := Aside0.mk h
    clear hl h
    go_enter Try.func18, Try.ntmps18
    go_wp2_with (go_at_call 51; (with_reducible refine (trial_look.calls A0_0 c0_0 l0_0 A0_1 c0_1 l0_1 a0_2 a1 0 _ ?side1 hc0_0 ?side2 hc0_1 HT.out).mono ?_); (case side1 => exact Kd.C_below HR0.out (below_alloc (Below.refl _ _) _)); (case side2 => exact Kd.C_below HR1.out (below_alloc (Below.refl _ _) _)); rintro e w1 ⟨rfl, hb⟩; have HB1 := Aside0.mk (show Below (w.heap.size + 1) (w.alloc (.cells #[.slice A0_0 l0_0.length c0_0, .slice A0_1 l0_1.length c0_1, .int .i64 a0_2] 32)) w1 from hb.mono (by simp)); have b0 : w1.cell? ⟨w.heap.size, 0, none⟩ = some (.slice A0_0 l0_0.length c0_0) := (HB1.out.cell (by simp)).trans (YtlfbdcobpfainaaH.new_cell _ _ _ 0 _ rfl _ rfl); have b1 : w1.cell? ⟨w.heap.size, 1, none⟩ = some (.slice A0_1 l0_1.length c0_1) := (HB1.out.cell (by simp)).trans (YtlfbdcobpfainaaH.new_cell _ _ _ 1 _ rfl _ rfl); have b2 : w1.cell? ⟨w.heap.size, 2, none⟩ = some (.int .i64 a0_2) := (HB1.out.cell (by simp)).trans (YtlfbdcobpfainaaH.new_cell _ _ _ 2 _ rfl _ rfl); clear hb)
    have HB2 := Aside0.mk (show Below w.heap.size w w1 from (below_alloc (Below.refl _ _) _).trans (HB1.out.mono (by omega)))
    refine (trial_kinds.calls k A0_0 c0_0 l0_0 A0_1 c0_1 l0_1 a0_2 0 a1 l w1 (Kd.C_below HR0.out HB2.out) hc0_0 (Kd.C_below HR1.out HB2.out) hc0_1 HL.out).mono ?_
    rintro e w3 ⟨⟨h5, rfl⟩, hb⟩
    obtain ⟨x0, x1, x2, x3, x4, rfl⟩ : ∃ x0 x1 x2 x3 x4 : Int, l = [x0, x1, x2, x3, x4] := by
      match l, h5 with
      | [x0, x1, x2, x3, x4], _ => exact ⟨x0, x1, x2, x3, x4, rfl⟩
    have HB3 := Aside0.mk (HB2.out.trans (hb.mono HB2.out.size))
    have hh : (x0, wrap64 (-x1), wrap64 (-x2), (0 : Int)) = (r1, r2, r3, r4) := Option.some.inj HH.out
    simp only [Prod.mk.injEq] at hh
    obtain ⟨rfl, rfl, rfl, rfl⟩ := hh
    clear hb h5 b0 b1 b2 HH HL HT HB1
    simp only [five, List.map_cons, List.map_nil]
    go_wp2_with fail
    go_quiet (fail)
    go_wp2_with fail
    refine bodyPost_ret (v := .tuple #[.int .i64 x0, .int .i64 (wrap64 (-x1)), .int .i64 (wrap64 (-x2)), .int .i64 0]) (by simp [results, Try.results18, go_sem]) rfl ⟨rfl, pw_below_drewN (below_alloc HB3.out _) _⟩
  · rw [if_neg c] at h
    have hh : ((0 : Int), (0 : Int), (0 : Int), t) = (r1, r2, r3, r4) := Option.some.inj h
    simp only [Prod.mk.injEq] at hh
    obtain ⟨rfl, rfl, rfl, rfl⟩ := hh
    have hcb : (t == 0) = false := beq_eq_false_iff_ne.2 c
    clear h c
    go_enter Try.func18, Try.ntmps18
    go_wp2_with (go_at_call 51; (with_reducible refine (trial_look.calls A0_0 c0_0 l0_0 A0_1 c0_1 l0_1 a0_2 a1 t _ ?side1 hc0_0 ?side2 hc0_1 HT.out).mono ?_); (case side1 => exact Kd.C_below HR0.out (below_alloc (Below.refl _ _) _)); (case side2 => exact Kd.C_below HR1.out (below_alloc (Below.refl _ _) _)); rintro e w1 ⟨rfl, hb⟩; have HB1 := Aside0.mk (show Below w.heap.size w w1 from (below_alloc (Below.refl _ _) _).trans (hb.mono (by simp))); clear hb)
    refine bodyPost_ret (v := .tuple #[.int .i64 0, .int .i64 0, .int .i64 0, .int .i64 t]) (by simp [results, Try.results18, go_sem]) rfl ⟨rfl, HB1.out⟩

/-! ### trial_Profit: function 19, by hand -/
def trial_Profit.f (k : Nat) (A : List S82) (es : List S38) (s a b : Int) : Option (Int × Int) :=
  (trial_look.f A es s a).bind fun t => if t = 0 then (if 0 ≤ b ∧ b ≤ 292193 ∧ a ≤ b then (trial_kinds.f k A es s a b).bind fun l => some (wrap64 (wrap64 (-l.getD 3 0) - l.getD 4 0), 0) else some (0, 1)) else some (0, t)
theorem trial_Profit.mono : ∀ a0 a1 a2 a3 a4 k, LeO (trial_Profit.f k a0 a1 a2 a3 a4) (trial_Profit.f (k + 1) a0 a1 a2 a3 a4) := by
  intro a0 a1 a2 a3 a4 k
  unfold trial_Profit.f
  exact LeO.bind (LeO.refl _) (fun _ => LeO.ite (LeO.ite (LeO.bind (kindsL_mono _ _ _ _ _ _ _ _) (fun _ => LeO.refl _)) (LeO.refl _)) (LeO.refl _))
set_option maxHeartbeats 1600000 in
set_option maxRecDepth 100000 in
theorem trial_Profit.calls (k : Nat) (A0_0 : Option Addr) (c0_0 : Nat) (l0_0 : List (S82)) (A0_1 : Option Addr) (c0_1 : Nat) (l0_1 : List (S38)) (a0_2 : Int) (a1 : Int) (a2 : Int) (r1 r2 : Int) (w : World) (hr0_0 : Kd.C k82 w A0_0 l0_0.length l0_0) (hc0_0 : l0_0.length ≤ c0_0) (hr0_1 : Kd.C k38 w A0_1 l0_1.length l0_1) (hc0_1 : l0_1.length ≤ c0_1) (h : trial_Profit.f k l0_0 l0_1 a0_2 a1 a2 = some (r1, r2)) :
    Calls Try.prog 19 #[.agg #[.slice A0_0 l0_0.length c0_0, .slice A0_1 l0_1.length c0_1, .int .i64 a0_2], .int .i64 a1, .int .i64 a2] w fun e w' => e = .returned (.tuple #[.int .i64 r1, .int .i64 r2]) ∧ Below w.heap.size w w' := by
  have hu32 := Try.underlying32
  have hu102 := Try.underlying102
  have HR0 := Aside0.mk hr0_0
  have HR1 := Aside0.mk hr0_1
  unfold trial_Profit.f at h
  obtain ⟨t, ht, h⟩ := Option.bind_eq_some_iff.1 h
  have HT := Aside0.mk ht
  clear hr0_0 hr0_1 ht
  by_cases c : t = 0
  · subst c
    rw [if_pos rfl] at h
    by_cases c2 : 0 ≤ a2 ∧ a2 ≤ 292193 ∧ a1 ≤ a2
    · rw [if_pos c2] at h
      obtain ⟨e1, e2, e3⟩ := c2
      have HD := Aside0.mk (show cal_Is.f a2 = some true by unfold cal_Is.f; rw [if_pos (by omega), decide_eq_true e2])
      have d1 : decide (a2 < a1) = false := decide_eq_false (by omega)
      obtain ⟨l, hl, h⟩ := Option.bind_eq_some_iff.1 h
      have HL := Aside0.mk hl
      have HH := Aside0.mk h
      clear hl h
      go_enter Try.func19, Try.ntmps19
      go_wp2_with (go_at_call 51; (with_reducible refine (trial_look.calls A0_0 c0_0 l0_0 A0_1 c0_1 l0_1 a0_2 a1 0 _ ?side1 hc0_0 ?side2 hc0_1 HT.out).mono ?_); (case side1 => exact Kd.C_below HR0.out (below_alloc (Below.refl _ _) _)); (case side2 => exact Kd.C_below HR1.out (below_alloc (Below.refl _ _) _)); rintro e w1 ⟨rfl, hb⟩; have HB1 := Aside0.mk (show Below (w.heap.size + 1) (w.alloc (.cells #[.slice A0_0 l0_0.length c0_0, .slice A0_1 l0_1.length c0_1, .int .i64 a0_2] 32)) w1 from hb.mono (by simp)); have b0 : w1.cell? ⟨w.heap.size, 0, none⟩ = some (.slice A0_0 l0_0.length c0_0) := (HB1.out.cell (by simp)).trans (YtlfbdcobpfainaaH.new_cell _ _ _ 0 _ rfl _ rfl); have b1 : w1.cell? ⟨w.heap.size, 1, none⟩ = some (.slice A0_1 l0_1.length c0_1) := (HB1.out.cell (by simp)).trans (YtlfbdcobpfainaaH.new_cell _ _ _ 1 _ rfl _ rfl); have b2 : w1.cell? ⟨w.heap.size, 2, none⟩ = some (.int .i64 a0_2) := (HB1.out.cell (by simp)).trans (YtlfbdcobpfainaaH.new_cell _ _ _ 2 _ rfl _ rfl); clear hb)
      go_wp2_with (go_at_call 45; (with_reducible refine (cal_Is.calls a2 true _ HD.out).mono ?_); rintro e w2 ⟨rfl, ⟨nd, rfl⟩⟩)
      have HB2 := Aside0.mk (show Below w.heap.size w _ from pw_below_drewN ((below_alloc (Below.refl _ _) _).trans (HB1.out.mono (by omega))) nd)
      refine (trial_kinds.calls k A0_0 c0_0 l0_0 A0_1 c0_1 l0_1 a0_2 a1 a2 l _ (Kd.C_below HR0.out HB2.out) hc0_0 (Kd.C_below HR1.out HB2.out) hc0_1 HL.out).mono ?_
      rintro e w3 ⟨⟨h5, rfl⟩, hb⟩
      obtain ⟨x0, x1, x2, x3, x4, rfl⟩ : ∃ x0 x1 x2 x3 x4 : Int, l = [x0, x1, x2, x3, x4] := by
        match l, h5 with
        | [x0, x1, x2, x3, x4], _ => exact ⟨x0, x1, x2, x3, x4, rfl⟩
      have HB3 := Aside0.mk (HB2.out.trans (hb.mono HB2.out.size))
      have hh : (wrap64 (wrap64 (-x3) - x4), (0 : Int)) = (r1, r2) := Option.some.inj HH.out
      simp only [Prod.mk.injEq] at hh
      obtain ⟨rfl, rfl⟩ := hh
      clear hb h5 b0 b1 b2 HH HL HT HB1
      simp only [five, List.map_cons, List.map_nil]
      go_wp2_with fail
      refine bodyPost_ret (v := .tuple #[.int .i64 (wrap64 (wrap64 (-x3) - x4)), .int .i64 0]) (by simp [results, Try.results19, go_sem]) rfl ⟨rfl, below_alloc HB3.out _⟩
    · rw [if_neg c2] at h
      have hh : ((0 : Int), (1 : Int)) = (r1, r2) := Option.some.inj h
      simp only [Prod.mk.injEq] at hh
      obtain ⟨rfl, rfl⟩ := hh
      clear h
      by_cases c3 : 0 ≤ a2 ∧ a2 ≤ 292193
      · have HD := Aside0.mk (show cal_Is.f a2 = some true by unfold cal_Is.f; rw [if_pos (by omega), decide_eq_true c3.2])
        have d1 : decide (a2 < a1) = true := decide_eq_true (by omega)
        clear c2 c3
        go_enter Try.func19, Try.ntmps19
        go_wp2_with (go_at_call 51; (with_reducible refine (trial_look.calls A0_0 c0_0 l0_0 A0_1 c0_1 l0_1 a0_2 a1 0 _ ?side1 hc0_0 ?side2 hc0_1 HT.out).mono ?_); (case side1 => exact Kd.C_below HR0.out (below_alloc (Below.refl _ _) _)); (case side2 => exact Kd.C_below HR1.out (below_alloc (Below.refl _ _) _)); rintro e w1 ⟨rfl, hb⟩; have HB1 := Aside0.mk (show Below (w.heap.size + 1) (w.alloc (.cells #[.slice A0_0 l0_0.length c0_0, .slice A0_1 l0_1.length c0_1, .int .i64 a0_2] 32)) w1 from hb.mono (by simp)); have b0 : w1.cell? ⟨w.heap.size, 0, none⟩ = some (.slice A0_0 l0_0.length c0_0) := (HB1.out.cell (by simp)).trans (YtlfbdcobpfainaaH.new_cell _ _ _ 0 _ rfl _ rfl); have b1 : w1.cell? ⟨w.heap.size, 1, none⟩ = some (.slice A0_1 l0_1.length c0_1) := (HB1.out.cell (by simp)).trans (YtlfbdcobpfainaaH.new_cell _ _ _ 1 _ rfl _ rfl); have b2 : w1.cell? ⟨w.heap.size, 2, none⟩ = some (.int .i64 a0_2) := (HB1.out.cell (by simp)).trans (YtlfbdcobpfainaaH.new_cell _ _ _ 2 _ rfl _ rfl); clear hb)
        go_wp2_with (go_at_call 45; (with_reducible refine (cal_Is.calls a2 true _ HD.out).mono ?_); rintro e w2 ⟨rfl, ⟨nd, rfl⟩⟩)
        refine bodyPost_ret (v := .tuple #[.int .i64 0, .int .i64 1]) (by simp [results, Try.results19, go_sem]) rfl ⟨rfl, pw_below_drewN ((below_alloc (Below.refl _ _) _).trans (HB1.out.mono (by omega))) nd⟩
      · have HD := Aside0.mk (show cal_Is.f a2 = some false by unfold cal_Is.f; by_cases q : a2 ≥ 0 <;> simp [q] <;> omega)
        clear c2 c3
        go_enter Try.func19, Try.ntmps19
        go_wp2_with (go_at_call 51; (with_reducible refine (trial_look.calls A0_0 c0_0 l0_0 A0_1 c0_1 l0_1 a0_2 a1 0 _ ?side1 hc0_0 ?side2 hc0_1 HT.out).mono ?_); (case side1 => exact Kd.C_below HR0.out (below_alloc (Below.refl _ _) _)); (case side2 => exact Kd.C_below HR1.out (below_alloc (Below.refl _ _) _)); rintro e w1 ⟨rfl, hb⟩; have HB1 := Aside0.mk (show Below (w.heap.size + 1) (w.alloc (.cells #[.slice A0_0 l0_0.length c0_0, .slice A0_1 l0_1.length c0_1, .int .i64 a0_2] 32)) w1 from hb.mono (by simp)); have b0 : w1.cell? ⟨w.heap.size, 0, none⟩ = some (.slice A0_0 l0_0.length c0_0) := (HB1.out.cell (by simp)).trans (YtlfbdcobpfainaaH.new_cell _ _ _ 0 _ rfl _ rfl); have b1 : w1.cell? ⟨w.heap.size, 1, none⟩ = some (.slice A0_1 l0_1.length c0_1) := (HB1.out.cell (by simp)).trans (YtlfbdcobpfainaaH.new_cell _ _ _ 1 _ rfl _ rfl); have b2 : w1.cell? ⟨w.heap.size, 2, none⟩ = some (.int .i64 a0_2) := (HB1.out.cell (by simp)).trans (YtlfbdcobpfainaaH.new_cell _ _ _ 2 _ rfl _ rfl); clear hb)
        go_wp2_with (go_at_call 45; (with_reducible refine (cal_Is.calls a2 false _ HD.out).mono ?_); rintro e w2 ⟨rfl, ⟨nd, rfl⟩⟩)
        refine bodyPost_ret (v := .tuple #[.int .i64 0, .int .i64 1]) (by simp [results, Try.results19, go_sem]) rfl ⟨rfl, pw_below_drewN ((below_alloc (Below.refl _ _) _).trans (HB1.out.mono (by omega))) nd⟩
  · rw [if_neg c] at h
    have hh : ((0 : Int), t) = (r1, r2) := Option.some.inj h
    simp only [Prod.mk.injEq] at hh
    obtain ⟨rfl, rfl⟩ := hh
    have hcb : (t == 0) = false := beq_eq_false_iff_ne.2 c
    clear h c
    go_enter Try.func19, Try.ntmps19
    go_wp2_with (go_at_call 51; (with_reducible refine (trial_look.calls A0_0 c0_0 l0_0 A0_1 c0_1 l0_1 a0_2 a1 t _ ?side1 hc0_0 ?side2 hc0_1 HT.out).mono ?_); (case side1 => exact Kd.C_below HR0.out (below_alloc (Below.refl _ _) _)); (case side2 => exact Kd.C_below HR1.out (below_alloc (Below.refl _ _) _)); rintro e w1 ⟨rfl, hb⟩; have HB1 := Aside0.mk (show Below w.heap.size w w1 from (below_alloc (Below.refl _ _) _).trans (hb.mono (by simp))); clear hb)
    refine bodyPost_ret (v := .tuple #[.int .i64 0, .int .i64 t]) (by simp [results, Try.results19, go_sem]) rfl ⟨rfl, HB1.out⟩

end Go.Proofs.Ytlfbdcobpfainaa.L
