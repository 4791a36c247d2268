/- Part of the proof, with what it needs of the printed words alone. -/
import Derived.Test.YtlfbdcobpfainaaTS0
import Derived.Test.YtlfbdcobpfainaaTS10
namespace Go.Proofs.Ytlfbdcobpfainaa.S
open Go.RowKit Go.Proofs.YtlfbdcobpfainaaW.PrintWords Go.Proofs.YtlfbdcobpfainaaW.PrintLast Go.Proofs.YtlfbdcobpfainaaW.PrintMore
attribute [local go_sem] max2_int min2_int max_two min_two max_three min_three max_four min_four
set_option linter.unusedVariables false
set_option linter.unusedSimpArgs false
set_option maxHeartbeats 1600000 in
set_option maxRecDepth 100000 in
theorem symA_int (ai mi bi : Int) (a m b : Nat) (g cap : Nat) (rest : List Value) (gf : FuncId) (vs : Array Value) (eg : ∀ (args : Array Value) (W : World), (callFunc gf args).run Try.prog W = .ok (.enter gf args) W) (P : Int → Prop) (cf : Int → Int → Int) (w0 : World) (hf : ∀ (x y : Int) (W : World), P x → P y → Go.Proofs.YtlfbdcobpfainaaSrt.Ok g w0 W → Calls Try.prog gf (#[.int .i64 x, .int .i64 y] ++ vs) W fun e W' => e = .returned (.int .i64 (cf x y)) ∧ Below W.heap.size W W') (xs : List Int) (w : World) (hai : ai = a) (hmi : mi = m) (hbi : bi = b) (hR : Go.Proofs.YtlfbdcobpfainaaSrt.Row 3 enc_int g rest xs w) (hcap : xs.length ≤ cap) (hsm : xs.length ≤ 1000) (h1 : a < m) (h2 : m < b) (h3 : b ≤ xs.length) (hP : ∀ x ∈ xs, P x) (hO : Go.Proofs.YtlfbdcobpfainaaSrt.Ok g w0 w) (hm1 : m = a + 1) :
    Calls Try.prog 96 #[.slice (some ⟨g, 0, none⟩) xs.length cap, .int .i64 ai, .int .i64 mi, .int .i64 bi, .func (.func gf) #[] vs] w fun e w' => e = .returned (.tuple #[]) ∧ Go.Proofs.YtlfbdcobpfainaaSrt.Row 3 enc_int g rest (Go.Proofs.YtlfbdcobpfainaaSrt.upM (0 : Int) (Go.Proofs.YtlfbdcobpfainaaSrt.symI1 (fun x y => decide (cf x y < 0)) (0 : Int) a m b xs - 1 - a) a xs) (w') ∧ Go.Proofs.YtlfbdcobpfainaaSrt.Ok g w w' := by
  have HA := Aside0.mk hai
  have HM := Aside0.mk hmi
  have HB := Aside0.mk hbi
  have HR := Aside0.mk hR
  have HF := Aside0.mk hf
  have HP := Aside0.mk hP
  have HOO := Aside0.mk hO
  have e1 : IntKind.i64.wrap (mi - ai) = 1 := by rw [IntKind.wrap_i64]; omega
  clear hai hmi hbi hR hf hP hO
  go_enter Try.func96, Try.ntmps96
  go_wp2_with fail
  go_loopw [10, 11] (fun si sj wr => ∃ (i j kk : Nat) (ii ji : Int), si = .int .i64 ii ∧ sj = .int .i64 ji ∧ Aside0 (ii = i) ∧ Aside0 (ji = j) ∧ i ≤ j ∧ m ≤ i ∧ j ≤ b ∧ Aside0 (Go.Proofs.YtlfbdcobpfainaaSrt.symI1 (fun x y => decide (cf x y < 0)) (0 : Int) a m b xs = Go.Proofs.YtlfbdcobpfainaaSrt.bs (fun h => (fun x y => decide (cf x y < 0)) (Go.Proofs.YtlfbdcobpfainaaSrt.at_ (0 : Int) xs h) (Go.Proofs.YtlfbdcobpfainaaSrt.at_ (0 : Int) xs a)) kk i j) ∧ Aside0 (j - i < kk) ∧ Aside0 (Go.Proofs.YtlfbdcobpfainaaSrt.Row 3 enc_int g rest xs wr) ∧ Aside0 (Go.Proofs.YtlfbdcobpfainaaSrt.Ok g w wr)) (fun si sj _ => (intOf sj).toNat - (intOf si).toNat)
  case atStart => exact ⟨m, b, b - m + 1, mi, bi, rfl, rfl, HM, HB, by omega, Nat.le_refl _, Nat.le_refl _, ⟨rfl⟩, ⟨by omega⟩, HR, ⟨Go.Proofs.YtlfbdcobpfainaaSrt.Ok.refl _ _⟩⟩
  case round =>
    obtain ⟨i, j, kk, ii, ji, rfl, rfl, HI, HJ, hij, hlo, hhi, HS, HK, HY, HO⟩ := hrel
    have hi := HI.out
    have hj := HJ.out
    have ha := HA.out
    have q0 : 0 ≤ ai := by omega
    have q1 : ai < (xs.length : Int) := by omega
    by_cases hlt : i < j
    · have d1 : decide (ii < ji) = true := decide_eq_true (by omega)
      obtain ⟨sij, hsij⟩ : ∃ sij : Int, sij = ii + ji := ⟨_, rfl⟩
      have v1 : IntKind.i64.wrap (ii + ji) = sij := by rw [IntKind.wrap_i64]; omega
      have s0 : 0 ≤ sij := by omega
      have s1 : sij ≤ 4000 := by omega
      obtain ⟨hx, hhx⟩ : ∃ hx : Int, sij / 2 = hx := ⟨_, rfl⟩
      obtain ⟨h, hh⟩ : ∃ h : Nat, h = (i + j) / 2 := ⟨_, rfl⟩
      have hxh : hx = h := by omega
      have hb1 : i ≤ h ∧ h < j := by omega
      have t0 : 0 ≤ hx := by omega
      have t1 : hx < (xs.length : Int) := by omega
      have v2 : IntKind.i64.wrap (hx + 1) = hx + 1 := by rw [IntKind.wrap_i64]; omega
      obtain ⟨va, hva⟩ : ∃ v, v = Go.Proofs.YtlfbdcobpfainaaSrt.at_ (0 : Int) xs h := ⟨_, rfl⟩
      obtain ⟨vb, hvb⟩ : ∃ v, v = Go.Proofs.YtlfbdcobpfainaaSrt.at_ (0 : Int) xs a := ⟨_, rfl⟩
      have HPA := Aside0.mk (show P va from by rw [hva]; exact HP.out _ (Go.Proofs.YtlfbdcobpfainaaSrt.at_mem (by omega)))
      have HPB := Aside0.mk (show P vb from by rw [hvb]; exact HP.out _ (Go.Proofs.YtlfbdcobpfainaaSrt.at_mem (by omega)))
      have hcs : ∀ W : World, Go.Proofs.YtlfbdcobpfainaaSrt.Row 3 enc_int g rest xs W → W.cell? ⟨g, hx.toNat, none⟩ = some (.int .i64 va) ∧ W.cell? ⟨g, ai.toNat, none⟩ = some (.int .i64 vb) := fun W hW => by
        have q00 : W.cell? ⟨g, hx.toNat, none⟩ = some (.int .i64 va) := by have hrc := Go.Proofs.YtlfbdcobpfainaaSrt.row_cell enc_int_len hW (0 : Int) (i := h) (c := 0) (by omega) (by decide) rfl; rw [← hva] at hrc; simpa [show hx.toNat = h from by omega] using hrc
        have q10 : W.cell? ⟨g, ai.toNat, none⟩ = some (.int .i64 vb) := by have hrc := Go.Proofs.YtlfbdcobpfainaaSrt.row_cell enc_int_len hW (0 : Int) (i := a) (c := 0) (by omega) (by decide) rfl; rw [← hvb] at hrc; simpa [show ai.toNat = a from by omega] using hrc
        exact ⟨q00, q10⟩
      have HVA := Aside0.mk hva
      have HVB := Aside0.mk hvb
      have HXH := Aside0.mk hxh
      have HH := Aside0.mk hh
      clear hi hj hva hvb hxh hh hsij ha
      go_wp2_with fail
      refine start_ (n := 11) (S := fun W => W.cell? ⟨g, hx.toNat, none⟩ = some (.int .i64 va) ∧ W.cell? ⟨g, ai.toNat, none⟩ = some (.int .i64 vb)) (ds := []) #[false, false, false, false, false, false, false, false, false, false, false] (by kernel_rfl) rfl rfl (hcs _ (show Go.Proofs.YtlfbdcobpfainaaSrt.Row 3 enc_int g rest xs (wr.drew) from HY.out)) (fun hHeld => ?_)
      refine pure_ (i := 0) (N := some 40) (v := ?_) (a' := ?_) #[true, false, false, false, false, false, false, false, false, false, false] rfl rfl (by kernel_rfl) (fun _ _ _ h => h) (Or.inl ⟨by rfl, ?_⟩) ?_ ?_
      rotate_left
      · intro w'
        go_simp
        with_reducible rfl
      rotate_left
      · simp only [Act.put, List.setIfInBounds_toArray, List.set_cons_zero, List.set_cons_succ, i64_w, i32_w]
        rfl
      refine pure_ (i := 1) (N := some 41) (v := ?_) (a' := ?_) #[true, true, false, false, false, false, false, false, false, false, false] rfl rfl (by kernel_rfl) (fun _ _ _ h => h) (Or.inl ⟨by rfl, ?_⟩) ?_ ?_
      rotate_left
      · intro w'
        go_simp
        with_reducible rfl
      rotate_left
      · simp only [Act.put, List.setIfInBounds_toArray, List.set_cons_zero, List.set_cons_succ, i64_w, i32_w]
        rfl
      refine pure_ (i := 2) (N := some 42) (v := ?_) (a' := ?_) #[true, true, true, false, false, false, false, false, false, false, false] rfl rfl (by kernel_rfl) (fun _ _ _ h => h) (Or.inl ⟨by rfl, ?_⟩) ?_ ?_
      rotate_left
      · intro w'
        go_simp
        with_reducible rfl
      rotate_left
      · simp only [Act.put, List.setIfInBounds_toArray, List.set_cons_zero, List.set_cons_succ, i64_w, i32_w]
        rfl
      refine pure_ (i := 3) (N := some 43) (v := ?_) (a' := ?_) #[true, true, true, true, false, false, false, false, false, false, false] rfl rfl (by kernel_rfl) (fun _ _ _ h => h) (Or.inl ⟨by rfl, ?_⟩) ?_ ?_
      rotate_left
      · intro w'
        go_simp
        with_reducible rfl
      rotate_left
      · simp only [Act.put, List.setIfInBounds_toArray, List.set_cons_zero, List.set_cons_succ, i64_w, i32_w]
        rfl
      refine take_ (i := 4) (N := some 44) (v := ?_) (a' := ?_) #[true, true, true, true, true, false, false, false, false, false, false] rfl rfl (by kernel_rfl) (fun _ _ _ h => h) (Or.inl ⟨by rfl, ?_⟩) hHeld ?_ ?_
      rotate_left
      · rintro w' ⟨s0, s1⟩
        go_simp
        with_reducible rfl
      rotate_left
      · simp only [Act.put, List.setIfInBounds_toArray, List.set_cons_zero, List.set_cons_succ, i64_w, i32_w]
        rfl
      refine pure_ (i := 5) (N := some 45) (v := ?_) (a' := ?_) #[true, true, true, true, true, true, false, false, false, false, false] rfl rfl (by kernel_rfl) (fun _ _ _ h => h) (Or.inl ⟨by rfl, ?_⟩) ?_ ?_
      rotate_left
      · intro w'
        go_simp
        with_reducible rfl
      rotate_left
      · simp only [Act.put, List.setIfInBounds_toArray, List.set_cons_zero, List.set_cons_succ, i64_w, i32_w]
        rfl
      refine pure_ (i := 6) (N := some 46) (v := ?_) (a' := ?_) #[true, true, true, true, true, true, true, false, false, false, false] rfl rfl (by kernel_rfl) (fun _ _ _ h => h) (Or.inl ⟨by rfl, ?_⟩) ?_ ?_
      rotate_left
      · intro w'
        go_simp
        with_reducible rfl
      rotate_left
      · simp only [Act.put, List.setIfInBounds_toArray, List.set_cons_zero, List.set_cons_succ, i64_w, i32_w]
        rfl
      refine pure_ (i := 7) (N := some 47) (v := ?_) (a' := ?_) #[true, true, true, true, true, true, true, true, false, false, false] rfl rfl (by kernel_rfl) (fun _ _ _ h => h) (Or.inl ⟨by rfl, ?_⟩) ?_ ?_
      rotate_left
      · intro w'
        go_simp
        with_reducible rfl
      rotate_left
      · simp only [Act.put, List.setIfInBounds_toArray, List.set_cons_zero, List.set_cons_succ, i64_w, i32_w]
        rfl
      refine take_ (i := 8) (N := some 48) (v := ?_) (a' := ?_) #[true, true, true, true, true, true, true, true, true, false, false] rfl rfl (by kernel_rfl) (fun _ _ _ h => h) (Or.inl ⟨by rfl, ?_⟩) hHeld ?_ ?_
      rotate_left
      · rintro w' ⟨s0, s1⟩
        go_simp
        with_reducible rfl
      rotate_left
      · simp only [Act.put, List.setIfInBounds_toArray, List.set_cons_zero, List.set_cons_succ, i64_w, i32_w]
        rfl
      refine one_ (i := 9) (N := some 49) #[true, true, true, true, true, true, true, true, true, true, false] rfl rfl (by kernel_rfl) (by decide) (fun K hK => ?_)
      refine call_ gf (#[.int .i64 va, .int .i64 vb] ++ vs) (by rfl) rfl (by first | (go_simp; done) | (go_simp; exact eg _ _)) ?_
      refine (HF.out va vb _ HPA.out HPB.out ((Go.Proofs.YtlfbdcobpfainaaSrt.Ok.drew (Go.Proofs.YtlfbdcobpfainaaSrt.Ok.trans HOO.out HO.out)))).mono ?_
      rintro e w5 ⟨rfl, hb5⟩
      have HB5 := Aside0.mk hb5
      have HY5 := Aside0.mk (Go.Proofs.YtlfbdcobpfainaaSrt.row_other (show Go.Proofs.YtlfbdcobpfainaaSrt.Row 3 enc_int g rest xs (wr.drew) from HY.out) hb5)
      clear hb5
      refine ⟨_, rfl, ?_⟩
      refine hK.out _ _ (hcs w5 HY5.out) (fun _ => ?_)
      clear hK K hHeld
      refine norm_ (by simp only [Act.put, List.setIfInBounds_toArray, List.set_cons_zero, List.set_cons_succ]; rfl) ?_
      have HO5 := Aside0.mk (Go.Proofs.YtlfbdcobpfainaaSrt.Ok.below (Go.Proofs.YtlfbdcobpfainaaSrt.Ok.drew HO.out) HB5.out)
      by_cases hcf : cf va vb < 0
      · have d3 : decide (cf va vb < 0) = true := decide_eq_true hcf
        have HCF := Aside0.mk d3
        clear hcf
        refine pure_ (i := 10) (N := some 50) (v := ?_) (a' := ?_) #[true, true, true, true, true, true, true, true, true, true, true] rfl rfl (by kernel_rfl) (fun _ _ _ h => h) (Or.inl ⟨by rfl, ?_⟩) ?_ ?_
        rotate_left
        · intro w'
          go_simp
          with_reducible rfl
        rotate_left
        · simp only [Act.put, List.setIfInBounds_toArray, List.set_cons_zero, List.set_cons_succ, i64_w, i32_w]
          rfl
        refine done_ (by kernel_rfl) ?_
        go_wp2_with fail
        have hxh := HXH.out
        have hh := HH.out
        have hi := HI.out
        have hj := HJ.out
        obtain ⟨kk, rfl⟩ : ∃ q, kk = q + 1 := ⟨kk - 1, by have := HK.out; omega⟩
        have hrel_ := hh
        refine ⟨⟨h + 1, j, kk, hx + 1, ji, rfl, rfl, ⟨by omega⟩, HJ, by omega, by omega, hhi, ⟨?_⟩, ⟨by have := HK.out; omega⟩, HY5, HO5⟩, by simp [intOf]; omega⟩
        rw [HS.out, hh]
        have TQ : decide (cf (Go.Proofs.YtlfbdcobpfainaaSrt.at_ (0 : Int) xs h) (Go.Proofs.YtlfbdcobpfainaaSrt.at_ (0 : Int) xs a) < 0) = true := by rw [← HVA.out, ← HVB.out]; exact HCF.out
        exact Go.Proofs.YtlfbdcobpfainaaSrt.bs_hit (p := (fun h => (fun x y => decide (cf x y < 0)) (Go.Proofs.YtlfbdcobpfainaaSrt.at_ (0 : Int) xs h) (Go.Proofs.YtlfbdcobpfainaaSrt.at_ (0 : Int) xs a))) hlt (by rw [← hh]; exact TQ)
      · have d3 : decide (cf va vb < 0) = false := decide_eq_false hcf
        have HCF := Aside0.mk d3
        clear hcf
        refine pure_ (i := 10) (N := some 50) (v := ?_) (a' := ?_) #[true, true, true, true, true, true, true, true, true, true, true] rfl rfl (by kernel_rfl) (fun _ _ _ h => h) (Or.inl ⟨by rfl, ?_⟩) ?_ ?_
        rotate_left
        · intro w'
          go_simp
          with_reducible rfl
        rotate_left
        · simp only [Act.put, List.setIfInBounds_toArray, List.set_cons_zero, List.set_cons_succ, i64_w, i32_w]
          rfl
        refine done_ (by kernel_rfl) ?_
        go_wp2_with fail
        have hxh := HXH.out
        have hh := HH.out
        have hi := HI.out
        have hj := HJ.out
        obtain ⟨kk, rfl⟩ : ∃ q, kk = q + 1 := ⟨kk - 1, by have := HK.out; omega⟩
        have hrel_ := hh
        refine ⟨⟨i, h, kk, ii, hx, rfl, rfl, HI, ⟨by omega⟩, by omega, hlo, by omega, ⟨?_⟩, ⟨by have := HK.out; omega⟩, HY5, HO5⟩, by simp [intOf]; omega⟩
        rw [HS.out, hh]
        have TQ : decide (cf (Go.Proofs.YtlfbdcobpfainaaSrt.at_ (0 : Int) xs h) (Go.Proofs.YtlfbdcobpfainaaSrt.at_ (0 : Int) xs a) < 0) = false := by rw [← HVA.out, ← HVB.out]; exact HCF.out
        exact Go.Proofs.YtlfbdcobpfainaaSrt.bs_miss (p := (fun h => (fun x y => decide (cf x y < 0)) (Go.Proofs.YtlfbdcobpfainaaSrt.at_ (0 : Int) xs h) (Go.Proofs.YtlfbdcobpfainaaSrt.at_ (0 : Int) xs a))) hlt (by rw [← hh]; exact TQ)
    · have d1 : decide (ii < ji) = false := decide_eq_false (by omega)
      obtain rfl : i = j := by omega
      have HS1 := Aside0.mk (show Go.Proofs.YtlfbdcobpfainaaSrt.symI1 (fun x y => decide (cf x y < 0)) (0 : Int) a m b xs = i from by rw [HS.out]; exact Go.Proofs.YtlfbdcobpfainaaSrt.bs_end)
      obtain ⟨iq, hiq⟩ : ∃ iq : Int, iq = ii - 1 := ⟨_, rfl⟩
      have v5 : IntKind.i64.wrap (ii - 1) = iq := by rw [IntKind.wrap_i64]; omega
      have HIQ := Aside0.mk hiq
      obtain ⟨wo, hwo⟩ : ∃ wo : World, wo = wr := ⟨_, rfl⟩
      subst hwo
      clear hi hj ha hiq
      go_wp2_with fail
      go_loopw [13] (fun si wr => ∃ (c : Nat) (ci : Int) (ys : List Int), si = .int .i64 ci ∧ Aside0 (ci = c) ∧ a ≤ c ∧ c ≤ i - 1 ∧ Aside0 (ys.length = xs.length) ∧ Aside0 (Go.Proofs.YtlfbdcobpfainaaSrt.upM (0 : Int) (i - 1 - a) a xs = Go.Proofs.YtlfbdcobpfainaaSrt.upM (0 : Int) (i - 1 - c) c ys) ∧ Aside0 (Go.Proofs.YtlfbdcobpfainaaSrt.Row 3 enc_int g rest ys wr) ∧ Aside0 (Go.Proofs.YtlfbdcobpfainaaSrt.Ok g w wr)) (fun si _ => i - (intOf si).toNat)
      case atStart => exact ⟨a, ai, xs, rfl, HA, Nat.le_refl _, by omega, ⟨rfl⟩, ⟨rfl⟩, HY, HO⟩
      case round =>
        obtain ⟨c, ci, ys, rfl, HC, hc0, hc1, HL, HU, HZ, HOZ⟩ := hrel
        have hc := HC.out
        have hl := HL.out
        have hi := HI.out
        have hiq := HIQ.out
        by_cases hlt2 : c < i - 1
        · have d2 : decide (ci < iq) = true := decide_eq_true (by omega)
          obtain ⟨cj, hcj⟩ : ∃ cj : Int, cj = ci + 1 := ⟨_, rfl⟩
          have v6 : IntKind.i64.wrap (ci + 1) = cj := by rw [IntKind.wrap_i64]; omega
          have g0 : 0 ≤ ci := by omega
          have g1 : ci < (xs.length : Int) := by omega
          have g2 : 0 ≤ cj := by omega
          have g3 : cj < (xs.length : Int) := by omega
          have gne : ci.toNat ≠ cj.toNat := by omega
          have gne2 : cj.toNat ≠ ci.toNat := by omega
          obtain ⟨va, hva⟩ : ∃ v, v = Go.Proofs.YtlfbdcobpfainaaSrt.at_ (0 : Int) ys c := ⟨_, rfl⟩
          obtain ⟨vb, hvb⟩ : ∃ v, v = Go.Proofs.YtlfbdcobpfainaaSrt.at_ (0 : Int) ys (c + 1) := ⟨_, rfl⟩
          have hcs : ∀ W : World, Go.Proofs.YtlfbdcobpfainaaSrt.Row 3 enc_int g rest ys W → W.cell? ⟨g, ci.toNat, none⟩ = some (.int .i64 va) ∧ W.cell? ⟨g, cj.toNat, none⟩ = some (.int .i64 vb) := fun W hW => by
            have q00 : W.cell? ⟨g, ci.toNat, none⟩ = some (.int .i64 va) := by have hrc := Go.Proofs.YtlfbdcobpfainaaSrt.row_cell enc_int_len hW (0 : Int) (i := c) (c := 0) (by omega) (by decide) rfl; rw [← hva] at hrc; simpa [show ci.toNat = c from by omega] using hrc
            have q10 : W.cell? ⟨g, cj.toNat, none⟩ = some (.int .i64 vb) := by have hrc := Go.Proofs.YtlfbdcobpfainaaSrt.row_cell enc_int_len hW (0 : Int) (i := (c + 1)) (c := 0) (by omega) (by decide) rfl; rw [← hvb] at hrc; simpa [show cj.toNat = c + 1 from by omega] using hrc
            exact ⟨q00, q10⟩
          have HVA := Aside0.mk hva
          have HVB := Aside0.mk hvb
          have HCJ := Aside0.mk hcj
          clear hc hl hi hiq hva hvb hcj
          have fr := fun j => Go.Proofs.YtlfbdcobpfainaaSrt.row_frozen HZ.out j
          obtain ⟨e0, e1⟩ := hcs wr HZ.out
          go_wp2_with fail
          refine start_ (n := 18) (S := fun W => W.cell? ⟨g, ci.toNat, none⟩ = some (.int .i64 va) ∧ W.cell? ⟨g, cj.toNat, none⟩ = some (.int .i64 vb)) (ds := [15, 17]) #[false, false, false, false, false, false, false, false, false, false, false, false, false, false, false, false, false, false] (by kernel_rfl) rfl rfl (hcs _ (show Go.Proofs.YtlfbdcobpfainaaSrt.Row 3 enc_int g rest ys (wr.drew) from HZ.out)) (fun hHeld => ?_)
          refine pure_ (i := 0) (N := some 61) (v := ?_) (a' := ?_) #[true, false, false, false, false, false, false, false, false, false, false, false, false, false, false, false, false, false] rfl rfl (by kernel_rfl) (fun _ _ _ h => h) (Or.inl ⟨by rfl, ?_⟩) ?_ ?_
          rotate_left
          · intro w'
            go_simp
            with_reducible rfl
          rotate_left
          · simp only [Act.put, List.setIfInBounds_toArray, List.set_cons_zero, List.set_cons_succ, i64_w, i32_w]
            rfl
          refine pure_ (i := 1) (N := some 62) (v := ?_) (a' := ?_) #[true, true, false, false, false, false, false, false, false, false, false, false, false, false, false, false, false, false] rfl rfl (by kernel_rfl) (fun _ _ _ h => h) (Or.inl ⟨by rfl, ?_⟩) ?_ ?_
          rotate_left
          · intro w'
            go_simp
            with_reducible rfl
          rotate_left
          · simp only [Act.put, List.setIfInBounds_toArray, List.set_cons_zero, List.set_cons_succ, i64_w, i32_w]
            rfl
          refine pure_ (i := 2) (N := some 63) (v := ?_) (a' := ?_) #[true, true, true, false, false, false, false, false, false, false, false, false, false, false, false, false, false, false] rfl rfl (by kernel_rfl) (fun _ _ _ h => h) (Or.inl ⟨by rfl, ?_⟩) ?_ ?_
          rotate_left
          · intro w'
            go_simp
            with_reducible rfl
          rotate_left
          · simp only [Act.put, List.setIfInBounds_toArray, List.set_cons_zero, List.set_cons_succ, i64_w, i32_w]
            rfl
          refine pure_ (i := 3) (N := some 64) (v := ?_) (a' := ?_) #[true, true, true, true, false, false, false, false, false, false, false, false, false, false, false, false, false, false] rfl rfl (by kernel_rfl) (fun _ _ _ h => h) (Or.inl ⟨by rfl, ?_⟩) ?_ ?_
          rotate_left
          · intro w'
            go_simp
            with_reducible rfl
          rotate_left
          · simp only [Act.put, List.setIfInBounds_toArray, List.set_cons_zero, List.set_cons_succ, i64_w, i32_w]
            rfl
          refine pure_ (i := 4) (N := some 65) (v := ?_) (a' := ?_) #[true, true, true, true, true, false, false, false, false, false, false, false, false, false, false, false, false, false] rfl rfl (by kernel_rfl) (fun _ _ _ h => h) (Or.inl ⟨by rfl, ?_⟩) ?_ ?_
          rotate_left
          · intro w'
            go_simp
            with_reducible rfl
          rotate_left
          · simp only [Act.put, List.setIfInBounds_toArray, List.set_cons_zero, List.set_cons_succ, i64_w, i32_w]
            rfl
          refine pure_ (i := 5) (N := some 66) (v := ?_) (a' := ?_) #[true, true, true, true, true, true, false, false, false, false, false, false, false, false, false, false, false, false] rfl rfl (by kernel_rfl) (fun _ _ _ h => h) (Or.inl ⟨by rfl, ?_⟩) ?_ ?_
          rotate_left
          · intro w'
            go_simp
            with_reducible rfl
          rotate_left
          · simp only [Act.put, List.setIfInBounds_toArray, List.set_cons_zero, List.set_cons_succ, i64_w, i32_w]
            rfl
          refine pure_ (i := 6) (N := some 67) (v := ?_) (a' := ?_) #[true, true, true, true, true, true, true, false, false, false, false, false, false, false, false, false, false, false] rfl rfl (by kernel_rfl) (fun _ _ _ h => h) (Or.inl ⟨by rfl, ?_⟩) ?_ ?_
          rotate_left
          · intro w'
            go_simp
            with_reducible rfl
          rotate_left
          · simp only [Act.put, List.setIfInBounds_toArray, List.set_cons_zero, List.set_cons_succ, i64_w, i32_w]
            rfl
          refine pure_ (i := 7) (N := some 68) (v := ?_) (a' := ?_) #[true, true, true, true, true, true, true, true, false, false, false, false, false, false, false, false, false, false] rfl rfl (by kernel_rfl) (fun _ _ _ h => h) (Or.inl ⟨by rfl, ?_⟩) ?_ ?_
          rotate_left
          · intro w'
            go_simp
            with_reducible rfl
          rotate_left
          · simp only [Act.put, List.setIfInBounds_toArray, List.set_cons_zero, List.set_cons_succ, i64_w, i32_w]
            rfl
          refine pure_ (i := 8) (N := some 69) (v := ?_) (a' := ?_) #[true, true, true, true, true, true, true, true, true, false, false, false, false, false, false, false, false, false] rfl rfl (by kernel_rfl) (fun _ _ _ h => h) (Or.inl ⟨by rfl, ?_⟩) ?_ ?_
          rotate_left
          · intro w'
            go_simp
            with_reducible rfl
          rotate_left
          · simp only [Act.put, List.setIfInBounds_toArray, List.set_cons_zero, List.set_cons_succ, i64_w, i32_w]
            rfl
          refine take_ (i := 9) (N := some 70) (v := ?_) (a' := ?_) #[true, true, true, true, true, true, true, true, true, true, false, false, false, false, false, false, false, false] rfl rfl (by kernel_rfl) (fun _ _ _ h => h) (Or.inl ⟨by rfl, ?_⟩) hHeld ?_ ?_
          rotate_left
          · rintro w' ⟨s0, s1⟩
            go_simp
            with_reducible rfl
          rotate_left
          · simp only [Act.put, List.setIfInBounds_toArray, List.set_cons_zero, List.set_cons_succ, i64_w, i32_w]
            rfl
          refine pure_ (i := 10) (N := some 71) (v := ?_) (a' := ?_) #[true, true, true, true, true, true, true, true, true, true, true, false, false, false, false, false, false, false] rfl rfl (by kernel_rfl) (fun _ _ _ h => h) (Or.inl ⟨by rfl, ?_⟩) ?_ ?_
          rotate_left
          · intro w'
            go_simp
            with_reducible rfl
          rotate_left
          · simp only [Act.put, List.setIfInBounds_toArray, List.set_cons_zero, List.set_cons_succ, i64_w, i32_w]
            rfl
          refine pure_ (i := 11) (N := some 72) (v := ?_) (a' := ?_) #[true, true, true, true, true, true, true, true, true, true, true, true, false, false, false, false, false, false] rfl rfl (by kernel_rfl) (fun _ _ _ h => h) (Or.inl ⟨by rfl, ?_⟩) ?_ ?_
          rotate_left
          · intro w'
            go_simp
            with_reducible rfl
          rotate_left
          · simp only [Act.put, List.setIfInBounds_toArray, List.set_cons_zero, List.set_cons_succ, i64_w, i32_w]
            rfl
          refine pure_ (i := 12) (N := some 73) (v := ?_) (a' := ?_) #[true, true, true, true, true, true, true, true, true, true, true, true, true, false, false, false, false, false] rfl rfl (by kernel_rfl) (fun _ _ _ h => h) (Or.inl ⟨by rfl, ?_⟩) ?_ ?_
          rotate_left
          · intro w'
            go_simp
            with_reducible rfl
          rotate_left
          · simp only [Act.put, List.setIfInBounds_toArray, List.set_cons_zero, List.set_cons_succ, i64_w, i32_w]
            rfl
          refine take_ (i := 13) (N := some 74) (v := ?_) (a' := ?_) #[true, true, true, true, true, true, true, true, true, true, true, true, true, true, false, false, false, false] rfl rfl (by kernel_rfl) (fun _ _ _ h => h) (Or.inl ⟨by rfl, ?_⟩) hHeld ?_ ?_
          rotate_left
          · rintro w' ⟨s0, s1⟩
            go_simp
            with_reducible rfl
          rotate_left
          · simp only [Act.put, List.setIfInBounds_toArray, List.set_cons_zero, List.set_cons_succ, i64_w, i32_w]
            rfl
          refine pure_ (i := 14) (N := some 75) (v := ?_) (a' := ?_) #[true, true, true, true, true, true, true, true, true, true, true, true, true, true, true, false, false, false] rfl rfl (by kernel_rfl) (fun _ _ _ h => h) (Or.inl ⟨by rfl, ?_⟩) ?_ ?_
          rotate_left
          · intro w'
            go_simp
            with_reducible rfl
          rotate_left
          · simp only [Act.put, List.setIfInBounds_toArray, List.set_cons_zero, List.set_cons_succ, i64_w, i32_w]
            rfl
          refine last_ (i := 15) (N := none) #[true, true, true, true, true, true, true, true, true, true, true, true, true, true, true, true, false, false] rfl rfl (by kernel_rfl) (by decide) (fun K hK => ?_)
          refine skip_ (w1 := ?_) (by rfl) rfl ?_ ?_
          rotate_left
          · go_simp
            rfl
          refine hK.out _ _ ?_
          clear hK K
          refine pure_ (i := 16) (N := some 76) (v := ?_) (a' := ?_) #[true, true, true, true, true, true, true, true, true, true, true, true, true, true, true, true, true, false] rfl rfl (by kernel_rfl) (fun _ _ _ h => h) (Or.inl ⟨by rfl, ?_⟩) ?_ ?_
          rotate_left
          · intro w'
            go_simp
            with_reducible rfl
          rotate_left
          · simp only [Act.put, List.setIfInBounds_toArray, List.set_cons_zero, List.set_cons_succ, i64_w, i32_w]
            rfl
          refine last_ (i := 17) (N := none) #[true, true, true, true, true, true, true, true, true, true, true, true, true, true, true, true, true, true] rfl rfl (by kernel_rfl) (by decide) (fun K hK => ?_)
          refine skip_ (w1 := ?_) (by rfl) rfl ?_ ?_
          rotate_left
          · go_simp
            rfl
          refine hK.out _ _ ?_
          clear hK K
          refine done_ (by kernel_rfl) ?_
          go_wp2_with fail
          have hc := HC.out
          have hl := HL.out
          have hcj := HCJ.out
          have hi := HI.out
          have hrow : Go.Proofs.YtlfbdcobpfainaaSrt.Row 3 enc_int g rest (Go.Proofs.YtlfbdcobpfainaaSrt.swp (0 : Int) ys (c) (c + 1)) (((wr.drew.setCell ⟨g, ci.toNat, none⟩ (.int .i64 vb)).setCell ⟨g, cj.toNat, none⟩ (.int .i64 va))) := by
            rw [Go.Proofs.YtlfbdcobpfainaaSrt.swp_in (by omega) (by omega), ← HVA.out, ← HVB.out, show ci.toNat = c by omega, show cj.toNat = c + 1 by omega]
            exact Go.Proofs.YtlfbdcobpfainaaSrt.row_set1 enc_int_len (Go.Proofs.YtlfbdcobpfainaaSrt.row_set1 enc_int_len (show Go.Proofs.YtlfbdcobpfainaaSrt.Row 3 enc_int g rest ys (wr.drew) from HZ.out) (by omega) rfl) (by simp; omega) rfl
          have hok : Go.Proofs.YtlfbdcobpfainaaSrt.Ok g w ((wr.drew.setCell ⟨g, ci.toNat, none⟩ (.int .i64 vb)).setCell ⟨g, cj.toNat, none⟩ (.int .i64 va)) := (Go.Proofs.YtlfbdcobpfainaaSrt.Ok.set (Go.Proofs.YtlfbdcobpfainaaSrt.Ok.set (Go.Proofs.YtlfbdcobpfainaaSrt.Ok.drew HOZ.out) _ _) _ _)
          refine ⟨⟨c + 1, cj, Go.Proofs.YtlfbdcobpfainaaSrt.swp (0 : Int) ys c (c + 1), rfl, ⟨by omega⟩, by omega, by omega, ⟨by rw [(Go.Proofs.YtlfbdcobpfainaaSrt.swp_perm _ _ _ _).length_eq, hl]⟩, ⟨by rw [HU.out, show i - 1 - c = (i - 1 - (c + 1)) + 1 by omega]; rfl⟩, ⟨hrow⟩, ⟨hok⟩⟩, by simp [intOf]; omega⟩
        · have d2 : decide (ci < iq) = false := decide_eq_false (by omega)
          obtain rfl : c = i - 1 := by omega
          have HU1 := HU.out
          rw [Nat.sub_self] at HU1
          have HU2 := Aside0.mk (show Go.Proofs.YtlfbdcobpfainaaSrt.upM (0 : Int) (i - 1 - a) a xs = ys from HU1)
          clear hc hl hi hiq HU1
          go_wp2_with fail
          refine bodyPost_ret (v := .tuple #[]) (by simp [results, Try.results96, go_sem]) rfl ?_
          exact ⟨rfl, by rw [HS1.out, HU2.out]; exact HZ.out, HOZ.out⟩
set_option maxHeartbeats 1600000 in
set_option maxRecDepth 100000 in
theorem symB_int (ai mi bi : Int) (a m b : Nat) (g cap : Nat) (rest : List Value) (gf : FuncId) (vs : Array Value) (eg : ∀ (args : Array Value) (W : World), (callFunc gf args).run Try.prog W = .ok (.enter gf args) W) (P : Int → Prop) (cf : Int → Int → Int) (w0 : World) (hf : ∀ (x y : Int) (W : World), P x → P y → Go.Proofs.YtlfbdcobpfainaaSrt.Ok g w0 W → Calls Try.prog gf (#[.int .i64 x, .int .i64 y] ++ vs) W fun e W' => e = .returned (.int .i64 (cf x y)) ∧ Below W.heap.size W W') (xs : List Int) (w : World) (hai : ai = a) (hmi : mi = m) (hbi : bi = b) (hR : Go.Proofs.YtlfbdcobpfainaaSrt.Row 3 enc_int g rest xs w) (hcap : xs.length ≤ cap) (hsm : xs.length ≤ 1000) (h1 : a < m) (h2 : m < b) (h3 : b ≤ xs.length) (hP : ∀ x ∈ xs, P x) (hO : Go.Proofs.YtlfbdcobpfainaaSrt.Ok g w0 w) (hm1 : b = m + 1) (hm2 : a + 1 < m) :
    Calls Try.prog 96 #[.slice (some ⟨g, 0, none⟩) xs.length cap, .int .i64 ai, .int .i64 mi, .int .i64 bi, .func (.func gf) #[] vs] w fun e w' => e = .returned (.tuple #[]) ∧ Go.Proofs.YtlfbdcobpfainaaSrt.Row 3 enc_int g rest (Go.Proofs.YtlfbdcobpfainaaSrt.downM (0 : Int) (Go.Proofs.YtlfbdcobpfainaaSrt.symI2 (fun x y => decide (cf x y < 0)) (0 : Int) a m xs) m xs) (w') ∧ Go.Proofs.YtlfbdcobpfainaaSrt.Ok g w w' := by
  have HA := Aside0.mk hai
  have HM := Aside0.mk hmi
  have HB := Aside0.mk hbi
  have HR := Aside0.mk hR
  have HF := Aside0.mk hf
  have HP := Aside0.mk hP
  have HOO := Aside0.mk hO
  obtain ⟨dq, hdq⟩ : ∃ dq : Int, dq = mi - ai := ⟨_, rfl⟩
  have e1 : IntKind.i64.wrap (mi - ai) = dq := by rw [IntKind.wrap_i64]; omega
  have e3 : (dq == 1) = false := beq_eq_false_iff_ne.2 (by omega)
  have e2 : IntKind.i64.wrap (bi - mi) = 1 := by rw [IntKind.wrap_i64]; omega
  clear hai hmi hbi hR hf hP hO hdq
  go_enter Try.func96, Try.ntmps96
  go_wp2_with fail
  go_loopw [14, 15] (fun si sj wr => ∃ (i j kk : Nat) (ii ji : Int), si = .int .i64 ii ∧ sj = .int .i64 ji ∧ Aside0 (ii = i) ∧ Aside0 (ji = j) ∧ i ≤ j ∧ a ≤ i ∧ j ≤ m ∧ Aside0 (Go.Proofs.YtlfbdcobpfainaaSrt.symI2 (fun x y => decide (cf x y < 0)) (0 : Int) a m xs = Go.Proofs.YtlfbdcobpfainaaSrt.bs (fun h => !(fun x y => decide (cf x y < 0)) (Go.Proofs.YtlfbdcobpfainaaSrt.at_ (0 : Int) xs m) (Go.Proofs.YtlfbdcobpfainaaSrt.at_ (0 : Int) xs h)) kk i j) ∧ Aside0 (j - i < kk) ∧ Aside0 (Go.Proofs.YtlfbdcobpfainaaSrt.Row 3 enc_int g rest xs wr) ∧ Aside0 (Go.Proofs.YtlfbdcobpfainaaSrt.Ok g w wr)) (fun si sj _ => (intOf sj).toNat - (intOf si).toNat)
  case atStart => exact ⟨a, m, m - a + 1, ai, mi, rfl, rfl, HA, HM, by omega, Nat.le_refl _, Nat.le_refl _, ⟨rfl⟩, ⟨by omega⟩, HR, ⟨Go.Proofs.YtlfbdcobpfainaaSrt.Ok.refl _ _⟩⟩
  case round =>
    obtain ⟨i, j, kk, ii, ji, rfl, rfl, HI, HJ, hij, hlo, hhi, HS, HK, HY, HO⟩ := hrel
    have hi := HI.out
    have hj := HJ.out
    have hm := HM.out
    have q0 : 0 ≤ mi := by omega
    have q1 : mi < (xs.length : Int) := by omega
    by_cases hlt : i < j
    · have d1 : decide (ii < ji) = true := decide_eq_true (by omega)
      obtain ⟨sij, hsij⟩ : ∃ sij : Int, sij = ii + ji := ⟨_, rfl⟩
      have v1 : IntKind.i64.wrap (ii + ji) = sij := by rw [IntKind.wrap_i64]; omega
      have s0 : 0 ≤ sij := by omega
      have s1 : sij ≤ 4000 := by omega
      obtain ⟨hx, hhx⟩ : ∃ hx : Int, sij / 2 = hx := ⟨_, rfl⟩
      obtain ⟨h, hh⟩ : ∃ h : Nat, h = (i + j) / 2 := ⟨_, rfl⟩
      have hxh : hx = h := by omega
      have hb1 : i ≤ h ∧ h < j := by omega
      have t0 : 0 ≤ hx := by omega
      have t1 : hx < (xs.length : Int) := by omega
      have v2 : IntKind.i64.wrap (hx + 1) = hx + 1 := by rw [IntKind.wrap_i64]; omega
      obtain ⟨va, hva⟩ : ∃ v, v = Go.Proofs.YtlfbdcobpfainaaSrt.at_ (0 : Int) xs m := ⟨_, rfl⟩
      obtain ⟨vb, hvb⟩ : ∃ v, v = Go.Proofs.YtlfbdcobpfainaaSrt.at_ (0 : Int) xs h := ⟨_, rfl⟩
      have HPA := Aside0.mk (show P va from by rw [hva]; exact HP.out _ (Go.Proofs.YtlfbdcobpfainaaSrt.at_mem (by omega)))
      have HPB := Aside0.mk (show P vb from by rw [hvb]; exact HP.out _ (Go.Proofs.YtlfbdcobpfainaaSrt.at_mem (by omega)))
      have hcs : ∀ W : World, Go.Proofs.YtlfbdcobpfainaaSrt.Row 3 enc_int g rest xs W → W.cell? ⟨g, mi.toNat, none⟩ = some (.int .i64 va) ∧ W.cell? ⟨g, hx.toNat, none⟩ = some (.int .i64 vb) := fun W hW => by
        have q00 : W.cell? ⟨g, mi.toNat, none⟩ = some (.int .i64 va) := by have hrc := Go.Proofs.YtlfbdcobpfainaaSrt.row_cell enc_int_len hW (0 : Int) (i := m) (c := 0) (by omega) (by decide) rfl; rw [← hva] at hrc; simpa [show mi.toNat = m from by omega] using hrc
        have q10 : W.cell? ⟨g, hx.toNat, none⟩ = some (.int .i64 vb) := by have hrc := Go.Proofs.YtlfbdcobpfainaaSrt.row_cell enc_int_len hW (0 : Int) (i := h) (c := 0) (by omega) (by decide) rfl; rw [← hvb] at hrc; simpa [show hx.toNat = h from by omega] using hrc
        exact ⟨q00, q10⟩
      have HVA := Aside0.mk hva
      have HVB := Aside0.mk hvb
      have HXH := Aside0.mk hxh
      have HH := Aside0.mk hh
      clear hi hj hva hvb hxh hh hsij hm
      go_wp2_with fail
      refine start_ (n := 12) (S := fun W => W.cell? ⟨g, mi.toNat, none⟩ = some (.int .i64 va) ∧ W.cell? ⟨g, hx.toNat, none⟩ = some (.int .i64 vb)) (ds := []) #[false, false, false, false, false, false, false, false, false, false, false, false] (by kernel_rfl) rfl rfl (hcs _ (show Go.Proofs.YtlfbdcobpfainaaSrt.Row 3 enc_int g rest xs (wr.drew) from HY.out)) (fun hHeld => ?_)
      refine pure_ (i := 0) (N := some 92) (v := ?_) (a' := ?_) #[true, false, false, false, false, false, false, false, false, false, false, false] rfl rfl (by kernel_rfl) (fun _ _ _ h => h) (Or.inl ⟨by rfl, ?_⟩) ?_ ?_
      rotate_left
      · intro w'
        go_simp
        with_reducible rfl
      rotate_left
      · simp only [Act.put, List.setIfInBounds_toArray, List.set_cons_zero, List.set_cons_succ, i64_w, i32_w]
        rfl
      refine pure_ (i := 1) (N := some 93) (v := ?_) (a' := ?_) #[true, true, false, false, false, false, false, false, false, false, false, false] rfl rfl (by kernel_rfl) (fun _ _ _ h => h) (Or.inl ⟨by rfl, ?_⟩) ?_ ?_
      rotate_left
      · intro w'
        go_simp
        with_reducible rfl
      rotate_left
      · simp only [Act.put, List.setIfInBounds_toArray, List.set_cons_zero, List.set_cons_succ, i64_w, i32_w]
        rfl
      refine pure_ (i := 2) (N := some 94) (v := ?_) (a' := ?_) #[true, true, true, false, false, false, false, false, false, false, false, false] rfl rfl (by kernel_rfl) (fun _ _ _ h => h) (Or.inl ⟨by rfl, ?_⟩) ?_ ?_
      rotate_left
      · intro w'
        go_simp
        with_reducible rfl
      rotate_left
      · simp only [Act.put, List.setIfInBounds_toArray, List.set_cons_zero, List.set_cons_succ, i64_w, i32_w]
        rfl
      refine pure_ (i := 3) (N := some 95) (v := ?_) (a' := ?_) #[true, true, true, true, false, false, false, false, false, false, false, false] rfl rfl (by kernel_rfl) (fun _ _ _ h => h) (Or.inl ⟨by rfl, ?_⟩) ?_ ?_
      rotate_left
      · intro w'
        go_simp
        with_reducible rfl
      rotate_left
      · simp only [Act.put, List.setIfInBounds_toArray, List.set_cons_zero, List.set_cons_succ, i64_w, i32_w]
        rfl
      refine take_ (i := 4) (N := some 96) (v := ?_) (a' := ?_) #[true, true, true, true, true, false, false, false, false, false, false, false] rfl rfl (by kernel_rfl) (fun _ _ _ h => h) (Or.inl ⟨by rfl, ?_⟩) hHeld ?_ ?_
      rotate_left
      · rintro w' ⟨s0, s1⟩
        go_simp
        with_reducible rfl
      rotate_left
      · simp only [Act.put, List.setIfInBounds_toArray, List.set_cons_zero, List.set_cons_succ, i64_w, i32_w]
        rfl
      refine pure_ (i := 5) (N := some 97) (v := ?_) (a' := ?_) #[true, true, true, true, true, true, false, false, false, false, false, false] rfl rfl (by kernel_rfl) (fun _ _ _ h => h) (Or.inl ⟨by rfl, ?_⟩) ?_ ?_
      rotate_left
      · intro w'
        go_simp
        with_reducible rfl
      rotate_left
      · simp only [Act.put, List.setIfInBounds_toArray, List.set_cons_zero, List.set_cons_succ, i64_w, i32_w]
        rfl
      refine pure_ (i := 6) (N := some 98) (v := ?_) (a' := ?_) #[true, true, true, true, true, true, true, false, false, false, false, false] rfl rfl (by kernel_rfl) (fun _ _ _ h => h) (Or.inl ⟨by rfl, ?_⟩) ?_ ?_
      rotate_left
      · intro w'
        go_simp
        with_reducible rfl
      rotate_left
      · simp only [Act.put, List.setIfInBounds_toArray, List.set_cons_zero, List.set_cons_succ, i64_w, i32_w]
        rfl
      refine pure_ (i := 7) (N := some 99) (v := ?_) (a' := ?_) #[true, true, true, true, true, true, true, true, false, false, false, false] rfl rfl (by kernel_rfl) (fun _ _ _ h => h) (Or.inl ⟨by rfl, ?_⟩) ?_ ?_
      rotate_left
      · intro w'
        go_simp
        with_reducible rfl
      rotate_left
      · simp only [Act.put, List.setIfInBounds_toArray, List.set_cons_zero, List.set_cons_succ, i64_w, i32_w]
        rfl
      refine take_ (i := 8) (N := some 100) (v := ?_) (a' := ?_) #[true, true, true, true, true, true, true, true, true, false, false, false] rfl rfl (by kernel_rfl) (fun _ _ _ h => h) (Or.inl ⟨by rfl, ?_⟩) hHeld ?_ ?_
      rotate_left
      · rintro w' ⟨s0, s1⟩
        go_simp
        with_reducible rfl
      rotate_left
      · simp only [Act.put, List.setIfInBounds_toArray, List.set_cons_zero, List.set_cons_succ, i64_w, i32_w]
        rfl
      refine one_ (i := 9) (N := some 101) #[true, true, true, true, true, true, true, true, true, true, false, false] rfl rfl (by kernel_rfl) (by decide) (fun K hK => ?_)
      refine call_ gf (#[.int .i64 va, .int .i64 vb] ++ vs) (by rfl) rfl (by first | (go_simp; done) | (go_simp; exact eg _ _)) ?_
      refine (HF.out va vb _ HPA.out HPB.out ((Go.Proofs.YtlfbdcobpfainaaSrt.Ok.drew (Go.Proofs.YtlfbdcobpfainaaSrt.Ok.trans HOO.out HO.out)))).mono ?_
      rintro e w5 ⟨rfl, hb5⟩
      have HB5 := Aside0.mk hb5
      have HY5 := Aside0.mk (Go.Proofs.YtlfbdcobpfainaaSrt.row_other (show Go.Proofs.YtlfbdcobpfainaaSrt.Row 3 enc_int g rest xs (wr.drew) from HY.out) hb5)
      clear hb5
      refine ⟨_, rfl, ?_⟩
      refine hK.out _ _ (hcs w5 HY5.out) (fun _ => ?_)
      clear hK K hHeld
      refine norm_ (by simp only [Act.put, List.setIfInBounds_toArray, List.set_cons_zero, List.set_cons_succ]; rfl) ?_
      have HO5 := Aside0.mk (Go.Proofs.YtlfbdcobpfainaaSrt.Ok.below (Go.Proofs.YtlfbdcobpfainaaSrt.Ok.drew HO.out) HB5.out)
      by_cases hcf : cf va vb < 0
      · have d3 : decide (cf va vb < 0) = true := decide_eq_true hcf
        have HCF := Aside0.mk d3
        clear hcf
        refine pure_ (i := 10) (N := some 102) (v := ?_) (a' := ?_) #[true, true, true, true, true, true, true, true, true, true, true, false] rfl rfl (by kernel_rfl) (fun _ _ _ h => h) (Or.inl ⟨by rfl, ?_⟩) ?_ ?_
        rotate_left
        · intro w'
          go_simp
          with_reducible rfl
        rotate_left
        · simp only [Act.put, List.setIfInBounds_toArray, List.set_cons_zero, List.set_cons_succ, i64_w, i32_w]
          rfl
        refine pure_ (i := 11) (N := some 103) (v := ?_) (a' := ?_) #[true, true, true, true, true, true, true, true, true, true, true, true] rfl rfl (by kernel_rfl) (fun _ _ _ h => h) (Or.inl ⟨by rfl, ?_⟩) ?_ ?_
        rotate_left
        · intro w'
          go_simp
          with_reducible rfl
        rotate_left
        · simp only [Act.put, List.setIfInBounds_toArray, List.set_cons_zero, List.set_cons_succ, i64_w, i32_w]
          rfl
        refine done_ (by kernel_rfl) ?_
        go_wp2_with fail
        have hxh := HXH.out
        have hh := HH.out
        have hi := HI.out
        have hj := HJ.out
        obtain ⟨kk, rfl⟩ : ∃ q, kk = q + 1 := ⟨kk - 1, by have := HK.out; omega⟩
        have hrel_ := hh
        refine ⟨⟨i, h, kk, ii, hx, rfl, rfl, HI, ⟨by omega⟩, by omega, hlo, by omega, ⟨?_⟩, ⟨by have := HK.out; omega⟩, HY5, HO5⟩, by simp [intOf]; omega⟩
        rw [HS.out, hh]
        have TQ : decide (cf (Go.Proofs.YtlfbdcobpfainaaSrt.at_ (0 : Int) xs m) (Go.Proofs.YtlfbdcobpfainaaSrt.at_ (0 : Int) xs h) < 0) = true := by rw [← HVA.out, ← HVB.out]; exact HCF.out
        exact Go.Proofs.YtlfbdcobpfainaaSrt.bs_miss (p := (fun h => !(fun x y => decide (cf x y < 0)) (Go.Proofs.YtlfbdcobpfainaaSrt.at_ (0 : Int) xs m) (Go.Proofs.YtlfbdcobpfainaaSrt.at_ (0 : Int) xs h))) hlt (by rw [← hh]; show (!decide (cf (Go.Proofs.YtlfbdcobpfainaaSrt.at_ (0 : Int) xs m) (Go.Proofs.YtlfbdcobpfainaaSrt.at_ (0 : Int) xs h) < 0)) = false; rw [TQ]; rfl)
      · have d3 : decide (cf va vb < 0) = false := decide_eq_false hcf
        have HCF := Aside0.mk d3
        clear hcf
        refine pure_ (i := 10) (N := some 102) (v := ?_) (a' := ?_) #[true, true, true, true, true, true, true, true, true, true, true, false] rfl rfl (by kernel_rfl) (fun _ _ _ h => h) (Or.inl ⟨by rfl, ?_⟩) ?_ ?_
        rotate_left
        · intro w'
          go_simp
          with_reducible rfl
        rotate_left
        · simp only [Act.put, List.setIfInBounds_toArray, List.set_cons_zero, List.set_cons_succ, i64_w, i32_w]
          rfl
        refine pure_ (i := 11) (N := some 103) (v := ?_) (a' := ?_) #[true, true, true, true, true, true, true, true, true, true, true, true] rfl rfl (by kernel_rfl) (fun _ _ _ h => h) (Or.inl ⟨by rfl, ?_⟩) ?_ ?_
        rotate_left
        · intro w'
          go_simp
          with_reducible rfl
        rotate_left
        · simp only [Act.put, List.setIfInBounds_toArray, List.set_cons_zero, List.set_cons_succ, i64_w, i32_w]
          rfl
        refine done_ (by kernel_rfl) ?_
        go_wp2_with fail
        have hxh := HXH.out
        have hh := HH.out
        have hi := HI.out
        have hj := HJ.out
        obtain ⟨kk, rfl⟩ : ∃ q, kk = q + 1 := ⟨kk - 1, by have := HK.out; omega⟩
        have hrel_ := hh
        refine ⟨⟨h + 1, j, kk, hx + 1, ji, rfl, rfl, ⟨by omega⟩, HJ, by omega, by omega, hhi, ⟨?_⟩, ⟨by have := HK.out; omega⟩, HY5, HO5⟩, by simp [intOf]; omega⟩
        rw [HS.out, hh]
        have TQ : decide (cf (Go.Proofs.YtlfbdcobpfainaaSrt.at_ (0 : Int) xs m) (Go.Proofs.YtlfbdcobpfainaaSrt.at_ (0 : Int) xs h) < 0) = false := by rw [← HVA.out, ← HVB.out]; exact HCF.out
        exact Go.Proofs.YtlfbdcobpfainaaSrt.bs_hit (p := (fun h => !(fun x y => decide (cf x y < 0)) (Go.Proofs.YtlfbdcobpfainaaSrt.at_ (0 : Int) xs m) (Go.Proofs.YtlfbdcobpfainaaSrt.at_ (0 : Int) xs h))) hlt (by rw [← hh]; show (!decide (cf (Go.Proofs.YtlfbdcobpfainaaSrt.at_ (0 : Int) xs m) (Go.Proofs.YtlfbdcobpfainaaSrt.at_ (0 : Int) xs h) < 0)) = true; rw [TQ]; rfl)
    · have d1 : decide (ii < ji) = false := decide_eq_false (by omega)
      obtain rfl : i = j := by omega
      have HS1 := Aside0.mk (show Go.Proofs.YtlfbdcobpfainaaSrt.symI2 (fun x y => decide (cf x y < 0)) (0 : Int) a m xs = i from by rw [HS.out]; exact Go.Proofs.YtlfbdcobpfainaaSrt.bs_end)
      obtain ⟨wo, hwo⟩ : ∃ wo : World, wo = wr := ⟨_, rfl⟩
      subst hwo
      clear hi hj hm
      go_wp2_with fail
      go_loopw [17] (fun si wr => ∃ (c : Nat) (ci : Int) (ys : List Int), si = .int .i64 ci ∧ Aside0 (ci = c) ∧ c ≤ m ∧ Aside0 (ys.length = xs.length) ∧ Aside0 (Go.Proofs.YtlfbdcobpfainaaSrt.downM (0 : Int) i m xs = Go.Proofs.YtlfbdcobpfainaaSrt.downM (0 : Int) i c ys) ∧ Aside0 (Go.Proofs.YtlfbdcobpfainaaSrt.Row 3 enc_int g rest ys wr) ∧ Aside0 (Go.Proofs.YtlfbdcobpfainaaSrt.Ok g w wr)) (fun si _ => (intOf si).toNat)
      case atStart => exact ⟨m, mi, xs, rfl, HM, Nat.le_refl _, ⟨rfl⟩, ⟨rfl⟩, HY, HO⟩
      case round =>
        obtain ⟨c, ci, ys, rfl, HC, hc1, HL, HU, HZ, HOZ⟩ := hrel
        have hc := HC.out
        have hl := HL.out
        have hi := HI.out
        by_cases hlt2 : i < c
        · obtain ⟨c, rfl⟩ : ∃ q, c = q + 1 := ⟨c - 1, by omega⟩
          have d2 : decide (ii < ci) = true := decide_eq_true (by omega)
          obtain ⟨cj, hcj⟩ : ∃ cj : Int, cj = ci - 1 := ⟨_, rfl⟩
          have v6 : IntKind.i64.wrap (ci - 1) = cj := by rw [IntKind.wrap_i64]; omega
          have g0 : 0 ≤ ci := by omega
          have g1 : ci < (xs.length : Int) := by omega
          have g2 : 0 ≤ cj := by omega
          have g3 : cj < (xs.length : Int) := by omega
          have gne : ci.toNat ≠ cj.toNat := by omega
          have gne2 : cj.toNat ≠ ci.toNat := by omega
          obtain ⟨va, hva⟩ : ∃ v, v = Go.Proofs.YtlfbdcobpfainaaSrt.at_ (0 : Int) ys (c + 1) := ⟨_, rfl⟩
          obtain ⟨vb, hvb⟩ : ∃ v, v = Go.Proofs.YtlfbdcobpfainaaSrt.at_ (0 : Int) ys c := ⟨_, rfl⟩
          have hcs : ∀ W : World, Go.Proofs.YtlfbdcobpfainaaSrt.Row 3 enc_int g rest ys W → W.cell? ⟨g, ci.toNat, none⟩ = some (.int .i64 va) ∧ W.cell? ⟨g, cj.toNat, none⟩ = some (.int .i64 vb) := fun W hW => by
            have q00 : W.cell? ⟨g, ci.toNat, none⟩ = some (.int .i64 va) := by have hrc := Go.Proofs.YtlfbdcobpfainaaSrt.row_cell enc_int_len hW (0 : Int) (i := (c + 1)) (c := 0) (by omega) (by decide) rfl; rw [← hva] at hrc; simpa [show ci.toNat = c + 1 from by omega] using hrc
            have q10 : W.cell? ⟨g, cj.toNat, none⟩ = some (.int .i64 vb) := by have hrc := Go.Proofs.YtlfbdcobpfainaaSrt.row_cell enc_int_len hW (0 : Int) (i := c) (c := 0) (by omega) (by decide) rfl; rw [← hvb] at hrc; simpa [show cj.toNat = c from by omega] using hrc
            exact ⟨q00, q10⟩
          have HVA := Aside0.mk hva
          have HVB := Aside0.mk hvb
          have HCJ := Aside0.mk hcj
          clear hc hl hi hva hvb hcj
          have fr := fun j => Go.Proofs.YtlfbdcobpfainaaSrt.row_frozen HZ.out j
          obtain ⟨e0, e1⟩ := hcs wr HZ.out
          go_wp2_with fail
          refine start_ (n := 18) (S := fun W => W.cell? ⟨g, ci.toNat, none⟩ = some (.int .i64 va) ∧ W.cell? ⟨g, cj.toNat, none⟩ = some (.int .i64 vb)) (ds := [15, 17]) #[false, false, false, false, false, false, false, false, false, false, false, false, false, false, false, false, false, false] (by kernel_rfl) rfl rfl (hcs _ (show Go.Proofs.YtlfbdcobpfainaaSrt.Row 3 enc_int g rest ys (wr.drew) from HZ.out)) (fun hHeld => ?_)
          refine pure_ (i := 0) (N := some 113) (v := ?_) (a' := ?_) #[true, false, false, false, false, false, false, false, false, false, false, false, false, false, false, false, false, false] rfl rfl (by kernel_rfl) (fun _ _ _ h => h) (Or.inl ⟨by rfl, ?_⟩) ?_ ?_
          rotate_left
          · intro w'
            go_simp
            with_reducible rfl
          rotate_left
          · simp only [Act.put, List.setIfInBounds_toArray, List.set_cons_zero, List.set_cons_succ, i64_w, i32_w]
            rfl
          refine pure_ (i := 1) (N := some 114) (v := ?_) (a' := ?_) #[true, true, false, false, false, false, false, false, false, false, false, false, false, false, false, false, false, false] rfl rfl (by kernel_rfl) (fun _ _ _ h => h) (Or.inl ⟨by rfl, ?_⟩) ?_ ?_
          rotate_left
          · intro w'
            go_simp
            with_reducible rfl
          rotate_left
          · simp only [Act.put, List.setIfInBounds_toArray, List.set_cons_zero, List.set_cons_succ, i64_w, i32_w]
            rfl
          refine pure_ (i := 2) (N := some 115) (v := ?_) (a' := ?_) #[true, true, true, false, false, false, false, false, false, false, false, false, false, false, false, false, false, false] rfl rfl (by kernel_rfl) (fun _ _ _ h => h) (Or.inl ⟨by rfl, ?_⟩) ?_ ?_
          rotate_left
          · intro w'
            go_simp
            with_reducible rfl
          rotate_left
          · simp only [Act.put, List.setIfInBounds_toArray, List.set_cons_zero, List.set_cons_succ, i64_w, i32_w]
            rfl
          refine pure_ (i := 3) (N := some 116) (v := ?_) (a' := ?_) #[true, true, true, true, false, false, false, false, false, false, false, false, false, false, false, false, false, false] rfl rfl (by kernel_rfl) (fun _ _ _ h => h) (Or.inl ⟨by rfl, ?_⟩) ?_ ?_
          rotate_left
          · intro w'
            go_simp
            with_reducible rfl
          rotate_left
          · simp only [Act.put, List.setIfInBounds_toArray, List.set_cons_zero, List.set_cons_succ, i64_w, i32_w]
            rfl
          refine pure_ (i := 4) (N := some 117) (v := ?_) (a' := ?_) #[true, true, true, true, true, false, false, false, false, false, false, false, false, false, false, false, false, false] rfl rfl (by kernel_rfl) (fun _ _ _ h => h) (Or.inl ⟨by rfl, ?_⟩) ?_ ?_
          rotate_left
          · intro w'
            go_simp
            with_reducible rfl
          rotate_left
          · simp only [Act.put, List.setIfInBounds_toArray, List.set_cons_zero, List.set_cons_succ, i64_w, i32_w]
            rfl
          refine pure_ (i := 5) (N := some 118) (v := ?_) (a' := ?_) #[true, true, true, true, true, true, false, false, false, false, false, false, false, false, false, false, false, false] rfl rfl (by kernel_rfl) (fun _ _ _ h => h) (Or.inl ⟨by rfl, ?_⟩) ?_ ?_
          rotate_left
          · intro w'
            go_simp
            with_reducible rfl
          rotate_left
          · simp only [Act.put, List.setIfInBounds_toArray, List.set_cons_zero, List.set_cons_succ, i64_w, i32_w]
            rfl
          refine pure_ (i := 6) (N := some 119) (v := ?_) (a' := ?_) #[true, true, true, true, true, true, true, false, false, false, false, false, false, false, false, false, false, false] rfl rfl (by kernel_rfl) (fun _ _ _ h => h) (Or.inl ⟨by rfl, ?_⟩) ?_ ?_
          rotate_left
          · intro w'
            go_simp
            with_reducible rfl
          rotate_left
          · simp only [Act.put, List.setIfInBounds_toArray, List.set_cons_zero, List.set_cons_succ, i64_w, i32_w]
            rfl
          refine pure_ (i := 7) (N := some 120) (v := ?_) (a' := ?_) #[true, true, true, true, true, true, true, true, false, false, false, false, false, false, false, false, false, false] rfl rfl (by kernel_rfl) (fun _ _ _ h => h) (Or.inl ⟨by rfl, ?_⟩) ?_ ?_
          rotate_left
          · intro w'
            go_simp
            with_reducible rfl
          rotate_left
          · simp only [Act.put, List.setIfInBounds_toArray, List.set_cons_zero, List.set_cons_succ, i64_w, i32_w]
            rfl
          refine pure_ (i := 8) (N := some 121) (v := ?_) (a' := ?_) #[true, true, true, true, true, true, true, true, true, false, false, false, false, false, false, false, false, false] rfl rfl (by kernel_rfl) (fun _ _ _ h => h) (Or.inl ⟨by rfl, ?_⟩) ?_ ?_
          rotate_left
          · intro w'
            go_simp
            with_reducible rfl
          rotate_left
          · simp only [Act.put, List.setIfInBounds_toArray, List.set_cons_zero, List.set_cons_succ, i64_w, i32_w]
            rfl
          refine take_ (i := 9) (N := some 122) (v := ?_) (a' := ?_) #[true, true, true, true, true, true, true, true, true, true, false, false, false, false, false, false, false, false] rfl rfl (by kernel_rfl) (fun _ _ _ h => h) (Or.inl ⟨by rfl, ?_⟩) hHeld ?_ ?_
          rotate_left
          · rintro w' ⟨s0, s1⟩
            go_simp
            with_reducible rfl
          rotate_left
          · simp only [Act.put, List.setIfInBounds_toArray, List.set_cons_zero, List.set_cons_succ, i64_w, i32_w]
            rfl
          refine pure_ (i := 10) (N := some 123) (v := ?_) (a' := ?_) #[true, true, true, true, true, true, true, true, true, true, true, false, false, false, false, false, false, false] rfl rfl (by kernel_rfl) (fun _ _ _ h => h) (Or.inl ⟨by rfl, ?_⟩) ?_ ?_
          rotate_left
          · intro w'
            go_simp
            with_reducible rfl
          rotate_left
          · simp only [Act.put, List.setIfInBounds_toArray, List.set_cons_zero, List.set_cons_succ, i64_w, i32_w]
            rfl
          refine pure_ (i := 11) (N := some 124) (v := ?_) (a' := ?_) #[true, true, true, true, true, true, true, true, true, true, true, true, false, false, false, false, false, false] rfl rfl (by kernel_rfl) (fun _ _ _ h => h) (Or.inl ⟨by rfl, ?_⟩) ?_ ?_
          rotate_left
          · intro w'
            go_simp
            with_reducible rfl
          rotate_left
          · simp only [Act.put, List.setIfInBounds_toArray, List.set_cons_zero, List.set_cons_succ, i64_w, i32_w]
            rfl
          refine pure_ (i := 12) (N := some 125) (v := ?_) (a' := ?_) #[true, true, true, true, true, true, true, true, true, true, true, true, true, false, false, false, false, false] rfl rfl (by kernel_rfl) (fun _ _ _ h => h) (Or.inl ⟨by rfl, ?_⟩) ?_ ?_
          rotate_left
          · intro w'
            go_simp
            with_reducible rfl
          rotate_left
          · simp only [Act.put, List.setIfInBounds_toArray, List.set_cons_zero, List.set_cons_succ, i64_w, i32_w]
            rfl
          refine take_ (i := 13) (N := some 126) (v := ?_) (a' := ?_) #[true, true, true, true, true, true, true, true, true, true, true, true, true, true, false, false, false, false] rfl rfl (by kernel_rfl) (fun _ _ _ h => h) (Or.inl ⟨by rfl, ?_⟩) hHeld ?_ ?_
          rotate_left
          · rintro w' ⟨s0, s1⟩
            go_simp
            with_reducible rfl
          rotate_left
          · simp only [Act.put, List.setIfInBounds_toArray, List.set_cons_zero, List.set_cons_succ, i64_w, i32_w]
            rfl
          refine pure_ (i := 14) (N := some 127) (v := ?_) (a' := ?_) #[true, true, true, true, true, true, true, true, true, true, true, true, true, true, true, false, false, false] rfl rfl (by kernel_rfl) (fun _ _ _ h => h) (Or.inl ⟨by rfl, ?_⟩) ?_ ?_
          rotate_left
          · intro w'
            go_simp
            with_reducible rfl
          rotate_left
          · simp only [Act.put, List.setIfInBounds_toArray, List.set_cons_zero, List.set_cons_succ, i64_w, i32_w]
            rfl
          refine last_ (i := 15) (N := none) #[true, true, true, true, true, true, true, true, true, true, true, true, true, true, true, true, false, false] rfl rfl (by kernel_rfl) (by decide) (fun K hK => ?_)
          refine skip_ (w1 := ?_) (by rfl) rfl ?_ ?_
          rotate_left
          · go_simp
            rfl
          refine hK.out _ _ ?_
          clear hK K
          refine pure_ (i := 16) (N := some 128) (v := ?_) (a' := ?_) #[true, true, true, true, true, true, true, true, true, true, true, true, true, true, true, true, true, false] rfl rfl (by kernel_rfl) (fun _ _ _ h => h) (Or.inl ⟨by rfl, ?_⟩) ?_ ?_
          rotate_left
          · intro w'
            go_simp
            with_reducible rfl
          rotate_left
          · simp only [Act.put, List.setIfInBounds_toArray, List.set_cons_zero, List.set_cons_succ, i64_w, i32_w]
            rfl
          refine last_ (i := 17) (N := none) #[true, true, true, true, true, true, true, true, true, true, true, true, true, true, true, true, true, true] rfl rfl (by kernel_rfl) (by decide) (fun K hK => ?_)
          refine skip_ (w1 := ?_) (by rfl) rfl ?_ ?_
          rotate_left
          · go_simp
            rfl
          refine hK.out _ _ ?_
          clear hK K
          refine done_ (by kernel_rfl) ?_
          go_wp2_with fail
          have hc := HC.out
          have hl := HL.out
          have hcj := HCJ.out
          have hrow : Go.Proofs.YtlfbdcobpfainaaSrt.Row 3 enc_int g rest (Go.Proofs.YtlfbdcobpfainaaSrt.swp (0 : Int) ys (c + 1) (c)) (((wr.drew.setCell ⟨g, ci.toNat, none⟩ (.int .i64 vb)).setCell ⟨g, cj.toNat, none⟩ (.int .i64 va))) := by
            rw [Go.Proofs.YtlfbdcobpfainaaSrt.swp_in (by omega) (by omega), ← HVA.out, ← HVB.out, show ci.toNat = c + 1 by omega, show cj.toNat = c by omega]
            exact Go.Proofs.YtlfbdcobpfainaaSrt.row_set1 enc_int_len (Go.Proofs.YtlfbdcobpfainaaSrt.row_set1 enc_int_len (show Go.Proofs.YtlfbdcobpfainaaSrt.Row 3 enc_int g rest ys (wr.drew) from HZ.out) (by omega) rfl) (by simp; omega) rfl
          have hok : Go.Proofs.YtlfbdcobpfainaaSrt.Ok g w ((wr.drew.setCell ⟨g, ci.toNat, none⟩ (.int .i64 vb)).setCell ⟨g, cj.toNat, none⟩ (.int .i64 va)) := (Go.Proofs.YtlfbdcobpfainaaSrt.Ok.set (Go.Proofs.YtlfbdcobpfainaaSrt.Ok.set (Go.Proofs.YtlfbdcobpfainaaSrt.Ok.drew HOZ.out) _ _) _ _)
          refine ⟨⟨c, cj, Go.Proofs.YtlfbdcobpfainaaSrt.swp (0 : Int) ys (c + 1) c, rfl, ⟨by omega⟩, by omega, ⟨by rw [(Go.Proofs.YtlfbdcobpfainaaSrt.swp_perm _ _ _ _).length_eq, hl]⟩, ⟨by rw [HU.out]; simp only [Go.Proofs.YtlfbdcobpfainaaSrt.downM]; rw [if_pos hlt2]⟩, ⟨hrow⟩, ⟨hok⟩⟩, by simp [intOf]; omega⟩
        · have d2 : decide (ii < ci) = false := decide_eq_false (by omega)
          have HU2 := Aside0.mk (show Go.Proofs.YtlfbdcobpfainaaSrt.downM (0 : Int) i m xs = ys from by rw [HU.out]; cases c with | zero => rfl | succ c => simp only [Go.Proofs.YtlfbdcobpfainaaSrt.downM]; rw [if_neg hlt2])
          clear hc hl hi
          go_wp2_with fail
          refine bodyPost_ret (v := .tuple #[]) (by simp [results, Try.results96, go_sem]) rfl ?_
          exact ⟨rfl, by rw [HS1.out, HU2.out]; exact HZ.out, HOZ.out⟩
set_option maxHeartbeats 1600000 in
set_option maxRecDepth 100000 in
theorem symC0_int (f : Nat) (ih : ∀ (ai mi bi : Int) (a m b : Nat) (g cap : Nat) (rest : List Value) (gf : FuncId) (vs : Array Value) (eg : ∀ (args : Array Value) (W : World), (callFunc gf args).run Try.prog W = .ok (.enter gf args) W) (P : Int → Prop) (cf : Int → Int → Int) (w0 : World) (hf : ∀ (x y : Int) (W : World), P x → P y → Go.Proofs.YtlfbdcobpfainaaSrt.Ok g w0 W → Calls Try.prog gf (#[.int .i64 x, .int .i64 y] ++ vs) W fun e W' => e = .returned (.int .i64 (cf x y)) ∧ Below W.heap.size W W') (xs : List Int) (w : World) (hai : ai = a) (hmi : mi = m) (hbi : bi = b) (hR : Go.Proofs.YtlfbdcobpfainaaSrt.Row 3 enc_int g rest xs w) (hcap : xs.length ≤ cap) (hsm : xs.length ≤ 1000) (h1 : a < m) (h2 : m < b) (h3 : b ≤ xs.length) (hP : ∀ x ∈ xs, P x) (hO : Go.Proofs.YtlfbdcobpfainaaSrt.Ok g w0 w) (hf2 : b - a ≤ f), Calls Try.prog 96 #[.slice (some ⟨g, 0, none⟩) xs.length cap, .int .i64 ai, .int .i64 mi, .int .i64 bi, .func (.func gf) #[] vs] w fun e w' => e = .returned (.tuple #[]) ∧ Go.Proofs.YtlfbdcobpfainaaSrt.Row 3 enc_int g rest (Go.Proofs.YtlfbdcobpfainaaSrt.sym (fun x y => decide (cf x y < 0)) (0 : Int) f a m b xs) (w') ∧ Go.Proofs.YtlfbdcobpfainaaSrt.Ok g w w') (ai mi bi : Int) (a m b : Nat) (g cap : Nat) (rest : List Value) (gf : FuncId) (vs : Array Value) (eg : ∀ (args : Array Value) (W : World), (callFunc gf args).run Try.prog W = .ok (.enter gf args) W) (P : Int → Prop) (cf : Int → Int → Int) (w0 : World) (hf : ∀ (x y : Int) (W : World), P x → P y → Go.Proofs.YtlfbdcobpfainaaSrt.Ok g w0 W → Calls Try.prog gf (#[.int .i64 x, .int .i64 y] ++ vs) W fun e W' => e = .returned (.int .i64 (cf x y)) ∧ Below W.heap.size W W') (xs : List Int) (w : World) (hai : ai = a) (hmi : mi = m) (hbi : bi = b) (hR : Go.Proofs.YtlfbdcobpfainaaSrt.Row 3 enc_int g rest xs w) (hcap : xs.length ≤ cap) (hsm : xs.length ≤ 1000) (h1 : a < m) (h2 : m < b) (h3 : b ≤ xs.length) (hP : ∀ x ∈ xs, P x) (hO : Go.Proofs.YtlfbdcobpfainaaSrt.Ok g w0 w) (hm1 : a + 1 < m) (hm2 : m + 1 < b) (hf2 : b - a ≤ f + 1) (hbig : ¬ (a + b) / 2 < m) :
    Calls Try.prog 96 #[.slice (some ⟨g, 0, none⟩) xs.length cap, .int .i64 ai, .int .i64 mi, .int .i64 bi, .func (.func gf) #[] vs] w fun e w' => e = .returned (.tuple #[]) ∧ Go.Proofs.YtlfbdcobpfainaaSrt.Row 3 enc_int g rest (Go.Proofs.YtlfbdcobpfainaaSrt.symC (fun x y => decide (cf x y < 0)) (0 : Int) f a m b xs) (w') ∧ Go.Proofs.YtlfbdcobpfainaaSrt.Ok g w w' := by
  have HA := Aside0.mk hai
  have HM := Aside0.mk hmi
  have HB := Aside0.mk hbi
  have HR := Aside0.mk hR
  have HF := Aside0.mk hf
  have HP := Aside0.mk hP
  have HOO := Aside0.mk hO
  obtain ⟨dq, hdq⟩ : ∃ dq : Int, dq = mi - ai := ⟨_, rfl⟩
  have e1 : IntKind.i64.wrap (mi - ai) = dq := by rw [IntKind.wrap_i64]; omega
  have e3 : (dq == 1) = false := beq_eq_false_iff_ne.2 (by omega)
  obtain ⟨dr, hdr⟩ : ∃ dr : Int, dr = bi - mi := ⟨_, rfl⟩
  have e2 : IntKind.i64.wrap (bi - mi) = dr := by rw [IntKind.wrap_i64]; omega
  have e4 : (dr == 1) = false := beq_eq_false_iff_ne.2 (by omega)
  obtain ⟨sab, hsab⟩ : ∃ sab : Int, sab = ai + bi := ⟨_, rfl⟩
  have v1 : IntKind.i64.wrap (ai + bi) = sab := by rw [IntKind.wrap_i64]; omega
  have y0 : 0 ≤ sab := by omega
  have y1 : sab ≤ 4000 := by omega
  obtain ⟨midi, hmidi⟩ : ∃ midi : Int, sab / 2 = midi := ⟨_, rfl⟩
  have hmid : midi = (((a + b) / 2 : Nat) : Int) := by omega
  have HMID := Aside0.mk hmid
  obtain ⟨nI, hnI⟩ : ∃ nI : Int, nI = midi + mi := ⟨_, rfl⟩
  have v2 : IntKind.i64.wrap (midi + mi) = nI := by rw [IntKind.wrap_i64]; omega
  have HNI := Aside0.mk (show nI = (((a + b) / 2 + m : Nat) : Int) from by omega)
  obtain ⟨pI, hpI⟩ : ∃ pI : Int, pI = nI - 1 := ⟨_, rfl⟩
  have v3 : IntKind.i64.wrap (nI - 1) = pI := by rw [IntKind.wrap_i64]; omega
  have HPI := Aside0.mk hpI
  have d0 : decide (midi < mi) = false := decide_eq_false (by omega)
  have hab : a < (a + b) / 2 ∧ (a + b) / 2 < b := by omega
  clear hai hmi hbi hR hf hP hO hdq hdr hsab hmid hnI hpI
  go_enter Try.func96, Try.ntmps96
  go_wp2_with fail
  go_loopw [20, 21] (fun si sj wr => ∃ (i j kk : Nat) (ii ji : Int), si = .int .i64 ii ∧ sj = .int .i64 ji ∧ Aside0 (ii = i) ∧ Aside0 (ji = j) ∧ i ≤ j ∧ a ≤ i ∧ j ≤ m ∧ Aside0 (Go.Proofs.YtlfbdcobpfainaaSrt.symS (fun x y => decide (cf x y < 0)) (0 : Int) a m b xs = Go.Proofs.YtlfbdcobpfainaaSrt.bs (fun c => !(fun x y => decide (cf x y < 0)) (Go.Proofs.YtlfbdcobpfainaaSrt.at_ (0 : Int) xs ((a + b) / 2 + m - 1 - c)) (Go.Proofs.YtlfbdcobpfainaaSrt.at_ (0 : Int) xs c)) kk i j) ∧ Aside0 (j - i < kk) ∧ Aside0 (Go.Proofs.YtlfbdcobpfainaaSrt.Row 3 enc_int g rest xs wr) ∧ Aside0 (Go.Proofs.YtlfbdcobpfainaaSrt.Ok g w wr)) (fun si sj _ => (intOf sj).toNat - (intOf si).toNat)
  case atStart => exact ⟨a, m, m - (a) + 1, ai, mi, rfl, rfl, ⟨by have := HA.out; have := HM.out; have := HB.out; have := HMID.out; have := HNI.out; omega⟩, ⟨by have := HA.out; have := HM.out; have := HB.out; have := HMID.out; have := HNI.out; omega⟩, by omega, Nat.le_refl _, Nat.le_refl _, ⟨by unfold Go.Proofs.YtlfbdcobpfainaaSrt.symS; rw [if_neg hbig, if_neg hbig]⟩, ⟨by omega⟩, HR, ⟨Go.Proofs.YtlfbdcobpfainaaSrt.Ok.refl _ _⟩⟩
  case round =>
    obtain ⟨i, j, kk, ii, ji, rfl, rfl, HI, HJ, hij, hlo, hhi, HS, HK, HY, HO⟩ := hrel
    have hi := HI.out
    have hj := HJ.out
    have hpi := HPI.out
    have hni := HNI.out
    have hmid := HMID.out
    have hm := HM.out
    by_cases hlt : i < j
    · as_aux_lemma =>
        have d1 : decide (ii < ji) = true := decide_eq_true (by omega)
        obtain ⟨sij, hsij⟩ : ∃ sij : Int, sij = ii + ji := ⟨_, rfl⟩
        have v1 : IntKind.i64.wrap (ii + ji) = sij := by rw [IntKind.wrap_i64]; omega
        have s0 : 0 ≤ sij := by omega
        have s1 : sij ≤ 4000 := by omega
        obtain ⟨hx, hhx⟩ : ∃ hx : Int, sij / 2 = hx := ⟨_, rfl⟩
        obtain ⟨h, hh⟩ : ∃ h : Nat, h = (i + j) / 2 := ⟨_, rfl⟩
        have hxh : hx = h := by omega
        have hb1 : i ≤ h ∧ h < j := by omega
        have t0 : 0 ≤ hx := by omega
        have t1 : hx < (xs.length : Int) := by omega
        have v2 : IntKind.i64.wrap (hx + 1) = hx + 1 := by rw [IntKind.wrap_i64]; omega
        obtain ⟨pc, hpc⟩ : ∃ pc : Int, pc = pI - hx := ⟨_, rfl⟩
        have v7 : IntKind.i64.wrap (pI - hx) = pc := by rw [IntKind.wrap_i64]; omega
        have u0 : 0 ≤ pc := by omega
        have u1 : pc < (xs.length : Int) := by omega
        obtain ⟨va, hva⟩ : ∃ v, v = Go.Proofs.YtlfbdcobpfainaaSrt.at_ (0 : Int) xs ((a + b) / 2 + m - 1 - h) := ⟨_, rfl⟩
        obtain ⟨vb, hvb⟩ : ∃ v, v = Go.Proofs.YtlfbdcobpfainaaSrt.at_ (0 : Int) xs h := ⟨_, rfl⟩
        have HPA := Aside0.mk (show P va from by rw [hva]; exact HP.out _ (Go.Proofs.YtlfbdcobpfainaaSrt.at_mem (by omega)))
        have HPB := Aside0.mk (show P vb from by rw [hvb]; exact HP.out _ (Go.Proofs.YtlfbdcobpfainaaSrt.at_mem (by omega)))
        have hcs : ∀ W : World, Go.Proofs.YtlfbdcobpfainaaSrt.Row 3 enc_int g rest xs W → W.cell? ⟨g, pc.toNat, none⟩ = some (.int .i64 va) ∧ W.cell? ⟨g, hx.toNat, none⟩ = some (.int .i64 vb) := fun W hW => by
          have q00 : W.cell? ⟨g, pc.toNat, none⟩ = some (.int .i64 va) := by have hrc := Go.Proofs.YtlfbdcobpfainaaSrt.row_cell enc_int_len hW (0 : Int) (i := ((a + b) / 2 + m - 1 - h)) (c := 0) (by omega) (by decide) rfl; rw [← hva] at hrc; simpa [show pc.toNat = (a + b) / 2 + m - 1 - h from by omega] using hrc
          have q10 : W.cell? ⟨g, hx.toNat, none⟩ = some (.int .i64 vb) := by have hrc := Go.Proofs.YtlfbdcobpfainaaSrt.row_cell enc_int_len hW (0 : Int) (i := h) (c := 0) (by omega) (by decide) rfl; rw [← hvb] at hrc; simpa [show hx.toNat = h from by omega] using hrc
          exact ⟨q00, q10⟩
        have HVA := Aside0.mk hva
        have HVB := Aside0.mk hvb
        have HXH := Aside0.mk hxh
        have HH := Aside0.mk hh
        clear hi hj hva hvb hxh hh hsij hpi hni hmid hm hpc
        go_wp2_with fail
        refine start_ (n := 14) (S := fun W => W.cell? ⟨g, pc.toNat, none⟩ = some (.int .i64 va) ∧ W.cell? ⟨g, hx.toNat, none⟩ = some (.int .i64 vb)) (ds := []) #[false, false, false, false, false, false, false, false, false, false, false, false, false, false] (by kernel_rfl) rfl rfl (hcs _ (show Go.Proofs.YtlfbdcobpfainaaSrt.Row 3 enc_int g rest xs (wr.drew) from HY.out)) (fun hHeld => ?_)
        refine pure_ (i := 0) (N := some 158) (v := ?_) (a' := ?_) #[true, false, false, false, false, false, false, false, false, false, false, false, false, false] rfl rfl (by kernel_rfl) (fun _ _ _ h => h) (Or.inl ⟨by rfl, ?_⟩) ?_ ?_
        rotate_left
        · intro w'
          go_simp
          with_reducible rfl
        rotate_left
        · simp only [Act.put, List.setIfInBounds_toArray, List.set_cons_zero, List.set_cons_succ, i64_w, i32_w]
          rfl
        refine pure_ (i := 1) (N := some 159) (v := ?_) (a' := ?_) #[true, true, false, false, false, false, false, false, false, false, false, false, false, false] rfl rfl (by kernel_rfl) (fun _ _ _ h => h) (Or.inl ⟨by rfl, ?_⟩) ?_ ?_
        rotate_left
        · intro w'
          go_simp
          with_reducible rfl
        rotate_left
        · simp only [Act.put, List.setIfInBounds_toArray, List.set_cons_zero, List.set_cons_succ, i64_w, i32_w]
          rfl
        refine pure_ (i := 2) (N := some 160) (v := ?_) (a' := ?_) #[true, true, true, false, false, false, false, false, false, false, false, false, false, false] rfl rfl (by kernel_rfl) (fun _ _ _ h => h) (Or.inl ⟨by rfl, ?_⟩) ?_ ?_
        rotate_left
        · intro w'
          go_simp
          with_reducible rfl
        rotate_left
        · simp only [Act.put, List.setIfInBounds_toArray, List.set_cons_zero, List.set_cons_succ, i64_w, i32_w]
          rfl
        refine pure_ (i := 3) (N := some 161) (v := ?_) (a' := ?_) #[true, true, true, true, false, false, false, false, false, false, false, false, false, false] rfl rfl (by kernel_rfl) (fun _ _ _ h => h) (Or.inl ⟨by rfl, ?_⟩) ?_ ?_
        rotate_left
        · intro w'
          go_simp
          with_reducible rfl
        rotate_left
        · simp only [Act.put, List.setIfInBounds_toArray, List.set_cons_zero, List.set_cons_succ, i64_w, i32_w]
          rfl
        refine pure_ (i := 4) (N := some 162) (v := ?_) (a' := ?_) #[true, true, true, true, true, false, false, false, false, false, false, false, false, false] rfl rfl (by kernel_rfl) (fun _ _ _ h => h) (Or.inl ⟨by rfl, ?_⟩) ?_ ?_
        rotate_left
        · intro w'
          go_simp
          with_reducible rfl
        rotate_left
        · simp only [Act.put, List.setIfInBounds_toArray, List.set_cons_zero, List.set_cons_succ, i64_w, i32_w]
          rfl
        refine pure_ (i := 5) (N := some 163) (v := ?_) (a' := ?_) #[true, true, true, true, true, true, false, false, false, false, false, false, false, false] rfl rfl (by kernel_rfl) (fun _ _ _ h => h) (Or.inl ⟨by rfl, ?_⟩) ?_ ?_
        rotate_left
        · intro w'
          go_simp
          with_reducible rfl
        rotate_left
        · simp only [Act.put, List.setIfInBounds_toArray, List.set_cons_zero, List.set_cons_succ, i64_w, i32_w]
          rfl
        refine take_ (i := 6) (N := some 164) (v := ?_) (a' := ?_) #[true, true, true, true, true, true, true, false, false, false, false, false, false, false] rfl rfl (by kernel_rfl) (fun _ _ _ h => h) (Or.inl ⟨by rfl, ?_⟩) hHeld ?_ ?_
        rotate_left
        · rintro w' ⟨s0, s1⟩
          go_simp
          with_reducible rfl
        rotate_left
        · simp only [Act.put, List.setIfInBounds_toArray, List.set_cons_zero, List.set_cons_succ, i64_w, i32_w]
          rfl
        refine pure_ (i := 7) (N := some 165) (v := ?_) (a' := ?_) #[true, true, true, true, true, true, true, true, false, false, false, false, false, false] rfl rfl (by kernel_rfl) (fun _ _ _ h => h) (Or.inl ⟨by rfl, ?_⟩) ?_ ?_
        rotate_left
        · intro w'
          go_simp
          with_reducible rfl
        rotate_left
        · simp only [Act.put, List.setIfInBounds_toArray, List.set_cons_zero, List.set_cons_succ, i64_w, i32_w]
          rfl
        refine pure_ (i := 8) (N := some 166) (v := ?_) (a' := ?_) #[true, true, true, true, true, true, true, true, true, false, false, false, false, false] rfl rfl (by kernel_rfl) (fun _ _ _ h => h) (Or.inl ⟨by rfl, ?_⟩) ?_ ?_
        rotate_left
        · intro w'
          go_simp
          with_reducible rfl
        rotate_left
        · simp only [Act.put, List.setIfInBounds_toArray, List.set_cons_zero, List.set_cons_succ, i64_w, i32_w]
          rfl
        refine pure_ (i := 9) (N := some 167) (v := ?_) (a' := ?_) #[true, true, true, true, true, true, true, true, true, true, false, false, false, false] rfl rfl (by kernel_rfl) (fun _ _ _ h => h) (Or.inl ⟨by rfl, ?_⟩) ?_ ?_
        rotate_left
        · intro w'
          go_simp
          with_reducible rfl
        rotate_left
        · simp only [Act.put, List.setIfInBounds_toArray, List.set_cons_zero, List.set_cons_succ, i64_w, i32_w]
          rfl
        refine take_ (i := 10) (N := some 168) (v := ?_) (a' := ?_) #[true, true, true, true, true, true, true, true, true, true, true, false, false, false] rfl rfl (by kernel_rfl) (fun _ _ _ h => h) (Or.inl ⟨by rfl, ?_⟩) hHeld ?_ ?_
        rotate_left
        · rintro w' ⟨s0, s1⟩
          go_simp
          with_reducible rfl
        rotate_left
        · simp only [Act.put, List.setIfInBounds_toArray, List.set_cons_zero, List.set_cons_succ, i64_w, i32_w]
          rfl
        refine one_ (i := 11) (N := some 169) #[true, true, true, true, true, true, true, true, true, true, true, true, false, false] rfl rfl (by kernel_rfl) (by decide) (fun K hK => ?_)
        refine call_ gf (#[.int .i64 va, .int .i64 vb] ++ vs) (by rfl) rfl (by first | (go_simp; done) | (go_simp; exact eg _ _)) ?_
        refine (HF.out va vb _ HPA.out HPB.out ((Go.Proofs.YtlfbdcobpfainaaSrt.Ok.drew (Go.Proofs.YtlfbdcobpfainaaSrt.Ok.trans HOO.out HO.out)))).mono ?_
        rintro e w5 ⟨rfl, hb5⟩
        have HB5 := Aside0.mk hb5
        have HY5 := Aside0.mk (Go.Proofs.YtlfbdcobpfainaaSrt.row_other (show Go.Proofs.YtlfbdcobpfainaaSrt.Row 3 enc_int g rest xs (wr.drew) from HY.out) hb5)
        clear hb5
        refine ⟨_, rfl, ?_⟩
        refine hK.out _ _ (hcs w5 HY5.out) (fun _ => ?_)
        clear hK K hHeld
        refine norm_ (by simp only [Act.put, List.setIfInBounds_toArray, List.set_cons_zero, List.set_cons_succ]; rfl) ?_
        have HO5 := Aside0.mk (Go.Proofs.YtlfbdcobpfainaaSrt.Ok.below (Go.Proofs.YtlfbdcobpfainaaSrt.Ok.drew HO.out) HB5.out)
        by_cases hcf : cf va vb < 0
        · have d3 : decide (cf va vb < 0) = true := decide_eq_true hcf
          have HCF := Aside0.mk d3
          clear hcf
          refine pure_ (i := 12) (N := some 170) (v := ?_) (a' := ?_) #[true, true, true, true, true, true, true, true, true, true, true, true, true, false] rfl rfl (by kernel_rfl) (fun _ _ _ h => h) (Or.inl ⟨by rfl, ?_⟩) ?_ ?_
          rotate_left
          · intro w'
            go_simp
            with_reducible rfl
          rotate_left
          · simp only [Act.put, List.setIfInBounds_toArray, List.set_cons_zero, List.set_cons_succ, i64_w, i32_w]
            rfl
          refine pure_ (i := 13) (N := some 171) (v := ?_) (a' := ?_) #[true, true, true, true, true, true, true, true, true, true, true, true, true, true] rfl rfl (by kernel_rfl) (fun _ _ _ h => h) (Or.inl ⟨by rfl, ?_⟩) ?_ ?_
          rotate_left
          · intro w'
            go_simp
            with_reducible rfl
          rotate_left
          · simp only [Act.put, List.setIfInBounds_toArray, List.set_cons_zero, List.set_cons_succ, i64_w, i32_w]
            rfl
          refine done_ (by kernel_rfl) ?_
          go_wp2_with fail
          have hxh := HXH.out
          have hh := HH.out
          have hi := HI.out
          have hj := HJ.out
          obtain ⟨kk, rfl⟩ : ∃ q, kk = q + 1 := ⟨kk - 1, by have := HK.out; omega⟩
          have hrel_ := hh
          refine ⟨⟨i, h, kk, ii, hx, rfl, rfl, HI, ⟨by omega⟩, by omega, hlo, by omega, ⟨?_⟩, ⟨by have := HK.out; omega⟩, HY5, HO5⟩, by simp [intOf]; omega⟩
          rw [HS.out, hh]
          have TQ : decide (cf (Go.Proofs.YtlfbdcobpfainaaSrt.at_ (0 : Int) xs ((a + b) / 2 + m - 1 - h)) (Go.Proofs.YtlfbdcobpfainaaSrt.at_ (0 : Int) xs h) < 0) = true := by rw [← HVA.out, ← HVB.out]; exact HCF.out
          exact Go.Proofs.YtlfbdcobpfainaaSrt.bs_miss (p := (fun c => !(fun x y => decide (cf x y < 0)) (Go.Proofs.YtlfbdcobpfainaaSrt.at_ (0 : Int) xs ((a + b) / 2 + m - 1 - c)) (Go.Proofs.YtlfbdcobpfainaaSrt.at_ (0 : Int) xs c))) hlt (by rw [← hh]; show (!decide (cf (Go.Proofs.YtlfbdcobpfainaaSrt.at_ (0 : Int) xs ((a + b) / 2 + m - 1 - h)) (Go.Proofs.YtlfbdcobpfainaaSrt.at_ (0 : Int) xs h) < 0)) = false; rw [TQ]; rfl)
        · have d3 : decide (cf va vb < 0) = false := decide_eq_false hcf
          have HCF := Aside0.mk d3
          clear hcf
          refine pure_ (i := 12) (N := some 170) (v := ?_) (a' := ?_) #[true, true, true, true, true, true, true, true, true, true, true, true, true, false] rfl rfl (by kernel_rfl) (fun _ _ _ h => h) (Or.inl ⟨by rfl, ?_⟩) ?_ ?_
          rotate_left
          · intro w'
            go_simp
            with_reducible rfl
          rotate_left
          · simp only [Act.put, List.setIfInBounds_toArray, List.set_cons_zero, List.set_cons_succ, i64_w, i32_w]
            rfl
          refine pure_ (i := 13) (N := some 171) (v := ?_) (a' := ?_) #[true, true, true, true, true, true, true, true, true, true, true, true, true, true] rfl rfl (by kernel_rfl) (fun _ _ _ h => h) (Or.inl ⟨by rfl, ?_⟩) ?_ ?_
          rotate_left
          · intro w'
            go_simp
            with_reducible rfl
          rotate_left
          · simp only [Act.put, List.setIfInBounds_toArray, List.set_cons_zero, List.set_cons_succ, i64_w, i32_w]
            rfl
          refine done_ (by kernel_rfl) ?_
          go_wp2_with fail
          have hxh := HXH.out
          have hh := HH.out
          have hi := HI.out
          have hj := HJ.out
          obtain ⟨kk, rfl⟩ : ∃ q, kk = q + 1 := ⟨kk - 1, by have := HK.out; omega⟩
          have hrel_ := hh
          refine ⟨⟨h + 1, j, kk, hx + 1, ji, rfl, rfl, ⟨by omega⟩, HJ, by omega, by omega, hhi, ⟨?_⟩, ⟨by have := HK.out; omega⟩, HY5, HO5⟩, by simp [intOf]; omega⟩
          rw [HS.out, hh]
          have TQ : decide (cf (Go.Proofs.YtlfbdcobpfainaaSrt.at_ (0 : Int) xs ((a + b) / 2 + m - 1 - h)) (Go.Proofs.YtlfbdcobpfainaaSrt.at_ (0 : Int) xs h) < 0) = false := by rw [← HVA.out, ← HVB.out]; exact HCF.out
          exact Go.Proofs.YtlfbdcobpfainaaSrt.bs_hit (p := (fun c => !(fun x y => decide (cf x y < 0)) (Go.Proofs.YtlfbdcobpfainaaSrt.at_ (0 : Int) xs ((a + b) / 2 + m - 1 - c)) (Go.Proofs.YtlfbdcobpfainaaSrt.at_ (0 : Int) xs c))) hlt (by rw [← hh]; show (!decide (cf (Go.Proofs.YtlfbdcobpfainaaSrt.at_ (0 : Int) xs ((a + b) / 2 + m - 1 - h)) (Go.Proofs.YtlfbdcobpfainaaSrt.at_ (0 : Int) xs h) < 0)) = true; rw [TQ]; rfl)
    · have d1 : decide (ii < ji) = false := decide_eq_false (by omega)
      obtain rfl : i = j := by omega
      have HS1 := Aside0.mk (show Go.Proofs.YtlfbdcobpfainaaSrt.symS (fun x y => decide (cf x y < 0)) (0 : Int) a m b xs = i from by rw [HS.out]; exact Go.Proofs.YtlfbdcobpfainaaSrt.bs_end)
      obtain ⟨ei, hei⟩ : ∃ ei : Int, ei = nI - ii := ⟨_, rfl⟩
      have v8 : IntKind.i64.wrap (nI - ii) = ei := by rw [IntKind.wrap_i64]; omega
      obtain ⟨en, hen⟩ : ∃ en : Nat, en = (a + b) / 2 + m - i := ⟨_, rfl⟩
      have HEI := Aside0.mk (show ei = en from by omega)
      have HEN := Aside0.mk hen
      have hes : ei = en := by omega
      have hbd : i ≤ m ∧ m ≤ en ∧ a ≤ i ∧ en ≤ b ∧ i ≤ (a + b) / 2 ∧ (a + b) / 2 ≤ en := by rw [hen]; exact Go.Proofs.YtlfbdcobpfainaaSrt.symB_low h1 h2 hbig hlo hhi
      clear hi hj hpi hni hmid hm hei hes
      go_upto_region 39 with (fail)
      go_cut [185] (fun vq wc => ∃ cv : Bool, vq = .bool cv ∧ Aside0 (cv = decide (i < m ∧ m < en)) ∧ Aside0 (Go.Proofs.YtlfbdcobpfainaaSrt.Row 3 enc_int g rest xs wc) ∧ Aside0 (Go.Proofs.YtlfbdcobpfainaaSrt.Ok g w wc))
      case first => as_aux_lemma =>
        have hii := HI.out
        have hmm := HM.out
        have hee := HEI.out
        by_cases c1 : i < m
        · have d2 : decide (ii < mi) = true := decide_eq_true (by omega)
          by_cases c2 : m < en
          · have d3 : decide (mi < ei) = true := decide_eq_true (by omega)
            clear hii hmm hee
            go_wp2_with fail
            go_meet
            case rel => exact ⟨true, rfl, ⟨(decide_eq_true ⟨c1, c2⟩).symm⟩, HY, HO⟩
          · have d3 : decide (mi < ei) = false := decide_eq_false (by omega)
            clear hii hmm hee
            go_wp2_with fail
            go_meet
            case rel => exact ⟨false, rfl, ⟨(decide_eq_false (fun h => c2 h.2)).symm⟩, HY, HO⟩
        · have d2 : decide (ii < mi) = false := decide_eq_false (by omega)
          clear hii hmm hee
          go_wp2_with fail
          go_meet
          case rel => exact ⟨false, rfl, ⟨(decide_eq_false (fun h => c1 h.1)).symm⟩, HY, HO⟩
      case rest =>
        obtain ⟨cv, rfl, HCV, HY1, HO1⟩ := hcut
        have HSR := Aside0.mk (show Go.Proofs.YtlfbdcobpfainaaSrt.symR (0 : Int) a m b i xs = if i < m ∧ m < en then Go.Proofs.YtlfbdcobpfainaaSrt.rotM (0 : Int) m (en - i) (m - i) (en - m) xs else xs from by rw [HEN.out]; rfl)
        go_upto_if 185 with (fail)
        go_cut [18] (fun v18 wc => v18 = .int .i64 midi ∧ Aside0 (Go.Proofs.YtlfbdcobpfainaaSrt.Row 3 enc_int g rest (Go.Proofs.YtlfbdcobpfainaaSrt.symR (0 : Int) a m b i xs) wc) ∧ Aside0 (Go.Proofs.YtlfbdcobpfainaaSrt.Ok g w wc))
        case first => as_aux_lemma =>
          cases cv with
          | true =>
            have hc12 : i < m ∧ m < en := of_decide_eq_true HCV.out.symm
            have c1 := hc12.1
            have c2 := hc12.2
            clear hc12
            go_wp2_with fail
            refine (rotate_int _ _ _ i m en g cap rest _ xs _ HI.out HM.out HEI.out HY1.out hcap hsm c1 c2 (by omega)).mono ?_
            rintro e w6 ⟨rfl, hr6, ho6⟩
            have HR6 := Aside0.mk (show Go.Proofs.YtlfbdcobpfainaaSrt.Row 3 enc_int g rest (Go.Proofs.YtlfbdcobpfainaaSrt.symR (0 : Int) a m b i xs) w6 from by rw [HSR.out, if_pos ⟨c1, c2⟩]; exact hr6)
            have HO6 := Aside0.mk (Go.Proofs.YtlfbdcobpfainaaSrt.Ok.trans HO1.out ho6)
            clear hr6 ho6
            go_wp2_with fail
            go_meet
            case rel => exact ⟨rfl, HR6, HO6⟩
          | false =>
            go_wp2_with fail
            go_meet
            case rel => exact ⟨rfl, ⟨by rw [HSR.out, if_neg (of_decide_eq_false HCV.out.symm)]; exact HY1.out⟩, HO1⟩
        case rest =>
          obtain ⟨rfl, HZ, HOZ⟩ := hcut
          obtain ⟨ys, hys⟩ : ∃ ys, ys = Go.Proofs.YtlfbdcobpfainaaSrt.symR (0 : Int) a m b i xs := ⟨_, rfl⟩
          have hly : ys.length = xs.length := by rw [hys]; exact (Go.Proofs.YtlfbdcobpfainaaSrt.symR_perm _ _ _ _ _).length_eq
          have HLY := Aside0.mk hly
          have HPY := Aside0.mk (show ∀ x ∈ ys, P x from fun x hx => HP.out x ((Go.Proofs.YtlfbdcobpfainaaSrt.symR_perm _ _ _ _ _).mem_iff.1 (by rw [hys] at hx; exact hx)))
          rw [← hys] at HZ
          have HYS := Aside0.mk hys
          clear hys hly
          go_upto_region 41 with (fail)
          go_cut [199] (fun vq wc => ∃ cv : Bool, vq = .bool cv ∧ Aside0 (cv = decide (a < i ∧ i < (a + b) / 2)) ∧ Aside0 (Go.Proofs.YtlfbdcobpfainaaSrt.Row 3 enc_int g rest ys wc) ∧ Aside0 (Go.Proofs.YtlfbdcobpfainaaSrt.Ok g w wc))
          case first => as_aux_lemma =>
            have hii := HI.out
            have haa := HA.out
            have hmi := HMID.out
            by_cases c1 : a < i
            · have d2 : decide (ai < ii) = true := decide_eq_true (by omega)
              by_cases c2 : i < (a + b) / 2
              · have d3 : decide (ii < midi) = true := decide_eq_true (by omega)
                clear hii haa hmi
                go_wp2_with fail
                go_meet
                case rel => exact ⟨true, rfl, ⟨(decide_eq_true ⟨c1, c2⟩).symm⟩, HZ, HOZ⟩
              · have d3 : decide (ii < midi) = false := decide_eq_false (by omega)
                clear hii haa hmi
                go_wp2_with fail
                go_meet
                case rel => exact ⟨false, rfl, ⟨(decide_eq_false (fun h => c2 h.2)).symm⟩, HZ, HOZ⟩
            · have d2 : decide (ai < ii) = false := decide_eq_false (by omega)
              clear hii haa hmi
              go_wp2_with fail
              go_meet
              case rel => exact ⟨false, rfl, ⟨(decide_eq_false (fun h => c1 h.1)).symm⟩, HZ, HOZ⟩
          case rest =>
            obtain ⟨cv2, rfl, HCV2, HZ1, HOZ1⟩ := hcut
            go_upto_if 199 with (fail)
            go_cut [18] (fun v18 wc => v18 = .int .i64 midi ∧ Aside0 (Go.Proofs.YtlfbdcobpfainaaSrt.Row 3 enc_int g rest ((if a < i ∧ i < (a + b) / 2 then Go.Proofs.YtlfbdcobpfainaaSrt.sym (fun x y => decide (cf x y < 0)) (0 : Int) f a i ((a + b) / 2) ys else ys)) wc) ∧ Aside0 (Go.Proofs.YtlfbdcobpfainaaSrt.Ok g w wc))
            case first => as_aux_lemma =>
              cases cv2 with
              | true =>
                have hc12 : a < i ∧ i < (a + b) / 2 := of_decide_eq_true HCV2.out.symm
                have c1 := hc12.1
                have c2 := hc12.2
                clear hc12
                go_wp2_with fail
                rw [← HLY.out]
                refine (ih _ _ _ a i ((a + b) / 2) g cap rest gf vs eg P cf w0 HF.out ys _ HA.out HI.out HMID.out HZ1.out (by have := HLY.out; omega) (by have := HLY.out; omega) (by omega) (by omega) (by have := HLY.out; omega) HPY.out (Go.Proofs.YtlfbdcobpfainaaSrt.Ok.trans HOO.out HOZ1.out) (by omega)).mono ?_
                rintro e w6 ⟨rfl, hr6, ho6⟩
                have HR6 := Aside0.mk (show Go.Proofs.YtlfbdcobpfainaaSrt.Row 3 enc_int g rest ((if a < i ∧ i < (a + b) / 2 then Go.Proofs.YtlfbdcobpfainaaSrt.sym (fun x y => decide (cf x y < 0)) (0 : Int) f a i ((a + b) / 2) ys else ys)) w6 from by rw [if_pos ⟨c1, c2⟩]; exact hr6)
                have HO6 := Aside0.mk (Go.Proofs.YtlfbdcobpfainaaSrt.Ok.trans HOZ1.out ho6)
                clear hr6 ho6
                rw [HLY.out]
                go_wp2_with fail
                go_meet
                case rel => exact ⟨rfl, HR6, HO6⟩
              | false =>
                go_wp2_with fail
                go_meet
                case rel => exact ⟨rfl, ⟨by rw [if_neg (of_decide_eq_false HCV2.out.symm)]; exact HZ1.out⟩, HOZ1⟩
            case rest =>
              obtain ⟨rfl, HZ2, HOZ2⟩ := hcut
              obtain ⟨zs, hzs⟩ : ∃ zs, zs = (if a < i ∧ i < (a + b) / 2 then Go.Proofs.YtlfbdcobpfainaaSrt.sym (fun x y => decide (cf x y < 0)) (0 : Int) f a i ((a + b) / 2) ys else ys) := ⟨_, rfl⟩
              have hpz : zs.Perm ys := by rw [hzs]; split; exact Go.Proofs.YtlfbdcobpfainaaSrt.sym_perm _ _ _ _ _; exact List.Perm.refl _
              have HLZ := Aside0.mk (show zs.length = xs.length from by rw [hpz.length_eq, HLY.out])
              have HPZ := Aside0.mk (show ∀ x ∈ zs, P x from fun x hx => HPY.out x (hpz.mem_iff.1 hx))
              rw [← hzs] at HZ2
              have HFIN := Aside0.mk (show Go.Proofs.YtlfbdcobpfainaaSrt.symC (fun x y => decide (cf x y < 0)) (0 : Int) f a m b xs = if (a + b) / 2 < en ∧ en < b then Go.Proofs.YtlfbdcobpfainaaSrt.sym (fun x y => decide (cf x y < 0)) (0 : Int) f ((a + b) / 2) en b zs else zs from by rw [HEN.out, hzs, HYS.out]; unfold Go.Proofs.YtlfbdcobpfainaaSrt.symC; rw [HS1.out])
              clear hzs hpz
              go_upto_region 43 with (fail)
              go_cut [213] (fun vq wc => ∃ cv : Bool, vq = .bool cv ∧ Aside0 (cv = decide ((a + b) / 2 < en ∧ en < b)) ∧ Aside0 (Go.Proofs.YtlfbdcobpfainaaSrt.Row 3 enc_int g rest zs wc) ∧ Aside0 (Go.Proofs.YtlfbdcobpfainaaSrt.Ok g w wc))
              case first => as_aux_lemma =>
                have hee := HEI.out
                have hbb := HB.out
                have hmi := HMID.out
                by_cases c1 : (a + b) / 2 < en
                · have d2 : decide (midi < ei) = true := decide_eq_true (by omega)
                  by_cases c2 : en < b
                  · have d3 : decide (ei < bi) = true := decide_eq_true (by omega)
                    clear hee hbb hmi
                    go_wp2_with fail
                    go_meet
                    case rel => exact ⟨true, rfl, ⟨(decide_eq_true ⟨c1, c2⟩).symm⟩, HZ2, HOZ2⟩
                  · have d3 : decide (ei < bi) = false := decide_eq_false (by omega)
                    clear hee hbb hmi
                    go_wp2_with fail
                    go_meet
                    case rel => exact ⟨false, rfl, ⟨(decide_eq_false (fun h => c2 h.2)).symm⟩, HZ2, HOZ2⟩
                · have d2 : decide (midi < ei) = false := decide_eq_false (by omega)
                  clear hee hbb hmi
                  go_wp2_with fail
                  go_meet
                  case rel => exact ⟨false, rfl, ⟨(decide_eq_false (fun h => c1 h.1)).symm⟩, HZ2, HOZ2⟩
              case rest =>
                obtain ⟨cv3, rfl, HCV3, HZ3, HOZ3⟩ := hcut
                cases cv3 with
                | true =>
                  have hc12 : (a + b) / 2 < en ∧ en < b := of_decide_eq_true HCV3.out.symm
                  have c1 := hc12.1
                  have c2 := hc12.2
                  clear hc12
                  go_wp2_with fail
                  rw [← HLZ.out]
                  refine (ih _ _ _ ((a + b) / 2) en b g cap rest gf vs eg P cf w0 HF.out zs _ HMID.out HEI.out HB.out HZ3.out (by have := HLZ.out; omega) (by have := HLZ.out; omega) (by omega) (by omega) (by have := HLZ.out; omega) HPZ.out (Go.Proofs.YtlfbdcobpfainaaSrt.Ok.trans HOO.out HOZ3.out) (by omega)).mono ?_
                  rintro e w6 ⟨rfl, hr6, ho6⟩
                  have HR6 := Aside0.mk hr6
                  have HO6 := Aside0.mk (Go.Proofs.YtlfbdcobpfainaaSrt.Ok.trans HOZ3.out ho6)
                  clear hr6 ho6
                  rw [HLZ.out]
                  go_wp2_with fail
                  go_end0
                  exact ⟨rfl, by rw [HFIN.out, if_pos ⟨c1, c2⟩]; exact HR6.out, HO6.out⟩
                | false =>
                  go_wp2_with fail
                  go_end0
                  exact ⟨rfl, by rw [HFIN.out, if_neg (of_decide_eq_false HCV3.out.symm)]; exact HZ3.out, HOZ3.out⟩
set_option maxHeartbeats 1600000 in
set_option maxRecDepth 100000 in
theorem symC1_int (f : Nat) (ih : ∀ (ai mi bi : Int) (a m b : Nat) (g cap : Nat) (rest : List Value) (gf : FuncId) (vs : Array Value) (eg : ∀ (args : Array Value) (W : World), (callFunc gf args).run Try.prog W = .ok (.enter gf args) W) (P : Int → Prop) (cf : Int → Int → Int) (w0 : World) (hf : ∀ (x y : Int) (W : World), P x → P y → Go.Proofs.YtlfbdcobpfainaaSrt.Ok g w0 W → Calls Try.prog gf (#[.int .i64 x, .int .i64 y] ++ vs) W fun e W' => e = .returned (.int .i64 (cf x y)) ∧ Below W.heap.size W W') (xs : List Int) (w : World) (hai : ai = a) (hmi : mi = m) (hbi : bi = b) (hR : Go.Proofs.YtlfbdcobpfainaaSrt.Row 3 enc_int g rest xs w) (hcap : xs.length ≤ cap) (hsm : xs.length ≤ 1000) (h1 : a < m) (h2 : m < b) (h3 : b ≤ xs.length) (hP : ∀ x ∈ xs, P x) (hO : Go.Proofs.YtlfbdcobpfainaaSrt.Ok g w0 w) (hf2 : b - a ≤ f), Calls Try.prog 96 #[.slice (some ⟨g, 0, none⟩) xs.length cap, .int .i64 ai, .int .i64 mi, .int .i64 bi, .func (.func gf) #[] vs] w fun e w' => e = .returned (.tuple #[]) ∧ Go.Proofs.YtlfbdcobpfainaaSrt.Row 3 enc_int g rest (Go.Proofs.YtlfbdcobpfainaaSrt.sym (fun x y => decide (cf x y < 0)) (0 : Int) f a m b xs) (w') ∧ Go.Proofs.YtlfbdcobpfainaaSrt.Ok g w w') (ai mi bi : Int) (a m b : Nat) (g cap : Nat) (rest : List Value) (gf : FuncId) (vs : Array Value) (eg : ∀ (args : Array Value) (W : World), (callFunc gf args).run Try.prog W = .ok (.enter gf args) W) (P : Int → Prop) (cf : Int → Int → Int) (w0 : World) (hf : ∀ (x y : Int) (W : World), P x → P y → Go.Proofs.YtlfbdcobpfainaaSrt.Ok g w0 W → Calls Try.prog gf (#[.int .i64 x, .int .i64 y] ++ vs) W fun e W' => e = .returned (.int .i64 (cf x y)) ∧ Below W.heap.size W W') (xs : List Int) (w : World) (hai : ai = a) (hmi : mi = m) (hbi : bi = b) (hR : Go.Proofs.YtlfbdcobpfainaaSrt.Row 3 enc_int g rest xs w) (hcap : xs.length ≤ cap) (hsm : xs.length ≤ 1000) (h1 : a < m) (h2 : m < b) (h3 : b ≤ xs.length) (hP : ∀ x ∈ xs, P x) (hO : Go.Proofs.YtlfbdcobpfainaaSrt.Ok g w0 w) (hm1 : a + 1 < m) (hm2 : m + 1 < b) (hf2 : b - a ≤ f + 1) (hbig : (a + b) / 2 < m) :
    Calls Try.prog 96 #[.slice (some ⟨g, 0, none⟩) xs.length cap, .int .i64 ai, .int .i64 mi, .int .i64 bi, .func (.func gf) #[] vs] w fun e w' => e = .returned (.tuple #[]) ∧ Go.Proofs.YtlfbdcobpfainaaSrt.Row 3 enc_int g rest (Go.Proofs.YtlfbdcobpfainaaSrt.symC (fun x y => decide (cf x y < 0)) (0 : Int) f a m b xs) (w') ∧ Go.Proofs.YtlfbdcobpfainaaSrt.Ok g w w' := by
  have HA := Aside0.mk hai
  have HM := Aside0.mk hmi
  have HB := Aside0.mk hbi
  have HR := Aside0.mk hR
  have HF := Aside0.mk hf
  have HP := Aside0.mk hP
  have HOO := Aside0.mk hO
  obtain ⟨dq, hdq⟩ : ∃ dq : Int, dq = mi - ai := ⟨_, rfl⟩
  have e1 : IntKind.i64.wrap (mi - ai) = dq := by rw [IntKind.wrap_i64]; omega
  have e3 : (dq == 1) = false := beq_eq_false_iff_ne.2 (by omega)
  obtain ⟨dr, hdr⟩ : ∃ dr : Int, dr = bi - mi := ⟨_, rfl⟩
  have e2 : IntKind.i64.wrap (bi - mi) = dr := by rw [IntKind.wrap_i64]; omega
  have e4 : (dr == 1) = false := beq_eq_false_iff_ne.2 (by omega)
  obtain ⟨sab, hsab⟩ : ∃ sab : Int, sab = ai + bi := ⟨_, rfl⟩
  have v1 : IntKind.i64.wrap (ai + bi) = sab := by rw [IntKind.wrap_i64]; omega
  have y0 : 0 ≤ sab := by omega
  have y1 : sab ≤ 4000 := by omega
  obtain ⟨midi, hmidi⟩ : ∃ midi : Int, sab / 2 = midi := ⟨_, rfl⟩
  have hmid : midi = (((a + b) / 2 : Nat) : Int) := by omega
  have HMID := Aside0.mk hmid
  obtain ⟨nI, hnI⟩ : ∃ nI : Int, nI = midi + mi := ⟨_, rfl⟩
  have v2 : IntKind.i64.wrap (midi + mi) = nI := by rw [IntKind.wrap_i64]; omega
  have HNI := Aside0.mk (show nI = (((a + b) / 2 + m : Nat) : Int) from by omega)
  obtain ⟨pI, hpI⟩ : ∃ pI : Int, pI = nI - 1 := ⟨_, rfl⟩
  have v3 : IntKind.i64.wrap (nI - 1) = pI := by rw [IntKind.wrap_i64]; omega
  have HPI := Aside0.mk hpI
  obtain ⟨s0i, hs0i⟩ : ∃ s0i : Int, s0i = nI - bi := ⟨_, rfl⟩
  have v4 : IntKind.i64.wrap (nI - bi) = s0i := by rw [IntKind.wrap_i64]; omega
  have HS0 := Aside0.mk hs0i
  have d0 : decide (midi < mi) = true := decide_eq_true (by omega)
  have hab : a < (a + b) / 2 ∧ (a + b) / 2 < b := by omega
  clear hai hmi hbi hR hf hP hO hdq hdr hsab hmid hnI hpI hs0i
  go_enter Try.func96, Try.ntmps96
  go_wp2_with fail
  go_loopw [20, 21] (fun si sj wr => ∃ (i j kk : Nat) (ii ji : Int), si = .int .i64 ii ∧ sj = .int .i64 ji ∧ Aside0 (ii = i) ∧ Aside0 (ji = j) ∧ i ≤ j ∧ (a + b) / 2 + m - b ≤ i ∧ j ≤ (a + b) / 2 ∧ Aside0 (Go.Proofs.YtlfbdcobpfainaaSrt.symS (fun x y => decide (cf x y < 0)) (0 : Int) a m b xs = Go.Proofs.YtlfbdcobpfainaaSrt.bs (fun c => !(fun x y => decide (cf x y < 0)) (Go.Proofs.YtlfbdcobpfainaaSrt.at_ (0 : Int) xs ((a + b) / 2 + m - 1 - c)) (Go.Proofs.YtlfbdcobpfainaaSrt.at_ (0 : Int) xs c)) kk i j) ∧ Aside0 (j - i < kk) ∧ Aside0 (Go.Proofs.YtlfbdcobpfainaaSrt.Row 3 enc_int g rest xs wr) ∧ Aside0 (Go.Proofs.YtlfbdcobpfainaaSrt.Ok g w wr)) (fun si sj _ => (intOf sj).toNat - (intOf si).toNat)
  case atStart => exact ⟨(a + b) / 2 + m - b, (a + b) / 2, (a + b) / 2 - ((a + b) / 2 + m - b) + 1, s0i, midi, rfl, rfl, ⟨by have := HA.out; have := HM.out; have := HB.out; have := HMID.out; have := HNI.out; have := HS0.out; omega⟩, ⟨by have := HA.out; have := HM.out; have := HB.out; have := HMID.out; have := HNI.out; omega⟩, by omega, Nat.le_refl _, Nat.le_refl _, ⟨by unfold Go.Proofs.YtlfbdcobpfainaaSrt.symS; rw [if_pos hbig, if_pos hbig]⟩, ⟨by omega⟩, HR, ⟨Go.Proofs.YtlfbdcobpfainaaSrt.Ok.refl _ _⟩⟩
  case round =>
    obtain ⟨i, j, kk, ii, ji, rfl, rfl, HI, HJ, hij, hlo, hhi, HS, HK, HY, HO⟩ := hrel
    have hi := HI.out
    have hj := HJ.out
    have hpi := HPI.out
    have hni := HNI.out
    have hmid := HMID.out
    have hm := HM.out
    by_cases hlt : i < j
    · as_aux_lemma =>
        have d1 : decide (ii < ji) = true := decide_eq_true (by omega)
        obtain ⟨sij, hsij⟩ : ∃ sij : Int, sij = ii + ji := ⟨_, rfl⟩
        have v1 : IntKind.i64.wrap (ii + ji) = sij := by rw [IntKind.wrap_i64]; omega
        have s0 : 0 ≤ sij := by omega
        have s1 : sij ≤ 4000 := by omega
        obtain ⟨hx, hhx⟩ : ∃ hx : Int, sij / 2 = hx := ⟨_, rfl⟩
        obtain ⟨h, hh⟩ : ∃ h : Nat, h = (i + j) / 2 := ⟨_, rfl⟩
        have hxh : hx = h := by omega
        have hb1 : i ≤ h ∧ h < j := by omega
        have t0 : 0 ≤ hx := by omega
        have t1 : hx < (xs.length : Int) := by omega
        have v2 : IntKind.i64.wrap (hx + 1) = hx + 1 := by rw [IntKind.wrap_i64]; omega
        obtain ⟨pc, hpc⟩ : ∃ pc : Int, pc = pI - hx := ⟨_, rfl⟩
        have v7 : IntKind.i64.wrap (pI - hx) = pc := by rw [IntKind.wrap_i64]; omega
        have u0 : 0 ≤ pc := by omega
        have u1 : pc < (xs.length : Int) := by omega
        obtain ⟨va, hva⟩ : ∃ v, v = Go.Proofs.YtlfbdcobpfainaaSrt.at_ (0 : Int) xs ((a + b) / 2 + m - 1 - h) := ⟨_, rfl⟩
        obtain ⟨vb, hvb⟩ : ∃ v, v = Go.Proofs.YtlfbdcobpfainaaSrt.at_ (0 : Int) xs h := ⟨_, rfl⟩
        have HPA := Aside0.mk (show P va from by rw [hva]; exact HP.out _ (Go.Proofs.YtlfbdcobpfainaaSrt.at_mem (by omega)))
        have HPB := Aside0.mk (show P vb from by rw [hvb]; exact HP.out _ (Go.Proofs.YtlfbdcobpfainaaSrt.at_mem (by omega)))
        have hcs : ∀ W : World, Go.Proofs.YtlfbdcobpfainaaSrt.Row 3 enc_int g rest xs W → W.cell? ⟨g, pc.toNat, none⟩ = some (.int .i64 va) ∧ W.cell? ⟨g, hx.toNat, none⟩ = some (.int .i64 vb) := fun W hW => by
          have q00 : W.cell? ⟨g, pc.toNat, none⟩ = some (.int .i64 va) := by have hrc := Go.Proofs.YtlfbdcobpfainaaSrt.row_cell enc_int_len hW (0 : Int) (i := ((a + b) / 2 + m - 1 - h)) (c := 0) (by omega) (by decide) rfl; rw [← hva] at hrc; simpa [show pc.toNat = (a + b) / 2 + m - 1 - h from by omega] using hrc
          have q10 : W.cell? ⟨g, hx.toNat, none⟩ = some (.int .i64 vb) := by have hrc := Go.Proofs.YtlfbdcobpfainaaSrt.row_cell enc_int_len hW (0 : Int) (i := h) (c := 0) (by omega) (by decide) rfl; rw [← hvb] at hrc; simpa [show hx.toNat = h from by omega] using hrc
          exact ⟨q00, q10⟩
        have HVA := Aside0.mk hva
        have HVB := Aside0.mk hvb
        have HXH := Aside0.mk hxh
        have HH := Aside0.mk hh
        clear hi hj hva hvb hxh hh hsij hpi hni hmid hm hpc
        go_wp2_with fail
        refine start_ (n := 14) (S := fun W => W.cell? ⟨g, pc.toNat, none⟩ = some (.int .i64 va) ∧ W.cell? ⟨g, hx.toNat, none⟩ = some (.int .i64 vb)) (ds := []) #[false, false, false, false, false, false, false, false, false, false, false, false, false, false] (by kernel_rfl) rfl rfl (hcs _ (show Go.Proofs.YtlfbdcobpfainaaSrt.Row 3 enc_int g rest xs (wr.drew) from HY.out)) (fun hHeld => ?_)
        refine pure_ (i := 0) (N := some 158) (v := ?_) (a' := ?_) #[true, false, false, false, false, false, false, false, false, false, false, false, false, false] rfl rfl (by kernel_rfl) (fun _ _ _ h => h) (Or.inl ⟨by rfl, ?_⟩) ?_ ?_
        rotate_left
        · intro w'
          go_simp
          with_reducible rfl
        rotate_left
        · simp only [Act.put, List.setIfInBounds_toArray, List.set_cons_zero, List.set_cons_succ, i64_w, i32_w]
          rfl
        refine pure_ (i := 1) (N := some 159) (v := ?_) (a' := ?_) #[true, true, false, false, false, false, false, false, false, false, false, false, false, false] rfl rfl (by kernel_rfl) (fun _ _ _ h => h) (Or.inl ⟨by rfl, ?_⟩) ?_ ?_
        rotate_left
        · intro w'
          go_simp
          with_reducible rfl
        rotate_left
        · simp only [Act.put, List.setIfInBounds_toArray, List.set_cons_zero, List.set_cons_succ, i64_w, i32_w]
          rfl
        refine pure_ (i := 2) (N := some 160) (v := ?_) (a' := ?_) #[true, true, true, false, false, false, false, false, false, false, false, false, false, false] rfl rfl (by kernel_rfl) (fun _ _ _ h => h) (Or.inl ⟨by rfl, ?_⟩) ?_ ?_
        rotate_left
        · intro w'
          go_simp
          with_reducible rfl
        rotate_left
        · simp only [Act.put, List.setIfInBounds_toArray, List.set_cons_zero, List.set_cons_succ, i64_w, i32_w]
          rfl
        refine pure_ (i := 3) (N := some 161) (v := ?_) (a' := ?_) #[true, true, true, true, false, false, false, false, false, false, false, false, false, false] rfl rfl (by kernel_rfl) (fun _ _ _ h => h) (Or.inl ⟨by rfl, ?_⟩) ?_ ?_
        rotate_left
        · intro w'
          go_simp
          with_reducible rfl
        rotate_left
        · simp only [Act.put, List.setIfInBounds_toArray, List.set_cons_zero, List.set_cons_succ, i64_w, i32_w]
          rfl
        refine pure_ (i := 4) (N := some 162) (v := ?_) (a' := ?_) #[true, true, true, true, true, false, false, false, false, false, false, false, false, false] rfl rfl (by kernel_rfl) (fun _ _ _ h => h) (Or.inl ⟨by rfl, ?_⟩) ?_ ?_
        rotate_left
        · intro w'
          go_simp
          with_reducible rfl
        rotate_left
        · simp only [Act.put, List.setIfInBounds_toArray, List.set_cons_zero, List.set_cons_succ, i64_w, i32_w]
          rfl
        refine pure_ (i := 5) (N := some 163) (v := ?_) (a' := ?_) #[true, true, true, true, true, true, false, false, false, false, false, false, false, false] rfl rfl (by kernel_rfl) (fun _ _ _ h => h) (Or.inl ⟨by rfl, ?_⟩) ?_ ?_
        rotate_left
        · intro w'
          go_simp
          with_reducible rfl
        rotate_left
        · simp only [Act.put, List.setIfInBounds_toArray, List.set_cons_zero, List.set_cons_succ, i64_w, i32_w]
          rfl
        refine take_ (i := 6) (N := some 164) (v := ?_) (a' := ?_) #[true, true, true, true, true, true, true, false, false, false, false, false, false, false] rfl rfl (by kernel_rfl) (fun _ _ _ h => h) (Or.inl ⟨by rfl, ?_⟩) hHeld ?_ ?_
        rotate_left
        · rintro w' ⟨s0, s1⟩
          go_simp
          with_reducible rfl
        rotate_left
        · simp only [Act.put, List.setIfInBounds_toArray, List.set_cons_zero, List.set_cons_succ, i64_w, i32_w]
          rfl
        refine pure_ (i := 7) (N := some 165) (v := ?_) (a' := ?_) #[true, true, true, true, true, true, true, true, false, false, false, false, false, false] rfl rfl (by kernel_rfl) (fun _ _ _ h => h) (Or.inl ⟨by rfl, ?_⟩) ?_ ?_
        rotate_left
        · intro w'
          go_simp
          with_reducible rfl
        rotate_left
        · simp only [Act.put, List.setIfInBounds_toArray, List.set_cons_zero, List.set_cons_succ, i64_w, i32_w]
          rfl
        refine pure_ (i := 8) (N := some 166) (v := ?_) (a' := ?_) #[true, true, true, true, true, true, true, true, true, false, false, false, false, false] rfl rfl (by kernel_rfl) (fun _ _ _ h => h) (Or.inl ⟨by rfl, ?_⟩) ?_ ?_
        rotate_left
        · intro w'
          go_simp
          with_reducible rfl
        rotate_left
        · simp only [Act.put, List.setIfInBounds_toArray, List.set_cons_zero, List.set_cons_succ, i64_w, i32_w]
          rfl
        refine pure_ (i := 9) (N := some 167) (v := ?_) (a' := ?_) #[true, true, true, true, true, true, true, true, true, true, false, false, false, false] rfl rfl (by kernel_rfl) (fun _ _ _ h => h) (Or.inl ⟨by rfl, ?_⟩) ?_ ?_
        rotate_left
        · intro w'
          go_simp
          with_reducible rfl
        rotate_left
        · simp only [Act.put, List.setIfInBounds_toArray, List.set_cons_zero, List.set_cons_succ, i64_w, i32_w]
          rfl
        refine take_ (i := 10) (N := some 168) (v := ?_) (a' := ?_) #[true, true, true, true, true, true, true, true, true, true, true, false, false, false] rfl rfl (by kernel_rfl) (fun _ _ _ h => h) (Or.inl ⟨by rfl, ?_⟩) hHeld ?_ ?_
        rotate_left
        · rintro w' ⟨s0, s1⟩
          go_simp
          with_reducible rfl
        rotate_left
        · simp only [Act.put, List.setIfInBounds_toArray, List.set_cons_zero, List.set_cons_succ, i64_w, i32_w]
          rfl
        refine one_ (i := 11) (N := some 169) #[true, true, true, true, true, true, true, true, true, true, true, true, false, false] rfl rfl (by kernel_rfl) (by decide) (fun K hK => ?_)
        refine call_ gf (#[.int .i64 va, .int .i64 vb] ++ vs) (by rfl) rfl (by first | (go_simp; done) | (go_simp; exact eg _ _)) ?_
        refine (HF.out va vb _ HPA.out HPB.out ((Go.Proofs.YtlfbdcobpfainaaSrt.Ok.drew (Go.Proofs.YtlfbdcobpfainaaSrt.Ok.trans HOO.out HO.out)))).mono ?_
        rintro e w5 ⟨rfl, hb5⟩
        have HB5 := Aside0.mk hb5
        have HY5 := Aside0.mk (Go.Proofs.YtlfbdcobpfainaaSrt.row_other (show Go.Proofs.YtlfbdcobpfainaaSrt.Row 3 enc_int g rest xs (wr.drew) from HY.out) hb5)
        clear hb5
        refine ⟨_, rfl, ?_⟩
        refine hK.out _ _ (hcs w5 HY5.out) (fun _ => ?_)
        clear hK K hHeld
        refine norm_ (by simp only [Act.put, List.setIfInBounds_toArray, List.set_cons_zero, List.set_cons_succ]; rfl) ?_
        have HO5 := Aside0.mk (Go.Proofs.YtlfbdcobpfainaaSrt.Ok.below (Go.Proofs.YtlfbdcobpfainaaSrt.Ok.drew HO.out) HB5.out)
        by_cases hcf : cf va vb < 0
        · have d3 : decide (cf va vb < 0) = true := decide_eq_true hcf
          have HCF := Aside0.mk d3
          clear hcf
          refine pure_ (i := 12) (N := some 170) (v := ?_) (a' := ?_) #[true, true, true, true, true, true, true, true, true, true, true, true, true, false] rfl rfl (by kernel_rfl) (fun _ _ _ h => h) (Or.inl ⟨by rfl, ?_⟩) ?_ ?_
          rotate_left
          · intro w'
            go_simp
            with_reducible rfl
          rotate_left
          · simp only [Act.put, List.setIfInBounds_toArray, List.set_cons_zero, List.set_cons_succ, i64_w, i32_w]
            rfl
          refine pure_ (i := 13) (N := some 171) (v := ?_) (a' := ?_) #[true, true, true, true, true, true, true, true, true, true, true, true, true, true] rfl rfl (by kernel_rfl) (fun _ _ _ h => h) (Or.inl ⟨by rfl, ?_⟩) ?_ ?_
          rotate_left
          · intro w'
            go_simp
            with_reducible rfl
          rotate_left
          · simp only [Act.put, List.setIfInBounds_toArray, List.set_cons_zero, List.set_cons_succ, i64_w, i32_w]
            rfl
          refine done_ (by kernel_rfl) ?_
          go_wp2_with fail
          have hxh := HXH.out
          have hh := HH.out
          have hi := HI.out
          have hj := HJ.out
          obtain ⟨kk, rfl⟩ : ∃ q, kk = q + 1 := ⟨kk - 1, by have := HK.out; omega⟩
          have hrel_ := hh
          refine ⟨⟨i, h, kk, ii, hx, rfl, rfl, HI, ⟨by omega⟩, by omega, hlo, by omega, ⟨?_⟩, ⟨by have := HK.out; omega⟩, HY5, HO5⟩, by simp [intOf]; omega⟩
          rw [HS.out, hh]
          have TQ : decide (cf (Go.Proofs.YtlfbdcobpfainaaSrt.at_ (0 : Int) xs ((a + b) / 2 + m - 1 - h)) (Go.Proofs.YtlfbdcobpfainaaSrt.at_ (0 : Int) xs h) < 0) = true := by rw [← HVA.out, ← HVB.out]; exact HCF.out
          exact Go.Proofs.YtlfbdcobpfainaaSrt.bs_miss (p := (fun c => !(fun x y => decide (cf x y < 0)) (Go.Proofs.YtlfbdcobpfainaaSrt.at_ (0 : Int) xs ((a + b) / 2 + m - 1 - c)) (Go.Proofs.YtlfbdcobpfainaaSrt.at_ (0 : Int) xs c))) hlt (by rw [← hh]; show (!decide (cf (Go.Proofs.YtlfbdcobpfainaaSrt.at_ (0 : Int) xs ((a + b) / 2 + m - 1 - h)) (Go.Proofs.YtlfbdcobpfainaaSrt.at_ (0 : Int) xs h) < 0)) = false; rw [TQ]; rfl)
        · have d3 : decide (cf va vb < 0) = false := decide_eq_false hcf
          have HCF := Aside0.mk d3
          clear hcf
          refine pure_ (i := 12) (N := some 170) (v := ?_) (a' := ?_) #[true, true, true, true, true, true, true, true, true, true, true, true, true, false] rfl rfl (by kernel_rfl) (fun _ _ _ h => h) (Or.inl ⟨by rfl, ?_⟩) ?_ ?_
          rotate_left
          · intro w'
            go_simp
            with_reducible rfl
          rotate_left
          · simp only [Act.put, List.setIfInBounds_toArray, List.set_cons_zero, List.set_cons_succ, i64_w, i32_w]
            rfl
          refine pure_ (i := 13) (N := some 171) (v := ?_) (a' := ?_) #[true, true, true, true, true, true, true, true, true, true, true, true, true, true] rfl rfl (by kernel_rfl) (fun _ _ _ h => h) (Or.inl ⟨by rfl, ?_⟩) ?_ ?_
          rotate_left
          · intro w'
            go_simp
            with_reducible rfl
          rotate_left
          · simp only [Act.put, List.setIfInBounds_toArray, List.set_cons_zero, List.set_cons_succ, i64_w, i32_w]
            rfl
          refine done_ (by kernel_rfl) ?_
          go_wp2_with fail
          have hxh := HXH.out
          have hh := HH.out
          have hi := HI.out
          have hj := HJ.out
          obtain ⟨kk, rfl⟩ : ∃ q, kk = q + 1 := ⟨kk - 1, by have := HK.out; omega⟩
          have hrel_ := hh
          refine ⟨⟨h + 1, j, kk, hx + 1, ji, rfl, rfl, ⟨by omega⟩, HJ, by omega, by omega, hhi, ⟨?_⟩, ⟨by have := HK.out; omega⟩, HY5, HO5⟩, by simp [intOf]; omega⟩
          rw [HS.out, hh]
          have TQ : decide (cf (Go.Proofs.YtlfbdcobpfainaaSrt.at_ (0 : Int) xs ((a + b) / 2 + m - 1 - h)) (Go.Proofs.YtlfbdcobpfainaaSrt.at_ (0 : Int) xs h) < 0) = false := by rw [← HVA.out, ← HVB.out]; exact HCF.out
          exact Go.Proofs.YtlfbdcobpfainaaSrt.bs_hit (p := (fun c => !(fun x y => decide (cf x y < 0)) (Go.Proofs.YtlfbdcobpfainaaSrt.at_ (0 : Int) xs ((a + b) / 2 + m - 1 - c)) (Go.Proofs.YtlfbdcobpfainaaSrt.at_ (0 : Int) xs c))) hlt (by rw [← hh]; show (!decide (cf (Go.Proofs.YtlfbdcobpfainaaSrt.at_ (0 : Int) xs ((a + b) / 2 + m - 1 - h)) (Go.Proofs.YtlfbdcobpfainaaSrt.at_ (0 : Int) xs h) < 0)) = true; rw [TQ]; rfl)
    · have d1 : decide (ii < ji) = false := decide_eq_false (by omega)
      obtain rfl : i = j := by omega
      have HS1 := Aside0.mk (show Go.Proofs.YtlfbdcobpfainaaSrt.symS (fun x y => decide (cf x y < 0)) (0 : Int) a m b xs = i from by rw [HS.out]; exact Go.Proofs.YtlfbdcobpfainaaSrt.bs_end)
      obtain ⟨ei, hei⟩ : ∃ ei : Int, ei = nI - ii := ⟨_, rfl⟩
      have v8 : IntKind.i64.wrap (nI - ii) = ei := by rw [IntKind.wrap_i64]; omega
      obtain ⟨en, hen⟩ : ∃ en : Nat, en = (a + b) / 2 + m - i := ⟨_, rfl⟩
      have HEI := Aside0.mk (show ei = en from by omega)
      have HEN := Aside0.mk hen
      have hes : ei = en := by omega
      have hbd : i ≤ m ∧ m ≤ en ∧ a ≤ i ∧ en ≤ b ∧ i ≤ (a + b) / 2 ∧ (a + b) / 2 ≤ en := by rw [hen]; exact Go.Proofs.YtlfbdcobpfainaaSrt.symB_big h1 h2 hbig hlo hhi
      clear hi hj hpi hni hmid hm hei hes
      go_upto_region 39 with (fail)
      go_cut [185] (fun vq wc => ∃ cv : Bool, vq = .bool cv ∧ Aside0 (cv = decide (i < m ∧ m < en)) ∧ Aside0 (Go.Proofs.YtlfbdcobpfainaaSrt.Row 3 enc_int g rest xs wc) ∧ Aside0 (Go.Proofs.YtlfbdcobpfainaaSrt.Ok g w wc))
      case first => as_aux_lemma =>
        have hii := HI.out
        have hmm := HM.out
        have hee := HEI.out
        by_cases c1 : i < m
        · have d2 : decide (ii < mi) = true := decide_eq_true (by omega)
          by_cases c2 : m < en
          · have d3 : decide (mi < ei) = true := decide_eq_true (by omega)
            clear hii hmm hee
            go_wp2_with fail
            go_meet
            case rel => exact ⟨true, rfl, ⟨(decide_eq_true ⟨c1, c2⟩).symm⟩, HY, HO⟩
          · have d3 : decide (mi < ei) = false := decide_eq_false (by omega)
            clear hii hmm hee
            go_wp2_with fail
            go_meet
            case rel => exact ⟨false, rfl, ⟨(decide_eq_false (fun h => c2 h.2)).symm⟩, HY, HO⟩
        · have d2 : decide (ii < mi) = false := decide_eq_false (by omega)
          clear hii hmm hee
          go_wp2_with fail
          go_meet
          case rel => exact ⟨false, rfl, ⟨(decide_eq_false (fun h => c1 h.1)).symm⟩, HY, HO⟩
      case rest =>
        obtain ⟨cv, rfl, HCV, HY1, HO1⟩ := hcut
        have HSR := Aside0.mk (show Go.Proofs.YtlfbdcobpfainaaSrt.symR (0 : Int) a m b i xs = if i < m ∧ m < en then Go.Proofs.YtlfbdcobpfainaaSrt.rotM (0 : Int) m (en - i) (m - i) (en - m) xs else xs from by rw [HEN.out]; rfl)
        go_upto_if 185 with (fail)
        go_cut [18] (fun v18 wc => v18 = .int .i64 midi ∧ Aside0 (Go.Proofs.YtlfbdcobpfainaaSrt.Row 3 enc_int g rest (Go.Proofs.YtlfbdcobpfainaaSrt.symR (0 : Int) a m b i xs) wc) ∧ Aside0 (Go.Proofs.YtlfbdcobpfainaaSrt.Ok g w wc))
        case first => as_aux_lemma =>
          cases cv with
          | true =>
            have hc12 : i < m ∧ m < en := of_decide_eq_true HCV.out.symm
            have c1 := hc12.1
            have c2 := hc12.2
            clear hc12
            go_wp2_with fail
            refine (rotate_int _ _ _ i m en g cap rest _ xs _ HI.out HM.out HEI.out HY1.out hcap hsm c1 c2 (by omega)).mono ?_
            rintro e w6 ⟨rfl, hr6, ho6⟩
            have HR6 := Aside0.mk (show Go.Proofs.YtlfbdcobpfainaaSrt.Row 3 enc_int g rest (Go.Proofs.YtlfbdcobpfainaaSrt.symR (0 : Int) a m b i xs) w6 from by rw [HSR.out, if_pos ⟨c1, c2⟩]; exact hr6)
            have HO6 := Aside0.mk (Go.Proofs.YtlfbdcobpfainaaSrt.Ok.trans HO1.out ho6)
            clear hr6 ho6
            go_wp2_with fail
            go_meet
            case rel => exact ⟨rfl, HR6, HO6⟩
          | false =>
            go_wp2_with fail
            go_meet
            case rel => exact ⟨rfl, ⟨by rw [HSR.out, if_neg (of_decide_eq_false HCV.out.symm)]; exact HY1.out⟩, HO1⟩
        case rest =>
          obtain ⟨rfl, HZ, HOZ⟩ := hcut
          obtain ⟨ys, hys⟩ : ∃ ys, ys = Go.Proofs.YtlfbdcobpfainaaSrt.symR (0 : Int) a m b i xs := ⟨_, rfl⟩
          have hly : ys.length = xs.length := by rw [hys]; exact (Go.Proofs.YtlfbdcobpfainaaSrt.symR_perm _ _ _ _ _).length_eq
          have HLY := Aside0.mk hly
          have HPY := Aside0.mk (show ∀ x ∈ ys, P x from fun x hx => HP.out x ((Go.Proofs.YtlfbdcobpfainaaSrt.symR_perm _ _ _ _ _).mem_iff.1 (by rw [hys] at hx; exact hx)))
          rw [← hys] at HZ
          have HYS := Aside0.mk hys
          clear hys hly
          go_upto_region 41 with (fail)
          go_cut [199] (fun vq wc => ∃ cv : Bool, vq = .bool cv ∧ Aside0 (cv = decide (a < i ∧ i < (a + b) / 2)) ∧ Aside0 (Go.Proofs.YtlfbdcobpfainaaSrt.Row 3 enc_int g rest ys wc) ∧ Aside0 (Go.Proofs.YtlfbdcobpfainaaSrt.Ok g w wc))
          case first => as_aux_lemma =>
            have hii := HI.out
            have haa := HA.out
            have hmi := HMID.out
            by_cases c1 : a < i
            · have d2 : decide (ai < ii) = true := decide_eq_true (by omega)
              by_cases c2 : i < (a + b) / 2
              · have d3 : decide (ii < midi) = true := decide_eq_true (by omega)
                clear hii haa hmi
                go_wp2_with fail
                go_meet
                case rel => exact ⟨true, rfl, ⟨(decide_eq_true ⟨c1, c2⟩).symm⟩, HZ, HOZ⟩
              · have d3 : decide (ii < midi) = false := decide_eq_false (by omega)
                clear hii haa hmi
                go_wp2_with fail
                go_meet
                case rel => exact ⟨false, rfl, ⟨(decide_eq_false (fun h => c2 h.2)).symm⟩, HZ, HOZ⟩
            · have d2 : decide (ai < ii) = false := decide_eq_false (by omega)
              clear hii haa hmi
              go_wp2_with fail
              go_meet
              case rel => exact ⟨false, rfl, ⟨(decide_eq_false (fun h => c1 h.1)).symm⟩, HZ, HOZ⟩
          case rest =>
            obtain ⟨cv2, rfl, HCV2, HZ1, HOZ1⟩ := hcut
            go_upto_if 199 with (fail)
            go_cut [18] (fun v18 wc => v18 = .int .i64 midi ∧ Aside0 (Go.Proofs.YtlfbdcobpfainaaSrt.Row 3 enc_int g rest ((if a < i ∧ i < (a + b) / 2 then Go.Proofs.YtlfbdcobpfainaaSrt.sym (fun x y => decide (cf x y < 0)) (0 : Int) f a i ((a + b) / 2) ys else ys)) wc) ∧ Aside0 (Go.Proofs.YtlfbdcobpfainaaSrt.Ok g w wc))
            case first => as_aux_lemma =>
              cases cv2 with
              | true =>
                have hc12 : a < i ∧ i < (a + b) / 2 := of_decide_eq_true HCV2.out.symm
                have c1 := hc12.1
                have c2 := hc12.2
                clear hc12
                go_wp2_with fail
                rw [← HLY.out]
                refine (ih _ _ _ a i ((a + b) / 2) g cap rest gf vs eg P cf w0 HF.out ys _ HA.out HI.out HMID.out HZ1.out (by have := HLY.out; omega) (by have := HLY.out; omega) (by omega) (by omega) (by have := HLY.out; omega) HPY.out (Go.Proofs.YtlfbdcobpfainaaSrt.Ok.trans HOO.out HOZ1.out) (by omega)).mono ?_
                rintro e w6 ⟨rfl, hr6, ho6⟩
                have HR6 := Aside0.mk (show Go.Proofs.YtlfbdcobpfainaaSrt.Row 3 enc_int g rest ((if a < i ∧ i < (a + b) / 2 then Go.Proofs.YtlfbdcobpfainaaSrt.sym (fun x y => decide (cf x y < 0)) (0 : Int) f a i ((a + b) / 2) ys else ys)) w6 from by rw [if_pos ⟨c1, c2⟩]; exact hr6)
                have HO6 := Aside0.mk (Go.Proofs.YtlfbdcobpfainaaSrt.Ok.trans HOZ1.out ho6)
                clear hr6 ho6
                rw [HLY.out]
                go_wp2_with fail
                go_meet
                case rel => exact ⟨rfl, HR6, HO6⟩
              | false =>
                go_wp2_with fail
                go_meet
                case rel => exact ⟨rfl, ⟨by rw [if_neg (of_decide_eq_false HCV2.out.symm)]; exact HZ1.out⟩, HOZ1⟩
            case rest =>
              obtain ⟨rfl, HZ2, HOZ2⟩ := hcut
              obtain ⟨zs, hzs⟩ : ∃ zs, zs = (if a < i ∧ i < (a + b) / 2 then Go.Proofs.YtlfbdcobpfainaaSrt.sym (fun x y => decide (cf x y < 0)) (0 : Int) f a i ((a + b) / 2) ys else ys) := ⟨_, rfl⟩
              have hpz : zs.Perm ys := by rw [hzs]; split; exact Go.Proofs.YtlfbdcobpfainaaSrt.sym_perm _ _ _ _ _; exact List.Perm.refl _
              have HLZ := Aside0.mk (show zs.length = xs.length from by rw [hpz.length_eq, HLY.out])
              have HPZ := Aside0.mk (show ∀ x ∈ zs, P x from fun x hx => HPY.out x (hpz.mem_iff.1 hx))
              rw [← hzs] at HZ2
              have HFIN := Aside0.mk (show Go.Proofs.YtlfbdcobpfainaaSrt.symC (fun x y => decide (cf x y < 0)) (0 : Int) f a m b xs = if (a + b) / 2 < en ∧ en < b then Go.Proofs.YtlfbdcobpfainaaSrt.sym (fun x y => decide (cf x y < 0)) (0 : Int) f ((a + b) / 2) en b zs else zs from by rw [HEN.out, hzs, HYS.out]; unfold Go.Proofs.YtlfbdcobpfainaaSrt.symC; rw [HS1.out])
              clear hzs hpz
              go_upto_region 43 with (fail)
              go_cut [213] (fun vq wc => ∃ cv : Bool, vq = .bool cv ∧ Aside0 (cv = decide ((a + b) / 2 < en ∧ en < b)) ∧ Aside0 (Go.Proofs.YtlfbdcobpfainaaSrt.Row 3 enc_int g rest zs wc) ∧ Aside0 (Go.Proofs.YtlfbdcobpfainaaSrt.Ok g w wc))
              case first => as_aux_lemma =>
                have hee := HEI.out
                have hbb := HB.out
                have hmi := HMID.out
                by_cases c1 : (a + b) / 2 < en
                · have d2 : decide (midi < ei) = true := decide_eq_true (by omega)
                  by_cases c2 : en < b
                  · have d3 : decide (ei < bi) = true := decide_eq_true (by omega)
                    clear hee hbb hmi
                    go_wp2_with fail
                    go_meet
                    case rel => exact ⟨true, rfl, ⟨(decide_eq_true ⟨c1, c2⟩).symm⟩, HZ2, HOZ2⟩
                  · have d3 : decide (ei < bi) = false := decide_eq_false (by omega)
                    clear hee hbb hmi
                    go_wp2_with fail
                    go_meet
                    case rel => exact ⟨false, rfl, ⟨(decide_eq_false (fun h => c2 h.2)).symm⟩, HZ2, HOZ2⟩
                · have d2 : decide (midi < ei) = false := decide_eq_false (by omega)
                  clear hee hbb hmi
                  go_wp2_with fail
                  go_meet
                  case rel => exact ⟨false, rfl, ⟨(decide_eq_false (fun h => c1 h.1)).symm⟩, HZ2, HOZ2⟩
              case rest =>
                obtain ⟨cv3, rfl, HCV3, HZ3, HOZ3⟩ := hcut
                cases cv3 with
                | true =>
                  have hc12 : (a + b) / 2 < en ∧ en < b := of_decide_eq_true HCV3.out.symm
                  have c1 := hc12.1
                  have c2 := hc12.2
                  clear hc12
                  go_wp2_with fail
                  rw [← HLZ.out]
                  refine (ih _ _ _ ((a + b) / 2) en b g cap rest gf vs eg P cf w0 HF.out zs _ HMID.out HEI.out HB.out HZ3.out (by have := HLZ.out; omega) (by have := HLZ.out; omega) (by omega) (by omega) (by have := HLZ.out; omega) HPZ.out (Go.Proofs.YtlfbdcobpfainaaSrt.Ok.trans HOO.out HOZ3.out) (by omega)).mono ?_
                  rintro e w6 ⟨rfl, hr6, ho6⟩
                  have HR6 := Aside0.mk hr6
                  have HO6 := Aside0.mk (Go.Proofs.YtlfbdcobpfainaaSrt.Ok.trans HOZ3.out ho6)
                  clear hr6 ho6
                  rw [HLZ.out]
                  go_wp2_with fail
                  go_end0
                  exact ⟨rfl, by rw [HFIN.out, if_pos ⟨c1, c2⟩]; exact HR6.out, HO6.out⟩
                | false =>
                  go_wp2_with fail
                  go_end0
                  exact ⟨rfl, by rw [HFIN.out, if_neg (of_decide_eq_false HCV3.out.symm)]; exact HZ3.out, HOZ3.out⟩
end Go.Proofs.Ytlfbdcobpfainaa.S
