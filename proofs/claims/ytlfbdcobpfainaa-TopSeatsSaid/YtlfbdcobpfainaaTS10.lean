/- Part of the proof, with what it needs of the printed words alone. -/
import Derived.Test.YtlfbdcobpfainaaTS0
namespace Go.Proofs.Ytlfbdcobpfainaa.S
open Go.RowKit Go.Proofs.YtlfbdcobpfainaaW.PrintWords Go.Proofs.YtlfbdcobpfainaaW.PrintLast Go.Proofs.YtlfbdcobpfainaaW.PrintMore
attribute [local go_sem] max2_int min2_int max_two min_two max_three min_three max_four min_four
set_option linter.unusedVariables false
set_option linter.unusedSimpArgs false
def enc_int (x : Int) : List Value := [.int .i64 x]
theorem enc_int_len (x : Int) : (enc_int x).length = 1 := rfl
set_option maxHeartbeats 1600000 in
set_option maxRecDepth 100000 in
theorem swapRange_int (ai bi ni : Int) (a b n : Nat) (g cap : Nat) (rest : List Value) (fv : Value) (xs : List Int) (w : World) (hai : ai = a) (hbi : bi = b) (hni : ni = n) (hR : Go.Proofs.YtlfbdcobpfainaaSrt.Row 3 enc_int g rest xs w) (hcap : xs.length ≤ cap) (hsm : xs.length ≤ 1000) (h1 : a + n ≤ b) (h2 : b + n ≤ xs.length) :
    Calls Try.prog 102 #[.slice (some ⟨g, 0, none⟩) xs.length cap, .int .i64 ai, .int .i64 bi, .int .i64 ni, fv] w fun e w' => e = .returned (.tuple #[]) ∧ Go.Proofs.YtlfbdcobpfainaaSrt.Row 3 enc_int g rest (Go.Proofs.YtlfbdcobpfainaaSrt.swR (0 : Int) a b n 0 xs) (w') ∧ Go.Proofs.YtlfbdcobpfainaaSrt.Ok g w w' := by
  have hu := Try.underlying3
  have HA := Aside0.mk hai
  have HB := Aside0.mk hbi
  have HN := Aside0.mk hni
  have HR := Aside0.mk hR
  clear hai hbi hni hR
  go_enter Try.func102, Try.ntmps102
  go_wp2_with fail
  go_loopw [10] (fun si wr => ∃ (i : Nat) (ki : Int) (ys : List Int), si = .int .i64 ki ∧ Aside0 (ki = i) ∧ i ≤ n ∧ Aside0 (ys.length = xs.length) ∧ Aside0 (Go.Proofs.YtlfbdcobpfainaaSrt.swR (0 : Int) a b n 0 xs = Go.Proofs.YtlfbdcobpfainaaSrt.swR (0 : Int) a b (n - i) i ys) ∧ Aside0 (Go.Proofs.YtlfbdcobpfainaaSrt.Row 3 enc_int g rest ys wr) ∧ Aside0 (Go.Proofs.YtlfbdcobpfainaaSrt.Ok g w wr)) (fun si _ => n - (intOf si).toNat)
  case atStart => exact ⟨0, 0, xs, rfl, ⟨rfl⟩, Nat.zero_le _, ⟨rfl⟩, ⟨rfl⟩, HR, ⟨Go.Proofs.YtlfbdcobpfainaaSrt.Ok.refl _ _⟩⟩
  case round =>
    obtain ⟨i, ki, ys, rfl, HK, hin, HL, HS, HY, HO⟩ := hrel
    have hk := HK.out
    have ha := HA.out
    have hb := HB.out
    have hn := HN.out
    have hl := HL.out
    by_cases hlt : i < n
    · have d1 : decide (ki < ni) = true := decide_eq_true (by omega)
      have w1 : IntKind.i64.wrap (ki + 1) = ki + 1 := by rw [IntKind.wrap_i64]; omega
      have w2 : IntKind.i64.wrap (ai + ki) = ai + ki := by rw [IntKind.wrap_i64]; omega
      have w3 : IntKind.i64.wrap (bi + ki) = bi + ki := by rw [IntKind.wrap_i64]; omega
      have g0 : 0 ≤ ai + ki := by omega
      have g1 : ai + ki < (xs.length : Int) := by omega
      have g2 : 0 ≤ bi + ki := by omega
      have g3 : bi + ki < (xs.length : Int) := by omega
      have gne : (ai + ki).toNat ≠ (bi + ki).toNat := by omega
      obtain ⟨va, hva⟩ : ∃ v, v = Go.Proofs.YtlfbdcobpfainaaSrt.at_ (0 : Int) ys (a + i) := ⟨_, rfl⟩
      have ca0 : wr.cell? ⟨g, (ai + ki).toNat, none⟩ = some (.int .i64 va) := by have h := Go.Proofs.YtlfbdcobpfainaaSrt.row_cell enc_int_len HY.out (0 : Int) (i := (a + i)) (c := 0) (by omega) (by decide) rfl; rw [← hva] at h; simpa [show (ai + ki).toNat = a + i from by omega] using h
      obtain ⟨vb, hvb⟩ : ∃ v, v = Go.Proofs.YtlfbdcobpfainaaSrt.at_ (0 : Int) ys (b + i) := ⟨_, rfl⟩
      have cb0 : wr.cell? ⟨g, (bi + ki).toNat, none⟩ = some (.int .i64 vb) := by have h := Go.Proofs.YtlfbdcobpfainaaSrt.row_cell enc_int_len HY.out (0 : Int) (i := (b + i)) (c := 0) (by omega) (by decide) rfl; rw [← hvb] at h; simpa [show (bi + ki).toNat = b + i from by omega] using h
      have fr := fun j => Go.Proofs.YtlfbdcobpfainaaSrt.row_frozen HY.out j
      have HVA := Aside0.mk hva
      have HVB := Aside0.mk hvb
      clear hk ha hb hn hl hva hvb
      go_wp2_with fail
      refine start_ (n := 24) (S := fun W => W.cell? ⟨g, (ai + ki).toNat, none⟩ = some (.int .i64 va) ∧ W.cell? ⟨g, (bi + ki).toNat, none⟩ = some (.int .i64 vb)) (ds := [21, 23]) #[false, false, false, false, false, false, false, false, false, false, false, false, false, false, false, false, false, false, false, false, false, false, false, false] (by kernel_rfl) rfl rfl ⟨ca0, cb0⟩ (fun hHeld => ?_)
      refine pure_ (i := 0) (N := some 16) (v := ?_) (a' := ?_) #[true, false, false, false, false, false, false, false, false, false, false, false, false, false, false, false, false, false, false, false, false, false, false, false] rfl rfl (by kernel_rfl) (fun _ _ _ h => h) (Or.inl ⟨by rfl, ?_⟩) ?_ ?_
      rotate_left
      · intro w'
        go_simp
        with_reducible rfl
      rotate_left
      · simp only [Act.put, List.setIfInBounds_toArray, List.set_cons_zero, List.set_cons_succ, i64_w, i32_w]
        rfl
      refine pure_ (i := 1) (N := some 17) (v := ?_) (a' := ?_) #[true, true, false, false, false, false, false, false, false, false, false, false, false, false, false, false, false, false, false, false, false, false, false, false] rfl rfl (by kernel_rfl) (fun _ _ _ h => h) (Or.inl ⟨by rfl, ?_⟩) ?_ ?_
      rotate_left
      · intro w'
        go_simp
        with_reducible rfl
      rotate_left
      · simp only [Act.put, List.setIfInBounds_toArray, List.set_cons_zero, List.set_cons_succ, i64_w, i32_w]
        rfl
      refine pure_ (i := 2) (N := some 18) (v := ?_) (a' := ?_) #[true, true, true, false, false, false, false, false, false, false, false, false, false, false, false, false, false, false, false, false, false, false, false, false] rfl rfl (by kernel_rfl) (fun _ _ _ h => h) (Or.inl ⟨by rfl, ?_⟩) ?_ ?_
      rotate_left
      · intro w'
        go_simp
        with_reducible rfl
      rotate_left
      · simp only [Act.put, List.setIfInBounds_toArray, List.set_cons_zero, List.set_cons_succ, i64_w, i32_w]
        rfl
      refine pure_ (i := 3) (N := some 19) (v := ?_) (a' := ?_) #[true, true, true, true, false, false, false, false, false, false, false, false, false, false, false, false, false, false, false, false, false, false, false, false] rfl rfl (by kernel_rfl) (fun _ _ _ h => h) (Or.inl ⟨by rfl, ?_⟩) ?_ ?_
      rotate_left
      · intro w'
        go_simp
        with_reducible rfl
      rotate_left
      · simp only [Act.put, List.setIfInBounds_toArray, List.set_cons_zero, List.set_cons_succ, i64_w, i32_w]
        rfl
      refine pure_ (i := 4) (N := some 20) (v := ?_) (a' := ?_) #[true, true, true, true, true, false, false, false, false, false, false, false, false, false, false, false, false, false, false, false, false, false, false, false] rfl rfl (by kernel_rfl) (fun _ _ _ h => h) (Or.inl ⟨by rfl, ?_⟩) ?_ ?_
      rotate_left
      · intro w'
        go_simp
        with_reducible rfl
      rotate_left
      · simp only [Act.put, List.setIfInBounds_toArray, List.set_cons_zero, List.set_cons_succ, i64_w, i32_w]
        rfl
      refine pure_ (i := 5) (N := some 21) (v := ?_) (a' := ?_) #[true, true, true, true, true, true, false, false, false, false, false, false, false, false, false, false, false, false, false, false, false, false, false, false] rfl rfl (by kernel_rfl) (fun _ _ _ h => h) (Or.inl ⟨by rfl, ?_⟩) ?_ ?_
      rotate_left
      · intro w'
        go_simp
        with_reducible rfl
      rotate_left
      · simp only [Act.put, List.setIfInBounds_toArray, List.set_cons_zero, List.set_cons_succ, i64_w, i32_w]
        rfl
      refine pure_ (i := 6) (N := some 22) (v := ?_) (a' := ?_) #[true, true, true, true, true, true, true, false, false, false, false, false, false, false, false, false, false, false, false, false, false, false, false, false] rfl rfl (by kernel_rfl) (fun _ _ _ h => h) (Or.inl ⟨by rfl, ?_⟩) ?_ ?_
      rotate_left
      · intro w'
        go_simp
        with_reducible rfl
      rotate_left
      · simp only [Act.put, List.setIfInBounds_toArray, List.set_cons_zero, List.set_cons_succ, i64_w, i32_w]
        rfl
      refine pure_ (i := 7) (N := some 23) (v := ?_) (a' := ?_) #[true, true, true, true, true, true, true, true, false, false, false, false, false, false, false, false, false, false, false, false, false, false, false, false] rfl rfl (by kernel_rfl) (fun _ _ _ h => h) (Or.inl ⟨by rfl, ?_⟩) ?_ ?_
      rotate_left
      · intro w'
        go_simp
        with_reducible rfl
      rotate_left
      · simp only [Act.put, List.setIfInBounds_toArray, List.set_cons_zero, List.set_cons_succ, i64_w, i32_w]
        rfl
      refine pure_ (i := 8) (N := some 24) (v := ?_) (a' := ?_) #[true, true, true, true, true, true, true, true, true, false, false, false, false, false, false, false, false, false, false, false, false, false, false, false] rfl rfl (by kernel_rfl) (fun _ _ _ h => h) (Or.inl ⟨by rfl, ?_⟩) ?_ ?_
      rotate_left
      · intro w'
        go_simp
        with_reducible rfl
      rotate_left
      · simp only [Act.put, List.setIfInBounds_toArray, List.set_cons_zero, List.set_cons_succ, i64_w, i32_w]
        rfl
      refine pure_ (i := 9) (N := some 25) (v := ?_) (a' := ?_) #[true, true, true, true, true, true, true, true, true, true, false, false, false, false, false, false, false, false, false, false, false, false, false, false] rfl rfl (by kernel_rfl) (fun _ _ _ h => h) (Or.inl ⟨by rfl, ?_⟩) ?_ ?_
      rotate_left
      · intro w'
        go_simp
        with_reducible rfl
      rotate_left
      · simp only [Act.put, List.setIfInBounds_toArray, List.set_cons_zero, List.set_cons_succ, i64_w, i32_w]
        rfl
      refine pure_ (i := 10) (N := some 26) (v := ?_) (a' := ?_) #[true, true, true, true, true, true, true, true, true, true, true, false, false, false, false, false, false, false, false, false, false, false, false, false] rfl rfl (by kernel_rfl) (fun _ _ _ h => h) (Or.inl ⟨by rfl, ?_⟩) ?_ ?_
      rotate_left
      · intro w'
        go_simp
        with_reducible rfl
      rotate_left
      · simp only [Act.put, List.setIfInBounds_toArray, List.set_cons_zero, List.set_cons_succ, i64_w, i32_w]
        rfl
      refine pure_ (i := 11) (N := some 27) (v := ?_) (a' := ?_) #[true, true, true, true, true, true, true, true, true, true, true, true, false, false, false, false, false, false, false, false, false, false, false, false] rfl rfl (by kernel_rfl) (fun _ _ _ h => h) (Or.inl ⟨by rfl, ?_⟩) ?_ ?_
      rotate_left
      · intro w'
        go_simp
        with_reducible rfl
      rotate_left
      · simp only [Act.put, List.setIfInBounds_toArray, List.set_cons_zero, List.set_cons_succ, i64_w, i32_w]
        rfl
      refine pure_ (i := 12) (N := some 28) (v := ?_) (a' := ?_) #[true, true, true, true, true, true, true, true, true, true, true, true, true, false, false, false, false, false, false, false, false, false, false, false] rfl rfl (by kernel_rfl) (fun _ _ _ h => h) (Or.inl ⟨by rfl, ?_⟩) ?_ ?_
      rotate_left
      · intro w'
        go_simp
        with_reducible rfl
      rotate_left
      · simp only [Act.put, List.setIfInBounds_toArray, List.set_cons_zero, List.set_cons_succ, i64_w, i32_w]
        rfl
      refine take_ (i := 13) (N := some 29) (v := ?_) (a' := ?_) #[true, true, true, true, true, true, true, true, true, true, true, true, true, true, false, false, false, false, false, false, false, false, false, false] rfl rfl (by kernel_rfl) (fun _ _ _ h => h) (Or.inl ⟨by rfl, ?_⟩) hHeld ?_ ?_
      rotate_left
      · rintro w' ⟨s0, s1⟩
        go_simp
        with_reducible rfl
      rotate_left
      · simp only [Act.put, List.setIfInBounds_toArray, List.set_cons_zero, List.set_cons_succ, i64_w, i32_w]
        rfl
      refine pure_ (i := 14) (N := some 30) (v := ?_) (a' := ?_) #[true, true, true, true, true, true, true, true, true, true, true, true, true, true, true, false, false, false, false, false, false, false, false, false] rfl rfl (by kernel_rfl) (fun _ _ _ h => h) (Or.inl ⟨by rfl, ?_⟩) ?_ ?_
      rotate_left
      · intro w'
        go_simp
        with_reducible rfl
      rotate_left
      · simp only [Act.put, List.setIfInBounds_toArray, List.set_cons_zero, List.set_cons_succ, i64_w, i32_w]
        rfl
      refine pure_ (i := 15) (N := some 31) (v := ?_) (a' := ?_) #[true, true, true, true, true, true, true, true, true, true, true, true, true, true, true, true, false, false, false, false, false, false, false, false] rfl rfl (by kernel_rfl) (fun _ _ _ h => h) (Or.inl ⟨by rfl, ?_⟩) ?_ ?_
      rotate_left
      · intro w'
        go_simp
        with_reducible rfl
      rotate_left
      · simp only [Act.put, List.setIfInBounds_toArray, List.set_cons_zero, List.set_cons_succ, i64_w, i32_w]
        rfl
      refine pure_ (i := 16) (N := some 32) (v := ?_) (a' := ?_) #[true, true, true, true, true, true, true, true, true, true, true, true, true, true, true, true, true, false, false, false, false, false, false, false] rfl rfl (by kernel_rfl) (fun _ _ _ h => h) (Or.inl ⟨by rfl, ?_⟩) ?_ ?_
      rotate_left
      · intro w'
        go_simp
        with_reducible rfl
      rotate_left
      · simp only [Act.put, List.setIfInBounds_toArray, List.set_cons_zero, List.set_cons_succ, i64_w, i32_w]
        rfl
      refine pure_ (i := 17) (N := some 33) (v := ?_) (a' := ?_) #[true, true, true, true, true, true, true, true, true, true, true, true, true, true, true, true, true, true, false, false, false, false, false, false] rfl rfl (by kernel_rfl) (fun _ _ _ h => h) (Or.inl ⟨by rfl, ?_⟩) ?_ ?_
      rotate_left
      · intro w'
        go_simp
        with_reducible rfl
      rotate_left
      · simp only [Act.put, List.setIfInBounds_toArray, List.set_cons_zero, List.set_cons_succ, i64_w, i32_w]
        rfl
      refine pure_ (i := 18) (N := some 34) (v := ?_) (a' := ?_) #[true, true, true, true, true, true, true, true, true, true, true, true, true, true, true, true, true, true, true, false, false, false, false, false] rfl rfl (by kernel_rfl) (fun _ _ _ h => h) (Or.inl ⟨by rfl, ?_⟩) ?_ ?_
      rotate_left
      · intro w'
        go_simp
        with_reducible rfl
      rotate_left
      · simp only [Act.put, List.setIfInBounds_toArray, List.set_cons_zero, List.set_cons_succ, i64_w, i32_w]
        rfl
      refine take_ (i := 19) (N := some 35) (v := ?_) (a' := ?_) #[true, true, true, true, true, true, true, true, true, true, true, true, true, true, true, true, true, true, true, true, false, false, false, false] rfl rfl (by kernel_rfl) (fun _ _ _ h => h) (Or.inl ⟨by rfl, ?_⟩) hHeld ?_ ?_
      rotate_left
      · rintro w' ⟨s0, s1⟩
        go_simp
        with_reducible rfl
      rotate_left
      · simp only [Act.put, List.setIfInBounds_toArray, List.set_cons_zero, List.set_cons_succ, i64_w, i32_w]
        rfl
      refine pure_ (i := 20) (N := some 36) (v := ?_) (a' := ?_) #[true, true, true, true, true, true, true, true, true, true, true, true, true, true, true, true, true, true, true, true, true, false, false, false] rfl rfl (by kernel_rfl) (fun _ _ _ h => h) (Or.inl ⟨by rfl, ?_⟩) ?_ ?_
      rotate_left
      · intro w'
        go_simp
        with_reducible rfl
      rotate_left
      · simp only [Act.put, List.setIfInBounds_toArray, List.set_cons_zero, List.set_cons_succ, i64_w, i32_w]
        rfl
      refine last_ (i := 21) (N := none) #[true, true, true, true, true, true, true, true, true, true, true, true, true, true, true, true, true, true, true, true, true, true, false, false] rfl rfl (by kernel_rfl) (by decide) (fun K hK => ?_)
      refine skip_ (w1 := ?_) (by rfl) rfl ?_ ?_
      rotate_left
      · go_simp
        rfl
      refine hK.out _ _ ?_
      clear hK K
      refine pure_ (i := 22) (N := some 37) (v := ?_) (a' := ?_) #[true, true, true, true, true, true, true, true, true, true, true, true, true, true, true, true, true, true, true, true, true, true, true, false] rfl rfl (by kernel_rfl) (fun _ _ _ h => h) (Or.inl ⟨by rfl, ?_⟩) ?_ ?_
      rotate_left
      · intro w'
        go_simp
        with_reducible rfl
      rotate_left
      · simp only [Act.put, List.setIfInBounds_toArray, List.set_cons_zero, List.set_cons_succ, i64_w, i32_w]
        rfl
      refine last_ (i := 23) (N := none) #[true, true, true, true, true, true, true, true, true, true, true, true, true, true, true, true, true, true, true, true, true, true, true, true] rfl rfl (by kernel_rfl) (by decide) (fun K hK => ?_)
      refine skip_ (w1 := ?_) (by rfl) rfl ?_ ?_
      rotate_left
      · go_simp
        rfl
      refine hK.out _ _ ?_
      clear hK K
      refine done_ (by kernel_rfl) ?_
      go_wp2_with fail
      have hk := HK.out
      have ha := HA.out
      have hb := HB.out
      have hl := HL.out
      have hrow : Go.Proofs.YtlfbdcobpfainaaSrt.Row 3 enc_int g rest (Go.Proofs.YtlfbdcobpfainaaSrt.swp (0 : Int) ys (a + i) (b + i)) (((wr.drew.setCell ⟨g, (ai + ki).toNat, none⟩ (.int .i64 vb)).setCell ⟨g, (bi + ki).toNat, none⟩ (.int .i64 va))) := by
        rw [Go.Proofs.YtlfbdcobpfainaaSrt.swp_in (by omega) (by omega), ← HVA.out, ← HVB.out, show (ai + ki).toNat = a + i by omega, show (bi + ki).toNat = b + i by omega]
        exact Go.Proofs.YtlfbdcobpfainaaSrt.row_set1 enc_int_len (Go.Proofs.YtlfbdcobpfainaaSrt.row_set1 enc_int_len (show Go.Proofs.YtlfbdcobpfainaaSrt.Row 3 enc_int g rest ys (wr.drew) from HY.out) (by omega) rfl) (by simp; omega) rfl
      have hok : Go.Proofs.YtlfbdcobpfainaaSrt.Ok g w ((wr.drew.setCell ⟨g, (ai + ki).toNat, none⟩ (.int .i64 vb)).setCell ⟨g, (bi + ki).toNat, none⟩ (.int .i64 va)) := (Go.Proofs.YtlfbdcobpfainaaSrt.Ok.set (Go.Proofs.YtlfbdcobpfainaaSrt.Ok.set HO.out.drew _ _) _ _)
      refine ⟨⟨i + 1, ki + 1, Go.Proofs.YtlfbdcobpfainaaSrt.swp (0 : Int) ys (a + i) (b + i), rfl, ⟨by omega⟩, by omega, ⟨by rw [(Go.Proofs.YtlfbdcobpfainaaSrt.swp_perm _ _ _ _).length_eq, hl]⟩, ⟨by rw [HS.out, show n - i = (n - (i + 1)) + 1 by omega]; rfl⟩, ⟨hrow⟩, ⟨hok⟩⟩, by simp [intOf]; omega⟩
    · have d1 : decide (ki < ni) = false := decide_eq_false (by omega)
      obtain rfl : i = n := by omega
      have HS1 := HS.out
      rw [Nat.sub_self] at HS1
      have HS2 := Aside0.mk (show Go.Proofs.YtlfbdcobpfainaaSrt.swR (0 : Int) a b i 0 xs = ys from HS1)
      clear hk ha hb hn hl HS1
      go_wp2_with fail
      go_end0
      exact ⟨rfl, by rw [HS2.out]; exact HY.out, HO.out⟩
set_option maxHeartbeats 1600000 in
set_option maxRecDepth 100000 in
theorem insertion_int (ai bi : Int) (a b : Nat) (g cap : Nat) (rest : List Value) (gf : FuncId) (vs : Array Value) (eg : ∀ (args : Array Value) (W : World), (callFunc gf args).run Try.prog W = .ok (.enter gf args) W) (P : Int → Prop) (cf : Int → Int → Int) (w0 : World) (hf : ∀ (x y : Int) (W : World), P x → P y → Go.Proofs.YtlfbdcobpfainaaSrt.Ok g w0 W → Calls Try.prog gf (#[.int .i64 x, .int .i64 y] ++ vs) W fun e W' => e = .returned (.int .i64 (cf x y)) ∧ Below W.heap.size W W') (xs : List Int) (w : World) (hai : ai = a) (hbi : bi = b) (hR : Go.Proofs.YtlfbdcobpfainaaSrt.Row 3 enc_int g rest xs w) (hcap : xs.length ≤ cap) (hsm : xs.length ≤ 1000) (h1 : b ≤ xs.length) (h2 : a ≤ xs.length) (hP : ∀ x ∈ xs, P x) (hO : Go.Proofs.YtlfbdcobpfainaaSrt.Ok g w0 w) :
    Calls Try.prog 95 #[.slice (some ⟨g, 0, none⟩) xs.length cap, .int .i64 ai, .int .i64 bi, .func (.func gf) #[] vs] w fun e w' => e = .returned (.tuple #[]) ∧ Go.Proofs.YtlfbdcobpfainaaSrt.Row 3 enc_int g rest (Go.Proofs.YtlfbdcobpfainaaSrt.ins (fun x y => decide (cf x y < 0)) (0 : Int) a b xs) (w') ∧ Go.Proofs.YtlfbdcobpfainaaSrt.Ok g w w' := by
  have HA := Aside0.mk hai
  have HB := Aside0.mk hbi
  have HR := Aside0.mk hR
  have HF := Aside0.mk hf
  have HP := Aside0.mk hP
  have HOO := Aside0.mk hO
  have w1 : IntKind.i64.wrap (ai + 1) = ai + 1 := by rw [IntKind.wrap_i64]; omega
  clear hai hbi hR hf hP hO
  go_enter Try.func95, Try.ntmps95
  go_wp2_with fail
  go_loopw [8] (fun si wr => ∃ (i : Nat) (ii : Int) (ys : List Int), si = .int .i64 ii ∧ Aside0 (ii = i) ∧ a + 1 ≤ i ∧ Aside0 (ys.length = xs.length) ∧ Aside0 (∀ x ∈ ys, P x) ∧ Aside0 (Go.Proofs.YtlfbdcobpfainaaSrt.ins (fun x y => decide (cf x y < 0)) (0 : Int) a b xs = Go.Proofs.YtlfbdcobpfainaaSrt.insOut (fun x y => decide (cf x y < 0)) (0 : Int) a (b - i) i ys) ∧ Aside0 (Go.Proofs.YtlfbdcobpfainaaSrt.Row 3 enc_int g rest ys wr) ∧ Aside0 (Go.Proofs.YtlfbdcobpfainaaSrt.Ok g w wr)) (fun si _ => b - (intOf si).toNat)
  case atStart =>
    have ha := HA.out
    exact ⟨a + 1, ai + 1, xs, rfl, ⟨by omega⟩, Nat.le_refl _, ⟨rfl⟩, HP, ⟨rfl⟩, HR, ⟨Go.Proofs.YtlfbdcobpfainaaSrt.Ok.refl _ _⟩⟩
  case round =>
    obtain ⟨i, ii, ys, rfl, HI, hai, HL, HPY, HS, HY, HO⟩ := hrel
    obtain ⟨wo, rfl⟩ : ∃ wo : World, wo = wr := ⟨_, rfl⟩
    have hi := HI.out
    have hb := HB.out
    have hl := HL.out
    by_cases hlt : i < b
    · have d1 : decide (ii < bi) = true := decide_eq_true (by omega)
      have v1 : IntKind.i64.wrap (ii + 1) = ii + 1 := by rw [IntKind.wrap_i64]; omega
      clear hi hb hl
      go_wp2_with fail
      go_loopw [9] (fun sj wr => ∃ (j : Nat) (ji : Int) (zs : List Int), sj = .int .i64 ji ∧ Aside0 (ji = j) ∧ j ≤ i ∧ Aside0 (zs.length = xs.length) ∧ Aside0 (∀ x ∈ zs, P x) ∧ Aside0 (Go.Proofs.YtlfbdcobpfainaaSrt.insIn (fun x y => decide (cf x y < 0)) (0 : Int) a i ys = Go.Proofs.YtlfbdcobpfainaaSrt.insIn (fun x y => decide (cf x y < 0)) (0 : Int) a j zs) ∧ Aside0 (Go.Proofs.YtlfbdcobpfainaaSrt.Row 3 enc_int g rest zs wr) ∧ Aside0 (Go.Proofs.YtlfbdcobpfainaaSrt.Ok g w wr)) (fun sj _ => (intOf sj).toNat)
      case atStart => exact ⟨i, ii, ys, rfl, HI, Nat.le_refl _, HL, HPY, ⟨rfl⟩, HY, HO⟩
      case round =>
        obtain ⟨j, ji, zs, rfl, HJ, hji, HLZ, HPZ, HSZ, HZ, HOZ⟩ := hrel
        have hj := HJ.out
        have ha := HA.out
        have hlz := HLZ.out
        by_cases hja : a < j
        · obtain ⟨j, rfl⟩ : ∃ q, j = q + 1 := ⟨j - 1, by omega⟩
          have d2 : decide (ai < ji) = true := decide_eq_true (by omega)
          obtain ⟨pj, hpj⟩ : ∃ pj : Int, pj = ji - 1 := ⟨_, rfl⟩
          have v2 : IntKind.i64.wrap (ji - 1) = pj := by rw [IntKind.wrap_i64]; omega
          have g0 : 0 ≤ ji := by omega
          have g1 : ji < (xs.length : Int) := by omega
          have g2 : 0 ≤ pj := by omega
          have g3 : pj < (xs.length : Int) := by omega
          obtain ⟨va, hva⟩ : ∃ v, v = Go.Proofs.YtlfbdcobpfainaaSrt.at_ (0 : Int) zs (j + 1) := ⟨_, rfl⟩
          obtain ⟨vb, hvb⟩ : ∃ v, v = Go.Proofs.YtlfbdcobpfainaaSrt.at_ (0 : Int) zs j := ⟨_, rfl⟩
          have HPA := Aside0.mk (show P va from by rw [hva]; exact HPZ.out _ (Go.Proofs.YtlfbdcobpfainaaSrt.at_mem (by omega)))
          have HPB := Aside0.mk (show P vb from by rw [hvb]; exact HPZ.out _ (Go.Proofs.YtlfbdcobpfainaaSrt.at_mem (by omega)))
          have hcs : ∀ W : World, Go.Proofs.YtlfbdcobpfainaaSrt.Row 3 enc_int g rest zs W → W.cell? ⟨g, ji.toNat, none⟩ = some (.int .i64 va) ∧ W.cell? ⟨g, pj.toNat, none⟩ = some (.int .i64 vb) := fun W hW => by
            have q00 : W.cell? ⟨g, ji.toNat, none⟩ = some (.int .i64 va) := by have hrc := Go.Proofs.YtlfbdcobpfainaaSrt.row_cell enc_int_len hW (0 : Int) (i := (j + 1)) (c := 0) (by omega) (by decide) rfl; rw [← hva] at hrc; simpa [show ji.toNat = j + 1 from by omega] using hrc
            have q10 : W.cell? ⟨g, pj.toNat, none⟩ = some (.int .i64 vb) := by have hrc := Go.Proofs.YtlfbdcobpfainaaSrt.row_cell enc_int_len hW (0 : Int) (i := j) (c := 0) (by omega) (by decide) rfl; rw [← hvb] at hrc; simpa [show pj.toNat = j from by omega] using hrc
            exact ⟨q00, q10⟩
          have HVA := Aside0.mk hva
          have HVB := Aside0.mk hvb
          have HPJ := Aside0.mk hpj
          clear hj ha hlz hva hvb hpj
          go_wp2_with fail
          refine start_ (n := 17) (S := fun W => W.cell? ⟨g, ji.toNat, none⟩ = some (.int .i64 va) ∧ W.cell? ⟨g, pj.toNat, none⟩ = some (.int .i64 vb)) (ds := []) #[false, false, false, false, false, false, false, false, false, false, false, false, false, false, false, false, false] (by kernel_rfl) rfl rfl (hcs _ HZ.out) (fun hHeld => ?_)
          refine pure_ (i := 0) (N := some 18) (v := ?_) (a' := ?_) #[true, false, false, false, false, false, false, false, false, false, false, false, false, false, false, false, false] rfl rfl (by kernel_rfl) (fun _ _ _ h => h) (Or.inl ⟨by rfl, ?_⟩) ?_ ?_
          rotate_left
          · intro w'
            go_simp
            with_reducible rfl
          rotate_left
          · simp only [Act.put, List.setIfInBounds_toArray, List.set_cons_zero, List.set_cons_succ, i64_w, i32_w]
            rfl
          refine pure_ (i := 1) (N := some 19) (v := ?_) (a' := ?_) #[true, true, false, false, false, false, false, false, false, false, false, false, false, false, false, false, false] rfl rfl (by kernel_rfl) (fun _ _ _ h => h) (Or.inl ⟨by rfl, ?_⟩) ?_ ?_
          rotate_left
          · intro w'
            go_simp
            with_reducible rfl
          rotate_left
          · simp only [Act.put, List.setIfInBounds_toArray, List.set_cons_zero, List.set_cons_succ, i64_w, i32_w]
            rfl
          refine pure_ (i := 2) (N := some 20) (v := ?_) (a' := ?_) #[true, true, true, false, false, false, false, false, false, false, false, false, false, false, false, false, false] rfl rfl (by kernel_rfl) (fun _ _ _ h => h) (Or.inl ⟨by rfl, ?_⟩) ?_ ?_
          rotate_left
          · intro w'
            go_simp
            with_reducible rfl
          rotate_left
          · simp only [Act.put, List.setIfInBounds_toArray, List.set_cons_zero, List.set_cons_succ, i64_w, i32_w]
            rfl
          refine pure_ (i := 3) (N := some 21) (v := ?_) (a' := ?_) #[true, true, true, true, false, false, false, false, false, false, false, false, false, false, false, false, false] rfl rfl (by kernel_rfl) (fun _ _ _ h => h) (Or.inl ⟨by rfl, ?_⟩) ?_ ?_
          rotate_left
          · intro w'
            go_simp
            with_reducible rfl
          rotate_left
          · simp only [Act.put, List.setIfInBounds_toArray, List.set_cons_zero, List.set_cons_succ, i64_w, i32_w]
            rfl
          refine pure_ (i := 4) (N := some 22) (v := ?_) (a' := ?_) #[true, true, true, true, true, false, false, false, false, false, false, false, false, false, false, false, false] rfl rfl (by kernel_rfl) (fun _ _ _ h => h) (Or.inl ⟨by rfl, ?_⟩) ?_ ?_
          rotate_left
          · intro w'
            go_simp
            with_reducible rfl
          rotate_left
          · simp only [Act.put, List.setIfInBounds_toArray, List.set_cons_zero, List.set_cons_succ, i64_w, i32_w]
            rfl
          refine pure_ (i := 5) (N := some 23) (v := ?_) (a' := ?_) #[true, true, true, true, true, true, false, false, false, false, false, false, false, false, false, false, false] rfl rfl (by kernel_rfl) (fun _ _ _ h => h) (Or.inl ⟨by rfl, ?_⟩) ?_ ?_
          rotate_left
          · intro w'
            go_simp
            with_reducible rfl
          rotate_left
          · simp only [Act.put, List.setIfInBounds_toArray, List.set_cons_zero, List.set_cons_succ, i64_w, i32_w]
            rfl
          refine pure_ (i := 6) (N := some 24) (v := ?_) (a' := ?_) #[true, true, true, true, true, true, true, false, false, false, false, false, false, false, false, false, false] rfl rfl (by kernel_rfl) (fun _ _ _ h => h) (Or.inl ⟨by rfl, ?_⟩) ?_ ?_
          rotate_left
          · intro w'
            go_simp
            with_reducible rfl
          rotate_left
          · simp only [Act.put, List.setIfInBounds_toArray, List.set_cons_zero, List.set_cons_succ, i64_w, i32_w]
            rfl
          refine pure_ (i := 7) (N := some 25) (v := ?_) (a' := ?_) #[true, true, true, true, true, true, true, true, false, false, false, false, false, false, false, false, false] rfl rfl (by kernel_rfl) (fun _ _ _ h => h) (Or.inl ⟨by rfl, ?_⟩) ?_ ?_
          rotate_left
          · intro w'
            go_simp
            with_reducible rfl
          rotate_left
          · simp only [Act.put, List.setIfInBounds_toArray, List.set_cons_zero, List.set_cons_succ, i64_w, i32_w]
            rfl
          refine take_ (i := 8) (N := some 26) (v := ?_) (a' := ?_) #[true, true, true, true, true, true, true, true, true, false, false, false, false, false, false, false, false] rfl rfl (by kernel_rfl) (fun _ _ _ h => h) (Or.inl ⟨by rfl, ?_⟩) hHeld ?_ ?_
          rotate_left
          · rintro w' ⟨s0, s1⟩
            go_simp
            with_reducible rfl
          rotate_left
          · simp only [Act.put, List.setIfInBounds_toArray, List.set_cons_zero, List.set_cons_succ, i64_w, i32_w]
            rfl
          refine pure_ (i := 9) (N := some 27) (v := ?_) (a' := ?_) #[true, true, true, true, true, true, true, true, true, true, false, false, false, false, false, false, false] rfl rfl (by kernel_rfl) (fun _ _ _ h => h) (Or.inl ⟨by rfl, ?_⟩) ?_ ?_
          rotate_left
          · intro w'
            go_simp
            with_reducible rfl
          rotate_left
          · simp only [Act.put, List.setIfInBounds_toArray, List.set_cons_zero, List.set_cons_succ, i64_w, i32_w]
            rfl
          refine pure_ (i := 10) (N := some 28) (v := ?_) (a' := ?_) #[true, true, true, true, true, true, true, true, true, true, true, false, false, false, false, false, false] rfl rfl (by kernel_rfl) (fun _ _ _ h => h) (Or.inl ⟨by rfl, ?_⟩) ?_ ?_
          rotate_left
          · intro w'
            go_simp
            with_reducible rfl
          rotate_left
          · simp only [Act.put, List.setIfInBounds_toArray, List.set_cons_zero, List.set_cons_succ, i64_w, i32_w]
            rfl
          refine pure_ (i := 11) (N := some 29) (v := ?_) (a' := ?_) #[true, true, true, true, true, true, true, true, true, true, true, true, false, false, false, false, false] rfl rfl (by kernel_rfl) (fun _ _ _ h => h) (Or.inl ⟨by rfl, ?_⟩) ?_ ?_
          rotate_left
          · intro w'
            go_simp
            with_reducible rfl
          rotate_left
          · simp only [Act.put, List.setIfInBounds_toArray, List.set_cons_zero, List.set_cons_succ, i64_w, i32_w]
            rfl
          refine pure_ (i := 12) (N := some 30) (v := ?_) (a' := ?_) #[true, true, true, true, true, true, true, true, true, true, true, true, true, false, false, false, false] rfl rfl (by kernel_rfl) (fun _ _ _ h => h) (Or.inl ⟨by rfl, ?_⟩) ?_ ?_
          rotate_left
          · intro w'
            go_simp
            with_reducible rfl
          rotate_left
          · simp only [Act.put, List.setIfInBounds_toArray, List.set_cons_zero, List.set_cons_succ, i64_w, i32_w]
            rfl
          refine take_ (i := 13) (N := some 31) (v := ?_) (a' := ?_) #[true, true, true, true, true, true, true, true, true, true, true, true, true, true, false, false, false] rfl rfl (by kernel_rfl) (fun _ _ _ h => h) (Or.inl ⟨by rfl, ?_⟩) hHeld ?_ ?_
          rotate_left
          · rintro w' ⟨s0, s1⟩
            go_simp
            with_reducible rfl
          rotate_left
          · simp only [Act.put, List.setIfInBounds_toArray, List.set_cons_zero, List.set_cons_succ, i64_w, i32_w]
            rfl
          refine one_ (i := 14) (N := some 32) #[true, true, true, true, true, true, true, true, true, true, true, true, true, true, true, false, false] rfl rfl (by kernel_rfl) (by decide) (fun K hK => ?_)
          refine call_ gf (#[.int .i64 va, .int .i64 vb] ++ vs) (by rfl) rfl (by first | (go_simp; done) | (go_simp; exact eg _ _)) ?_
          refine (HF.out va vb _ HPA.out HPB.out ((Go.Proofs.YtlfbdcobpfainaaSrt.Ok.trans HOO.out HOZ.out).drew)).mono ?_
          rintro e w5 ⟨rfl, hb5⟩
          have HB5 := Aside0.mk hb5
          have HY5 := Aside0.mk (Go.Proofs.YtlfbdcobpfainaaSrt.row_other (show Go.Proofs.YtlfbdcobpfainaaSrt.Row 3 enc_int g rest zs (wr.drew) from HZ.out) hb5)
          clear hb5
          refine ⟨_, rfl, ?_⟩
          refine hK.out _ _ (hcs w5 HY5.out) (fun _ => ?_)
          clear hK K hHeld
          refine norm_ (by simp only [Act.put, List.setIfInBounds_toArray, List.set_cons_zero, List.set_cons_succ]; rfl) ?_
          have HO5 := Aside0.mk (Go.Proofs.YtlfbdcobpfainaaSrt.Ok.below (Go.Proofs.YtlfbdcobpfainaaSrt.Ok.drew HOZ.out) HB5.out)
          by_cases hcf : cf va vb < 0
          · have d3 : decide (cf va vb < 0) = true := decide_eq_true hcf
            have HCF := Aside0.mk hcf
            clear hcf
            refine pure_ (i := 15) (N := some 33) (v := ?_) (a' := ?_) #[true, true, true, true, true, true, true, true, true, true, true, true, true, true, true, true, false] rfl rfl (by kernel_rfl) (fun _ _ _ h => h) (Or.inl ⟨by rfl, ?_⟩) ?_ ?_
            rotate_left
            · intro w'
              go_simp
              with_reducible rfl
            rotate_left
            · simp only [Act.put, List.setIfInBounds_toArray, List.set_cons_zero, List.set_cons_succ, i64_w, i32_w]
              rfl
            refine pure_ (i := 16) (N := some 34) (v := ?_) (a' := ?_) #[true, true, true, true, true, true, true, true, true, true, true, true, true, true, true, true, true] rfl rfl (by kernel_rfl) (fun _ _ _ h => h) (Or.inl ⟨by rfl, ?_⟩) ?_ ?_
            rotate_left
            · intro w'
              go_simp
              with_reducible rfl
            rotate_left
            · simp only [Act.put, List.setIfInBounds_toArray, List.set_cons_zero, List.set_cons_succ, i64_w, i32_w]
              rfl
            refine done_ (by kernel_rfl) ?_
            have fr := fun j => Go.Proofs.YtlfbdcobpfainaaSrt.row_frozen HY5.out j
            obtain ⟨e0, e1⟩ := hcs w5 HY5.out
            have gne : ji.toNat ≠ pj.toNat := by have := HPJ.out; omega
            have gne2 : pj.toNat ≠ ji.toNat := by have := HPJ.out; omega
            go_wp2_with fail
            refine start_ (n := 18) (S := fun W => W.cell? ⟨g, ji.toNat, none⟩ = some (.int .i64 va) ∧ W.cell? ⟨g, pj.toNat, none⟩ = some (.int .i64 vb)) (ds := [15, 17]) #[false, false, false, false, false, false, false, false, false, false, false, false, false, false, false, false, false, false] (by kernel_rfl) rfl rfl (hcs _ (show Go.Proofs.YtlfbdcobpfainaaSrt.Row 3 enc_int g rest zs (w5.drew) from HY5.out)) (fun hHeld => ?_)
            refine pure_ (i := 0) (N := some 37) (v := ?_) (a' := ?_) #[true, false, false, false, false, false, false, false, false, false, false, false, false, false, false, false, false, false] rfl rfl (by kernel_rfl) (fun _ _ _ h => h) (Or.inl ⟨by rfl, ?_⟩) ?_ ?_
            rotate_left
            · intro w'
              go_simp
              with_reducible rfl
            rotate_left
            · simp only [Act.put, List.setIfInBounds_toArray, List.set_cons_zero, List.set_cons_succ, i64_w, i32_w]
              rfl
            refine pure_ (i := 1) (N := some 38) (v := ?_) (a' := ?_) #[true, true, false, false, false, false, false, false, false, false, false, false, false, false, false, false, false, false] rfl rfl (by kernel_rfl) (fun _ _ _ h => h) (Or.inl ⟨by rfl, ?_⟩) ?_ ?_
            rotate_left
            · intro w'
              go_simp
              with_reducible rfl
            rotate_left
            · simp only [Act.put, List.setIfInBounds_toArray, List.set_cons_zero, List.set_cons_succ, i64_w, i32_w]
              rfl
            refine pure_ (i := 2) (N := some 39) (v := ?_) (a' := ?_) #[true, true, true, false, false, false, false, false, false, false, false, false, false, false, false, false, false, false] rfl rfl (by kernel_rfl) (fun _ _ _ h => h) (Or.inl ⟨by rfl, ?_⟩) ?_ ?_
            rotate_left
            · intro w'
              go_simp
              with_reducible rfl
            rotate_left
            · simp only [Act.put, List.setIfInBounds_toArray, List.set_cons_zero, List.set_cons_succ, i64_w, i32_w]
              rfl
            refine pure_ (i := 3) (N := some 40) (v := ?_) (a' := ?_) #[true, true, true, true, false, false, false, false, false, false, false, false, false, false, false, false, false, false] rfl rfl (by kernel_rfl) (fun _ _ _ h => h) (Or.inl ⟨by rfl, ?_⟩) ?_ ?_
            rotate_left
            · intro w'
              go_simp
              with_reducible rfl
            rotate_left
            · simp only [Act.put, List.setIfInBounds_toArray, List.set_cons_zero, List.set_cons_succ, i64_w, i32_w]
              rfl
            refine pure_ (i := 4) (N := some 41) (v := ?_) (a' := ?_) #[true, true, true, true, true, false, false, false, false, false, false, false, false, false, false, false, false, false] rfl rfl (by kernel_rfl) (fun _ _ _ h => h) (Or.inl ⟨by rfl, ?_⟩) ?_ ?_
            rotate_left
            · intro w'
              go_simp
              with_reducible rfl
            rotate_left
            · simp only [Act.put, List.setIfInBounds_toArray, List.set_cons_zero, List.set_cons_succ, i64_w, i32_w]
              rfl
            refine pure_ (i := 5) (N := some 42) (v := ?_) (a' := ?_) #[true, true, true, true, true, true, false, false, false, false, false, false, false, false, false, false, false, false] rfl rfl (by kernel_rfl) (fun _ _ _ h => h) (Or.inl ⟨by rfl, ?_⟩) ?_ ?_
            rotate_left
            · intro w'
              go_simp
              with_reducible rfl
            rotate_left
            · simp only [Act.put, List.setIfInBounds_toArray, List.set_cons_zero, List.set_cons_succ, i64_w, i32_w]
              rfl
            refine pure_ (i := 6) (N := some 43) (v := ?_) (a' := ?_) #[true, true, true, true, true, true, true, false, false, false, false, false, false, false, false, false, false, false] rfl rfl (by kernel_rfl) (fun _ _ _ h => h) (Or.inl ⟨by rfl, ?_⟩) ?_ ?_
            rotate_left
            · intro w'
              go_simp
              with_reducible rfl
            rotate_left
            · simp only [Act.put, List.setIfInBounds_toArray, List.set_cons_zero, List.set_cons_succ, i64_w, i32_w]
              rfl
            refine pure_ (i := 7) (N := some 44) (v := ?_) (a' := ?_) #[true, true, true, true, true, true, true, true, false, false, false, false, false, false, false, false, false, false] rfl rfl (by kernel_rfl) (fun _ _ _ h => h) (Or.inl ⟨by rfl, ?_⟩) ?_ ?_
            rotate_left
            · intro w'
              go_simp
              with_reducible rfl
            rotate_left
            · simp only [Act.put, List.setIfInBounds_toArray, List.set_cons_zero, List.set_cons_succ, i64_w, i32_w]
              rfl
            refine pure_ (i := 8) (N := some 45) (v := ?_) (a' := ?_) #[true, true, true, true, true, true, true, true, true, false, false, false, false, false, false, false, false, false] rfl rfl (by kernel_rfl) (fun _ _ _ h => h) (Or.inl ⟨by rfl, ?_⟩) ?_ ?_
            rotate_left
            · intro w'
              go_simp
              with_reducible rfl
            rotate_left
            · simp only [Act.put, List.setIfInBounds_toArray, List.set_cons_zero, List.set_cons_succ, i64_w, i32_w]
              rfl
            refine take_ (i := 9) (N := some 46) (v := ?_) (a' := ?_) #[true, true, true, true, true, true, true, true, true, true, false, false, false, false, false, false, false, false] rfl rfl (by kernel_rfl) (fun _ _ _ h => h) (Or.inl ⟨by rfl, ?_⟩) hHeld ?_ ?_
            rotate_left
            · rintro w' ⟨s0, s1⟩
              go_simp
              with_reducible rfl
            rotate_left
            · simp only [Act.put, List.setIfInBounds_toArray, List.set_cons_zero, List.set_cons_succ, i64_w, i32_w]
              rfl
            refine pure_ (i := 10) (N := some 47) (v := ?_) (a' := ?_) #[true, true, true, true, true, true, true, true, true, true, true, false, false, false, false, false, false, false] rfl rfl (by kernel_rfl) (fun _ _ _ h => h) (Or.inl ⟨by rfl, ?_⟩) ?_ ?_
            rotate_left
            · intro w'
              go_simp
              with_reducible rfl
            rotate_left
            · simp only [Act.put, List.setIfInBounds_toArray, List.set_cons_zero, List.set_cons_succ, i64_w, i32_w]
              rfl
            refine pure_ (i := 11) (N := some 48) (v := ?_) (a' := ?_) #[true, true, true, true, true, true, true, true, true, true, true, true, false, false, false, false, false, false] rfl rfl (by kernel_rfl) (fun _ _ _ h => h) (Or.inl ⟨by rfl, ?_⟩) ?_ ?_
            rotate_left
            · intro w'
              go_simp
              with_reducible rfl
            rotate_left
            · simp only [Act.put, List.setIfInBounds_toArray, List.set_cons_zero, List.set_cons_succ, i64_w, i32_w]
              rfl
            refine pure_ (i := 12) (N := some 49) (v := ?_) (a' := ?_) #[true, true, true, true, true, true, true, true, true, true, true, true, true, false, false, false, false, false] rfl rfl (by kernel_rfl) (fun _ _ _ h => h) (Or.inl ⟨by rfl, ?_⟩) ?_ ?_
            rotate_left
            · intro w'
              go_simp
              with_reducible rfl
            rotate_left
            · simp only [Act.put, List.setIfInBounds_toArray, List.set_cons_zero, List.set_cons_succ, i64_w, i32_w]
              rfl
            refine take_ (i := 13) (N := some 50) (v := ?_) (a' := ?_) #[true, true, true, true, true, true, true, true, true, true, true, true, true, true, false, false, false, false] rfl rfl (by kernel_rfl) (fun _ _ _ h => h) (Or.inl ⟨by rfl, ?_⟩) hHeld ?_ ?_
            rotate_left
            · rintro w' ⟨s0, s1⟩
              go_simp
              with_reducible rfl
            rotate_left
            · simp only [Act.put, List.setIfInBounds_toArray, List.set_cons_zero, List.set_cons_succ, i64_w, i32_w]
              rfl
            refine pure_ (i := 14) (N := some 51) (v := ?_) (a' := ?_) #[true, true, true, true, true, true, true, true, true, true, true, true, true, true, true, false, false, false] rfl rfl (by kernel_rfl) (fun _ _ _ h => h) (Or.inl ⟨by rfl, ?_⟩) ?_ ?_
            rotate_left
            · intro w'
              go_simp
              with_reducible rfl
            rotate_left
            · simp only [Act.put, List.setIfInBounds_toArray, List.set_cons_zero, List.set_cons_succ, i64_w, i32_w]
              rfl
            refine last_ (i := 15) (N := none) #[true, true, true, true, true, true, true, true, true, true, true, true, true, true, true, true, false, false] rfl rfl (by kernel_rfl) (by decide) (fun K hK => ?_)
            refine skip_ (w1 := ?_) (by rfl) rfl ?_ ?_
            rotate_left
            · go_simp
              rfl
            refine hK.out _ _ ?_
            clear hK K
            refine pure_ (i := 16) (N := some 52) (v := ?_) (a' := ?_) #[true, true, true, true, true, true, true, true, true, true, true, true, true, true, true, true, true, false] rfl rfl (by kernel_rfl) (fun _ _ _ h => h) (Or.inl ⟨by rfl, ?_⟩) ?_ ?_
            rotate_left
            · intro w'
              go_simp
              with_reducible rfl
            rotate_left
            · simp only [Act.put, List.setIfInBounds_toArray, List.set_cons_zero, List.set_cons_succ, i64_w, i32_w]
              rfl
            refine last_ (i := 17) (N := none) #[true, true, true, true, true, true, true, true, true, true, true, true, true, true, true, true, true, true] rfl rfl (by kernel_rfl) (by decide) (fun K hK => ?_)
            refine skip_ (w1 := ?_) (by rfl) rfl ?_ ?_
            rotate_left
            · go_simp
              rfl
            refine hK.out _ _ ?_
            clear hK K
            refine done_ (by kernel_rfl) ?_
            go_wp2_with fail
            have hj := HJ.out
            have hpj := HPJ.out
            have hlz := HLZ.out
            have hrow : Go.Proofs.YtlfbdcobpfainaaSrt.Row 3 enc_int g rest (Go.Proofs.YtlfbdcobpfainaaSrt.swp (0 : Int) zs (j + 1) (j)) (((w5.drew.setCell ⟨g, ji.toNat, none⟩ (.int .i64 vb)).setCell ⟨g, pj.toNat, none⟩ (.int .i64 va))) := by
              rw [Go.Proofs.YtlfbdcobpfainaaSrt.swp_in (by omega) (by omega), ← HVA.out, ← HVB.out, show ji.toNat = j + 1 by omega, show pj.toNat = j by omega]
              exact Go.Proofs.YtlfbdcobpfainaaSrt.row_set1 enc_int_len (Go.Proofs.YtlfbdcobpfainaaSrt.row_set1 enc_int_len (show Go.Proofs.YtlfbdcobpfainaaSrt.Row 3 enc_int g rest zs (w5.drew) from HY5.out) (by omega) rfl) (by simp; omega) rfl
            have hok : Go.Proofs.YtlfbdcobpfainaaSrt.Ok g w ((w5.drew.setCell ⟨g, ji.toNat, none⟩ (.int .i64 vb)).setCell ⟨g, pj.toNat, none⟩ (.int .i64 va)) := (Go.Proofs.YtlfbdcobpfainaaSrt.Ok.set (Go.Proofs.YtlfbdcobpfainaaSrt.Ok.set (Go.Proofs.YtlfbdcobpfainaaSrt.Ok.drew HO5.out) _ _) _ _)
            refine ⟨⟨j, pj, Go.Proofs.YtlfbdcobpfainaaSrt.swp (0 : Int) zs (j + 1) j, rfl, ⟨by omega⟩, by omega, ⟨by rw [(Go.Proofs.YtlfbdcobpfainaaSrt.swp_perm _ _ _ _).length_eq, hlz]⟩, ⟨fun x hx => HPZ.out x ((Go.Proofs.YtlfbdcobpfainaaSrt.swp_perm _ _ _ _).mem_iff.1 hx)⟩, ⟨?_⟩, ⟨hrow⟩, ⟨hok⟩⟩, by simp [intOf]; omega⟩
            rw [HSZ.out]
            simp only [Go.Proofs.YtlfbdcobpfainaaSrt.insIn]
            rw [if_pos hja, if_pos (by rw [← HVA.out, ← HVB.out]; exact decide_eq_true HCF.out)]
          · have d3 : decide (cf va vb < 0) = false := decide_eq_false hcf
            have HCF := Aside0.mk hcf
            clear hcf
            refine pure_ (i := 15) (N := some 33) (v := ?_) (a' := ?_) #[true, true, true, true, true, true, true, true, true, true, true, true, true, true, true, true, false] rfl rfl (by kernel_rfl) (fun _ _ _ h => h) (Or.inl ⟨by rfl, ?_⟩) ?_ ?_
            rotate_left
            · intro w'
              go_simp
              with_reducible rfl
            rotate_left
            · simp only [Act.put, List.setIfInBounds_toArray, List.set_cons_zero, List.set_cons_succ, i64_w, i32_w]
              rfl
            refine pure_ (i := 16) (N := some 34) (v := ?_) (a' := ?_) #[true, true, true, true, true, true, true, true, true, true, true, true, true, true, true, true, true] rfl rfl (by kernel_rfl) (fun _ _ _ h => h) (Or.inl ⟨by rfl, ?_⟩) ?_ ?_
            rotate_left
            · intro w'
              go_simp
              with_reducible rfl
            rotate_left
            · simp only [Act.put, List.setIfInBounds_toArray, List.set_cons_zero, List.set_cons_succ, i64_w, i32_w]
              rfl
            refine done_ (by kernel_rfl) ?_
            go_wp2_with fail
            have hi := HI.out
            have hlz := HLZ.out
            refine ⟨⟨i + 1, ii + 1, zs, rfl, ⟨by omega⟩, by omega, HLZ, HPZ, ⟨?_⟩, HY5, HO5⟩, by simp [intOf]; omega⟩
            rw [HS.out, show b - i = (b - (i + 1)) + 1 by omega]
            simp only [Go.Proofs.YtlfbdcobpfainaaSrt.insOut]
            rw [HSZ.out]
            simp only [Go.Proofs.YtlfbdcobpfainaaSrt.insIn]
            rw [if_pos hja, if_neg (by rw [← HVA.out, ← HVB.out, decide_eq_false HCF.out]; decide)]
        · have d2 : decide (ai < ji) = false := decide_eq_false (by omega)
          clear hj ha hlz
          go_wp2_with fail
          go_quiet (fail)
          go_wp2_with fail
          have hi := HI.out
          refine ⟨⟨i + 1, ii + 1, zs, rfl, ⟨by omega⟩, by omega, HLZ, HPZ, ⟨?_⟩, ⟨Go.Proofs.YtlfbdcobpfainaaSrt.row_other HZ.out (pw_below_drewN (Below.refl _ _) _)⟩, ⟨Go.Proofs.YtlfbdcobpfainaaSrt.Ok.drewN HOZ.out _⟩⟩, by simp [intOf]; omega⟩
          rw [HS.out, show b - i = (b - (i + 1)) + 1 by omega]
          simp only [Go.Proofs.YtlfbdcobpfainaaSrt.insOut]
          rw [HSZ.out]
          cases j with
          | zero => rfl
          | succ j => simp only [Go.Proofs.YtlfbdcobpfainaaSrt.insIn]; rw [if_neg hja]
    · have d1 : decide (ii < bi) = false := decide_eq_false (by omega)
      have HS1 := HS.out
      rw [show b - i = 0 by omega] at HS1
      have HS2 := Aside0.mk (show Go.Proofs.YtlfbdcobpfainaaSrt.ins (fun x y => decide (cf x y < 0)) (0 : Int) a b xs = ys from HS1)
      clear hi hb hl HS1
      go_wp2_with fail
      go_end0
      exact ⟨rfl, by rw [HS2.out]; exact HY.out, HO.out⟩
set_option maxHeartbeats 1600000 in
set_option maxRecDepth 100000 in
theorem rotate_int (ai mi bi : Int) (a m b : Nat) (g cap : Nat) (rest : List Value) (fv : Value) (xs : List Int) (w : World) (hai : ai = a) (hmi : mi = m) (hbi : bi = b) (hR : Go.Proofs.YtlfbdcobpfainaaSrt.Row 3 enc_int g rest xs w) (hcap : xs.length ≤ cap) (hsm : xs.length ≤ 1000) (h1 : a < m) (h2 : m < b) (h3 : b ≤ xs.length) :
    Calls Try.prog 100 #[.slice (some ⟨g, 0, none⟩) xs.length cap, .int .i64 ai, .int .i64 mi, .int .i64 bi, fv] w fun e w' => e = .returned (.tuple #[]) ∧ Go.Proofs.YtlfbdcobpfainaaSrt.Row 3 enc_int g rest (Go.Proofs.YtlfbdcobpfainaaSrt.rotM (0 : Int) m (b - a) (m - a) (b - m) xs) (w') ∧ Go.Proofs.YtlfbdcobpfainaaSrt.Ok g w w' := by
  have HA := Aside0.mk hai
  have HM := Aside0.mk hmi
  have HB := Aside0.mk hbi
  have HR := Aside0.mk hR
  have w1 : IntKind.i64.wrap (mi - ai) = mi - ai := by rw [IntKind.wrap_i64]; omega
  have w2 : IntKind.i64.wrap (bi - mi) = bi - mi := by rw [IntKind.wrap_i64]; omega
  clear hai hmi hbi hR
  go_enter Try.func100, Try.ntmps100
  go_wp2_with fail
  go_loopw [10, 11] (fun si sj wr => ∃ (i j f : Nat) (ii ji : Int) (ys : List Int), si = .int .i64 ii ∧ sj = .int .i64 ji ∧ Aside0 (ii = i) ∧ Aside0 (ji = j) ∧ 1 ≤ i ∧ 1 ≤ j ∧ i ≤ m ∧ m + j ≤ xs.length ∧ i + j ≤ f ∧ Aside0 (ys.length = xs.length) ∧ Aside0 (Go.Proofs.YtlfbdcobpfainaaSrt.rotM (0 : Int) m (b - a) (m - a) (b - m) xs = Go.Proofs.YtlfbdcobpfainaaSrt.rotM (0 : Int) m f i j ys) ∧ Aside0 (Go.Proofs.YtlfbdcobpfainaaSrt.Row 3 enc_int g rest ys wr) ∧ Aside0 (Go.Proofs.YtlfbdcobpfainaaSrt.Ok g w wr)) (fun si sj _ => (intOf si).toNat + (intOf sj).toNat)
  case atStart =>
    have ha := HA.out
    have hm := HM.out
    have hb := HB.out
    exact ⟨m - a, b - m, b - a, mi - ai, bi - mi, xs, rfl, rfl, ⟨by omega⟩, ⟨by omega⟩, by omega, by omega, by omega, by omega, by omega, ⟨rfl⟩, ⟨rfl⟩, HR, ⟨Go.Proofs.YtlfbdcobpfainaaSrt.Ok.refl _ _⟩⟩
  case round =>
    obtain ⟨i, j, f, ii, ji, ys, rfl, rfl, HI, HJ, hi1, hj1, him, hjm, hf, HL, HS, HY, HO⟩ := hrel
    have hi := HI.out
    have hj := HJ.out
    have hm := HM.out
    have hl := HL.out
    have v1 : IntKind.i64.wrap (mi - ii) = mi - ii := by rw [IntKind.wrap_i64]; omega
    have v2 : IntKind.i64.wrap (ii - ji) = ii - ji := by rw [IntKind.wrap_i64]; omega
    have v3 : IntKind.i64.wrap (mi + ji) = mi + ji := by rw [IntKind.wrap_i64]; omega
    have v4 : IntKind.i64.wrap (mi + ji - ii) = mi + ji - ii := by rw [IntKind.wrap_i64]; omega
    have v5 : IntKind.i64.wrap (ji - ii) = ji - ii := by rw [IntKind.wrap_i64]; omega
    obtain ⟨f, rfl⟩ : ∃ q, f = q + 1 := ⟨f - 1, by omega⟩
    have hsl : (.slice (some ⟨g, 0, none⟩) xs.length cap : Value) = .slice (some ⟨g, 0, none⟩) ys.length cap := by rw [hl]
    have HSL := Aside0.mk hsl
    clear hsl
    by_cases c1 : i = j
    · have d1 : (ii != ji) = false := by simp; omega
      have HS1 := HS.out
      simp only [Go.Proofs.YtlfbdcobpfainaaSrt.rotM] at HS1
      rw [if_pos c1] at HS1
      have HS2 := Aside0.mk HS1
      clear hi hj hm HS1
      go_wp2_with fail
      rw [HSL.out]
      refine (swapRange_int _ _ _ (m - i) m i g cap rest _ ys _ (by have := HI.out; have := HM.out; omega) HM.out HI.out HY.out (by have := HL.out; omega) (by have := HL.out; omega) (by omega) (by have := HL.out; omega)).mono ?_
      rintro e w1 ⟨rfl, hr, ho⟩
      have HR1 := Aside0.mk hr
      have HO1 := Aside0.mk (Go.Proofs.YtlfbdcobpfainaaSrt.Ok.trans HO.out ho)
      clear hr ho hl
      go_wp2_with fail
      go_end0
      exact ⟨rfl, by rw [HS2.out]; exact HR1.out, HO1.out⟩
    · have d1 : (ii != ji) = true := by simp; omega
      by_cases c2 : j < i
      · have d2 : decide (ji < ii) = true := decide_eq_true (by omega)
        have HS1 := HS.out
        simp only [Go.Proofs.YtlfbdcobpfainaaSrt.rotM] at HS1
        rw [if_neg c1, if_pos c2] at HS1
        have HS2 := Aside0.mk HS1
        clear hi hj hm HS1
        go_wp2_with fail
        rw [HSL.out]
        refine (swapRange_int _ _ _ (m - i) m j g cap rest _ ys _ (by have := HI.out; have := HM.out; omega) HM.out HJ.out HY.out (by have := HL.out; omega) (by have := HL.out; omega) (by omega) (by have := HL.out; omega)).mono ?_
        rintro e w1 ⟨rfl, hr, ho⟩
        have HR1 := Aside0.mk hr
        have HO1 := Aside0.mk (Go.Proofs.YtlfbdcobpfainaaSrt.Ok.trans HO.out ho)
        clear hr ho hl
        rw [← HSL.out]
        go_wp2_with fail
        have hi := HI.out
        have hj := HJ.out
        refine ⟨⟨i - j, j, f, ii - ji, ji, _, rfl, rfl, ⟨by omega⟩, HJ, by omega, hj1, by omega, hjm, by omega, ⟨by rw [(Go.Proofs.YtlfbdcobpfainaaSrt.swR_perm _ _ _ _ _).length_eq, HL.out]⟩, HS2, HR1, HO1⟩, by simp [intOf]; omega⟩
      · have d2 : decide (ji < ii) = false := decide_eq_false (by omega)
        have HS1 := HS.out
        simp only [Go.Proofs.YtlfbdcobpfainaaSrt.rotM] at HS1
        rw [if_neg c1, if_neg c2] at HS1
        have HS2 := Aside0.mk HS1
        clear hi hj hm HS1
        go_wp2_with fail
        rw [HSL.out]
        refine (swapRange_int _ _ _ (m - i) (m + j - i) i g cap rest _ ys _ (by have := HI.out; have := HM.out; omega) (by have := HI.out; have := HJ.out; have := HM.out; omega) HI.out HY.out (by have := HL.out; omega) (by have := HL.out; omega) (by omega) (by have := HL.out; omega)).mono ?_
        rintro e w1 ⟨rfl, hr, ho⟩
        have HR1 := Aside0.mk hr
        have HO1 := Aside0.mk (Go.Proofs.YtlfbdcobpfainaaSrt.Ok.trans HO.out ho)
        clear hr ho hl
        rw [← HSL.out]
        go_wp2_with fail
        have hi := HI.out
        have hj := HJ.out
        refine ⟨⟨i, j - i, f, ii, ji - ii, _, rfl, rfl, HI, ⟨by omega⟩, hi1, by omega, him, by omega, by omega, ⟨by rw [(Go.Proofs.YtlfbdcobpfainaaSrt.swR_perm _ _ _ _ _).length_eq, HL.out]⟩, HS2, HR1, HO1⟩, by simp [intOf]; omega⟩
end Go.Proofs.Ytlfbdcobpfainaa.S
