/- Part of the proof, with what it needs of the printed words alone. -/
import Derived.Test.YtlfbdcobpfainaaTS0
import Derived.Test.YtlfbdcobpfainaaTS2
import Derived.Test.YtlfbdcobpfainaaTS9
import Derived.Test.YtlfbdcobpfainaaTS10
import Derived.Test.YtlfbdcobpfainaaTS11
namespace Go.Proofs.Ytlfbdcobpfainaa.S
open Go.RowKit Go.Proofs.YtlfbdcobpfainaaW.PrintWords Go.Proofs.YtlfbdcobpfainaaW.PrintLast Go.Proofs.YtlfbdcobpfainaaW.PrintMore
attribute [local go_sem] max2_int min2_int max_two min_two max_three min_three max_four min_four
set_option linter.unusedVariables false
set_option linter.unusedSimpArgs false
set_option maxHeartbeats 1600000 in
set_option maxRecDepth 100000 in
theorem symW_int : ∀ (f : Nat) (ai mi bi : Int) (a m b : Nat) (g cap : Nat) (rest : List Value) (gf : FuncId) (vs : Array Value) (eg : ∀ (args : Array Value) (W : World), (callFunc gf args).run Try.prog W = .ok (.enter gf args) W) (P : Int → Prop) (cf : Int → Int → Int) (w0 : World) (hf : ∀ (x y : Int) (W : World), P x → P y → Go.Proofs.YtlfbdcobpfainaaSrt.Ok g w0 W → Calls Try.prog gf (#[.int .i64 x, .int .i64 y] ++ vs) W fun e W' => e = .returned (.int .i64 (cf x y)) ∧ Below W.heap.size W W') (xs : List Int) (w : World) (hai : ai = a) (hmi : mi = m) (hbi : bi = b) (hR : Go.Proofs.YtlfbdcobpfainaaSrt.Row 3 enc_int g rest xs w) (hcap : xs.length ≤ cap) (hsm : xs.length ≤ 1000) (h1 : a < m) (h2 : m < b) (h3 : b ≤ xs.length) (hP : ∀ x ∈ xs, P x) (hO : Go.Proofs.YtlfbdcobpfainaaSrt.Ok g w0 w) (hf2 : b - a ≤ f), Calls Try.prog 96 #[.slice (some ⟨g, 0, none⟩) xs.length cap, .int .i64 ai, .int .i64 mi, .int .i64 bi, .func (.func gf) #[] vs] w fun e w' => e = .returned (.tuple #[]) ∧ Go.Proofs.YtlfbdcobpfainaaSrt.Row 3 enc_int g rest (Go.Proofs.YtlfbdcobpfainaaSrt.sym (fun x y => decide (cf x y < 0)) (0 : Int) f a m b xs) (w') ∧ Go.Proofs.YtlfbdcobpfainaaSrt.Ok g w w'
  | 0, ai, mi, bi, a, m, b, g, cap, rest, gf, vs, eg, P, cf, w0, hf, xs, w, hai, hmi, hbi, hR, hcap, hsm, h1, h2, h3, hP, hO, hf2 => absurd hf2 (by omega)
  | f + 1, ai, mi, bi, a, m, b, g, cap, rest, gf, vs, eg, P, cf, w0, hf, xs, w, hai, hmi, hbi, hR, hcap, hsm, h1, h2, h3, hP, hO, hf2 => by
    rw [Go.Proofs.YtlfbdcobpfainaaSrt.sym_succ]
    by_cases c1 : m - a = 1
    · rw [if_pos c1]
      exact symA_int ai mi bi a m b g cap rest gf vs eg P cf w0 hf xs w hai hmi hbi hR hcap hsm h1 h2 h3 hP hO (by omega)
    · rw [if_neg c1]
      by_cases c2 : b - m = 1
      · rw [if_pos c2]
        exact symB_int ai mi bi a m b g cap rest gf vs eg P cf w0 hf xs w hai hmi hbi hR hcap hsm h1 h2 h3 hP hO (by omega) (by omega)
      · rw [if_neg c2]
        by_cases c3 : (a + b) / 2 < m
        · exact symC1_int f (symW_int f) ai mi bi a m b g cap rest gf vs eg P cf w0 hf xs w hai hmi hbi hR hcap hsm h1 h2 h3 hP hO (by omega) (by omega) hf2 c3
        · exact symC0_int f (symW_int f) ai mi bi a m b g cap rest gf vs eg P cf w0 hf xs w hai hmi hbi hR hcap hsm h1 h2 h3 hP hO (by omega) (by omega) hf2 c3
theorem ins_none_int (cf : Int → Int → Int) (n : Nat) (xs : List Int) : Go.Proofs.YtlfbdcobpfainaaSrt.ins (fun x y => decide (cf x y < 0)) (0 : Int) n n xs = xs := by unfold Go.Proofs.YtlfbdcobpfainaaSrt.ins; rw [show n - (n + 1) = 0 by omega]; rfl
set_option maxHeartbeats 1600000 in
set_option maxRecDepth 100000 in
theorem stableLo_int (g cap : Nat) (rest : List Value) (gf : FuncId) (vs : Array Value) (eg : ∀ (args : Array Value) (W : World), (callFunc gf args).run Try.prog W = .ok (.enter gf args) W) (P : Int → Prop) (cf : Int → Int → Int) (w0 : World) (hf : ∀ (x y : Int) (W : World), P x → P y → Go.Proofs.YtlfbdcobpfainaaSrt.Ok g w0 W → Calls Try.prog gf (#[.int .i64 x, .int .i64 y] ++ vs) W fun e W' => e = .returned (.int .i64 (cf x y)) ∧ Below W.heap.size W W') (xs : List Int) (w : World) (hR : Go.Proofs.YtlfbdcobpfainaaSrt.Row 3 enc_int g rest xs w) (hcap : xs.length ≤ cap) (hsm : xs.length ≤ 40) (hP : ∀ x ∈ xs, P x) (hO : Go.Proofs.YtlfbdcobpfainaaSrt.Ok g w0 w) (hn : xs.length < 20) :
    Calls Try.prog 86 #[.slice (some ⟨g, 0, none⟩) xs.length cap, .int .i64 xs.length, .func (.func gf) #[] vs] w fun e w' => e = .returned (.tuple #[]) ∧ Go.Proofs.YtlfbdcobpfainaaSrt.Row 3 enc_int g rest (Go.Proofs.YtlfbdcobpfainaaSrt.stab (fun x y => decide (cf x y < 0)) (0 : Int) xs) (w') ∧ Go.Proofs.YtlfbdcobpfainaaSrt.Ok g w w' := by
  have HR := Aside0.mk hR
  have HF := Aside0.mk hf
  have HP := Aside0.mk hP
  have HOO := Aside0.mk hO
  clear hR hf hP hO
  have d1 : decide ((20 : Int) ≤ (xs.length : Int)) = false := decide_eq_false (by omega)
  have d2 : decide ((20 : Int) < (xs.length : Int)) = false := decide_eq_false (by omega)
  go_enter Try.func86, Try.ntmps86
  go_wp2_with fail
  refine wp_loop_rounds 1 ?_
  rw [rounds_succ]
  go_wp2_with fail
  refine (insertion_int _ _ 0 xs.length g cap rest gf vs eg P cf w0 HF.out xs _ rfl rfl HR.out (by have := hsm; omega) (by have := hsm; omega) (by have := hsm; omega) (by have := hsm; omega) HP.out HOO.out).mono ?_
  rintro e w1 ⟨rfl, hr1, ho1⟩
  have HR1 := Aside0.mk hr1
  have HO1 := Aside0.mk ho1
  clear hr1 ho1
  go_wp2_with fail
  refine wp_loop_rounds 1 ?_
  rw [rounds_succ]
  go_wp2_with fail
  go_end0
  exact ⟨rfl, by unfold Go.Proofs.YtlfbdcobpfainaaSrt.stab; rw [if_pos (by omega)]; exact HR1.out, HO1.out⟩
set_option maxHeartbeats 1600000 in
set_option maxRecDepth 100000 in
theorem stableAt_int (g cap : Nat) (rest : List Value) (gf : FuncId) (vs : Array Value) (eg : ∀ (args : Array Value) (W : World), (callFunc gf args).run Try.prog W = .ok (.enter gf args) W) (P : Int → Prop) (cf : Int → Int → Int) (w0 : World) (hf : ∀ (x y : Int) (W : World), P x → P y → Go.Proofs.YtlfbdcobpfainaaSrt.Ok g w0 W → Calls Try.prog gf (#[.int .i64 x, .int .i64 y] ++ vs) W fun e W' => e = .returned (.int .i64 (cf x y)) ∧ Below W.heap.size W W') (xs : List Int) (w : World) (hR : Go.Proofs.YtlfbdcobpfainaaSrt.Row 3 enc_int g rest xs w) (hcap : xs.length ≤ cap) (hsm : xs.length ≤ 40) (hP : ∀ x ∈ xs, P x) (hO : Go.Proofs.YtlfbdcobpfainaaSrt.Ok g w0 w) (hn : xs.length = 20) :
    Calls Try.prog 86 #[.slice (some ⟨g, 0, none⟩) xs.length cap, .int .i64 xs.length, .func (.func gf) #[] vs] w fun e w' => e = .returned (.tuple #[]) ∧ Go.Proofs.YtlfbdcobpfainaaSrt.Row 3 enc_int g rest (Go.Proofs.YtlfbdcobpfainaaSrt.stab (fun x y => decide (cf x y < 0)) (0 : Int) xs) (w') ∧ Go.Proofs.YtlfbdcobpfainaaSrt.Ok g w w' := by
  have HR := Aside0.mk hR
  have HF := Aside0.mk hf
  have HP := Aside0.mk hP
  have HOO := Aside0.mk hO
  clear hR hf hP hO
  have HN := Aside0.mk hn
  have d1 : decide ((20 : Int) ≤ (xs.length : Int)) = true := decide_eq_true (by omega)
  have d2 : decide ((20 : Int) < (xs.length : Int)) = false := decide_eq_false (by omega)
  have d3 : decide ((40 : Int) ≤ (xs.length : Int)) = false := decide_eq_false (by omega)
  clear hn
  go_enter Try.func86, Try.ntmps86
  go_wp2_with fail
  refine wp_loop_rounds 2 ?_
  rw [rounds_succ]
  go_wp2_with fail
  refine (insertion_int _ _ 0 20 g cap rest gf vs eg P cf w0 HF.out xs _ rfl rfl HR.out (by have := HN.out; omega) (by have := HN.out; omega) (by have := HN.out; omega) (by have := HN.out; omega) HP.out HOO.out).mono ?_
  rintro e w1 ⟨rfl, hr1, ho1⟩
  have HY1 := Aside0.mk hr1
  have HO1 := Aside0.mk (Go.Proofs.YtlfbdcobpfainaaSrt.Ok.trans (Go.Proofs.YtlfbdcobpfainaaSrt.Ok.refl _ _) ho1)
  clear hr1 ho1
  obtain ⟨l1, hl1⟩ : ∃ l, l = Go.Proofs.YtlfbdcobpfainaaSrt.ins (fun x y => decide (cf x y < 0)) (0 : Int) 0 20 xs := ⟨_, rfl⟩
  have HP1 := Aside0.mk (show l1.Perm xs from by rw [hl1]; exact (Go.Proofs.YtlfbdcobpfainaaSrt.ins_perm _ _ _))
  rw [← hl1] at HY1
  have HE1 := Aside0.mk hl1
  have HL1 := Aside0.mk (show l1.length = xs.length from HP1.out.length_eq.trans rfl)
  have HM1 := Aside0.mk (show ∀ x ∈ l1, P x from fun x hx => HP.out x (HP1.out.mem_iff.1 hx))
  clear hl1
  go_wp2_with fail
  rw [rounds_succ]
  go_wp2_with fail
  rw [show (.slice (some ⟨g, 0, none⟩) xs.length cap : Value) = .slice (some ⟨g, 0, none⟩) l1.length cap from by rw [HL1.out]]
  refine (insertion_int _ _ 20 20 g cap rest gf vs eg P cf w0 HF.out l1 _ rfl (by have := HL1.out; have := HN.out; omega) HY1.out (by have := HL1.out; have := HN.out; omega) (by have := HL1.out; have := HN.out; omega) (by have := HL1.out; have := HN.out; omega) (by have := HL1.out; have := HN.out; omega) HM1.out (Go.Proofs.YtlfbdcobpfainaaSrt.Ok.trans HOO.out HO1.out)).mono ?_
  rintro e w2 ⟨rfl, hr2, ho2⟩
  have HY2 := Aside0.mk hr2
  have HO2 := Aside0.mk (Go.Proofs.YtlfbdcobpfainaaSrt.Ok.trans HO1.out ho2)
  clear hr2 ho2
  obtain ⟨l2, hl2⟩ : ∃ l, l = Go.Proofs.YtlfbdcobpfainaaSrt.ins (fun x y => decide (cf x y < 0)) (0 : Int) 20 20 l1 := ⟨_, rfl⟩
  have HP2 := Aside0.mk (show l2.Perm l1 from by rw [hl2]; exact (Go.Proofs.YtlfbdcobpfainaaSrt.ins_perm _ _ _))
  rw [← hl2] at HY2
  have HE2 := Aside0.mk hl2
  have HL2 := Aside0.mk (show l2.length = xs.length from HP2.out.length_eq.trans HL1.out)
  have HM2 := Aside0.mk (show ∀ x ∈ l2, P x from fun x hx => HM1.out x (HP2.out.mem_iff.1 hx))
  clear hl2
  rw [HL1.out]
  go_wp2_with fail
  refine wp_loop_rounds 1 ?_
  rw [rounds_succ]
  go_wp2_with fail
  go_end0
  exact ⟨rfl, by unfold Go.Proofs.YtlfbdcobpfainaaSrt.stab; rw [if_pos (by have := HN.out; omega), HN.out, ← HE1.out, show l1 = l2 from by rw [HE2.out, ins_none_int]]; exact HY2.out, HO2.out⟩
set_option maxHeartbeats 1600000 in
set_option maxRecDepth 100000 in
theorem stableMid_int (g cap : Nat) (rest : List Value) (gf : FuncId) (vs : Array Value) (eg : ∀ (args : Array Value) (W : World), (callFunc gf args).run Try.prog W = .ok (.enter gf args) W) (P : Int → Prop) (cf : Int → Int → Int) (w0 : World) (hf : ∀ (x y : Int) (W : World), P x → P y → Go.Proofs.YtlfbdcobpfainaaSrt.Ok g w0 W → Calls Try.prog gf (#[.int .i64 x, .int .i64 y] ++ vs) W fun e W' => e = .returned (.int .i64 (cf x y)) ∧ Below W.heap.size W W') (xs : List Int) (w : World) (hR : Go.Proofs.YtlfbdcobpfainaaSrt.Row 3 enc_int g rest xs w) (hcap : xs.length ≤ cap) (hsm : xs.length ≤ 40) (hP : ∀ x ∈ xs, P x) (hO : Go.Proofs.YtlfbdcobpfainaaSrt.Ok g w0 w) (hn : 20 < xs.length) (hn2 : xs.length < 40) :
    Calls Try.prog 86 #[.slice (some ⟨g, 0, none⟩) xs.length cap, .int .i64 xs.length, .func (.func gf) #[] vs] w fun e w' => e = .returned (.tuple #[]) ∧ Go.Proofs.YtlfbdcobpfainaaSrt.Row 3 enc_int g rest (Go.Proofs.YtlfbdcobpfainaaSrt.stab (fun x y => decide (cf x y < 0)) (0 : Int) xs) (w') ∧ Go.Proofs.YtlfbdcobpfainaaSrt.Ok g w w' := by
  have HR := Aside0.mk hR
  have HF := Aside0.mk hf
  have HP := Aside0.mk hP
  have HOO := Aside0.mk hO
  clear hR hf hP hO
  have d1 : decide ((20 : Int) ≤ (xs.length : Int)) = true := decide_eq_true (by omega)
  have d2 : decide ((20 : Int) < (xs.length : Int)) = true := decide_eq_true (by omega)
  have d3 : decide ((40 : Int) ≤ (xs.length : Int)) = false := decide_eq_false (by omega)
  have d4 : decide ((40 : Int) < (xs.length : Int)) = false := decide_eq_false (by omega)
  go_enter Try.func86, Try.ntmps86
  go_wp2_with fail
  refine wp_loop_rounds 2 ?_
  rw [rounds_succ]
  go_wp2_with fail
  refine (insertion_int _ _ 0 20 g cap rest gf vs eg P cf w0 HF.out xs _ rfl rfl HR.out (by have := hn; omega) (by have := hn; omega) (by have := hn; omega) (by have := hn; omega) HP.out HOO.out).mono ?_
  rintro e w1 ⟨rfl, hr1, ho1⟩
  have HY1 := Aside0.mk hr1
  have HO1 := Aside0.mk (Go.Proofs.YtlfbdcobpfainaaSrt.Ok.trans (Go.Proofs.YtlfbdcobpfainaaSrt.Ok.refl _ _) ho1)
  clear hr1 ho1
  obtain ⟨l1, hl1⟩ : ∃ l, l = Go.Proofs.YtlfbdcobpfainaaSrt.ins (fun x y => decide (cf x y < 0)) (0 : Int) 0 20 xs := ⟨_, rfl⟩
  have HP1 := Aside0.mk (show l1.Perm xs from by rw [hl1]; exact (Go.Proofs.YtlfbdcobpfainaaSrt.ins_perm _ _ _))
  rw [← hl1] at HY1
  have HE1 := Aside0.mk hl1
  have HL1 := Aside0.mk (show l1.length = xs.length from HP1.out.length_eq.trans rfl)
  have HM1 := Aside0.mk (show ∀ x ∈ l1, P x from fun x hx => HP.out x (HP1.out.mem_iff.1 hx))
  clear hl1
  go_wp2_with fail
  rw [rounds_succ]
  go_wp2_with fail
  rw [show (.slice (some ⟨g, 0, none⟩) xs.length cap : Value) = .slice (some ⟨g, 0, none⟩) l1.length cap from by rw [HL1.out]]
  refine (insertion_int _ _ 20 xs.length g cap rest gf vs eg P cf w0 HF.out l1 _ rfl rfl HY1.out (by have := HL1.out; omega) (by have := HL1.out; omega) (by have := HL1.out; omega) (by have := HL1.out; omega) HM1.out (Go.Proofs.YtlfbdcobpfainaaSrt.Ok.trans HOO.out HO1.out)).mono ?_
  rintro e w2 ⟨rfl, hr2, ho2⟩
  have HY2 := Aside0.mk hr2
  have HO2 := Aside0.mk (Go.Proofs.YtlfbdcobpfainaaSrt.Ok.trans HO1.out ho2)
  clear hr2 ho2
  obtain ⟨l2, hl2⟩ : ∃ l, l = Go.Proofs.YtlfbdcobpfainaaSrt.ins (fun x y => decide (cf x y < 0)) (0 : Int) 20 xs.length l1 := ⟨_, rfl⟩
  have HP2 := Aside0.mk (show l2.Perm l1 from by rw [hl2]; exact (Go.Proofs.YtlfbdcobpfainaaSrt.ins_perm _ _ _))
  rw [← hl2] at HY2
  have HE2 := Aside0.mk hl2
  have HL2 := Aside0.mk (show l2.length = xs.length from HP2.out.length_eq.trans HL1.out)
  have HM2 := Aside0.mk (show ∀ x ∈ l2, P x from fun x hx => HM1.out x (HP2.out.mem_iff.1 hx))
  clear hl2
  rw [HL1.out]
  go_wp2_with fail
  refine wp_loop_rounds 2 ?_
  rw [rounds_succ]
  go_wp2_with fail
  refine wp_loop_rounds 1 ?_
  rw [rounds_succ]
  go_wp2_with fail
  rw [show (.slice (some ⟨g, 0, none⟩) xs.length cap : Value) = .slice (some ⟨g, 0, none⟩) l2.length cap from by rw [HL2.out]]
  refine (symW_int 40 _ _ _ 0 20 xs.length g cap rest gf vs eg P cf w0 HF.out l2 _ rfl (by simp) rfl HY2.out (by have := HL2.out; omega) (by have := HL2.out; omega) (by omega) (by omega) (by have := HL2.out; omega) HM2.out (Go.Proofs.YtlfbdcobpfainaaSrt.Ok.trans HOO.out HO2.out) (by omega)).mono ?_
  rintro e w3 ⟨rfl, hr3, ho3⟩
  have HY3 := Aside0.mk hr3
  have HO3 := Aside0.mk (Go.Proofs.YtlfbdcobpfainaaSrt.Ok.trans HO2.out ho3)
  clear hr3 ho3
  rw [HL2.out]
  go_wp2_with fail
  rw [rounds_succ]
  go_wp2_with fail
  go_end0
  exact ⟨rfl, by unfold Go.Proofs.YtlfbdcobpfainaaSrt.stab; rw [if_neg (by omega), ← HE1.out, ← HE2.out]; exact HY3.out, HO3.out⟩
set_option maxHeartbeats 1600000 in
set_option maxRecDepth 100000 in
theorem stableTop_int (g cap : Nat) (rest : List Value) (gf : FuncId) (vs : Array Value) (eg : ∀ (args : Array Value) (W : World), (callFunc gf args).run Try.prog W = .ok (.enter gf args) W) (P : Int → Prop) (cf : Int → Int → Int) (w0 : World) (hf : ∀ (x y : Int) (W : World), P x → P y → Go.Proofs.YtlfbdcobpfainaaSrt.Ok g w0 W → Calls Try.prog gf (#[.int .i64 x, .int .i64 y] ++ vs) W fun e W' => e = .returned (.int .i64 (cf x y)) ∧ Below W.heap.size W W') (xs : List Int) (w : World) (hR : Go.Proofs.YtlfbdcobpfainaaSrt.Row 3 enc_int g rest xs w) (hcap : xs.length ≤ cap) (hsm : xs.length ≤ 40) (hP : ∀ x ∈ xs, P x) (hO : Go.Proofs.YtlfbdcobpfainaaSrt.Ok g w0 w) (hn : xs.length = 40) :
    Calls Try.prog 86 #[.slice (some ⟨g, 0, none⟩) xs.length cap, .int .i64 xs.length, .func (.func gf) #[] vs] w fun e w' => e = .returned (.tuple #[]) ∧ Go.Proofs.YtlfbdcobpfainaaSrt.Row 3 enc_int g rest (Go.Proofs.YtlfbdcobpfainaaSrt.stab (fun x y => decide (cf x y < 0)) (0 : Int) xs) (w') ∧ Go.Proofs.YtlfbdcobpfainaaSrt.Ok g w w' := by
  have HR := Aside0.mk hR
  have HF := Aside0.mk hf
  have HP := Aside0.mk hP
  have HOO := Aside0.mk hO
  clear hR hf hP hO
  have HN := Aside0.mk hn
  have d1 : decide ((20 : Int) ≤ (xs.length : Int)) = true := decide_eq_true (by omega)
  have d2 : decide ((20 : Int) < (xs.length : Int)) = true := decide_eq_true (by omega)
  have d3 : decide ((40 : Int) ≤ (xs.length : Int)) = true := decide_eq_true (by omega)
  have d4 : decide ((40 : Int) < (xs.length : Int)) = false := decide_eq_false (by omega)
  have d5 : decide ((60 : Int) ≤ (xs.length : Int)) = false := decide_eq_false (by omega)
  have d6 : decide ((80 : Int) ≤ (xs.length : Int)) = false := decide_eq_false (by omega)
  have d7 : decide ((60 : Int) < (xs.length : Int)) = false := decide_eq_false (by omega)
  clear hn
  go_enter Try.func86, Try.ntmps86
  go_wp2_with fail
  refine wp_loop_rounds 3 ?_
  rw [rounds_succ]
  go_wp2_with fail
  refine (insertion_int _ _ 0 20 g cap rest gf vs eg P cf w0 HF.out xs _ rfl rfl HR.out (by have := HN.out; omega) (by have := HN.out; omega) (by have := HN.out; omega) (by have := HN.out; omega) HP.out HOO.out).mono ?_
  rintro e w1 ⟨rfl, hr1, ho1⟩
  have HY1 := Aside0.mk hr1
  have HO1 := Aside0.mk (Go.Proofs.YtlfbdcobpfainaaSrt.Ok.trans (Go.Proofs.YtlfbdcobpfainaaSrt.Ok.refl _ _) ho1)
  clear hr1 ho1
  obtain ⟨l1, hl1⟩ : ∃ l, l = Go.Proofs.YtlfbdcobpfainaaSrt.ins (fun x y => decide (cf x y < 0)) (0 : Int) 0 20 xs := ⟨_, rfl⟩
  have HP1 := Aside0.mk (show l1.Perm xs from by rw [hl1]; exact (Go.Proofs.YtlfbdcobpfainaaSrt.ins_perm _ _ _))
  rw [← hl1] at HY1
  have HE1 := Aside0.mk hl1
  have HL1 := Aside0.mk (show l1.length = xs.length from HP1.out.length_eq.trans rfl)
  have HM1 := Aside0.mk (show ∀ x ∈ l1, P x from fun x hx => HP.out x (HP1.out.mem_iff.1 hx))
  clear hl1
  go_wp2_with fail
  rw [rounds_succ]
  go_wp2_with fail
  rw [show (.slice (some ⟨g, 0, none⟩) xs.length cap : Value) = .slice (some ⟨g, 0, none⟩) l1.length cap from by rw [HL1.out]]
  refine (insertion_int _ _ 20 40 g cap rest gf vs eg P cf w0 HF.out l1 _ rfl rfl HY1.out (by have := HL1.out; have := HN.out; omega) (by have := HL1.out; have := HN.out; omega) (by have := HL1.out; have := HN.out; omega) (by have := HL1.out; have := HN.out; omega) HM1.out (Go.Proofs.YtlfbdcobpfainaaSrt.Ok.trans HOO.out HO1.out)).mono ?_
  rintro e w2 ⟨rfl, hr2, ho2⟩
  have HY2 := Aside0.mk hr2
  have HO2 := Aside0.mk (Go.Proofs.YtlfbdcobpfainaaSrt.Ok.trans HO1.out ho2)
  clear hr2 ho2
  obtain ⟨l2, hl2⟩ : ∃ l, l = Go.Proofs.YtlfbdcobpfainaaSrt.ins (fun x y => decide (cf x y < 0)) (0 : Int) 20 40 l1 := ⟨_, rfl⟩
  have HP2 := Aside0.mk (show l2.Perm l1 from by rw [hl2]; exact (Go.Proofs.YtlfbdcobpfainaaSrt.ins_perm _ _ _))
  rw [← hl2] at HY2
  have HE2 := Aside0.mk hl2
  have HL2 := Aside0.mk (show l2.length = xs.length from HP2.out.length_eq.trans HL1.out)
  have HM2 := Aside0.mk (show ∀ x ∈ l2, P x from fun x hx => HM1.out x (HP2.out.mem_iff.1 hx))
  clear hl2
  rw [HL1.out]
  go_wp2_with fail
  rw [rounds_succ]
  go_wp2_with fail
  rw [show (.slice (some ⟨g, 0, none⟩) xs.length cap : Value) = .slice (some ⟨g, 0, none⟩) l2.length cap from by rw [HL2.out]]
  refine (insertion_int _ _ 40 40 g cap rest gf vs eg P cf w0 HF.out l2 _ rfl (by have := HL2.out; have := HN.out; omega) HY2.out (by have := HL2.out; have := HN.out; omega) (by have := HL2.out; have := HN.out; omega) (by have := HL2.out; have := HN.out; omega) (by have := HL2.out; have := HN.out; omega) HM2.out (Go.Proofs.YtlfbdcobpfainaaSrt.Ok.trans HOO.out HO2.out)).mono ?_
  rw [ins_none_int]
  rintro e w4 ⟨rfl, hr4, ho4⟩
  have HY4 := Aside0.mk hr4
  have HO4 := Aside0.mk (Go.Proofs.YtlfbdcobpfainaaSrt.Ok.trans HO2.out ho4)
  clear hr4 ho4
  rw [HL2.out]
  go_wp2_with fail
  refine wp_loop_rounds 2 ?_
  rw [rounds_succ]
  go_wp2_with fail
  refine wp_loop_rounds 2 ?_
  rw [rounds_succ]
  go_wp2_with fail
  rw [show (.slice (some ⟨g, 0, none⟩) xs.length cap : Value) = .slice (some ⟨g, 0, none⟩) l2.length cap from by rw [HL2.out]]
  refine (symW_int 40 _ _ _ 0 20 40 g cap rest gf vs eg P cf w0 HF.out l2 _ rfl (by simp) rfl HY4.out (by have := HL2.out; have := HN.out; omega) (by have := HL2.out; have := HN.out; omega) (by omega) (by omega) (by have := HL2.out; have := HN.out; omega) HM2.out (Go.Proofs.YtlfbdcobpfainaaSrt.Ok.trans HOO.out HO4.out) (by omega)).mono ?_
  rintro e w3 ⟨rfl, hr3, ho3⟩
  have HY3 := Aside0.mk hr3
  have HO3 := Aside0.mk (Go.Proofs.YtlfbdcobpfainaaSrt.Ok.trans HO4.out ho3)
  clear hr3 ho3
  rw [HL2.out]
  go_wp2_with fail
  rw [rounds_succ]
  go_wp2_with fail
  rw [rounds_succ]
  go_wp2_with fail
  go_end0
  exact ⟨rfl, by unfold Go.Proofs.YtlfbdcobpfainaaSrt.stab; rw [if_neg (by have := HN.out; omega), ← HE1.out, HN.out, ← HE2.out]; exact HY3.out, HO3.out⟩
set_option maxHeartbeats 1600000 in
set_option maxRecDepth 100000 in
theorem sortStable_int (g cap : Nat) (rest : List Value) (gf : FuncId) (vs : Array Value) (eg : ∀ (args : Array Value) (W : World), (callFunc gf args).run Try.prog W = .ok (.enter gf args) W) (P : Int → Prop) (cf : Int → Int → Int) (w0 : World) (hf : ∀ (x y : Int) (W : World), P x → P y → Go.Proofs.YtlfbdcobpfainaaSrt.Ok g w0 W → Calls Try.prog gf (#[.int .i64 x, .int .i64 y] ++ vs) W fun e W' => e = .returned (.int .i64 (cf x y)) ∧ Below W.heap.size W W') (xs : List Int) (w : World) (hR : Go.Proofs.YtlfbdcobpfainaaSrt.Row 3 enc_int g rest xs w) (hcap : xs.length ≤ cap) (hsm : xs.length ≤ 40) (hP : ∀ x ∈ xs, P x) (hO : Go.Proofs.YtlfbdcobpfainaaSrt.Ok g w0 w) :
    Calls Try.prog 65 #[.slice (some ⟨g, 0, none⟩) xs.length cap, .func (.func gf) #[] vs] w fun e w' => e = .returned (.tuple #[]) ∧ Go.Proofs.YtlfbdcobpfainaaSrt.Row 3 enc_int g rest (Go.Proofs.YtlfbdcobpfainaaSrt.stab (fun x y => decide (cf x y < 0)) (0 : Int) xs) (w') ∧ Go.Proofs.YtlfbdcobpfainaaSrt.Ok g w w' := by
  have hst : Calls Try.prog 86 #[.slice (some ⟨g, 0, none⟩) xs.length cap, .int .i64 xs.length, .func (.func gf) #[] vs] w fun e w' => e = .returned (.tuple #[]) ∧ Go.Proofs.YtlfbdcobpfainaaSrt.Row 3 enc_int g rest (Go.Proofs.YtlfbdcobpfainaaSrt.stab (fun x y => decide (cf x y < 0)) (0 : Int) xs) (w') ∧ Go.Proofs.YtlfbdcobpfainaaSrt.Ok g w w' := by
    rcases Nat.lt_trichotomy xs.length 20 with c | c | c
    · exact stableLo_int g cap rest gf vs eg P cf w0 hf xs w hR hcap hsm hP hO c
    · exact stableAt_int g cap rest gf vs eg P cf w0 hf xs w hR hcap hsm hP hO c
    · rcases Nat.lt_or_ge xs.length 40 with c2 | c2
      · exact stableMid_int g cap rest gf vs eg P cf w0 hf xs w hR hcap hsm hP hO c c2
      · exact stableTop_int g cap rest gf vs eg P cf w0 hf xs w hR hcap hsm hP hO (by omega)
  have HST := Aside0.mk hst
  clear hst hf hR hP hO
  go_enter Try.func65, Try.ntmps65
  go_wp2_with fail
  refine HST.out.mono ?_
  rintro e w1 ⟨rfl, hr, ho⟩
  have HR1 := Aside0.mk hr
  have HO1 := Aside0.mk ho
  clear hr ho
  go_wp2_with fail
  go_end0
  exact ⟨rfl, HR1.out, HO1.out⟩
def byQ (am sum : Int) (l : List Int) : List Int := l.map fun w => am * w / sum
def byC (am sum : Int) (l : List Int) (a b : Int) : Int := am * rd l b % sum - am * rd l a % sum
def upTo (n : Nat) : List Int := (List.range n).map fun i : Nat => (i : Int)
def byOrd (am sum : Int) (l : List Int) : List Int := Go.Proofs.YtlfbdcobpfainaaSrt.stab (fun x y => decide (byC am sum l x y < 0)) 0 (upTo l.length)
def bump : List Int → List Int → List Int
  | [], o => o
  | i :: r, o => bump r (o.set i.toNat (o.getD i.toNat 0 + 1))
def byL (am sum : Int) (l : List Int) : List Int := bump ((byOrd am sum l).take (am - (byQ am sum l).sum).toNat) (byQ am sum l)
def byR (amount : Int) (l : List Int) : List Int × Int :=
  if (weightsR l).2 ≠ 0 then ([], (weightsR l).2) else if amount < -1000000000000 ∨ 1000000000000 < amount then ([], 1) else if (weightsR l).1 = 0 then ([], 6) else
  if amount < 0 then ((byL (-amount) (weightsR l).1 l).map fun x => x * -1, 0) else ((byL amount (weightsR l).1 l).map fun x => x * 1, 0)
def split_By.f (amount : Int) (l : List Int) : Option (List Int × Int) := some (byR amount l)
theorem byQ_mem {am sum x : Int} (h0 : 0 ≤ am) (hs : 0 < sum) (hx : 0 ≤ x) (hxs : x ≤ sum) : 0 ≤ am * x / sum ∧ am * x / sum ≤ am ∧ sum * (am * x / sum) ≤ am * x ∧ am * x ≤ sum * (am * x / sum) + (sum - 1) := by
  have h1 : 0 ≤ am * x := Int.mul_nonneg h0 hx
  have h2 := Int.mul_ediv_add_emod (am * x) sum
  have h3 := Int.emod_nonneg (am * x) (show sum ≠ 0 by omega)
  have h4 := Int.emod_lt_of_pos (am * x) hs
  refine ⟨Int.ediv_nonneg h1 (by omega), ?_, by omega, by omega⟩
  have h5 : am * x ≤ am * sum := Int.mul_le_mul_of_nonneg_left hxs h0
  have h6 := Int.ediv_le_ediv hs h5
  rwa [Int.mul_ediv_cancel _ (by omega)] at h6
theorem sum_le_of_mem : ∀ {l : List Int} {x : Int}, (∀ y ∈ l, 0 ≤ y) → x ∈ l → x ≤ l.sum
  | [], _, _, hx => absurd hx (by simp)
  | y :: r, x, h, hx => by
    have h0 : 0 ≤ r.sum := sum_nonneg' (fun z hz => h z (by simp [hz]))
    rw [List.sum_cons]
    rcases List.mem_cons.1 hx with rfl | hx
    · omega
    · have := sum_le_of_mem (fun z hz => h z (by simp [hz])) hx
      have := h y (by simp)
      omega
where
  sum_nonneg' : ∀ {o : List Int}, (∀ y ∈ o, 0 ≤ y) → 0 ≤ o.sum
  | [], _ => by simp
  | x :: r, h => by
    have h1 := h x (by simp)
    have h2 := sum_nonneg' (o := r) (fun y hy => h y (by simp [hy]))
    rw [List.sum_cons]; omega
theorem byQ_sum {am sum : Int} (h0 : 0 ≤ am) (hs : 0 < sum) : ∀ {l : List Int}, (∀ x ∈ l, 0 ≤ x ∧ x ≤ sum) → 0 ≤ (byQ am sum l).sum ∧ sum * (byQ am sum l).sum ≤ am * l.sum ∧ am * l.sum ≤ sum * (byQ am sum l).sum + (sum - 1) * (l.length : Int)
  | [], _ => by simp [byQ]
  | x :: r, h => by
    obtain ⟨a1, a2, a3⟩ := byQ_sum h0 hs (l := r) (fun y hy => h y (by simp [hy]))
    obtain ⟨b1, b2, b3, b4⟩ := byQ_mem h0 hs (h x (by simp)).1 (h x (by simp)).2
    have e : (byQ am sum (x :: r)).sum = am * x / sum + (byQ am sum r).sum := by simp [byQ]
    rw [e, List.sum_cons, Int.mul_add, Int.mul_add, List.length_cons]
    have e2 : (sum - 1) * ((r.length + 1 : Nat) : Int) = (sum - 1) * (r.length : Int) + (sum - 1) := by push_cast; rw [Int.mul_add, Int.mul_one]
    rw [e2]
    exact ⟨by omega, by omega, by omega⟩
theorem byQ_left {am sum : Int} {l : List Int} (h0 : 0 ≤ am) (hs : 0 < sum) (hl : sum = l.sum) (h : ∀ x ∈ l, 0 ≤ x ∧ x ≤ sum) : 0 ≤ am - (byQ am sum l).sum ∧ am - (byQ am sum l).sum ≤ (l.length : Int) := by
  obtain ⟨a1, a2, a3⟩ := byQ_sum h0 hs h
  rw [← hl] at a2 a3
  constructor
  · have : sum * (byQ am sum l).sum ≤ sum * am := by rw [Int.mul_comm sum am]; exact a2
    have := Int.le_of_mul_le_mul_left this hs
    omega
  · have e1 : (sum - 1) * (l.length : Int) = sum * (l.length : Int) - (l.length : Int) := by rw [Int.sub_mul, Int.one_mul]
    have e2 : sum * am ≤ sum * ((byQ am sum l).sum + (l.length : Int)) := by rw [Int.mul_add, Int.mul_comm sum am]; omega
    have := Int.le_of_mul_le_mul_left e2 hs
    omega
theorem byQ_part {am sum : Int} {l : List Int} (h0 : 0 ≤ am) (hs : 0 < sum) (hl : sum = l.sum) (h : ∀ x ∈ l, 0 ≤ x ∧ x ≤ sum) (i : Nat) : 0 ≤ ((byQ am sum l).take i).sum ∧ ((byQ am sum l).take i).sum ≤ am := by
  have e : (byQ am sum l).take i = byQ am sum (l.take i) := by unfold byQ; rw [List.map_take]
  rw [e]
  obtain ⟨a1, a2, _⟩ := byQ_sum h0 hs (l := l.take i) (fun x hx => h x (List.mem_of_mem_take hx))
  refine ⟨a1, ?_⟩
  have h1 : (l.take i).sum ≤ sum := by
    have h2 : l.sum = (l.take i).sum + (l.drop i).sum := by rw [← List.sum_append, List.take_append_drop]
    have h3 : 0 ≤ (l.drop i).sum := sum_le_of_mem.sum_nonneg' (fun y hy => (h y (List.mem_of_mem_drop hy)).1)
    omega
  have h4 : am * (l.take i).sum ≤ am * sum := Int.mul_le_mul_of_nonneg_left h1 h0
  have h5 : sum * (byQ am sum (l.take i)).sum ≤ sum * am := by rw [Int.mul_comm sum am]; omega
  exact Int.le_of_mul_le_mul_left h5 hs
theorem sum_take_succ (q : List Int) {i : Nat} (h : i < q.length) : (q.take (i + 1)).sum = (q.take i).sum + q[i] := by rw [List.take_succ_eq_append_getElem h, List.sum_append]; simp
theorem take_set_drop (q b : List Int) {i n : Nat} (hq : q.length = n) (hb : b.length = n) (hi : i < n) : (q.take i ++ b.drop i).set i (q[i]'(by omega)) = q.take (i + 1) ++ b.drop (i + 1) := by
  rw [List.set_append, if_neg (by simp; omega), List.length_take, Nat.min_eq_left (by omega), Nat.sub_self, List.drop_eq_getElem_cons (by omega), List.set_cons_zero, List.take_succ_eq_append_getElem (by omega), List.append_assoc]
  rfl
theorem byQ_bd {am sum : Int} {l : List Int} (h0 : 0 ≤ am) (hs : 0 < sum) (h : ∀ x ∈ l, 0 ≤ x ∧ x ≤ sum) : ∀ x ∈ byQ am sum l, 0 ≤ x ∧ x ≤ am := by
  intro x hx
  obtain ⟨y, hy, rfl⟩ := List.mem_map.1 hx
  obtain ⟨a, b, _⟩ := byQ_mem h0 hs (h y hy).1 (h y hy).2
  exact ⟨a, b⟩
theorem sum_bd : ∀ {l : List Int}, (∀ x ∈ l, 0 ≤ x ∧ x ≤ 1000000) → l.sum ≤ 1000000 * (l.length : Int)
  | [], _ => by simp
  | x :: r, h => by
    have h1 := h x (by simp)
    have h2 := sum_bd (l := r) (fun y hy => h y (by simp [hy]))
    rw [List.sum_cons, List.length_cons]; push_cast; omega
theorem take_set_rep {α : Type} (q : List α) (z : α) {i n : Nat} (hq : q.length = n) (hi : i < n) : (q.take i ++ List.replicate (n - i) z).set i (q[i]'(by omega)) = q.take (i + 1) ++ List.replicate (n - (i + 1)) z := by
  rw [List.set_append, if_neg (by simp; omega), List.length_take, Nat.min_eq_left (by omega), Nat.sub_self, show n - i = (n - (i + 1)) + 1 by omega, List.replicate_succ, List.set_cons_zero, List.take_succ_eq_append_getElem (by omega), List.append_assoc]
  rfl
theorem upTo_length (n : Nat) : (upTo n).length = n := by simp [upTo]
theorem upTo_get {n i : Nat} (h : i < n) : (upTo n)[i]'(by rw [upTo_length]; exact h) = (i : Int) := by simp [upTo]
theorem byQ_length (am sum : Int) (l : List Int) : (byQ am sum l).length = l.length := by simp [byQ]
theorem byQ_get {am sum : Int} {l : List Int} {i : Nat} (h : i < l.length) : (byQ am sum l)[i]'(by rw [byQ_length]; exact h) = am * rd l (i : Int) / sum := by simp [byQ, rd, List.getD_eq_getElem?_getD, h]
theorem ord_mem {am sum : Int} {l : List Int} {x : Int} (h : x ∈ byOrd am sum l) : 0 ≤ x ∧ x < (l.length : Int) := by
  have h2 := (Go.Proofs.YtlfbdcobpfainaaSrt.stab_perm _).mem_iff.1 h
  simp only [upTo, List.mem_map, List.mem_range] at h2
  obtain ⟨i, hi, rfl⟩ := h2
  omega
theorem flat_int (xs : List Int) : xs.flatMap enc_int = xs.map (Value.int .i64) := by
  induction xs with
  | nil => rfl
  | cons x r ih => rw [List.flatMap_cons, ih]; rfl
theorem row_ints {g base n : Nat} {w : World} {xs : List Int} (hb : base ≤ g) (h : Go.Proofs.YtlfbdcobpfainaaSrt.Row 3 enc_int g [] xs w) (hn : xs.length = n) (hm : n ≤ 1000) : Kd.R (Kd.int .i64) 3 w base (fun _ => True) (.slice (some ⟨g, 0, none⟩) n n) xs := by
  subst hn
  have h' : w.heap[g]? = some (.cells (xs.map (Value.int .i64)).toArray 3 (0, 0)) := by
    have := h
    unfold Go.Proofs.YtlfbdcobpfainaaSrt.Row at this
    rwa [flat_int, List.append_nil] at this
  refine YtlfbdcobpfainaaH.row_R (d := Kd.int .i64) hb h' (Nat.le_refl _) (by unfold maxLen; omega) (by show (xs.map _).length = xs.length * 1; simp) trivial ?_
  show Reps _ 1 xs ((xs.map (Value.int .i64)).take (xs.length * 1))
  rw [Nat.mul_one, List.take_of_length_le (by simp)]
  refine ⟨by simp, fun j p hj => ?_⟩
  show ((xs.map (Value.int .i64)).drop (j * 1)).take 1 = [.int .i64 p]
  rw [Nat.mul_one]
  have hl := (List.getElem?_eq_some_iff.1 hj).1
  rw [List.drop_eq_getElem_cons (by simpa using hl)]
  have he := (List.getElem?_eq_some_iff.1 hj).2
  simp [he]
theorem eg_66 : ∀ (args : Array Value) (W : World), (callFunc 66 args).run Try.prog W = .ok (.enter 66 args) W := fun args W => by simp [callFunc, Try.func66]; rfl
theorem tmod_bd {x s : Int} (hs : 0 < s) (hs1 : s ≤ 40000000) (hx : 0 ≤ x) : Int.tmod x s = x % s ∧ 0 ≤ x % s ∧ x % s ≤ 40000000 := by
  have h1 := Int.emod_nonneg x (show s ≠ 0 by omega)
  have h2 := Int.emod_lt_of_pos x hs
  exact ⟨Int.tmod_eq_emod_of_nonneg hx, h1, by omega⟩
set_option maxHeartbeats 1600000 in
set_option maxRecDepth 100000 in
theorem split_By.clos (a b am sum : Int) (B : Nat) (A0 : Option Addr) (c0 : Nat) (l : List Int) (W : World) (k0 : W.cell? ⟨B, 0, none⟩ = some (.int .i64 am)) (k1 : W.cell? ⟨B + 1, 0, none⟩ = some (.slice A0 l.length c0)) (k2 : W.cell? ⟨B + 2, 0, none⟩ = some (.int .i64 sum)) (hl : Kd.C (Kd.int .i64) W A0 l.length l)
    (ha : 0 ≤ a ∧ a < (l.length : Int)) (hb : 0 ≤ b ∧ b < (l.length : Int)) (h0 : 0 ≤ am) (h1 : am ≤ 1000000000000) (hs : 0 < sum) (hs1 : sum ≤ 40000000) (hx : ∀ x ∈ l, 0 ≤ x ∧ x ≤ 1000000) :
    Calls Try.prog 66 (#[.int .i64 a, .int .i64 b] ++ #[.pointer (some ⟨B, 0, none⟩), .pointer (some ⟨B + 1, 0, none⟩), .pointer (some ⟨B + 2, 0, none⟩)]) W fun e W' => e = .returned (.int .i64 (byC am sum l a b)) ∧ Below W.heap.size W W' := by
  have hu := Try.underlying24
  obtain ⟨ad, hA, cb⟩ := Kd.at_int hl b hb.1 hb.2
  obtain ⟨ad2, hA2, ca⟩ := Kd.at_int hl a ha.1 ha.2
  subst hA
  obtain rfl := Option.some.inj hA2
  have hrd : ∀ i : Int, 0 ≤ i → i < (l.length : Int) → 0 ≤ rd l i ∧ rd l i ≤ 1000000 := by
    intro i i0 i1
    have hlt : i.toNat < l.length := by omega
    have : rd l i = l[i.toNat] := by simp [rd, List.getD_eq_getElem?_getD, hlt]
    rw [this]
    exact hx _ (List.getElem_mem hlt)
  obtain ⟨xa, hxa⟩ : ∃ x, x = rd l a := ⟨_, rfl⟩
  obtain ⟨xb, hxb⟩ : ∃ x, x = rd l b := ⟨_, rfl⟩
  have hra := hrd a ha.1 ha.2
  have hrb := hrd b hb.1 hb.2
  rw [← hxa] at ca hra
  rw [← hxb] at cb hrb
  have HE := Aside0.mk (show byC am sum l a b = am * xb % sum - am * xa % sum by unfold byC; rw [hxa, hxb])
  have ma : 0 ≤ am * xa := Int.mul_nonneg h0 hra.1
  have mb : 0 ≤ am * xb := Int.mul_nonneg h0 hrb.1
  have na : am * xa ≤ 1000000000000 * 1000000 := Int.mul_le_mul h1 hra.2 hra.1 (by omega)
  have nb : am * xb ≤ 1000000000000 * 1000000 := Int.mul_le_mul h1 hrb.2 hrb.1 (by omega)
  obtain ⟨ta1, ta2, ta3⟩ := tmod_bd hs hs1 ma
  obtain ⟨tb1, tb2, tb3⟩ := tmod_bd hs hs1 mb
  obtain ⟨pa, hpa⟩ : ∃ x, x = am * xa := ⟨_, rfl⟩
  obtain ⟨pb, hpb⟩ : ∃ x, x = am * xb := ⟨_, rfl⟩
  rw [← hpa] at ma na ta1 ta2 ta3 HE
  rw [← hpb] at mb nb tb1 tb2 tb3 HE
  obtain ⟨ra, hra2⟩ : ∃ x, x = pa % sum := ⟨_, rfl⟩
  obtain ⟨rb, hrb2⟩ : ∃ x, x = pb % sum := ⟨_, rfl⟩
  rw [← hra2] at ta1 ta2 ta3 HE
  rw [← hrb2] at tb1 tb2 tb3 HE
  have v1 : IntKind.i64.wrap (am * xa) = pa := by rw [IntKind.wrap_i64]; omega
  have v2 : IntKind.i64.wrap (am * xb) = pb := by rw [IntKind.wrap_i64]; omega
  have v3 : IntKind.i64.wrap ra = ra := by rw [IntKind.wrap_i64]; omega
  have v4 : IntKind.i64.wrap rb = rb := by rw [IntKind.wrap_i64]; omega
  have v5 : IntKind.i64.wrap (rb - ra) = rb - ra := by rw [IntKind.wrap_i64]; omega
  have hs0 : (sum == 0) = false := beq_eq_false_iff_ne.2 (by omega)
  obtain ⟨ha0, ha1⟩ := ha
  obtain ⟨hb0, hb1⟩ := hb
  have e1 : pa % sum = ra := hra2.symm
  have e2 : pb % sum = rb := hrb2.symm
  clear hrd hxa hxb hx hl hpa hpb hra2 hrb2 hA2
  go_enter Try.func66, Try.ntmps66
  go_wp2_with fail
  go_quiet (fail)
  go_wp2_with fail
  go_ret
  exact ⟨by rw [HE.out]; rfl, by repeat (first | exact Below.refl _ _ | apply below_alloc | apply pw_below_drewN | apply below_drew1)⟩
def byBase (B : Nat) (am sum : Int) (A0 : Option Addr) (n c0 : Nat) (W : World) : Prop := W.heap[B]? = some (.cells #[.int .i64 am] 3 (0, 0)) ∧ W.heap[B + 1]? = some (.cells #[.slice A0 n c0] 24 (0, 0)) ∧ W.heap[B + 1 + 1]? = some (.cells #[.int .i64 sum] 3 (0, 0))
theorem byBase.step {B : Nat} {am sum : Int} {A0 : Option Addr} {n c0 : Nat} {W W' : World} (h : byBase B am sum A0 n c0 W) (hk : ∀ i, i < B + 3 → W'.heap[i]? = W.heap[i]?) : byBase B am sum A0 n c0 W' :=
  ⟨(hk _ (by omega)).trans h.1, (hk _ (by omega)).trans h.2.1, (hk _ (by omega)).trans h.2.2⟩
theorem byBase.cells {B : Nat} {am sum : Int} {A0 : Option Addr} {n c0 : Nat} {W : World} (h : byBase B am sum A0 n c0 W) : W.cell? ⟨B, 0, none⟩ = some (.int .i64 am) ∧ W.cell? ⟨B + 1, 0, none⟩ = some (.slice A0 n c0) ∧ W.cell? ⟨B + 1 + 1, 0, none⟩ = some (.int .i64 sum) :=
  ⟨(blk_cell h.1 0).trans rfl, (blk_cell h.2.1 0).trans rfl, (blk_cell h.2.2 0).trans rfl⟩
theorem byBase.made (w : World) (am sum : Int) (A0 : Option Addr) (n c0 nd k : Nat) : byBase w.heap.size am sum A0 n c0 (((((w.alloc (.cells #[.int .i64 am] 3)).alloc (.cells #[.slice A0 n c0] 24)).drewN nd).alloc (.cells #[.int .i64 sum] 3)).drewN k) := by
  have e : ∀ (W : World) (j : Nat), (W.drewN j).heap = W.heap := fun W j => rfl
  refine ⟨?_, ?_, ?_⟩
  · rw [e, Below.heap_alloc _ _ _ (by rw [e]; simp; omega), e, Below.heap_alloc _ _ _ (by simp)]
    exact heap_alloc_new _ _
  · rw [e, Below.heap_alloc _ _ _ (by rw [e]; simp), e]
    have := heap_alloc_new (w.alloc (.cells #[.int .i64 am] 3)) (.cells #[.slice A0 n c0] 24)
    rwa [show (w.alloc (.cells #[.int .i64 am] 3)).heap.size = w.heap.size + 1 by simp] at this
  · rw [e]
    have := heap_alloc_new (((w.alloc (.cells #[.int .i64 am] 3)).alloc (.cells #[.slice A0 n c0] 24)).drewN nd) (.cells #[.int .i64 sum] 3)
    rwa [e, show ((w.alloc (.cells #[.int .i64 am] 3)).alloc (.cells #[.slice A0 n c0] 24)).heap.size = w.heap.size + 1 + 1 by simp] at this
theorem byBase.turn {B : Nat} {am sum : Int} {A0 : Option Addr} {n c0 : Nat} {W : World} (h : byBase B am sum A0 n c0 W) (am' : Int) : byBase B am' sum A0 n c0 (W.setCell ⟨B, 0, none⟩ (.int .i64 am')) :=
  ⟨blk_put h.1 0 _ rfl, (Below.heap_setCell _ _ _ _ (by show B + 1 ≠ B; omega)).trans h.2.1, (Below.heap_setCell _ _ _ _ (by show B + 1 + 1 ≠ B; omega)).trans h.2.2⟩
theorem byBase.far {B : Nat} {am sum : Int} {A0 : Option Addr} {n c0 : Nat} {W : World} (h : byBase B am sum A0 n c0 W) {p : Addr} (hp : B + 1 + 1 < p.block) (v : Value) : byBase B am sum A0 n c0 (W.setCell p v) := h.step (fun i hi => Below.heap_setCell _ _ _ _ (by omega))
set_option maxHeartbeats 3200000 in
set_option maxRecDepth 100000 in
theorem split_By.calls (amount : Int) (A0 : Option Addr) (c0 : Nat) (l0 : List Int) (r1 : List Int) (r2 : Int) (w : World) (hr0 : Kd.C (Kd.int .i64) w A0 l0.length l0) (hc0 : l0.length ≤ c0) (h : split_By.f amount l0 = some (r1, r2)) :
    Calls Try.prog 30 #[.int .i64 amount, .slice A0 l0.length c0] w fun e w' => ∃ v0_ : Value, e = .returned (.tuple #[v0_, .int .i64 r2]) ∧ Kd.R (Kd.int .i64) 3 w' w.heap.size (fun _ => True) v0_ r1 ∧ Below w.heap.size w w' := by
  have HR := Aside0.mk hr0
  have hu := Try.underlying24
  obtain ⟨⟨sum, e⟩, hw⟩ : ∃ z, z = weightsR l0 := ⟨_, rfl⟩
  have HW := Aside0.mk (show split_weightsT.f l0 = some (sum, e) by unfold split_weightsT.f; rw [hw])
  have hh : byR amount l0 = (r1, r2) := Option.some.inj h
  unfold byR at hh
  rw [← hw] at hh
  have HWR := Aside0.mk hw
  clear h hr0 hw
  by_cases he : e = 0
  · subst he
    rw [if_neg (by simp)] at hh
    by_cases hm : amount < -1000000000000 ∨ 1000000000000 < amount
    · rw [if_pos hm] at hh
      obtain ⟨rfl, rfl⟩ : [] = r1 ∧ 1 = r2 := by simpa using hh
      have HMO := Aside0.mk (show split_Money.f amount = some false by unfold split_Money.f; by_cases q : amount ≥ (-1000000000000) <;> simp [q] <;> omega)
      clear hh hm
      go_enter Try.func30, Try.ntmps30
      go_wp2_with (first | (go_at_call 63; (with_reducible refine (split_weightsT.calls A0 c0 l0 sum 0 _ ?side1 hc0 HW.out).mono ?_); (case side1 => exact Kd.C_below HR.out (below_alloc (below_alloc (Below.refl _ _) _) _)); rintro e w1 ⟨rfl, ⟨nd, rfl⟩⟩) | (go_at_call 64; (with_reducible refine (split_Money.calls amount false _ HMO.out).mono ?_); rintro e w1 ⟨rfl, ⟨nd2, rfl⟩⟩))
      refine bodyPost_ret (results_tmp2 rfl _ _ _) rfl ?_
      exact ⟨_, rfl, Kd.R_nil _ _ _ _ _, by repeat (first | exact Below.refl _ _ | apply below_alloc | apply pw_below_drewN | apply below_drew1)⟩
    · rw [if_neg hm] at hh
      by_cases hs : sum = 0
      · rw [if_pos hs] at hh
        obtain ⟨rfl, rfl⟩ : [] = r1 ∧ 6 = r2 := by simpa using hh
        have HMO := Aside0.mk (show split_Money.f amount = some true by unfold split_Money.f; rw [if_pos (by omega), decide_eq_true (by omega)])
        subst hs
        clear hh hm
        go_enter Try.func30, Try.ntmps30
        go_wp2_with (first | (go_at_call 63; (with_reducible refine (split_weightsT.calls A0 c0 l0 0 0 _ ?side1 hc0 HW.out).mono ?_); (case side1 => exact Kd.C_below HR.out (below_alloc (below_alloc (Below.refl _ _) _) _)); rintro e w1 ⟨rfl, ⟨nd, rfl⟩⟩) | (go_at_call 64; (with_reducible refine (split_Money.calls amount true _ HMO.out).mono ?_); rintro e w1 ⟨rfl, ⟨nd2, rfl⟩⟩))
        refine bodyPost_ret (results_tmp2 rfl _ _ _) rfl ?_
        exact ⟨_, rfl, Kd.R_nil _ _ _ _ _, by repeat (first | exact Below.refl _ _ | apply below_alloc | apply pw_below_drewN | apply below_drew1)⟩
      · rw [if_neg hs] at hh
        obtain ⟨l40, lmem, lsum⟩ := weightsR_ok HWR.out.symm
        have hsn : 0 ≤ l0.sum := sum_le_of_mem.sum_nonneg' (fun y hy => (lmem y hy).1)
        have HMO := Aside0.mk (show split_Money.f amount = some true by unfold split_Money.f; rw [if_pos (by omega), decide_eq_true (by omega)])
        have hs0 : (sum == 0) = false := beq_eq_false_iff_ne.2 hs
        have hsp : 0 < sum := by omega
        have HLS := Aside0.mk lsum
        have HLM := Aside0.mk lmem
        have HH := Aside0.mk hh
        have hmny : -1000000000000 ≤ amount ∧ amount ≤ 1000000000000 := by omega
        have HMN := Aside0.mk hmny
        obtain ⟨n, hn⟩ : ∃ n, n = l0.length := ⟨_, rfl⟩
        have HN := Aside0.mk hn
        obtain ⟨Z, hZ⟩ : ∃ Z : Array Value, Z = ((List.replicate n (0 : Int)).flatMap enc_int).toArray := ⟨_, rfl⟩
        have hmk : ∀ W : World, (Instr.makeSlice 24 (.int .i64 (l0.length : Int)) (.int .i64 (l0.length : Int))).run Try.prog W = .ok (.slice (some ⟨W.heap.size, 0, none⟩) n n) (W.alloc (.cells Z 3)) := by
          intro W
          obtain ⟨i0, hi, hz0, hz1, hz2⟩ := info_parts (show (Try.prog.info? 3).map (fun i => (i.zero, i.size, i.bytes)) = some (some (.int .i64 0), 1, 8) from by kernel_rfl)
          have := run_make (P := Try.prog) W 24 3 i0 (.int .i64 0) hu hi hz0 .i64 .i64 (l0.length : Int) (l0.length : Int) (by omega) (by omega) (by rw [hz2]; omega) (by omega)
          rw [this, hn]
          have e : madeCells (Value.cells (.int .i64 0)) ((l0.length : Int).toNat * i0.size) = Z := by
            rw [hZ, hz1, Int.toNat_natCast, Nat.mul_one]
            apply Array.toList_inj.1
            rw [show Value.cells (.int .i64 0) = #[.int .i64 0] from rfl, toList_madeCells_one, flat_int, hn]
            simp
          rw [e, Int.toNat_natCast]
        have HZ := Aside0.mk hZ
        clear hs lsum lmem hsn hh hmny hm hn hZ
        go_enter Try.func30, Try.ntmps30
        go_upto_if 34 with (first | (go_at_call 63; (with_reducible refine (split_weightsT.calls A0 c0 l0 sum 0 _ ?side1 hc0 HW.out).mono ?_); (case side1 => exact Kd.C_below HR.out (below_alloc (below_alloc (Below.refl _ _) _) _)); rintro e w1 ⟨rfl, ⟨nd, rfl⟩⟩) | (go_at_call 64; (with_reducible refine (split_Money.calls amount true _ HMO.out).mono ?_); rintro e w1 ⟨rfl, ⟨nd2, rfl⟩⟩))
        go_cut [8] (fun v8 wc => ∃ (sg am : Int), v8 = .int .i64 sg ∧ Aside0 ((sg = 1 ∧ ¬ amount < 0 ∧ am = amount) ∨ (sg = -1 ∧ amount < 0 ∧ am = -amount)) ∧ Aside0 (byBase w.heap.size am sum A0 l0.length c0 wc) ∧ Aside0 (Below w.heap.size w wc))
        case first =>
          by_cases hneg : amount < 0
          · have d1 : decide (amount < 0) = true := decide_eq_true hneg
            have v1 : IntKind.i64.wrap (-amount) = -amount := by have := HMN.out; rw [IntKind.wrap_i64]; omega
            go_wp2_with fail
            go_region
            go_wp2_with fail
            go_meet
            case rel => exact ⟨-1, -amount, rfl, ⟨Or.inr ⟨rfl, hneg, rfl⟩⟩, ⟨(byBase.made w amount sum A0 l0.length c0 nd (nd2 + 1)).turn (-amount)⟩, ⟨(pw_below_drewN (below_alloc (pw_below_drewN (below_alloc (below_alloc (Below.refl _ _) _) _) _) _) _).setCell (p := ⟨w.heap.size, 0, none⟩) (Nat.le_refl _) _⟩⟩
          · have d1 : decide (amount < 0) = false := decide_eq_false hneg
            go_wp2_with fail
            go_meet
            case rel => exact ⟨1, amount, rfl, ⟨Or.inl ⟨rfl, hneg, rfl⟩⟩, ⟨byBase.made w amount sum A0 l0.length c0 nd nd2⟩, ⟨pw_below_drewN (below_alloc (pw_below_drewN (below_alloc (below_alloc (Below.refl _ _) _) _) _) _) _⟩⟩
        case rest =>
          obtain ⟨sg, am, rfl, HSG, HG, HB⟩ := hcut
          have ham : 0 ≤ am ∧ am ≤ 1000000000000 := by have := HSG.out; have := HMN.out; omega
          obtain ⟨am0, am1⟩ := ham
          have hBs : w.heap.size + 1 + 1 < wc.heap.size := blk_lt HG.out.2.2
          obtain ⟨b0, b1, b2⟩ := HG.out.cells
          have b4 : ∀ o : Obj, (wc.alloc o).cell? ⟨w.heap.size + 1, 0, none⟩ = some (.slice A0 l0.length c0) := fun o => YtlfbdcobpfainaaH.old_cell b1 o
          have b5 : ∀ o o' : Obj, ((wc.alloc o).alloc o').cell? ⟨w.heap.size + 1, 0, none⟩ = some (.slice A0 l0.length c0) := fun o o' => YtlfbdcobpfainaaH.old_cell (YtlfbdcobpfainaaH.old_cell b1 o) o'
          have b6 : ∀ o o' : Obj, ((wc.alloc o).alloc o').cell? ⟨w.heap.size, 0, none⟩ = some (.int .i64 am) := fun o o' => YtlfbdcobpfainaaH.old_cell (YtlfbdcobpfainaaH.old_cell b0 o) o'
          go_wp2_with fail
          clear b0 b1 b2 b4 b5 b6
          have HM2 := Aside0.mk (show ∀ x ∈ l0, 0 ≤ x ∧ x ≤ sum from fun x hx => ⟨(HLM.out x hx).1, by rw [HLS.out]; exact sum_le_of_mem (fun y hy => (HLM.out y hy).1) hx⟩)
          have HLQ := Aside0.mk (byQ_left am0 hsp HLS.out HM2.out)
          go_loopw [11, 46] (fun sl si wr => ∃ (i : Nat) (ii lf : Int) (os ds : List Int), sl = .int .i64 lf ∧ si = .int .i64 ii ∧ Aside0 (ii = i) ∧ i ≤ n ∧ Aside0 (lf = am - ((byQ am sum l0).take i).sum) ∧ Aside0 (os = (byQ am sum l0).take i ++ List.replicate (n - i) 0) ∧ Aside0 (ds = (upTo n).take i ++ List.replicate (n - i) 0) ∧ Aside0 (Go.Proofs.YtlfbdcobpfainaaSrt.Row 3 enc_int wc.heap.size [] os wr) ∧ Aside0 (Go.Proofs.YtlfbdcobpfainaaSrt.Row 3 enc_int (wc.heap.size + 1) [] ds wr) ∧ Aside0 (byBase w.heap.size am sum A0 l0.length c0 wr) ∧ Aside0 (Below w.heap.size w wr)) (fun _ si _ => n - (intOf si).toNat)
          case atStart =>
            refine ⟨0, 0, am, _, _, rfl, rfl, ⟨rfl⟩, Nat.zero_le _, ⟨by simp⟩, ⟨rfl⟩, ⟨rfl⟩, ⟨?_⟩, ⟨?_⟩, ⟨HG.out.step (fun i hi => ?_)⟩, ⟨below_alloc (below_alloc HB.out _) _⟩⟩
            · show ((wc.alloc _).alloc _).heap[_]? = _
              rw [Below.heap_alloc _ _ _ (by simp), heap_alloc_new, HZ.out]
              simp
            · have := heap_alloc_new (wc.alloc (.cells Z 3)) (.cells Z 3)
              rw [show (wc.alloc (.cells Z 3)).heap.size = wc.heap.size + 1 by simp] at this
              show ((wc.alloc _).alloc _).heap[_]? = _
              rw [this, HZ.out]
              simp
            · rw [Below.heap_alloc _ _ _ (by simp; omega), Below.heap_alloc _ _ _ (by omega)]
          case round =>
            obtain ⟨i, ii, lf, os, ds, rfl, rfl, HI, hin, HLF, HOS, HDS, HY1, HY2, HGR, HBR⟩ := hrel
            have hi := HI.out
            have hn := HN.out
            by_cases hlt : i < n
            · have q0 : 0 ≤ ii := by omega
              have q1 : ii < (l0.length : Int) := by omega
              have d2 : decide (ii < (l0.length : Int)) = true := decide_eq_true q1
              have v1 : IntKind.i64.wrap (ii + 1) = ii + 1 := by rw [IntKind.wrap_i64]; omega
              obtain ⟨ad, hA, ca⟩ := Kd.at_int HR.out ii q0 q1
              subst hA
              replace ca := (HBR.out.cell (World.block_lt_of_cell? w _ ca)).trans ca
              have hli : i < l0.length := by omega
              have hrd : rd l0 ii = l0[i] := by rw [hi]; simp [rd, List.getD_eq_getElem?_getD, hli]
              have hmx := HM2.out l0[i] (List.getElem_mem hli)
              have hmx2 := HLM.out l0[i] (List.getElem_mem hli)
              rw [← hrd] at hmx hmx2
              obtain ⟨x, hx⟩ : ∃ x, x = rd l0 ii := ⟨_, rfl⟩
              rw [← hx] at ca hmx hmx2
              obtain ⟨z1, z2, _, _⟩ := byQ_mem am0 hsp hmx.1 hmx.2
              have m0 : 0 ≤ am * x := Int.mul_nonneg am0 hmx.1
              have m1 : am * x ≤ 1000000000000 * 1000000 := Int.mul_le_mul am1 hmx2.2 hmx.1 (by omega)
              obtain ⟨p, hp⟩ : ∃ p, p = am * x := ⟨_, rfl⟩
              have v2 : IntKind.i64.wrap (am * x) = p := by rw [IntKind.wrap_i64]; omega
              obtain ⟨q, hq⟩ : ∃ q, q = am * x / sum := ⟨_, rfl⟩
              have v3 : Int.tdiv p sum = q := by rw [hp, Int.tdiv_eq_ediv_of_nonneg m0, hq]
              have v3' : p / sum = q := by rw [hp, hq]
              have m0' : 0 ≤ p := by omega
              rw [← hq] at z1 z2
              have v4 : IntKind.i64.wrap q = q := by rw [IntKind.wrap_i64]; omega
              have hqg : (byQ am sum l0)[i]'(by rw [byQ_length]; exact hli) = q := by rw [byQ_get hli, hq, hx, hi]
              have hpart := byQ_part am0 hsp HLS.out HM2.out (i + 1)
              have hps := sum_take_succ (byQ am sum l0) (i := i) (by rw [byQ_length]; exact hli)
              rw [hqg] at hps
              have hlf := HLF.out
              obtain ⟨lf2, hlf2⟩ : ∃ y : Int, y = lf - q := ⟨_, rfl⟩
              have v5 : IntKind.i64.wrap (lf - q) = lf2 := by rw [IntKind.wrap_i64]; omega
              have HLF2 := Aside0.mk (show lf2 = am - ((byQ am sum l0).take (i + 1)).sum by omega)
              have lq : (byQ am sum l0).length = n := by rw [byQ_length, hn]
              have lo : os.length = n := by rw [HOS.out, List.length_append, List.length_take, List.length_replicate, lq]; omega
              have ld : ds.length = n := by rw [HDS.out, List.length_append, List.length_take, List.length_replicate, upTo_length]; omega
              have HOS2 := Aside0.mk (show os.set i q = (byQ am sum l0).take (i + 1) ++ List.replicate (n - (i + 1)) 0 by rw [HOS.out, ← hqg]; exact take_set_rep _ _ lq hlt)
              have HDS2 := Aside0.mk (show ds.set i ii = (upTo n).take (i + 1) ++ List.replicate (n - (i + 1)) 0 by rw [HDS.out, hi, ← upTo_get hlt]; exact take_set_rep _ _ (upTo_length n) hlt)
              have s0 : i < os.length := by omega
              have s1 : i < ds.length := by omega
              have HS0 := Aside0.mk s0
              have HS1 := Aside0.mk s1
              have cell1 : wr.cell? ⟨wc.heap.size, ii.toNat, none⟩ = some (.int .i64 (Go.Proofs.YtlfbdcobpfainaaSrt.at_ 0 os i)) := by have h := Go.Proofs.YtlfbdcobpfainaaSrt.row_cell enc_int_len HY1.out 0 (i := i) (c := 0) s0 (by decide) rfl; simpa [show ii.toNat = i by omega] using h
              have cell2 : wr.cell? ⟨wc.heap.size + 1, ii.toNat, none⟩ = some (.int .i64 (Go.Proofs.YtlfbdcobpfainaaSrt.at_ 0 ds i)) := by have h := Go.Proofs.YtlfbdcobpfainaaSrt.row_cell enc_int_len HY2.out 0 (i := i) (c := 0) s1 (by decide) rfl; simpa [show ii.toNat = i by omega] using h
              have fr1 := fun j => Go.Proofs.YtlfbdcobpfainaaSrt.row_frozen HY1.out j
              have fr2 := fun j => Go.Proofs.YtlfbdcobpfainaaSrt.row_frozen HY2.out j
              obtain ⟨b0, b1, b2⟩ := HGR.out.cells
              have q1n : ii < (n : Int) := by omega
              have HBs := Aside0.mk hBs
              clear hi hn hrd hx hp hq hqg hpart hps hlf hlf2 lq lo ld s0 s1 hBs b1 hmx hmx2
              go_wp2_with fail
              have hi := HI.out
              have hbs := HBs.out
              have s0 := HS0.out
              have s1 := HS1.out
              refine ⟨⟨i + 1, ii + 1, lf2, os.set i q, ds.set i ii, rfl, rfl, ⟨by omega⟩, by omega, HLF2, HOS2, HDS2, ⟨?_⟩, ⟨?_⟩, ⟨?_⟩, ⟨?_⟩⟩, by simp [intOf]; omega⟩
              · have h1 := Go.Proofs.YtlfbdcobpfainaaSrt.row_far (Go.Proofs.YtlfbdcobpfainaaSrt.row_set1 enc_int_len HY1.out s0 (y := q) rfl) (p := ⟨wc.heap.size + 1, i, none⟩) (by show wc.heap.size ≠ wc.heap.size + 1; omega) (.int .i64 ii)
                rwa [show i = ii.toNat by omega] at h1 ⊢
              · have h1 := Go.Proofs.YtlfbdcobpfainaaSrt.row_set1 enc_int_len (Go.Proofs.YtlfbdcobpfainaaSrt.row_far HY2.out (p := ⟨wc.heap.size, i, none⟩) (by show wc.heap.size + 1 ≠ wc.heap.size; omega) (.int .i64 q)) s1 (y := ii) rfl
                rwa [show i = ii.toNat by omega] at h1 ⊢
              · exact (HGR.out.far (p := ⟨wc.heap.size, ii.toNat, none⟩) hbs _).far (p := ⟨wc.heap.size + 1, ii.toNat, none⟩) (by show w.heap.size + 1 + 1 < wc.heap.size + 1; omega) _
              · exact (HBR.out.setCell (p := ⟨wc.heap.size, ii.toNat, none⟩) (by show w.heap.size ≤ wc.heap.size; omega) _).setCell (p := ⟨wc.heap.size + 1, ii.toNat, none⟩) (by show w.heap.size ≤ wc.heap.size + 1; omega) _
            · have hni : i = n := by omega
              have d2 : decide (ii < (l0.length : Int)) = false := decide_eq_false (by omega)
              have lq : (byQ am sum l0).length = n := by rw [byQ_length, hn]
              have hos : os = byQ am sum l0 := by rw [HOS.out, hni, List.take_of_length_le (by omega), Nat.sub_self]; simp
              have hds : ds = upTo n := by rw [HDS.out, hni, List.take_of_length_le (by rw [upTo_length]; omega), Nat.sub_self]; simp
              have hlf := HLF.out
              rw [hni, List.take_of_length_le (by omega)] at hlf
              have hlq := HLQ.out
              rw [← hlf, ← hn] at hlq
              obtain ⟨lf0, lf1⟩ := hlq
              rw [hos] at HY1
              rw [hds] at HY2
              have HLF2 := Aside0.mk hlf
              have HLQ2 := Aside0.mk lq
              have lu : (upTo n).length = n := upTo_length n
              have HLU := Aside0.mk lu
              have HBs := Aside0.mk hBs
              clear hi hn hni lq hos hds hlf lu hBs
              go_wp2_with fail
              rw [show (.slice (some ⟨wc.heap.size + 1, 0, none⟩) n n : Value) = .slice (some ⟨wc.heap.size + 1, 0, none⟩) (upTo n).length n by rw [HLU.out]]
              refine (sortStable_int (wc.heap.size + 1) n [] 66 _ eg_66 (fun x => 0 ≤ x ∧ x < (l0.length : Int)) (byC am sum l0) wr (fun x y W hx hy hok => ?_) (upTo n) wr HY2.out (by rw [HLU.out]; exact Nat.le_refl _) (by rw [HLU.out]; have := HN.out; omega) (fun x hx => ?_) (Go.Proofs.YtlfbdcobpfainaaSrt.Ok.refl _ _)).mono ?_
              · have hbw : Below w.heap.size w W := hok.under HBR.out HBR.out.size (by have := HBs.out; omega)
                have hbb := (HGR.out.step (W' := W) (hok.back (by have := HBs.out; omega) (by have := blk_lt HGR.out.2.2; omega))).cells
                exact split_By.clos x y am sum w.heap.size A0 c0 l0 W hbb.1 hbb.2.1 hbb.2.2 (Kd.C_below HR.out hbw) hx hy am0 am1 hsp (by rw [HLS.out]; have := sum_bd HLM.out; omega) HLM.out
              · simp only [upTo, List.mem_map, List.mem_range] at hx
                obtain ⟨q, hq, rfl⟩ := hx
                have := HN.out
                omega
              · rintro e w2 ⟨rfl, hr2, ho2⟩
                rw [show (.slice (some ⟨wc.heap.size + 1, 0, none⟩) (upTo n).length n : Value) = .slice (some ⟨wc.heap.size + 1, 0, none⟩) n n by rw [HLU.out]]
                obtain ⟨od, hod⟩ : ∃ od, od = byOrd am sum l0 := ⟨_, rfl⟩
                have hodl : od.length = n := by rw [hod]; unfold byOrd; rw [(Go.Proofs.YtlfbdcobpfainaaSrt.stab_perm _).length_eq, upTo_length, HN.out]
                have HOD := Aside0.mk hod
                have HOL := Aside0.mk hodl
                have HOM := Aside0.mk (show ∀ x ∈ od, 0 ≤ x ∧ x < (l0.length : Int) from fun x hx => ord_mem (by rw [← hod]; exact hx))
                have HR2 := Aside0.mk (show Go.Proofs.YtlfbdcobpfainaaSrt.Row 3 enc_int (wc.heap.size + 1) [] od w2 from by rw [hod]; unfold byOrd; rw [← HN.out]; exact hr2)
                have HR1 := Aside0.mk (show Go.Proofs.YtlfbdcobpfainaaSrt.Row 3 enc_int wc.heap.size [] (byQ am sum l0) w2 from (ho2.block _ (blk_lt HY1.out) (fun e => by have := Option.some.inj e; omega)).trans HY1.out)
                have HB2 := Aside0.mk (show Below w.heap.size w w2 from ho2.under HBR.out HBR.out.size (by have := HBs.out; omega))
                obtain ⟨L, hL⟩ : ∃ L : Nat, L = lf.toNat := ⟨_, rfl⟩
                have HLL := Aside0.mk (show lf = (L : Int) by omega)
                have hLn : L ≤ n := by have := HN.out; omega
                clear hr2 ho2 hod hodl hL
                have g0 : (0 : Int) ≤ lf := lf0
                have g1 : lf ≤ (n : Int) := lf1
                have gmx : max lf 0 = lf := by omega
                go_wp2_with fail
                clear gmx
                go_loopw [77] (fun si wr => ∃ (k : Nat) (ki : Int) (qs : List Int), si = .int .i64 ki ∧ Aside0 (ki = k) ∧ k ≤ L ∧ Aside0 (qs.length = n) ∧ Aside0 (∀ x ∈ qs, 0 ≤ x ∧ x ≤ 1000000000000 + (k : Int)) ∧ Aside0 (byL am sum l0 = bump ((od.take L).drop k) qs) ∧ Aside0 (Go.Proofs.YtlfbdcobpfainaaSrt.Row 3 enc_int wc.heap.size [] qs wr) ∧ Aside0 (Go.Proofs.YtlfbdcobpfainaaSrt.Row 3 enc_int (wc.heap.size + 1) [] od wr) ∧ Aside0 (Below w.heap.size w wr)) (fun si _ => L - (intOf si).toNat)
                case atStart => exact ⟨0, 0, byQ am sum l0, rfl, ⟨rfl⟩, Nat.zero_le _, HLQ2, ⟨fun x hx => by have := byQ_bd am0 hsp HM2.out x hx; simp; omega⟩, ⟨by unfold byL; rw [← HOD.out, ← HLF2.out, HLL.out]; rfl⟩, HR1, HR2, HB2⟩
                case round =>
                  obtain ⟨k, ki, qs, rfl, HKI, hkL, HQL, HQB, HBY, HY3, HY4, HB3⟩ := hrel
                  have hk := HKI.out
                  have hll := HLL.out
                  have hol := HOL.out
                  have hql := HQL.out
                  have hn := HN.out
                  by_cases hlt2 : k < L
                  · have d3 : decide (ki < lf) = true := decide_eq_true (by omega)
                    have q0 : 0 ≤ ki := by omega
                    have q1 : ki < lf := by omega
                    have v1 : IntKind.i64.wrap (ki + 1) = ki + 1 := by rw [IntKind.wrap_i64]; omega
                    obtain ⟨o, ho⟩ : ∃ o, o = Go.Proofs.YtlfbdcobpfainaaSrt.at_ 0 od k := ⟨_, rfl⟩
                    have hom := HOM.out o (by rw [ho]; exact Go.Proofs.YtlfbdcobpfainaaSrt.at_mem (by omega))
                    obtain ⟨o0, o1⟩ := hom
                    have o2 : o < (n : Int) := by omega
                    obtain ⟨v, hv⟩ : ∃ v, v = Go.Proofs.YtlfbdcobpfainaaSrt.at_ 0 qs o.toNat := ⟨_, rfl⟩
                    have hvb := HQB.out v (by rw [hv]; exact Go.Proofs.YtlfbdcobpfainaaSrt.at_mem (by omega))
                    have v2 : IntKind.i64.wrap (v + 1) = v + 1 := by rw [IntKind.wrap_i64]; omega
                    have c1 : wr.cell? ⟨wc.heap.size + 1, ki.toNat, none⟩ = some (.int .i64 o) := by have h := Go.Proofs.YtlfbdcobpfainaaSrt.row_cell enc_int_len HY4.out 0 (i := k) (c := 0) (by omega) (by decide) rfl; rw [← ho] at h; simpa [show ki.toNat = k by omega] using h
                    have c2 : wr.cell? ⟨wc.heap.size, o.toNat, none⟩ = some (.int .i64 v) := by have h := Go.Proofs.YtlfbdcobpfainaaSrt.row_cell enc_int_len HY3.out 0 (i := o.toNat) (c := 0) (by omega) (by decide) rfl; rw [← hv] at h; simpa using h
                    have fr1 := fun j => Go.Proofs.YtlfbdcobpfainaaSrt.row_frozen HY3.out j
                    have hdr : (od.take L).drop k = o :: (od.take L).drop (k + 1) := by
                      rw [List.drop_eq_getElem_cons (by rw [List.length_take]; omega)]
                      congr 1
                      rw [ho, List.getElem_take]
                      simp [Go.Proofs.YtlfbdcobpfainaaSrt.at_, List.getD_eq_getElem?_getD, show k < od.length by omega]
                    have HBY2 := Aside0.mk (show byL am sum l0 = bump ((od.take L).drop (k + 1)) (qs.set o.toNat (v + 1)) by rw [HBY.out, hdr, hv]; rfl)
                    have HOT := Aside0.mk (show o.toNat < qs.length by omega)
                    have HQB2 := Aside0.mk (show ∀ x ∈ qs.set o.toNat (v + 1), 0 ≤ x ∧ x ≤ 1000000000000 + ((k + 1 : Nat) : Int) from fun x hx => by
                      rcases List.mem_or_eq_of_mem_set hx with hx | rfl
                      · have := HQB.out x hx; push_cast; omega
                      · push_cast; omega)
                    clear hk hll hol hql hn ho hv hvb hdr o1
                    go_wp2_with fail
                    have hk := HKI.out
                    have hbs := HBs.out
                    refine ⟨⟨k + 1, ki + 1, qs.set o.toNat (v + 1), rfl, ⟨by omega⟩, by omega, ⟨by rw [List.length_set, HQL.out]⟩, HQB2, HBY2, ⟨Go.Proofs.YtlfbdcobpfainaaSrt.row_set1 enc_int_len HY3.out HOT.out rfl⟩, ⟨Go.Proofs.YtlfbdcobpfainaaSrt.row_far HY4.out (by show wc.heap.size + 1 ≠ wc.heap.size; omega) _⟩, ⟨HB3.out.setCell (p := ⟨wc.heap.size, o.toNat, none⟩) (by show w.heap.size ≤ wc.heap.size; omega) _⟩⟩, by have := HLL.out; simp [intOf]; omega⟩
                  · have d3 : decide (ki < lf) = false := decide_eq_false (by omega)
                    have hqs : qs = byL am sum l0 := by
                      rw [HBY.out, List.drop_of_length_le (by rw [List.length_take]; omega)]
                      rfl
                    subst hqs
                    have HK40 := Aside0.mk (show (k : Int) ≤ 40 by omega)
                    obtain ⟨wo, rfl⟩ : ∃ wo : World, wo = wr := ⟨_, rfl⟩
                    clear hk hll hol hql hn
                    go_wp2_with fail
                    obtain ⟨tq, htq⟩ : ∃ tq, tq = (byL am sum l0).map (fun x => x * sg) := ⟨_, rfl⟩
                    have HTQ := Aside0.mk htq
                    have HTL := Aside0.mk (show tq.length = n by rw [htq, List.length_map, HQL.out])
                    clear htq
                    go_loopw [90] (fun si wr => ∃ (j : Nat) (ji : Int) (ts : List Int), si = .int .i64 ji ∧ Aside0 (ji = j) ∧ j ≤ n ∧ Aside0 (ts = tq.take j ++ (byL am sum l0).drop j) ∧ Aside0 (Go.Proofs.YtlfbdcobpfainaaSrt.Row 3 enc_int wc.heap.size [] ts wr) ∧ Aside0 (Below w.heap.size w wr)) (fun si _ => n - (intOf si).toNat)
                    case atStart => exact ⟨0, 0, byL am sum l0, rfl, ⟨rfl⟩, Nat.zero_le _, ⟨rfl⟩, HY3, HB3⟩
                    case round =>
                      obtain ⟨j, ji, ts, rfl, HJ, hjn, HTS, HY5, HB5⟩ := hrel
                      have hj := HJ.out
                      by_cases hlt3 : j < n
                      · have d4 : decide (ji < (n : Int)) = true := decide_eq_true (by omega)
                        have q0 : 0 ≤ ji := by omega
                        have q1 : ji < (n : Int) := by omega
                        have v1 : IntKind.i64.wrap (ji + 1) = ji + 1 := by have := HN.out; rw [IntKind.wrap_i64]; omega
                        have hql := HQL.out
                        have htl := HTL.out
                        have htsl : ts.length = n := by rw [HTS.out, List.length_append, List.length_take, List.length_drop]; omega
                        obtain ⟨v, hv⟩ : ∃ v, v = (byL am sum l0)[j]'(by omega) := ⟨_, rfl⟩
                        have hat : Go.Proofs.YtlfbdcobpfainaaSrt.at_ 0 ts j = v := by
                          unfold Go.Proofs.YtlfbdcobpfainaaSrt.at_
                          rw [HTS.out, List.getD_eq_getElem?_getD, List.getElem?_append_right (by rw [List.length_take]; omega), List.length_take, Nat.min_eq_left (by omega), Nat.sub_self, List.getElem?_drop, Nat.add_zero, List.getElem?_eq_getElem (by omega), hv]
                          rfl
                        have hvb := HQB.out v (by rw [hv]; exact List.getElem_mem _)
                        have hk40 := HK40.out
                        obtain ⟨u, hu2⟩ : ∃ u, u = v * sg := ⟨_, rfl⟩
                        have v2 : IntKind.i64.wrap (v * sg) = u := by
                          rw [hu2, IntKind.wrap_i64]
                          rcases HSG.out with ⟨h, _⟩ | ⟨h, _⟩ <;> rw [h] <;> omega
                        have c2 : wr.cell? ⟨wc.heap.size, ji.toNat, none⟩ = some (.int .i64 v) := by have h := Go.Proofs.YtlfbdcobpfainaaSrt.row_cell enc_int_len HY5.out 0 (i := j) (c := 0) (by omega) (by decide) rfl; rw [hat] at h; simpa [show ji.toNat = j by omega] using h
                        have fr1 := fun j => Go.Proofs.YtlfbdcobpfainaaSrt.row_frozen HY5.out j
                        have htj : tq[j]'(by omega) = u := by simp only [HTQ.out, List.getElem_map]; rw [← hv, hu2]
                        have HTS2 := Aside0.mk (show ts.set j u = tq.take (j + 1) ++ (byL am sum l0).drop (j + 1) by rw [HTS.out, ← htj]; exact take_set_drop _ _ htl hql hlt3)
                        have HTJ := Aside0.mk (show j < ts.length by omega)
                        clear hj hql htl htsl hv hat hvb hk40 hu2 htj
                        go_wp2_with fail
                        have hj := HJ.out
                        have hbs := HBs.out
                        refine ⟨⟨j + 1, ji + 1, ts.set j u, rfl, ⟨by omega⟩, by omega, HTS2, ⟨?_⟩, ⟨HB5.out.setCell (p := ⟨wc.heap.size, ji.toNat, none⟩) (by show w.heap.size ≤ wc.heap.size; omega) _⟩⟩, by simp [intOf]; omega⟩
                        have h1 := Go.Proofs.YtlfbdcobpfainaaSrt.row_set1 enc_int_len HY5.out HTJ.out (y := u) rfl
                        rwa [show j = ji.toNat by omega] at h1 ⊢
                      · have d4 : decide (ji < (n : Int)) = false := decide_eq_false (by omega)
                        have hts : ts = tq := by
                          have h1 := HTL.out
                          have h2 := HQL.out
                          rw [HTS.out, List.take_of_length_le (by omega), List.drop_of_length_le (by omega), List.append_nil]
                        rw [hts] at HY5
                        have hres : tq = r1 ∧ (0 : Int) = r2 := by
                          have h1 := HH.out
                          rw [HTQ.out]
                          rcases HSG.out with ⟨h, hn, ha⟩ | ⟨h, hn, ha⟩
                          · rw [if_neg (show ¬ amount < 0 by omega)] at h1
                            rw [h, ha]
                            simpa using h1
                          · rw [if_pos (show amount < 0 by omega)] at h1
                            rw [h, ha]
                            simpa using h1
                        obtain ⟨hr1, hr2⟩ := hres
                        have HRES := Aside0.mk hr1
                        subst hr2
                        clear hj hts hr1
                        go_wp2_with fail
                        refine bodyPost_ret (results_tmp2 rfl _ _ _) rfl ?_
                        exact ⟨_, rfl, by rw [← HRES.out]; exact row_ints (by have := HBs.out; omega) HY5.out HTL.out (by have := HN.out; omega), HB5.out⟩
  · rw [if_pos he] at hh
    obtain ⟨rfl, rfl⟩ : [] = r1 ∧ e = r2 := by simpa using hh
    have hcb : (e == 0) = false := beq_eq_false_iff_ne.2 he
    clear hh he
    go_enter Try.func30, Try.ntmps30
    go_wp2_with (go_at_call 63; (with_reducible refine (split_weightsT.calls A0 c0 l0 sum e _ ?side1 hc0 HW.out).mono ?_); (case side1 => exact Kd.C_below HR.out (below_alloc (below_alloc (Below.refl _ _) _) _)); rintro e w1 ⟨rfl, ⟨nd, rfl⟩⟩)
    refine bodyPost_ret (results_tmp2 rfl _ _ _) rfl ?_
    exact ⟨_, rfl, Kd.R_nil _ _ _ _ _, by repeat (first | exact Below.refl _ _ | apply below_alloc | apply pw_below_drewN | apply below_drew1)⟩
end Go.Proofs.Ytlfbdcobpfainaa.S
