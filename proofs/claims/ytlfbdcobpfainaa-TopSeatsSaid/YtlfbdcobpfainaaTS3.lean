/- Part of the proof, with what it needs of the printed words alone. -/
import Derived.Test.YtlfbdcobpfainaaTS0
import Derived.Test.YtlfbdcobpfainaaTS2
namespace Go.Proofs.Ytlfbdcobpfainaa.S
open Go.RowKit Go.Proofs.YtlfbdcobpfainaaW.PrintWords Go.Proofs.YtlfbdcobpfainaaW.PrintLast Go.Proofs.YtlfbdcobpfainaaW.PrintMore
attribute [local go_sem] max2_int min2_int max_two min_two max_three min_three max_four min_four
set_option linter.unusedVariables false
set_option linter.unusedSimpArgs false
mutual
def acct_Code.j0 : Nat → ByteArray → Bool → Option (Bool)
  | 0, _, _ => none
  | k + 1, x0, x10 => if x10 = true then (some false) else (acct_Code.l0 k x0 (x0.size : Int) 0)
def acct_Code.l0 : Nat → ByteArray → Int → Int → Option (Bool)
  | 0, _, _, _ => none
  | k + 1, x0, x12, x13 => if x13 < x12 then (if 0 ≤ x13 then (if x13 < (x0.size : Int) then (if (bt x0 x13) < 48 then (some false) else (if (bt x0 x13) > 57 then (some false) else (acct_Code.l0 k x0 x12 (wrap64 (x13 + 1))))) else (none)) else (none)) else (some true)
end
def acct_Code.f (k : Nat) (a0 : ByteArray) : Option (Bool) := if a0.toList = ([] : List UInt8) then (acct_Code.j0 k a0 true) else (acct_Code.j0 k a0 (decide ((a0.size : Int) > 8)))
theorem acct_Code.mono_l : ∀ k, (∀ y0 y1, LeO (acct_Code.j0 k y0 y1) (acct_Code.j0 (k + 1) y0 y1)) ∧ (∀ y0 y1 y2, LeO (acct_Code.l0 k y0 y1 y2) (acct_Code.l0 (k + 1) y0 y1 y2))
  | 0 => ⟨fun _ _ r h => by simp [acct_Code.j0] at h, fun _ _ _ r h => by simp [acct_Code.l0] at h⟩
  | k + 1 => by
    obtain ⟨ih0, ih1⟩ := acct_Code.mono_l k
    refine ⟨?_, ?_⟩
    · intro y0 y1
      unfold acct_Code.j0
      repeat' first
      | (with_reducible exact ih0 _ _)
      | (with_reducible exact ih1 _ _ _)
      | (with_reducible exact LeO.refl _)
      | (with_reducible exact LeO.none _)
      | (with_reducible refine LeO.ite ?_ ?_)
      | (with_reducible refine LeO.bind ?_ (fun _ => ?_))
      | exact ih0 _ _
      | exact ih1 _ _ _
      | exact LeO.none _
      | refine LeO.ite ?_ ?_
      | refine LeO.bind ?_ (fun _ => ?_)
    · intro y0 y1 y2
      unfold acct_Code.l0
      repeat' first
      | (with_reducible exact ih0 _ _)
      | (with_reducible exact ih1 _ _ _)
      | (with_reducible exact LeO.refl _)
      | (with_reducible exact LeO.none _)
      | (with_reducible refine LeO.ite ?_ ?_)
      | (with_reducible refine LeO.bind ?_ (fun _ => ?_))
      | exact ih0 _ _
      | exact ih1 _ _ _
      | exact LeO.none _
      | refine LeO.ite ?_ ?_
      | refine LeO.bind ?_ (fun _ => ?_)
theorem acct_Code.mono : ∀ a0 k, LeO (acct_Code.f k a0) (acct_Code.f (k + 1) a0) := by
  intro a0 k
  obtain ⟨ih0, ih1⟩ := acct_Code.mono_l k
  unfold acct_Code.f
  repeat' first
      | (with_reducible exact ih0 _ _)
      | (with_reducible exact ih1 _ _ _)
      | (with_reducible exact LeO.refl _)
      | (with_reducible exact LeO.none _)
      | (with_reducible refine LeO.ite ?_ ?_)
      | (with_reducible refine LeO.bind ?_ (fun _ => ?_))
      | exact ih0 _ _
      | exact ih1 _ _ _
      | exact LeO.none _
      | refine LeO.ite ?_ ?_
      | refine LeO.bind ?_ (fun _ => ?_)
set_option maxHeartbeats 8000000 in
set_option maxRecDepth 100000 in
theorem acct_Code.calls (k : Nat) (a0 : ByteArray) (r : Bool) (w : World) (h : acct_Code.f k a0 = some r) :
    Calls Try.prog 87 #[.string a0] w fun e w' => e = .returned (.bool r) ∧ Drawn0 w w' := by
  have H : (if a0.toList = ([] : List UInt8) then (acct_Code.j0 k a0 true) else (acct_Code.j0 k a0 (decide ((a0.size : Int) > 8)))) = some r := h
  clear h
  have HC2 := Aside0.mk H
  clear H
  go_enter Try.func87, Try.ntmps87
  go_upto_region 1 with (fail)
  go_cut [10] (fun v10 wc => ∃ (kq : Nat) (x10_1 : Bool), v10 = .bool x10_1 ∧ Aside0 (acct_Code.j0 kq a0 x10_1 = some r) ∧ Aside0 (kq ≤ k) ∧ Drawn0 w wc)
  case first =>
    have H := HC2.out
    clear HC2
    by_cases c3 : a0.toList = ([] : List UInt8)
    · rw [if_pos c3] at H
      have c3b0 : (a0.toList == ([] : List UInt8)) = true := beq_iff_eq.mpr c3
      have c3b1 : (a0.toList != ([] : List UInt8)) = false := bne_eq_false_iff_eq.mpr c3
      clear c3
      (first | rw [c3b0] | (simp only [i64_w, i32_w]; rw [c3b0]) | skip)
      have H' := Aside0.mk H
      clear H
      go_wp2
      go_meet
      case rel => exact ⟨_, (true), (by first | rfl | (simp; done) | (simp [*]; done)), H', ⟨by first | omega | exact Nat.le_refl _⟩, by repeat (first | exact Drawn0.refl _ | apply Drawn0.step)⟩
    · rw [if_neg c3] at H
      have c3b0 : (a0.toList == ([] : List UInt8)) = false := beq_eq_false_iff_ne.mpr c3
      have c3b1 : (a0.toList != ([] : List UInt8)) = true := bne_iff_ne.mpr c3
      (first | rw [c3b0] | (simp only [i64_w, i32_w]; rw [c3b0]) | skip)
      have H' := Aside0.mk H
      clear H
      go_wp2
      go_meet
      case rel => exact ⟨_, (decide ((a0.size : Int) > 8)), (by first | rfl | (simp; done) | (simp [*]; done)), H', ⟨by first | omega | exact Nat.le_refl _⟩, by repeat (first | exact Drawn0.refl _ | apply Drawn0.step)⟩
  case rest =>
    clear HC2
    try clear p2
    try clear c3
    try clear c3b0
    try clear c3b1
    obtain ⟨kq, x10_1, rfl, HA, HJ1, ⟨mc1, rfl⟩⟩ := hcut
    cases kq with
    | zero => exact absurd HA.out (by simp [acct_Code.j0])
    | succ kj1 =>
      have H := HA.out
      clear HA
      simp only [acct_Code.j0] at H
      by_cases c4 : x10_1 = true
      · subst c4
        have H1 : (some false) = some r := by rw [if_pos rfl] at H; exact H
        clear H
        have H := H1
        clear H1
        obtain rfl := Option.some.inj H
        go_wp2
        go_ret
        exact ⟨by first | rfl | (simp; done) | (simp [*]; done), by repeat (first | exact Drawn0.refl _ | apply Drawn0.step)⟩
      · replace c4 := Bool.eq_false_iff.mpr c4
        subst c4
        have H1 : (acct_Code.l0 kj1 a0 (a0.size : Int) 0) = some r := by rw [if_neg (show ¬ (false = true) by decide)] at H; exact H
        clear H
        have H := H1
        clear H1
        have H' := Aside0.mk H
        clear H
        go_wp2
        go_loopg [13] kj1 (fun kq v13 w' => ∃ (x13_2 : Int), v13 = .int .i64 x13_2 ∧ Aside0 (acct_Code.l0 kq a0 (a0.size : Int) x13_2 = some r) ∧ Aside0 (kq ≤ kj1) ∧ Drawn0 w w')
        case atStart => exact ⟨(0), (by first | rfl | (simp; done) | (simp [*]; done)), H', ⟨Nat.le_refl _⟩, by repeat (first | exact Drawn0.refl _ | apply Drawn0.step)⟩
        case round =>
          clear H'
          try clear c1
          try clear p2
          try clear c3
          try clear c3b0
          try clear c3b1
          try clear c4
          try clear p2
          obtain ⟨x13_2, rfl, HA, HK2, ⟨m2, rfl⟩⟩ := hrel
          cases gk with
          | zero => exact absurd HA.out (by simp [acct_Code.l0])
          | succ k2 =>
            have H := HA.out
            clear HA
            simp only [acct_Code.l0] at H
            by_cases c5 : x13_2 < (a0.size : Int)
            · rw [if_pos c5] at H
              have c5b0 : decide (x13_2 < (a0.size : Int)) = true := decide_eq_true c5
              clear c5
              by_cases c6 : 0 ≤ x13_2
              · rw [if_pos c6] at H
                have c6b0 : decide (0 ≤ x13_2) = true := decide_eq_true c6
                clear c6
                by_cases c7 : x13_2 < (a0.size : Int)
                · rw [if_pos c7] at H
                  have c7b0 : decide (x13_2 < (a0.size : Int)) = true := decide_eq_true c7
                  clear c7
                  by_cases c9 : (bt a0 x13_2) < 48
                  · rw [if_pos c9] at H
                    have c9b0 : decide ((bt a0 x13_2) < 48) = true := decide_eq_true c9
                    clear c9
                    obtain rfl := Option.some.inj H
                    have p8 : 0 ≤ (x13_2 : Int) := of_decide_eq_true (by first | (with_reducible assumption) | assumption)
                    have q8 : x13_2 < (a0.size : Int) := of_decide_eq_true (by first | (with_reducible assumption) | assumption)
                    have hx8 := bt_at a0 x13_2
                    replace p8 := eq_true p8
                    replace q8 := eq_true q8
                    go_wp2
                    go_ret
                    exact ⟨by first | rfl | (simp; done) | (simp [*]; done), by repeat (first | exact Drawn0.refl _ | apply Drawn0.step)⟩
                  · rw [if_neg c9] at H
                    have c9b0 : decide ((bt a0 x13_2) < 48) = false := decide_eq_false c9
                    clear c9
                    by_cases c11 : (bt a0 x13_2) > 57
                    · rw [if_pos c11] at H
                      have c11b0 : decide (57 < (bt a0 x13_2)) = true := decide_eq_true c11
                      clear c11
                      obtain rfl := Option.some.inj H
                      have p8 : 0 ≤ (x13_2 : Int) := of_decide_eq_true (by first | (with_reducible assumption) | assumption)
                      have q8 : x13_2 < (a0.size : Int) := of_decide_eq_true (by first | (with_reducible assumption) | assumption)
                      have hx8 := bt_at a0 x13_2
                      replace p8 := eq_true p8
                      replace q8 := eq_true q8
                      have p10 : 0 ≤ (x13_2 : Int) := of_decide_eq_true (by first | (with_reducible assumption) | assumption)
                      have q10 : x13_2 < (a0.size : Int) := of_decide_eq_true (by first | (with_reducible assumption) | assumption)
                      have hx10 := bt_at a0 x13_2
                      replace p10 := eq_true p10
                      replace q10 := eq_true q10
                      go_wp2
                      go_ret
                      exact ⟨by first | rfl | (simp; done) | (simp [*]; done), by repeat (first | exact Drawn0.refl _ | apply Drawn0.step)⟩
                    · rw [if_neg c11] at H
                      have c11b0 : decide (57 < (bt a0 x13_2)) = false := decide_eq_false c11
                      clear c11
                      have H' := Aside0.mk H
                      clear H
                      have p8 : 0 ≤ (x13_2 : Int) := of_decide_eq_true (by first | (with_reducible assumption) | assumption)
                      have q8 : x13_2 < (a0.size : Int) := of_decide_eq_true (by first | (with_reducible assumption) | assumption)
                      have hx8 := bt_at a0 x13_2
                      replace p8 := eq_true p8
                      replace q8 := eq_true q8
                      have p10 : 0 ≤ (x13_2 : Int) := of_decide_eq_true (by first | (with_reducible assumption) | assumption)
                      have q10 : x13_2 < (a0.size : Int) := of_decide_eq_true (by first | (with_reducible assumption) | assumption)
                      have hx10 := bt_at a0 x13_2
                      replace p10 := eq_true p10
                      replace q10 := eq_true q10
                      go_wp2
                      go_roundg k2
                      case measure => have := HJ1.out; have := HK2.out; omega
                      case rel => exact ⟨(wrap64 (x13_2 + 1)), (by first | rfl | (simp; done) | (simp [*]; done)), H', ⟨by have := HJ1.out; have := HK2.out; omega⟩, by repeat (first | exact Drawn0.refl _ | apply Drawn0.step)⟩
                · rw [if_neg c7] at H
                  exact absurd H (by simp)
              · rw [if_neg c6] at H
                exact absurd H (by simp)
            · rw [if_neg c5] at H
              have c5b0 : decide (x13_2 < (a0.size : Int)) = false := decide_eq_false c5
              clear c5
              obtain rfl := Option.some.inj H
              go_wp2
              go_ret
              exact ⟨by first | rfl | (simp; done) | (simp [*]; done), by repeat (first | exact Drawn0.refl _ | apply Drawn0.step)⟩
def isDigit (c : UInt8) : Bool := decide (48 ≤ c.toNat) && decide (c.toNat ≤ 57)
def codeB (s : ByteArray) : Bool := decide (0 < s.size) && decide (s.size ≤ 8) && s.data.toList.all isDigit
theorem acct_Code.loop (s : ByteArray) (hs : s.size ≤ 1000) : ∀ (d k i : Nat), i + d = s.size → d < k → acct_Code.l0 k s (s.size : Int) i = some ((s.data.toList.drop i).all isDigit)
  | 0, k, i, hi, hk => by
    obtain ⟨k, rfl⟩ : ∃ m, k = m + 1 := ⟨k - 1, by omega⟩
    simp only [acct_Code.l0]
    rw [if_neg (by omega), List.drop_of_length_le (by rw [data_length]; omega)]
    rfl
  | d + 1, k, i, hi, hk => by
    obtain ⟨k, rfl⟩ : ∃ m, k = m + 1 := ⟨k - 1, by omega⟩
    have hlt : i < s.size := by omega
    have hb : bt s (i : Int) = ((s[i]).toNat : Int) := by unfold bt; rw [dif_pos (by simpa using hlt)]; simp
    have hd : s.data.toList.drop i = s[i] :: s.data.toList.drop (i + 1) := by
      rw [List.drop_eq_getElem_cons (by rw [data_length]; exact hlt)]
      rfl
    simp only [acct_Code.l0]
    rw [if_pos (by omega), if_pos (by omega), if_pos (by omega), hb, hd, List.all_cons]
    by_cases h1 : ((s[i]).toNat : Int) < 48
    · rw [if_pos h1]
      have : isDigit s[i] = false := by unfold isDigit; simp; omega
      rw [this]; rfl
    · rw [if_neg h1]
      by_cases h2 : ((s[i]).toNat : Int) > 57
      · rw [if_pos h2]
        have : isDigit s[i] = false := by unfold isDigit; simp; omega
        rw [this]; rfl
      · rw [if_neg h2]
        have : isDigit s[i] = true := by unfold isDigit; simp; omega
        rw [this, Bool.true_and, IntWalk.wrap64_in _ ⟨by omega, by omega⟩]
        exact acct_Code.loop s hs d k (i + 1) (by omega) (by omega)
theorem acct_Code.total (s : ByteArray) : acct_Code.f 12 s = some (codeB s) := by
  unfold acct_Code.f
  by_cases h0 : s.toList = ([] : List UInt8)
  · have hz : s.size = 0 := by rw [ByteArray.toList_eq] at h0; rw [← data_length, h0]; rfl
    rw [if_pos h0]
    simp only [acct_Code.j0]
    unfold codeB
    rw [hz]; rfl
  · rw [if_neg h0]
    have hz : 0 < s.size := by
      rcases Nat.eq_zero_or_pos s.size with h | h
      · exfalso; apply h0; rw [ByteArray.toList_eq]; exact List.eq_nil_of_length_eq_zero (by rw [data_length]; exact h)
      · exact h
    by_cases h8 : s.size ≤ 8
    · have e : decide ((s.size : Int) > 8) = false := by simp; omega
      rw [e]
      simp only [acct_Code.j0]
      rw [if_neg (by decide)]
      have := acct_Code.loop s (by omega) s.size 11 0 (by omega) (by omega)
      have e2 : codeB s = s.data.toList.all isDigit := by unfold codeB; simp [hz, h8]
      rw [e2]
      simpa using this
    · have e : decide ((s.size : Int) > 8) = true := by simp; omega
      have e2 : codeB s = false := by unfold codeB; simp [h8]
      rw [e, e2]
      simp only [acct_Code.j0]
      rfl
def acct_CodeT.f (a0 : ByteArray) : Option Bool := some (codeB a0)
theorem acct_CodeT.calls (a0 : ByteArray) (r : Bool) (w : World) (h : acct_CodeT.f a0 = some r) :
    Calls Try.prog 87 #[.string a0] w fun e w' => e = .returned (.bool r) ∧ Drawn0 w w' := acct_Code.calls 12 a0 r w (by rw [acct_Code.total]; exact h)
def moneyB (n : Int) : Bool := decide (-1000000000000 ≤ n) && decide (n ≤ 1000000000000)
theorem split_Money.total (n : Int) : split_Money.f n = some (moneyB n) := by
  unfold split_Money.f moneyB
  by_cases h : n ≥ -1000000000000
  · rw [if_pos h]; simp [h]
  · rw [if_neg h]; simp [h]
def linesLoop : List S41 → Int → List S41 → Int × Int
  | _, s, [] => (0, s)
  | seen, s, x :: r => if codeB x.f0 = false then (3, 0) else if moneyB x.f1 = false then (1, 0) else if x.f1 = 0 then (1, 0) else if seen.any (fun y => y.f0.toList == x.f0.toList) = true then (5, 0) else linesLoop (seen ++ [x]) (s + x.f1) r
def linesR (l : List S41) : Int :=
  if 12 < l.length then 2 else if (linesLoop [] 0 l).1 ≠ 0 then (linesLoop [] 0 l).1 else if l.length < 2 then 7 else if (linesLoop [] 0 l).2 ≠ 0 then 7 else 0
theorem eg_88 : ∀ (args : Array Value) (W : World), (callFunc 88 args).run Try.prog W = .ok (.enter 88 args) W := fun args W => by simp [callFunc, Try.func88]; rfl
set_option maxHeartbeats 800000 in
set_option maxRecDepth 100000 in
theorem entry_lines.clos (x : S41) (key : ByteArray) (b : Nat) (W : World) (hk : W.cell? ⟨b, 0, none⟩ = some (.string key)) :
    Calls Try.prog 88 #[.agg #[.string x.f0, .int .i64 x.f1], .pointer (some ⟨b, 0, none⟩)] W fun e W' => e = .returned (.bool (x.f0.toList == key.toList)) ∧ Below W.heap.size W W' := by
  have hu := Try.underlying41
  go_enter Try.func88, Try.ntmps88
  have hb : b < W.heap.size := World.block_lt_of_cell? W _ hk
  go_wp2
  go_ret
  exact ⟨rfl, by repeat (first | exact Below.refl _ _ | apply below_alloc | apply pw_below_drewN | apply below_drew1)⟩
def entry_lines.f (l0 : List S41) : Option Int := some (linesR l0)
set_option maxHeartbeats 1600000 in
set_option maxRecDepth 100000 in
theorem entry_lines.calls (A0 : Option Addr) (c0 : Nat) (l0 : List (S41)) (r : Int) (w : World) (hr0 : Kd.C k41 w A0 l0.length l0) (hc0 : l0.length ≤ c0) (h : entry_lines.f l0 = some r) :
    Calls Try.prog 70 #[.slice A0 l0.length c0] w fun e w' => e = .returned (.int .i64 r) ∧ Below w.heap.size w w' := by
  unfold entry_lines.f at h
  obtain rfl := Option.some.inj h
  have hn : l0.length ≤ 9223372036854775807 := hr0.2.1
  have HR := Aside0.mk hr0
  clear hr0 h
  by_cases h12 : 12 < l0.length
  · have hd : decide (12 < l0.length) = true := by simpa using h12
    have e : linesR l0 = 2 := by unfold linesR; rw [if_pos h12]
    rw [e]
    go_enter Try.func70, Try.ntmps70
    go_wp2
    go_ret
    exact ⟨rfl, Below.refl _ _⟩
  · have hd : decide (12 < l0.length) = false := by simpa using h12
    have hu := Try.underlying41
    go_enter Try.func70, Try.ntmps70
    go_wp2_with fail
    go_loopw [3, 11] (fun s i wr => ∃ (k : Nat) (t : Int), k ≤ l0.length ∧ i = .int .i64 k ∧ s = .int .i64 t ∧ -(k * 1000000000000) ≤ t ∧ t ≤ k * 1000000000000 ∧ Aside0 (linesLoop [] 0 l0 = linesLoop (l0.take k) t (l0.drop k)) ∧ Aside0 (Below w.heap.size w wr)) (fun _ i _ => l0.length - (intOf i).toNat)
    case atStart => exact ⟨0, 0, Nat.zero_le _, rfl, rfl, by omega, by omega, ⟨rfl⟩, ⟨Below.refl _ _⟩⟩
    case round =>
      obtain ⟨k, t, hk, rfl, rfl, ht0, ht1, HL, HB⟩ := hrel
      by_cases hlt : k < l0.length
      · obtain ⟨ad, hA, h0, h1⟩ := at_T41 (Kd.C_below HR.out HB.out) (k : Int) (by omega) (by omega)
        subst hA
        rw [Int.toNat_natCast] at h0 h1
        have hg : rd_T41 l0 (k : Int) = l0[k] := by simp [rd_T41, List.getD_eq_getElem?_getD, hlt]
        rw [hg] at h0 h1
        obtain ⟨x, hx⟩ : ∃ x, x = l0[k] := ⟨_, rfl⟩
        rw [← hx] at h0 h1
        have HX := Aside0.mk hx
        clear hx hg
        have hl := HL.out
        rw [List.drop_eq_getElem_cons hlt, ← HX.out] at hl
        simp only [linesLoop] at hl
        have HL2 := Aside0.mk hl
        clear HL hl
        have hcell : ∀ (W : World), Below (wr.heap.size + 1) (wr.alloc (.cells #[.string x.f0, .int .i64 x.f1] 41)) W → W.cell? ⟨wr.heap.size, 0, none⟩ = some (.string x.f0) ∧ W.cell? ⟨wr.heap.size, 1, none⟩ = some (.int .i64 x.f1) := fun W hb =>
          ⟨(hb.cell (by simp)).trans (YtlfbdcobpfainaaH.new_cell _ _ _ 0 _ rfl _ rfl), (hb.cell (by simp)).trans (YtlfbdcobpfainaaH.new_cell _ _ _ 1 _ rfl _ rfl)⟩
        have HCELL := Aside0.mk hcell
        clear hcell
        have hfin : ∀ c : Int, c ≠ 0 → (linesLoop [] 0 l0).1 = c → linesR l0 = c := fun c hc he => by unfold linesR; rw [if_neg h12, he, if_pos hc]
        have HFIN := Aside0.mk hfin
        clear hfin
        have HB2 := Aside0.mk (show Below w.heap.size w (wr.alloc (.cells #[.string x.f0, .int .i64 x.f1] 41)) from below_alloc HB.out _)
        go_wp2_with fail
        refine (acct_CodeT.calls x.f0 (codeB x.f0) _ rfl).mono ?_
        rintro e w1 ⟨rfl, ⟨n1, rfl⟩⟩
        cases hcode : codeB x.f0 with
        | false =>
          have hl2 := HL2.out
          rw [if_pos hcode] at hl2
          have e : linesR l0 = 3 := HFIN.out 3 (by decide) (by rw [hl2])
          clear hl2 hcode
          go_wp2_with fail
          go_ret
          exact ⟨by first | rfl | (rw [e]; rfl), pw_below_drewN HB2.out _⟩
        | true =>
          have hl2 := HL2.out
          rw [if_neg (by rw [hcode]; decide)] at hl2
          have HL3 := Aside0.mk hl2
          clear hl2 hcode HL2
          go_wp2_with fail
          refine (split_Money.calls x.f1 (moneyB x.f1) _ (split_Money.total _)).mono ?_
          rintro e w2 ⟨rfl, ⟨n2, rfl⟩⟩
          cases hmoney : moneyB x.f1 with
          | false =>
            have hl3 := HL3.out
            rw [if_pos hmoney] at hl3
            have e : linesR l0 = 1 := HFIN.out 1 (by decide) (by rw [hl3])
            clear hl3 hmoney
            go_wp2_with fail
            go_ret
            exact ⟨by first | rfl | (rw [e]; rfl), pw_below_drewN HB2.out _⟩
          | true =>
            have hl3 := HL3.out
            rw [if_neg (by rw [hmoney]; decide)] at hl3
            have hmb : -1000000000000 ≤ x.f1 ∧ x.f1 ≤ 1000000000000 := by unfold moneyB at hmoney; simpa using hmoney
            obtain ⟨hm0, hm1⟩ := hmb
            clear hmoney HL3
            by_cases hz : x.f1 = 0
            · rw [if_pos hz] at hl3
              have e : linesR l0 = 1 := HFIN.out 1 (by decide) (by rw [hl3])
              have hzb : (x.f1 == 0) = true := by rw [hz]; rfl
              clear hl3 hz
              go_wp2_with fail
              go_ret
              exact ⟨by first | rfl | (rw [e]; rfl), pw_below_drewN HB2.out _⟩
            · rw [if_neg hz] at hl3
              have HL4 := Aside0.mk hl3
              have hzb : (x.f1 == 0) = false := by rw [beq_eq_false_iff_ne]; exact hz
              obtain ⟨sn, hsn⟩ : ∃ sn, sn = l0.take k := ⟨_, rfl⟩
              have hsl : sn.length = k := by rw [hsn]; simp; omega
              have HSN := Aside0.mk hsn
              clear hl3 hz
              have hcall : ∀ (W : World), Below (wr.heap.size + 1) (wr.alloc (.cells #[.string x.f0, .int .i64 x.f1] 41)) W → Calls Try.prog 75 #[.slice (some ad) k c0, .func (.func 88) #[] #[.pointer (some ⟨wr.heap.size, 0, none⟩)]] W fun e w' => e = .returned (.bool (sn.any fun y => y.f0.toList == x.f0.toList)) ∧ Below W.heap.size W w' := fun W hb => by
                have hw : Below w.heap.size w W := HB2.out.trans (hb.mono (by have := HB.out.size; omega))
                have hR : Kd.C k41 W (some ad) sn.length sn := by
                  rw [HSN.out]; exact Kd.C_take (Kd.C_below HR.out hw) (by omega)
                have := containsFunc_Line 88 #[.pointer (some ⟨wr.heap.size, 0, none⟩)] eg_88 (fun y => y.f0.toList == x.f0.toList) (some ad) c0 sn W hR (by omega) (fun y W' _ hb' => entry_lines.clos y x.f0 _ W' ((hb'.cell (by have := hb.size; simp at this ⊢; omega)).trans (HCELL.out W hb).1))
                rw [hsl] at this
                exact this
              have HCALL := Aside0.mk hcall
              clear hcall
              go_wp2_with fail
              refine (HCALL.out _ (by repeat (first | exact Below.refl _ _ | apply below_alloc | apply pw_below_drewN | apply below_drew1))).mono ?_
              rintro e w3 ⟨rfl, hb3⟩
              have hb4 := HB2.out.trans ((show Below _ _ w3 from (pw_below_drewN (Below.refl _ _) _).trans hb3).mono (by have := HB.out.size; simp; omega))
              have HB3 := Aside0.mk hb4
              have hld : w3.cell? ⟨wr.heap.size, 1, none⟩ = some (.int .i64 x.f1) := (HCELL.out w3 ((show Below _ _ w3 from (pw_below_drewN (Below.refl _ _) _).trans hb3).mono (by simp))).2
              clear hb3 hb4
              cases hany : (sn.any fun y => y.f0.toList == x.f0.toList) with
              | true =>
                have hl3 := HL4.out
                have e : linesR l0 = 5 := HFIN.out 5 (by decide) (by rw [hl3, ← HSN.out, if_pos hany])
                clear hl3 hany
                go_wp2_with fail
                go_ret
                exact ⟨by first | rfl | (rw [e]; rfl), HB3.out⟩
              | false =>
                have hl3 := HL4.out
                rw [← HSN.out, if_neg (by rw [hany]; decide)] at hl3
                have HL5 := Aside0.mk hl3
                clear hl3 hany HL4
                have hw1 : IntKind.i64.wrap (t + x.f1) = t + x.f1 := by rw [IntKind.wrap_i64]; omega
                go_wp2
                go_roundw
                case rel =>
                  refine ⟨k + 1, t + x.f1, by omega, by go_num, by go_num, by omega, by omega, ⟨?_⟩, HB3⟩
                  rw [HL5.out, List.take_succ_eq_append_getElem hlt, ← HX.out, HSN.out]
                case measure => simp [intOf]; omega
      · have hkl : k = l0.length := by omega
        subst hkl
        have hl := HL.out
        rw [List.drop_length] at hl
        simp only [linesLoop] at hl
        by_cases h2 : l0.length < 2
        · have hd2 : decide (l0.length < 2) = true := by simpa using h2
          have e : linesR l0 = 7 := by unfold linesR; rw [if_neg h12, hl, if_neg (by simp), if_pos h2]
          clear hl
          go_wp2
          go_ret
          exact ⟨by first | rfl | (rw [e]; rfl), HB.out⟩
        · have hd2 : decide (l0.length < 2) = false := by simpa using h2
          by_cases hs : t = 0
          · have e : linesR l0 = 0 := by unfold linesR; rw [if_neg h12, hl, if_neg (by simp), if_neg h2, if_neg (by simp [hs])]
            have hsb : (t == 0) = true := by rw [hs]; rfl
            clear hl
            go_wp2
            go_ret
            exact ⟨by first | rfl | (rw [e]; rfl), HB.out⟩
          · have e : linesR l0 = 7 := by unfold linesR; rw [if_neg h12, hl, if_neg (by simp), if_neg h2, if_pos hs]
            have hsb : (decide ((l0.length : Int) < 2) || t != 0) = true := by simp [hs]
            clear hl
            go_wp2_with fail
            go_ret
            exact ⟨by first | rfl | (rw [e]; rfl), HB.out⟩
def entry_Check.f (a0_0 : ByteArray) (a0_1 : Int) (l0_2 : List (S41)) : Option (Int) := (entry_KeyT.f a0_0).bind fun t115 => (if t115 = true then ((cal_Is.f a0_1).bind fun t116 => (if t116 = true then ((entry_lines.f l0_2).bind fun t117 => (some t117)) else (some 1))) else (some 3))
set_option maxHeartbeats 8000000 in
set_option maxRecDepth 100000 in
theorem entry_Check.calls (a0_0 : ByteArray) (a0_1 : Int) (A0_2 : Option Addr) (c0_2 : Nat) (l0_2 : List (S41)) (r : Int) (w : World) (hr0_2 : Kd.C k41 w A0_2 l0_2.length l0_2) (hc0_2 : l0_2.length ≤ c0_2) (h : entry_Check.f a0_0 a0_1 l0_2 = some r) :
    Calls Try.prog 35 #[.agg #[.string a0_0, .int .i64 a0_1, .slice A0_2 l0_2.length c0_2]] w fun e w' => e = .returned (.int .i64 r) ∧ Below w.heap.size w w' := by
  have hu38 := Try.underlying38
  have HR0_2 := Aside0.mk hr0_2
  have HC0_2 := Aside0.mk hc0_2
  clear hr0_2 hc0_2
  have HB := Aside0.mk (Below.refl w.heap.size w)
  have H : ((entry_KeyT.f a0_0).bind fun t115 => (if t115 = true then ((cal_Is.f a0_1).bind fun t116 => (if t116 = true then ((entry_lines.f l0_2).bind fun t117 => (some t117)) else (some 1))) else (some 3))) = some r := h
  clear h
  replace H := Option.bind_eq_some_iff.mp H
  obtain ⟨t115, A20, H⟩ := H
  replace H : (if t115 = true then ((cal_Is.f a0_1).bind fun t116 => (if t116 = true then ((entry_lines.f l0_2).bind fun t117 => (some t117)) else (some 1))) else (some 3)) = some r := H
  have A2 := Aside0.mk A20
  clear A20
  by_cases c3 : t115 = true
  · subst c3
    have H1 : ((cal_Is.f a0_1).bind fun t116 => (if t116 = true then ((entry_lines.f l0_2).bind fun t117 => (some t117)) else (some 1))) = some r := by rw [if_pos rfl] at H; exact H
    clear H
    have H := H1
    clear H1
    replace H := Option.bind_eq_some_iff.mp H
    obtain ⟨t116, A40, H⟩ := H
    replace H : (if t116 = true then ((entry_lines.f l0_2).bind fun t117 => (some t117)) else (some 1)) = some r := H
    have A4 := Aside0.mk A40
    clear A40
    by_cases c5 : t116 = true
    · subst c5
      have H1 : ((entry_lines.f l0_2).bind fun t117 => (some t117)) = some r := by rw [if_pos rfl] at H; exact H
      clear H
      have H := H1
      clear H1
      replace H := Option.bind_eq_some_iff.mp H
      obtain ⟨t117, A60, H⟩ := H
      replace H : (some t117) = some r := H
      have A6 := Aside0.mk A60
      clear A60
      obtain rfl := Option.some.inj H
      go_enter Try.func35, Try.ntmps35
      go_wp2_with (first | ((with_reducible refine gate_dst (N := 1) rfl ?_); refine box_event ?hg (N := 1) ?hd (cs := #[.string a0_0, .int .i64 a0_1, .slice A0_2 l0_2.length c0_2]) (t := 38) ?hr ?_; (case hd => rfl); (case hg => rfl); (case hr => first | (go_simp; done) | (go_simp; rfl)); intro gb114 hg w7 hbox hb; have n0_ := Aside0.mk (below_step (by repeat (first | (with_reducible first | exact HB.out | apply below_alloc | apply pw_below_drewN | apply below_drew1) | exact HB.out)) hb); have n1_ := Aside0.mk (hbox); have n2_ := Aside0.mk ((by rw [hg]; exact (below_size (by repeat (first | (with_reducible first | exact HB.out | apply below_alloc | apply pw_below_drewN | apply below_drew1) | exact HB.out))) : w.heap.size ≤ gb114)); have n3_ := Aside0.mk ((by rw [hg]; exact (below_size (by repeat (first | (with_reducible first | exact HB.out | apply below_alloc | apply pw_below_drewN | apply below_drew1) | exact HB.out))) : w.heap.size ≤ gb114)); clear HB; have HB := n0_; have BK114 := n1_; have GW114 := n2_; have GE114 := n3_; clear n0_ n1_ n2_ n3_; clear hb hbox hg; have hcz8_0 : w7.cell? ⟨gb114, 0, none⟩ = some (.string a0_0) := (blk_cell BK114.out 0).trans rfl; have hcz8_1 : w7.cell? ⟨gb114, 1, none⟩ = some (.int .i64 a0_1) := (blk_cell BK114.out 1).trans rfl; have hcz8_2 : w7.cell? ⟨gb114, 2, none⟩ = some (.slice A0_2 l0_2.length c0_2) := (blk_cell BK114.out 2).trans rfl; have hfz8_0 := blk_frozen BK114.out 0; have hfz8_1 := blk_frozen BK114.out 1; have hfz8_2 := blk_frozen BK114.out 2) | ((with_reducible refine gate_callee (f := 69) rfl ?_); refine goesL_ (some 5) rfl rfl Try.func69 (by kernel_rfl) rfl #[.string a0_0] rfl (by (try simp only [List.map_toArray, List.map_cons, List.map_nil]); first | done | rfl | (simp only [List.length_drop, List.length_take]; rfl)) ?_; (with_reducible refine (entry_KeyT.calls a0_0 true _ A2.out).mono ?_); rintro e w' ⟨rfl, ⟨nd, rfl⟩⟩; refine ⟨_, rfl, ?_⟩) | ((with_reducible refine gate_callee (f := 45) rfl ?_); refine goesL_ (some 9) rfl rfl Try.func45 (by kernel_rfl) rfl #[.int .i64 a0_1] rfl (by (try simp only [List.map_toArray, List.map_cons, List.map_nil]); first | done | rfl | (simp only [List.length_drop, List.length_take]; rfl)) ?_; (with_reducible refine (cal_Is.calls a0_1 true _ A4.out).mono ?_); rintro e w' ⟨rfl, ⟨nd, rfl⟩⟩; refine ⟨_, rfl, ?_⟩) | ((with_reducible refine gate_callee (f := 70) rfl ?_); refine goesL_ (some 13) rfl rfl Try.func70 (by kernel_rfl) rfl #[.slice A0_2 l0_2.length c0_2] rfl (by (try simp only [List.map_toArray, List.map_cons, List.map_nil]); first | done | rfl | (simp only [List.length_drop, List.length_take]; rfl)) ?_; (with_reducible refine (entry_lines.calls _ _ l0_2 t117 _ ?side1 ?side2 A6.out).mono ?_); (case side1 => repeat (first | exact (Kd.C_below HR0_2.out (by repeat (first | (with_reducible first | exact HB.out | apply below_alloc | apply pw_below_drewN | apply below_drew1 | refine below_set ?_ GE114.out) | exact HB.out))) | (with_reducible refine Kd.C_alloc ?_ _) | (with_reducible refine Kd.C_drewN ?_ _) | (with_reducible refine Kd.C_drew ?_))); (case side2 => exact HC0_2.out); rintro e w9 ⟨rfl, hb⟩; refine ⟨_, rfl, ?_⟩; have n0_ := Aside0.mk (blk_below (g := gb114) (o := .cells #[.string a0_0, .int .i64 a0_1, .slice A0_2 l0_2.length c0_2] 38 (0, 0)) (by (with_reducible repeat (first | refine blk_drewN ?_ _ | refine blk_drew ?_ | refine blk_alloc ?_ _)); exact BK114.out) hb); have n1_ := Aside0.mk (below_step (by repeat (first | (with_reducible first | exact HB.out | apply below_alloc | apply pw_below_drewN | apply below_drew1 | refine below_set ?_ GE114.out) | exact HB.out)) hb); clear BK114; clear HB; have BK114 := n0_; have HB := n1_; clear n0_ n1_; (try clear hb); (try clear hb2); (try clear hk); (try clear hi)))
      go_ret
      exact ⟨by first | rfl | (simp [errW_none, errW_some] <;> rfl) | (simp [*, errW_none, errW_some] <;> rfl), by repeat (first | (with_reducible first | exact HB.out | apply below_alloc | apply pw_below_drewN | apply below_drew1 | refine below_set ?_ GE114.out) | exact HB.out)⟩
    · replace c5 := Bool.eq_false_iff.mpr c5
      subst c5
      have H1 : (some 1) = some r := by rw [if_neg (show ¬ (false = true) by decide)] at H; exact H
      clear H
      have H := H1
      clear H1
      obtain rfl := Option.some.inj H
      go_enter Try.func35, Try.ntmps35
      go_wp2_with (first | ((with_reducible refine gate_dst (N := 1) rfl ?_); refine box_event ?hg (N := 1) ?hd (cs := #[.string a0_0, .int .i64 a0_1, .slice A0_2 l0_2.length c0_2]) (t := 38) ?hr ?_; (case hd => rfl); (case hg => rfl); (case hr => first | (go_simp; done) | (go_simp; rfl)); intro gb114 hg w10 hbox hb; have n0_ := Aside0.mk (below_step (by repeat (first | (with_reducible first | exact HB.out | apply below_alloc | apply pw_below_drewN | apply below_drew1) | exact HB.out)) hb); have n1_ := Aside0.mk (hbox); have n2_ := Aside0.mk ((by rw [hg]; exact (below_size (by repeat (first | (with_reducible first | exact HB.out | apply below_alloc | apply pw_below_drewN | apply below_drew1) | exact HB.out))) : w.heap.size ≤ gb114)); have n3_ := Aside0.mk ((by rw [hg]; exact (below_size (by repeat (first | (with_reducible first | exact HB.out | apply below_alloc | apply pw_below_drewN | apply below_drew1) | exact HB.out))) : w.heap.size ≤ gb114)); clear HB; have HB := n0_; have BK114 := n1_; have GW114 := n2_; have GE114 := n3_; clear n0_ n1_ n2_ n3_; clear hb hbox hg; have hcz11_0 : w10.cell? ⟨gb114, 0, none⟩ = some (.string a0_0) := (blk_cell BK114.out 0).trans rfl; have hcz11_1 : w10.cell? ⟨gb114, 1, none⟩ = some (.int .i64 a0_1) := (blk_cell BK114.out 1).trans rfl; have hcz11_2 : w10.cell? ⟨gb114, 2, none⟩ = some (.slice A0_2 l0_2.length c0_2) := (blk_cell BK114.out 2).trans rfl; have hfz11_0 := blk_frozen BK114.out 0; have hfz11_1 := blk_frozen BK114.out 1; have hfz11_2 := blk_frozen BK114.out 2) | ((with_reducible refine gate_callee (f := 69) rfl ?_); refine goesL_ (some 5) rfl rfl Try.func69 (by kernel_rfl) rfl #[.string a0_0] rfl (by (try simp only [List.map_toArray, List.map_cons, List.map_nil]); first | done | rfl | (simp only [List.length_drop, List.length_take]; rfl)) ?_; (with_reducible refine (entry_KeyT.calls a0_0 true _ A2.out).mono ?_); rintro e w' ⟨rfl, ⟨nd, rfl⟩⟩; refine ⟨_, rfl, ?_⟩) | ((with_reducible refine gate_callee (f := 45) rfl ?_); refine goesL_ (some 9) rfl rfl Try.func45 (by kernel_rfl) rfl #[.int .i64 a0_1] rfl (by (try simp only [List.map_toArray, List.map_cons, List.map_nil]); first | done | rfl | (simp only [List.length_drop, List.length_take]; rfl)) ?_; (with_reducible refine (cal_Is.calls a0_1 false _ A4.out).mono ?_); rintro e w' ⟨rfl, ⟨nd, rfl⟩⟩; refine ⟨_, rfl, ?_⟩))
      go_ret
      exact ⟨by first | rfl | (simp [errW_none, errW_some] <;> rfl) | (simp [*, errW_none, errW_some] <;> rfl), by repeat (first | (with_reducible first | exact HB.out | apply below_alloc | apply pw_below_drewN | apply below_drew1 | refine below_set ?_ GE114.out) | exact HB.out)⟩
  · replace c3 := Bool.eq_false_iff.mpr c3
    subst c3
    have H1 : (some 3) = some r := by rw [if_neg (show ¬ (false = true) by decide)] at H; exact H
    clear H
    have H := H1
    clear H1
    obtain rfl := Option.some.inj H
    go_enter Try.func35, Try.ntmps35
    go_wp2_with (first | ((with_reducible refine gate_dst (N := 1) rfl ?_); refine box_event ?hg (N := 1) ?hd (cs := #[.string a0_0, .int .i64 a0_1, .slice A0_2 l0_2.length c0_2]) (t := 38) ?hr ?_; (case hd => rfl); (case hg => rfl); (case hr => first | (go_simp; done) | (go_simp; rfl)); intro gb114 hg w12 hbox hb; have n0_ := Aside0.mk (below_step (by repeat (first | (with_reducible first | exact HB.out | apply below_alloc | apply pw_below_drewN | apply below_drew1) | exact HB.out)) hb); have n1_ := Aside0.mk (hbox); have n2_ := Aside0.mk ((by rw [hg]; exact (below_size (by repeat (first | (with_reducible first | exact HB.out | apply below_alloc | apply pw_below_drewN | apply below_drew1) | exact HB.out))) : w.heap.size ≤ gb114)); have n3_ := Aside0.mk ((by rw [hg]; exact (below_size (by repeat (first | (with_reducible first | exact HB.out | apply below_alloc | apply pw_below_drewN | apply below_drew1) | exact HB.out))) : w.heap.size ≤ gb114)); clear HB; have HB := n0_; have BK114 := n1_; have GW114 := n2_; have GE114 := n3_; clear n0_ n1_ n2_ n3_; clear hb hbox hg; have hcz13_0 : w12.cell? ⟨gb114, 0, none⟩ = some (.string a0_0) := (blk_cell BK114.out 0).trans rfl; have hcz13_1 : w12.cell? ⟨gb114, 1, none⟩ = some (.int .i64 a0_1) := (blk_cell BK114.out 1).trans rfl; have hcz13_2 : w12.cell? ⟨gb114, 2, none⟩ = some (.slice A0_2 l0_2.length c0_2) := (blk_cell BK114.out 2).trans rfl; have hfz13_0 := blk_frozen BK114.out 0; have hfz13_1 := blk_frozen BK114.out 1; have hfz13_2 := blk_frozen BK114.out 2) | ((with_reducible refine gate_callee (f := 69) rfl ?_); refine goesL_ (some 5) rfl rfl Try.func69 (by kernel_rfl) rfl #[.string a0_0] rfl (by (try simp only [List.map_toArray, List.map_cons, List.map_nil]); first | done | rfl | (simp only [List.length_drop, List.length_take]; rfl)) ?_; (with_reducible refine (entry_KeyT.calls a0_0 false _ A2.out).mono ?_); rintro e w' ⟨rfl, ⟨nd, rfl⟩⟩; refine ⟨_, rfl, ?_⟩))
    go_ret
    exact ⟨by first | rfl | (simp [errW_none, errW_some] <;> rfl) | (simp [*, errW_none, errW_some] <;> rfl), by repeat (first | (with_reducible first | exact HB.out | apply below_alloc | apply pw_below_drewN | apply below_drew1 | refine below_set ?_ GE114.out) | exact HB.out)⟩
set_option maxHeartbeats 800000 in
set_option maxRecDepth 100000 in
theorem indexFunc_Acct (g : FuncId) (vs : Array Value) (eg : ∀ (args : Array Value) (W : World), (callFunc g args).run Try.prog W = .ok (.enter g args) W) (p : S82 → Bool) (A0 : Option Addr) (c0 : Nat) (l0 : List S82) (w : World) (hr0 : Kd.C k82 w A0 l0.length l0) (hc0 : l0.length ≤ c0)
    (hf : ∀ (x : S82) (W : World), x ∈ l0 → Below w.heap.size w W → Calls Try.prog g (#[.agg #[.string x.f0, .int .i64 x.f1]] ++ vs) W fun e W' => e = .returned (.bool (p x)) ∧ Below W.heap.size W W') :
    Calls Try.prog 80 #[.slice A0 l0.length c0, .func (.func g) #[] vs] w fun e w' => e = .returned (.int .i64 (YtlfbdcobpfainaaH.idx p l0)) ∧ Below w.heap.size w w' := by
  have hn : l0.length ≤ 9223372036854775807 := hr0.2.1
  have HR := Aside0.mk hr0
  have HF := Aside0.mk hf
  clear hr0 hf
  go_enter Try.func80, Try.ntmps80
  go_wp2_with fail
  go_loopw [8] (fun i wr => ∃ k : Nat, k ≤ l0.length ∧ i = .int .i64 k ∧ Aside0 (∀ j (hj : j < k), ∀ (hl : j < l0.length), p l0[j] = false) ∧ Aside0 (Below w.heap.size w wr)) (fun i _ => l0.length - (intOf i).toNat)
  case atStart => exact ⟨0, Nat.zero_le _, rfl, ⟨fun j hj => absurd hj (by omega)⟩, ⟨Below.refl _ _⟩⟩
  case round =>
    obtain ⟨k, hk, rfl, hno, HB⟩ := hrel
    by_cases hlt : k < l0.length
    · obtain ⟨ad, hA, h0, h1⟩ := at_T82 (Kd.C_below HR.out HB.out) (k : Int) (by omega) (by omega)
      subst hA
      rw [Int.toNat_natCast] at h0 h1
      have hg : rd_T82 l0 (k : Int) = l0[k] := by simp [rd_T82, List.getD_eq_getElem?_getD, hlt]
      rw [hg] at h0 h1
      obtain ⟨x, hx⟩ : ∃ x, x = l0[k] := ⟨_, rfl⟩
      rw [← hx] at h0 h1
      have HX := Aside0.mk hx
      clear hx hg
      go_wp2_with fail
      refine (HF.out x wr (by rw [HX.out]; exact List.getElem_mem hlt) HB.out).mono ?_
      rintro e w1 ⟨rfl, hb⟩
      have HB1 := Aside0.mk (HB.out.trans (hb.mono HB.out.size))
      clear hb
      by_cases hp : p x = true
      · have hp' := hp
        simp only [hp]
        go_wp2
        go_ret
        have e := YtlfbdcobpfainaaH.idx_hit (p := p) hlt (by rw [← HX.out]; exact hp') (fun j hj => hno.out j hj (by omega))
        exact ⟨by rw [e]; rfl, HB1.out⟩
      · have hp2 : p x = false := by simpa using hp
        simp only [hp2]
        go_wp2
        go_roundw
        case rel =>
          refine ⟨k + 1, by omega, by go_num, ⟨fun j hj hl => ?_⟩, HB1⟩
          by_cases hjk : j = k
          · subst hjk; rw [← HX.out]; exact hp2
          · exact hno.out j (by omega) hl
        case measure => simp [intOf]; omega
    · have hkl : k = l0.length := by omega
      subst hkl
      go_wp2
      go_ret
      have e := YtlfbdcobpfainaaH.idx_miss (p := p) (l := l0) (fun j hj => hno.out j hj hj)
      exact ⟨by rw [e]; rfl, HB.out⟩
theorem eg_81 : ∀ (args : Array Value) (W : World), (callFunc 81 args).run Try.prog W = .ok (.enter 81 args) W := fun args W => by simp [callFunc, Try.func81]; rfl
set_option maxHeartbeats 800000 in
set_option maxRecDepth 100000 in
theorem acct_Find.clos (x : S82) (key : ByteArray) (b : Nat) (W : World) (hk : W.cell? ⟨b, 0, none⟩ = some (.string key)) :
    Calls Try.prog 81 #[.agg #[.string x.f0, .int .i64 x.f1], .pointer (some ⟨b, 0, none⟩)] W fun e W' => e = .returned (.bool (x.f0.toList == key.toList)) ∧ Below W.heap.size W W' := by
  have hu := Try.underlying82
  go_enter Try.func81, Try.ntmps81
  have hb : b < W.heap.size := World.block_lt_of_cell? W _ hk
  go_wp2
  go_ret
  exact ⟨rfl, by repeat (first | exact Below.refl _ _ | apply below_alloc | apply pw_below_drewN | apply below_drew1)⟩
def acct_Find.f (l0 : List S82) (a1 : ByteArray) : Option Int := some (YtlfbdcobpfainaaH.idx (fun x : S82 => x.f0.toList == a1.toList) l0)
set_option maxHeartbeats 800000 in
set_option maxRecDepth 100000 in
theorem acct_Find.calls (A0 : Option Addr) (c0 : Nat) (l0 : List (S82)) (a1 : ByteArray) (r : Int) (w : World) (hr0 : Kd.C k82 w A0 l0.length l0) (hc0 : l0.length ≤ c0) (h : acct_Find.f l0 a1 = some r) :
    Calls Try.prog 44 #[.slice A0 l0.length c0, .string a1] w fun e w' => e = .returned (.int .i64 r) ∧ Below w.heap.size w w' := by
  unfold acct_Find.f at h
  obtain rfl := Option.some.inj h
  have HR1 := Aside0.mk hr0
  clear hr0 h
  go_enter Try.func44, Try.ntmps44
  go_wp2_with (go_at_call 80; (with_reducible refine (indexFunc_Acct 81 #[.pointer (some ⟨w.heap.size, 0, none⟩)] eg_81 (fun x : S82 => x.f0.toList == a1.toList) A0 c0 l0 _ ?side1 hc0 ?side2).mono ?_); (case side1 => exact Kd.C_below HR1.out (by repeat (first | exact Below.refl _ _ | apply below_alloc | apply pw_below_drewN | apply below_drew1))); (case side2 => exact fun x W _ hb => acct_Find.clos x a1 _ W (by rw [hb.cell (by simp)]; exact YtlfbdcobpfainaaH.new_cell _ _ _ 0 _ rfl _ (by simp))); rintro e w1 ⟨rfl, hb⟩; have HB := Aside0.mk (show Below w.heap.size w w1 from ((below_alloc (Below.refl _ _) _).trans (hb.mono (by simp)))); clear hb)
  go_ret
  exact ⟨rfl, HB.out⟩
theorem eg_76 : ∀ (args : Array Value) (W : World), (callFunc 76 args).run Try.prog W = .ok (.enter 76 args) W := fun args W => by simp [callFunc, Try.func76]; rfl
set_option maxHeartbeats 800000 in
set_option maxRecDepth 100000 in
theorem book_known.clos (x : S41) (b : Nat) (A0 : Option Addr) (c0 : Nat) (l0 : List S82) (W : World) (hk : W.cell? ⟨b, 0, none⟩ = some (.slice A0 l0.length c0)) (hr0 : Kd.C k82 W A0 l0.length l0) (hc0 : l0.length ≤ c0) :
    Calls Try.prog 76 #[.agg #[.string x.f0, .int .i64 x.f1], .pointer (some ⟨b, 0, none⟩)] W fun e W' => e = .returned (.bool (!(l0.any fun a => a.f0.toList == x.f0.toList))) ∧ Below W.heap.size W W' := by
  have hu := Try.underlying41
  have hu2 := Try.underlying32
  have HR := Aside0.mk hr0
  clear hr0
  go_enter Try.func76, Try.ntmps76
  have hb : b < W.heap.size := World.block_lt_of_cell? W _ hk
  go_wp2_with (go_at_call 44; (with_reducible refine (acct_Find.calls A0 c0 l0 x.f0 _ _ ?side1 hc0 rfl).mono ?_); (case side1 => exact Kd.C_below HR.out (by repeat (first | exact Below.refl _ _ | apply below_alloc | apply pw_below_drewN | apply below_drew1))); rintro e w1 ⟨rfl, hb1⟩; have HB := Aside0.mk (show Below W.heap.size W w1 from ((below_alloc (Below.refl _ _) _).trans (hb1.mono (by simp)))); clear hb1)
  go_ret
  exact ⟨by rw [← YtlfbdcobpfainaaH.idx_neg]; rfl, HB.out⟩
def book_known.f (l0_0 : List S82) (l0_1 : List S38) (a0_2 : Int) (a1_0 : ByteArray) (a1_1 : Int) (l1_2 : List S41) : Option Bool := some (!(l1_2.any fun x => !(l0_0.any fun a => a.f0.toList == x.f0.toList)))
set_option maxHeartbeats 800000 in
set_option maxRecDepth 100000 in
theorem book_known.calls (A0_0 : Option Addr) (c0_0 : Nat) (l0_0 : List (S82)) (A0_1 : Option Addr) (c0_1 : Nat) (l0_1 : List (S38)) (a0_2 : Int) (a1_0 : ByteArray) (a1_1 : Int) (A1_2 : Option Addr) (c1_2 : Nat) (l1_2 : List (S41)) (r : Bool) (w : World) (hr0_0 : Kd.C k82 w A0_0 l0_0.length l0_0) (hc0_0 : l0_0.length ≤ c0_0) (hr0_1 : Kd.C k38 w A0_1 l0_1.length l0_1) (hc0_1 : l0_1.length ≤ c0_1) (hr1_2 : Kd.C k41 w A1_2 l1_2.length l1_2) (hc1_2 : l1_2.length ≤ c1_2) (h : book_known.f l0_0 l0_1 a0_2 a1_0 a1_1 l1_2 = some r) :
    Calls Try.prog 39 #[.agg #[.slice A0_0 l0_0.length c0_0, .slice A0_1 l0_1.length c0_1, .int .i64 a0_2], .agg #[.string a1_0, .int .i64 a1_1, .slice A1_2 l1_2.length c1_2]] w fun e w' => e = .returned (.bool r) ∧ Below w.heap.size w w' := by
  unfold book_known.f at h
  obtain rfl := Option.some.inj h
  have HR0 := Aside0.mk hr0_0
  have HR2 := Aside0.mk hr1_2
  have hu := Try.underlying32
  have hu2 := Try.underlying38
  clear hr0_0 hr0_1 hr1_2 h
  go_enter Try.func39, Try.ntmps39
  go_wp2_with (go_at_call 75; (with_reducible refine (containsFunc_Line 76 #[.pointer (some ⟨w.heap.size, 0, none⟩)] eg_76 (fun x => !(l0_0.any fun a => a.f0.toList == x.f0.toList)) A1_2 c1_2 l1_2 _ ?side1 hc1_2 ?side2).mono ?_); (case side1 => exact Kd.C_below HR2.out (by repeat (first | exact Below.refl _ _ | apply below_alloc | apply pw_below_drewN | apply below_drew1))); (case side2 => exact fun x W _ hb => book_known.clos x _ A0_0 c0_0 l0_0 W (by rw [hb.cell (by simp; omega)]; exact YtlfbdcobpfainaaH.old_cell (YtlfbdcobpfainaaH.new_cell _ _ _ 0 _ rfl _ rfl) _) (Kd.C_below HR0.out ((below_alloc (below_alloc (Below.refl _ _) _) _).trans (hb.mono (by simp; omega)))) hc0_0); rintro e w1 ⟨rfl, hb⟩; have HB := Aside0.mk (show Below w.heap.size w w1 from ((below_alloc (below_alloc (Below.refl _ _) _) _).trans (hb.mono (by simp; omega)))); clear hb)
  go_ret
  exact ⟨rfl, HB.out⟩
def lays106_ren : Go.Shelf.Ren := ⟨fun | 106 => 77 | 213 => 90 | 265 => 97 | n => n, fun | 9 => 9 | 3 => 3 | n => n, fun | n => n⟩
theorem lays106 : Go.Proofs.Lays.n106 Try.prog lays106_ren := {
  mixed := by kernel_rfl
  f106 := Try.func77.trans (congrArg some (by kernel_rfl))
  f213 := Try.func90.trans (congrArg some (by kernel_rfl))
  f265 := Try.func97.trans (congrArg some (by kernel_rfl))
  t3 := Try.underlying3
  a3 := Try.isAgg3
  z3 := Try.sizeOf3
  v3 := Try.zeroValue3
  t9 := Try.underlying9
  a9 := Try.isAgg9
  z9 := Try.sizeOf9
  v9 := Try.zeroValue9 }
def strings_Compare.f (a b : ByteArray) : Option Int := some (Lib.compareBytes a.data.toList b.data.toList)
theorem strings_Compare.calls (a b : ByteArray) (r : Int) (w : World) (h : strings_Compare.f a b = some r) :
    Calls Try.prog 77 #[.string a, .string b] w fun e w' => e = .returned (.int .i64 r) ∧ Drawn0 w w' := by
  obtain rfl := Option.some.inj h
  refine (Go.Proofs.Any.strings_Compare lays106 a b w).mono ?_
  rintro e w' ⟨rfl, rfl⟩
  exact ⟨rfl, ⟨0, rfl⟩⟩
def book_cmp.f (a0_0 : ByteArray) (a0_1 : Int) (l0_2 : List (S41)) (a1_0 : ByteArray) (a1_1 : Int) (l1_2 : List (S41)) : Option (Int) := if a0_1 = a1_1 then ((strings_Compare.f a0_0 a1_0).bind fun t120 => (some t120)) else (some (wrap64 (a0_1 - a1_1)))
set_option maxHeartbeats 8000000 in
set_option maxRecDepth 100000 in
theorem book_cmp.calls (a0_0 : ByteArray) (a0_1 : Int) (A0_2 : Option Addr) (c0_2 : Nat) (l0_2 : List (S41)) (a1_0 : ByteArray) (a1_1 : Int) (A1_2 : Option Addr) (c1_2 : Nat) (l1_2 : List (S41)) (r : Int) (w : World) (hr0_2 : Kd.C k41 w A0_2 l0_2.length l0_2) (hc0_2 : l0_2.length ≤ c0_2) (hr1_2 : Kd.C k41 w A1_2 l1_2.length l1_2) (hc1_2 : l1_2.length ≤ c1_2) (h : book_cmp.f a0_0 a0_1 l0_2 a1_0 a1_1 l1_2 = some r) :
    Calls Try.prog 42 #[.agg #[.string a0_0, .int .i64 a0_1, .slice A0_2 l0_2.length c0_2], .agg #[.string a1_0, .int .i64 a1_1, .slice A1_2 l1_2.length c1_2]] w fun e w' => e = .returned (.int .i64 r) ∧ Below w.heap.size w w' := by
  have hu38 := Try.underlying38
  have HR0_2 := Aside0.mk hr0_2
  have HC0_2 := Aside0.mk hc0_2
  clear hr0_2 hc0_2
  have HR1_2 := Aside0.mk hr1_2
  have HC1_2 := Aside0.mk hc1_2
  clear hr1_2 hc1_2
  have HB := Aside0.mk (Below.refl w.heap.size w)
  have H : (if a0_1 = a1_1 then ((strings_Compare.f a0_0 a1_0).bind fun t120 => (some t120)) else (some (wrap64 (a0_1 - a1_1)))) = some r := h
  clear h
  by_cases c3 : a0_1 = a1_1
  · rw [if_pos c3] at H
    have c3b0 : (a0_1 == a1_1) = true := beq_iff_eq.mpr c3
    have c3b1 : (a0_1 != a1_1) = false := bne_eq_false_iff_eq.mpr c3
    clear c3
    replace H := Option.bind_eq_some_iff.mp H
    obtain ⟨t120, A40, H⟩ := H
    replace H : (some t120) = some r := H
    have A4 := Aside0.mk A40
    clear A40
    obtain rfl := Option.some.inj H
    go_enter Try.func42, Try.ntmps42
    go_wp2_with (first | ((with_reducible refine gate_dst (N := 2) rfl ?_); refine box_event ?hg (N := 2) ?hd (cs := #[.string a0_0, .int .i64 a0_1, .slice A0_2 l0_2.length c0_2]) (t := 38) ?hr ?_; (case hd => rfl); (case hg => rfl); (case hr => first | (go_simp; done) | (go_simp; rfl)); intro gb118 hg w5 hbox hb; have n0_ := Aside0.mk (below_step (by repeat (first | (with_reducible first | exact HB.out | apply below_alloc | apply pw_below_drewN | apply below_drew1) | exact HB.out)) hb); have n1_ := Aside0.mk (hbox); have n2_ := Aside0.mk ((by rw [hg]; exact (below_size (by repeat (first | (with_reducible first | exact HB.out | apply below_alloc | apply pw_below_drewN | apply below_drew1) | exact HB.out))) : w.heap.size ≤ gb118)); have n3_ := Aside0.mk ((by rw [hg]; exact (below_size (by repeat (first | (with_reducible first | exact HB.out | apply below_alloc | apply pw_below_drewN | apply below_drew1) | exact HB.out))) : w.heap.size ≤ gb118)); clear HB; have HB := n0_; have BK118 := n1_; have GW118 := n2_; have GE118 := n3_; clear n0_ n1_ n2_ n3_; clear hb hbox hg) | ((with_reducible refine gate_dst (N := 3) rfl ?_); refine box_event ?hg (N := 3) ?hd (cs := #[.string a1_0, .int .i64 a1_1, .slice A1_2 l1_2.length c1_2]) (t := 38) ?hr ?_; (case hd => rfl); (case hg => rfl); (case hr => first | (go_simp; done) | (go_simp; rfl)); intro gb119 hg w6 hbox hb; have n0_ := Aside0.mk (blk_below (g := gb118) (o := .cells #[.string a0_0, .int .i64 a0_1, .slice A0_2 l0_2.length c0_2] 38 (0, 0)) (by (with_reducible repeat (first | refine blk_drewN ?_ _ | refine blk_drew ?_ | refine blk_alloc ?_ _)); exact BK118.out) hb); have n1_ := Aside0.mk (below_step (by repeat (first | (with_reducible first | exact HB.out | apply below_alloc | apply pw_below_drewN | apply below_drew1 | refine below_set ?_ GE118.out) | exact HB.out)) hb); have n2_ := Aside0.mk (hbox); have n3_ := Aside0.mk ((by rw [hg]; exact (below_size (by repeat (first | (with_reducible first | exact HB.out | apply below_alloc | apply pw_below_drewN | apply below_drew1 | refine below_set ?_ GE118.out) | exact HB.out))) : w.heap.size ≤ gb119)); have n4_ := Aside0.mk ((by rw [hg]; exact (below_size (by repeat (first | (with_reducible first | exact HB.out | apply below_alloc | apply pw_below_drewN | apply below_drew1 | refine below_set ?_ GE118.out) | exact HB.out))) : w.heap.size ≤ gb119)); have n5_ := Aside0.mk ((by rw [hg]; exact Nat.ne_of_lt (blk_lt (g := gb118) (o := .cells #[.string a0_0, .int .i64 a0_1, .slice A0_2 l0_2.length c0_2] 38 (0, 0)) (by (with_reducible repeat (first | refine blk_drewN ?_ _ | refine blk_drew ?_ | refine blk_alloc ?_ _)); exact BK118.out)) : gb118 ≠ gb119)); have n6_ := Aside0.mk ((by rw [hg]; exact Nat.ne_of_gt (blk_lt (g := gb118) (o := .cells #[.string a0_0, .int .i64 a0_1, .slice A0_2 l0_2.length c0_2] 38 (0, 0)) (by (with_reducible repeat (first | refine blk_drewN ?_ _ | refine blk_drew ?_ | refine blk_alloc ?_ _)); exact BK118.out)) : gb119 ≠ gb118)); clear BK118; clear HB; have BK118 := n0_; have HB := n1_; have BK119 := n2_; have GW119 := n3_; have GE119 := n4_; have NB118_119 := n5_; have NB119_118 := n6_; clear n0_ n1_ n2_ n3_ n4_ n5_ n6_; clear hb hbox hg; have hnb7 := NB118_119.out; have hnc7 := NB119_118.out; have hcz8_0 : w6.cell? ⟨gb118, 0, none⟩ = some (.string a0_0) := (blk_cell BK118.out 0).trans rfl; have hcz8_1 : w6.cell? ⟨gb118, 1, none⟩ = some (.int .i64 a0_1) := (blk_cell BK118.out 1).trans rfl; have hcz8_2 : w6.cell? ⟨gb118, 2, none⟩ = some (.slice A0_2 l0_2.length c0_2) := (blk_cell BK118.out 2).trans rfl; have hfz8_0 := blk_frozen BK118.out 0; have hfz8_1 := blk_frozen BK118.out 1; have hfz8_2 := blk_frozen BK118.out 2; have hcz9_0 : w6.cell? ⟨gb119, 0, none⟩ = some (.string a1_0) := (blk_cell BK119.out 0).trans rfl; have hcz9_1 : w6.cell? ⟨gb119, 1, none⟩ = some (.int .i64 a1_1) := (blk_cell BK119.out 1).trans rfl; have hcz9_2 : w6.cell? ⟨gb119, 2, none⟩ = some (.slice A1_2 l1_2.length c1_2) := (blk_cell BK119.out 2).trans rfl; have hfz9_0 := blk_frozen BK119.out 0; have hfz9_1 := blk_frozen BK119.out 1; have hfz9_2 := blk_frozen BK119.out 2) | ((with_reducible refine gate_callee (f := 77) rfl ?_); refine goesL_ (some 19) rfl rfl Try.func77 (by kernel_rfl) rfl #[.string a0_0, .string a1_0] rfl (by (try simp only [List.map_toArray, List.map_cons, List.map_nil]); first | done | rfl | (simp only [List.length_drop, List.length_take]; rfl)) ?_; (with_reducible refine (strings_Compare.calls a0_0 a1_0 t120 _ A4.out).mono ?_); rintro e w' ⟨rfl, ⟨nd, rfl⟩⟩; refine ⟨_, rfl, ?_⟩))
    go_ret
    exact ⟨by first | rfl | (simp [errW_none, errW_some] <;> rfl) | (simp [*, errW_none, errW_some] <;> rfl), by repeat (first | (with_reducible first | exact HB.out | apply below_alloc | apply pw_below_drewN | apply below_drew1 | refine below_set ?_ GE118.out | refine below_set ?_ GE119.out) | exact HB.out)⟩
  · rw [if_neg c3] at H
    have c3b0 : (a0_1 == a1_1) = false := beq_eq_false_iff_ne.mpr c3
    have c3b1 : (a0_1 != a1_1) = true := bne_iff_ne.mpr c3
    obtain rfl := Option.some.inj H
    go_enter Try.func42, Try.ntmps42
    go_wp2_with (first | ((with_reducible refine gate_dst (N := 2) rfl ?_); refine box_event ?hg (N := 2) ?hd (cs := #[.string a0_0, .int .i64 a0_1, .slice A0_2 l0_2.length c0_2]) (t := 38) ?hr ?_; (case hd => rfl); (case hg => rfl); (case hr => first | (go_simp; done) | (go_simp; rfl)); intro gb118 hg w10 hbox hb; have n0_ := Aside0.mk (below_step (by repeat (first | (with_reducible first | exact HB.out | apply below_alloc | apply pw_below_drewN | apply below_drew1) | exact HB.out)) hb); have n1_ := Aside0.mk (hbox); have n2_ := Aside0.mk ((by rw [hg]; exact (below_size (by repeat (first | (with_reducible first | exact HB.out | apply below_alloc | apply pw_below_drewN | apply below_drew1) | exact HB.out))) : w.heap.size ≤ gb118)); have n3_ := Aside0.mk ((by rw [hg]; exact (below_size (by repeat (first | (with_reducible first | exact HB.out | apply below_alloc | apply pw_below_drewN | apply below_drew1) | exact HB.out))) : w.heap.size ≤ gb118)); clear HB; have HB := n0_; have BK118 := n1_; have GW118 := n2_; have GE118 := n3_; clear n0_ n1_ n2_ n3_; clear hb hbox hg) | ((with_reducible refine gate_dst (N := 3) rfl ?_); refine box_event ?hg (N := 3) ?hd (cs := #[.string a1_0, .int .i64 a1_1, .slice A1_2 l1_2.length c1_2]) (t := 38) ?hr ?_; (case hd => rfl); (case hg => rfl); (case hr => first | (go_simp; done) | (go_simp; rfl)); intro gb119 hg w11 hbox hb; have n0_ := Aside0.mk (blk_below (g := gb118) (o := .cells #[.string a0_0, .int .i64 a0_1, .slice A0_2 l0_2.length c0_2] 38 (0, 0)) (by (with_reducible repeat (first | refine blk_drewN ?_ _ | refine blk_drew ?_ | refine blk_alloc ?_ _)); exact BK118.out) hb); have n1_ := Aside0.mk (below_step (by repeat (first | (with_reducible first | exact HB.out | apply below_alloc | apply pw_below_drewN | apply below_drew1 | refine below_set ?_ GE118.out) | exact HB.out)) hb); have n2_ := Aside0.mk (hbox); have n3_ := Aside0.mk ((by rw [hg]; exact (below_size (by repeat (first | (with_reducible first | exact HB.out | apply below_alloc | apply pw_below_drewN | apply below_drew1 | refine below_set ?_ GE118.out) | exact HB.out))) : w.heap.size ≤ gb119)); have n4_ := Aside0.mk ((by rw [hg]; exact (below_size (by repeat (first | (with_reducible first | exact HB.out | apply below_alloc | apply pw_below_drewN | apply below_drew1 | refine below_set ?_ GE118.out) | exact HB.out))) : w.heap.size ≤ gb119)); have n5_ := Aside0.mk ((by rw [hg]; exact Nat.ne_of_lt (blk_lt (g := gb118) (o := .cells #[.string a0_0, .int .i64 a0_1, .slice A0_2 l0_2.length c0_2] 38 (0, 0)) (by (with_reducible repeat (first | refine blk_drewN ?_ _ | refine blk_drew ?_ | refine blk_alloc ?_ _)); exact BK118.out)) : gb118 ≠ gb119)); have n6_ := Aside0.mk ((by rw [hg]; exact Nat.ne_of_gt (blk_lt (g := gb118) (o := .cells #[.string a0_0, .int .i64 a0_1, .slice A0_2 l0_2.length c0_2] 38 (0, 0)) (by (with_reducible repeat (first | refine blk_drewN ?_ _ | refine blk_drew ?_ | refine blk_alloc ?_ _)); exact BK118.out)) : gb119 ≠ gb118)); clear BK118; clear HB; have BK118 := n0_; have HB := n1_; have BK119 := n2_; have GW119 := n3_; have GE119 := n4_; have NB118_119 := n5_; have NB119_118 := n6_; clear n0_ n1_ n2_ n3_ n4_ n5_ n6_; clear hb hbox hg; have hnb12 := NB118_119.out; have hnc12 := NB119_118.out; have hcz13_0 : w11.cell? ⟨gb118, 0, none⟩ = some (.string a0_0) := (blk_cell BK118.out 0).trans rfl; have hcz13_1 : w11.cell? ⟨gb118, 1, none⟩ = some (.int .i64 a0_1) := (blk_cell BK118.out 1).trans rfl; have hcz13_2 : w11.cell? ⟨gb118, 2, none⟩ = some (.slice A0_2 l0_2.length c0_2) := (blk_cell BK118.out 2).trans rfl; have hfz13_0 := blk_frozen BK118.out 0; have hfz13_1 := blk_frozen BK118.out 1; have hfz13_2 := blk_frozen BK118.out 2; have hcz14_0 : w11.cell? ⟨gb119, 0, none⟩ = some (.string a1_0) := (blk_cell BK119.out 0).trans rfl; have hcz14_1 : w11.cell? ⟨gb119, 1, none⟩ = some (.int .i64 a1_1) := (blk_cell BK119.out 1).trans rfl; have hcz14_2 : w11.cell? ⟨gb119, 2, none⟩ = some (.slice A1_2 l1_2.length c1_2) := (blk_cell BK119.out 2).trans rfl; have hfz14_0 := blk_frozen BK119.out 0; have hfz14_1 := blk_frozen BK119.out 1; have hfz14_2 := blk_frozen BK119.out 2))
    go_ret
    exact ⟨by first | rfl | (simp [errW_none, errW_some] <;> rfl) | (simp [*, errW_none, errW_some] <;> rfl), by repeat (first | (with_reducible first | exact HB.out | apply below_alloc | apply pw_below_drewN | apply below_drew1 | refine below_set ?_ GE118.out | refine below_set ?_ GE119.out) | exact HB.out)⟩
end Go.Proofs.Ytlfbdcobpfainaa.S
