/- UnitsSum, the plain law: what the printed functions compute answers true at every input. No condition beyond the statement's own. -/
import Derived.Test.YtlfbdcobpfainaaP4
namespace Go.Proofs.Ytlfbdcobpfainaa.Pure
open Go.RowKit Go.Proofs.Ytlfbdcobpfainaa.P Go.Proofs.YtlfbdcobpfainaaW.PrintWords Go.Proofs.YtlfbdcobpfainaaW.PrintLast Go.Proofs.YtlfbdcobpfainaaW.PrintMore

theorem wrap64_id {n : Int} (h : -9223372036854775808 ≤ n) (h' : n ≤ 9223372036854775807) : wrap64 n = n := IntWalk.wrap64_in n ⟨h, h'⟩
theorem u64_wrap (n : Int) : IntKind.u64.wrap n = n % 18446744073709551616 := by simp [IntKind.wrap, IntKind.signed, IntKind.bits]
theorem rd_cons_drop (l : List Int) (i : Nat) (h : i < l.length) : l.drop i = rd l i :: l.drop (i + 1) := by
  rw [List.drop_eq_getElem_cons h]
  simp [rd, List.getD_eq_getElem?_getD, h]
theorem within_spec (a n : Int) (h1 : 1 ≤ n) (h2 : n ≤ 9223372036854775807) : ∃ r, talkeep_Within.f a n = some r ∧ 0 ≤ r ∧ r < n := by
  unfold talkeep_Within.f
  have hn : IntKind.u64.wrap n = n := by rw [u64_wrap]; omega
  have ha : 0 ≤ IntKind.u64.wrap a := by rw [u64_wrap]; omega
  rw [hn, if_neg (by omega)]
  have ht : Int.tmod (IntKind.u64.wrap a) n = IntKind.u64.wrap a % n := Int.tmod_eq_emod_of_nonneg ha
  rw [ht]
  have h3 := Int.emod_nonneg (IntKind.u64.wrap a) (show n ≠ 0 by omega)
  have h4 := Int.emod_lt_of_pos (IntKind.u64.wrap a) (show 0 < n by omega)
  exact ⟨_, rfl, by rw [wrap64_id (by omega) (by omega)]; exact h3, by rw [wrap64_id (by omega) (by omega)]; exact h4⟩

/-- 'slices.Equal'. -/
theorem equal_loop (l m : List Int) (hl : l.length = m.length) (hb : l.length ≤ 9223372036854775806) (d : Nat) : ∀ i : Nat, i + d = l.length → Ev (fun k => slices_Equal_int_int.l0 k l m (l.length : Int) i) (decide (l.drop i = m.drop i)) := by
  induction d with
  | zero =>
    intro i hi
    refine Ev.step (f := fun _ => some _) (fun k => ?_) (Ev.now _)
    simp only [slices_Equal_int_int.l0]
    rw [if_neg (by omega), List.drop_of_length_le (by omega), List.drop_of_length_le (by omega)]
    simp
  | succ d ih =>
    intro i hi
    by_cases he : rd l i = rd m i
    · refine Ev.step (f := fun k => slices_Equal_int_int.l0 k l m (l.length : Int) ((i + 1 : Nat) : Int)) (fun k => ?_) ?_
      · simp only [slices_Equal_int_int.l0]
        rw [if_pos (by omega), if_pos (by omega), if_pos (by omega), if_pos (by omega), if_pos he, wrap64_id (by omega) (by omega)]
        rfl
      · have := ih (i + 1) (by omega)
        rw [rd_cons_drop l i (by omega), rd_cons_drop m i (by omega)]
        simpa [he] using this
    · refine Ev.step (f := fun _ => some _) (fun k => ?_) (Ev.now _)
      simp only [slices_Equal_int_int.l0]
      rw [if_pos (by omega), if_pos (by omega), if_pos (by omega), if_pos (by omega), if_neg he, rd_cons_drop l i (by omega), rd_cons_drop m i (by omega)]
      simp [he]
theorem equal_ev (l m : List Int) (hb : l.length ≤ 9223372036854775806) : Ev (fun k => slices_Equal_int_int.f k l m) (decide (l = m)) := by
  unfold slices_Equal_int_int.f
  by_cases h : l.length = m.length
  · refine Ev.congr (f := fun k => slices_Equal_int_int.l0 k l m (l.length : Int) (0 : Nat)) (fun k => by rw [if_pos (by omega)]; rfl) ?_
    have := equal_loop l m h hb l.length 0 (by omega)
    simpa using this
  · refine Ev.congr (f := fun _ => some false) (fun k => by rw [if_neg (by omega)]) ?_
    have : decide (l = m) = false := by simp; intro e; exact h (by rw [e])
    rw [this]
    exact Ev.now _
/-- 'sum'. -/
theorem sum_loop (l : List Int) (B : Int) (hB : ∀ x ∈ l, -B ≤ x ∧ x ≤ B) (h0 : 0 ≤ B) (hlen : (l.length + 1) * B ≤ 9223372036854775807) (hb : l.length ≤ 9223372036854775806) (d : Nat) : ∀ (i : Nat) (s : Int), i + d = l.length → -(i * B) ≤ s → s ≤ i * B →
    Ev (fun k => talkeep_sum.l0 k s l (l.length : Int) i) (s + (l.drop i).sum) := by
  induction d with
  | zero =>
    intro i s hi _ _
    refine Ev.step (f := fun _ => some _) (fun k => ?_) (Ev.now _)
    simp only [talkeep_sum.l0]
    rw [if_neg (by omega), List.drop_of_length_le (by omega)]
    simp
  | succ d ih =>
    intro i s hi h1 h2
    have hi2 : i < l.length := by omega
    have hr : rd l i ∈ l := by
      have : rd l i = l[i] := by simp [rd, List.getD_eq_getElem?_getD, hi2]
      rw [this]; exact List.getElem_mem hi2
    obtain ⟨hr1, hr2⟩ := hB _ hr
    have hmul : ((i : Int) + 1) * B ≤ (l.length + 1) * B := Int.mul_le_mul_of_nonneg_right (by omega) h0
    have hexp : ((i : Int) + 1) * B = i * B + B := by rw [Int.add_mul, Int.one_mul]
    refine Ev.step (f := fun k => talkeep_sum.l0 k (s + rd l i) l (l.length : Int) ((i + 1 : Nat) : Int)) (fun k => ?_) ?_
    · simp only [talkeep_sum.l0]
      rw [if_pos (by omega), if_pos (by omega), if_pos (by omega), wrap64_id (n := s + rd l i) (by omega) (by omega), wrap64_id (by omega) (by omega)]
      rfl
    · have := ih (i + 1) (s + rd l i) (by omega) (by rw [Int.natCast_add, Int.natCast_one, hexp]; omega) (by rw [Int.natCast_add, Int.natCast_one, hexp]; omega)
      rw [rd_cons_drop l i hi2, List.sum_cons, ← Int.add_assoc]
      exact this
theorem sum_ev (l : List Int) (B : Int) (hB : ∀ x ∈ l, -B ≤ x ∧ x ≤ B) (h0 : 0 ≤ B) (hlen : (l.length + 1) * B ≤ 9223372036854775807) (hb : l.length ≤ 9223372036854775806) : Ev (fun k => talkeep_sum.f k l) l.sum := by
  have := sum_loop l B hB h0 hlen hb l.length 0 0 (by omega) (by simp) (by simp)
  simpa [talkeep_sum.f] using this

/-! ### what is written off by units -/
def acc (D T s : Int) : Int := D * min s T / T
def unitsL (D T : Int) : Int → List Int → List Int
  | _, [] => []
  | s, u :: us => (acc D T (s + u) - acc D T s) :: unitsL D T (s + u) us
theorem unitsL_length (D T : Int) : ∀ (l : List Int) (s : Int), (unitsL D T s l).length = l.length
  | [], _ => rfl
  | _ :: us, s => by simp [unitsL, unitsL_length D T us]
theorem unitsL_append (D T : Int) : ∀ (l m : List Int) (s : Int), unitsL D T s (l ++ m) = unitsL D T s l ++ unitsL D T (s + l.sum) m
  | [], m, s => by simp [unitsL]
  | u :: us, m, s => by simp [unitsL, unitsL_append D T us m, Int.add_assoc]
theorem unitsL_sum (D T : Int) : ∀ (l : List Int) (s : Int), (unitsL D T s l).sum = acc D T (s + l.sum) - acc D T s
  | [], s => by simp [unitsL]
  | u :: us, s => by
    simp only [unitsL, List.sum_cons, unitsL_sum D T us, ← Int.add_assoc]
    omega
theorem acc_zero (D T : Int) (hT : 1 ≤ T) : acc D T 0 = 0 := by unfold acc; rw [Int.min_eq_left (by omega)]; simp
theorem acc_full (D T s : Int) (hT : 1 ≤ T) (h : T ≤ s) : acc D T s = D := by unfold acc; rw [Int.min_eq_right h]; exact Int.mul_ediv_cancel D (by omega)
theorem acc_le (D T s : Int) (hT : 1 ≤ T) (hD : 0 ≤ D) : acc D T s ≤ D := by
  unfold acc
  apply Int.ediv_le_of_le_mul (by omega)
  exact Int.mul_le_mul_of_nonneg_left (Int.min_le_right _ _) hD
theorem acc_nonneg (D T s : Int) (hT : 1 ≤ T) (hD : 0 ≤ D) (hs : 0 ≤ s) : 0 ≤ acc D T s := by
  unfold acc
  exact Int.ediv_nonneg (Int.mul_nonneg hD (by omega)) (by omega)
theorem mn_min (a b : Int) : mn a b = min a b := by unfold mn; split <;> omega
def okU (u : Int) : Bool := decide (0 ≤ u) && decide (u ≤ 1000000)
theorem units_loop (c r D T : Int) (hDe : D = c - r) (l : List Int) (hD0 : 0 ≤ D) (hD1 : D ≤ 1000000000000) (hT1 : 1 ≤ T) (hT2 : T ≤ 1000000) (hlen : l.length ≤ 40) (d : Nat) : ∀ (i : Nat) (s : Int) (out : List Int), i + d = l.length → 0 ≤ s → s ≤ i * 1000000 → out.length = i →
    Ev (fun k => fall_Units.l0 k c r T s (acc D T s) out l (l.length : Int) i) (if (l.drop i).all okU then (out ++ unitsL D T s (l.drop i), 0) else ([], 1)) := by
  induction d with
  | zero =>
    intro i s out hi _ _ _
    refine Ev.step (f := fun _ => some _) (fun k => ?_) (Ev.now _)
    simp only [fall_Units.l0]
    rw [if_neg (by omega), List.drop_of_length_le (by omega)]
    simp [unitsL]
  | succ d ih =>
    intro i s out hi hs0 hs1 ho
    have hi2 : i < l.length := by omega
    rw [rd_cons_drop l i hi2]
    by_cases h0 : rd l i < 0
    · refine Ev.step (f := fun _ => some _) (fun k => ?_) (Ev.now _)
      simp only [fall_Units.l0]
      rw [if_pos (by omega), if_pos (by omega), if_pos (by omega), if_pos h0]
      have : okU (rd l i) = false := by unfold okU; simp; omega
      simp [this]
    by_cases h1 : rd l i > 1000000
    · refine Ev.step (f := fun _ => some _) (fun k => ?_) (Ev.now _)
      simp only [fall_Units.l0]
      rw [if_pos (by omega), if_pos (by omega), if_pos (by omega), if_neg h0, if_pos h1]
      have : okU (rd l i) = false := by unfold okU; simp; omega
      simp [this]
    have hok : okU (rd l i) = true := by unfold okU; simp; omega
    have hmin0 : 0 ≤ min (s + rd l i) T := by omega
    have hmin1 : min (s + rd l i) T ≤ 1000000 := by omega
    have hp0 : 0 ≤ D * min (s + rd l i) T := Int.mul_nonneg hD0 hmin0
    have hp1 : D * min (s + rd l i) T ≤ 1000000000000 * 1000000 := Int.mul_le_mul hD1 hmin1 hmin0 (by omega)
    have ha0 := acc_nonneg D T (s + rd l i) hT1 hD0 (by omega)
    have ha1 := acc_le D T (s + rd l i) hT1 hD0
    have hb0 := acc_nonneg D T s hT1 hD0 hs0
    have hb1 := acc_le D T s hT1 hD0
    refine Ev.step (f := fun k => fall_Units.l0 k c r T (s + rd l i) (acc D T (s + rd l i)) (out ++ [acc D T (s + rd l i) - acc D T s]) l (l.length : Int) ((i + 1 : Nat) : Int)) (fun k => ?_) ?_
    · simp only [fall_Units.l0]
      rw [if_pos (by omega), if_pos (by omega), if_pos (by omega), if_neg h0, if_neg h1, if_neg (by omega), if_pos (by omega), wrap64_id (n := s + rd l i) (by omega) (by omega), ← hDe, wrap64_id (n := D) (by omega) (by omega), mn_min,
        wrap64_id (n := D * min (s + rd l i) T) (by omega) (by omega)]
      have he : Int.tdiv (D * min (s + rd l i) T) T = acc D T (s + rd l i) := by rw [Int.tdiv_eq_ediv_of_nonneg hp0]; rfl
      rw [he, wrap64_id (n := acc D T (s + rd l i)) (by omega) (by omega), wrap64_id (n := acc D T (s + rd l i) - acc D T s) (by omega) (by omega), wrap64_id (n := (i : Int) + 1) (by omega) (by omega)]
      rfl
    · have := ih (i + 1) (s + rd l i) (out ++ [acc D T (s + rd l i) - acc D T s]) (by omega) (by omega) (by omega) (by simp [ho])
      simpa [hok, unitsL] using this
/-- What Units tells. -/
def unitsR (c r T : Int) (l : List Int) : List Int × Int :=
  if c < 0 ∨ c > 1000000000000 ∨ r < 0 ∨ r > c ∨ T < 1 ∨ T > 1000000 then ([], 1) else if l.length > 40 then ([], 2) else if l.all okU then (unitsL (c - r) T 0 l, 0) else ([], 1)
theorem units_ev (c r T : Int) (l : List Int) (hl : l.length ≤ 9223372036854775806) : Ev (fun k => fall_Units.f k c r T l) (unitsR c r T l) := by
  unfold fall_Units.f
  have bad : ∀ b : Bool, (b = true) → Ev (fun k => fall_Units.j0 k c r T l b) (([] : List Int), (1 : Int)) := fun b hb => by
    refine Ev.step (f := fun _ => some _) (fun k => ?_) (Ev.now _)
    simp only [fall_Units.j0]
    rw [if_pos hb]
  by_cases hlook : c < 0 ∨ c > 1000000000000 ∨ r < 0 ∨ r > c
  · have hR : unitsR c r T l = ([], 1) := by unfold unitsR; rw [if_pos (by omega)]
    have hL : line_Look.f c r 1 = some 1 := by
      unfold line_Look.f
      by_cases h1 : c < 0
      · rw [if_pos h1]
      rw [if_neg h1]
      by_cases h2 : c > 1000000000000
      · rw [if_pos h2]
      rw [if_neg h2]
      by_cases h3 : r < 0
      · rw [if_pos h3]
      rw [if_neg h3, if_pos (by omega)]
    rw [hR]
    refine Ev.congr (f := fun _ => some _) (fun k => by rw [hL]; simp only [Option.bind_some]; rw [if_neg (by omega)]) (Ev.now _)
  · have hL : line_Look.f c r 1 = some 0 := by
      unfold line_Look.f
      rw [if_neg (by omega), if_neg (by omega), if_neg (by omega), if_neg (by omega), if_neg (by omega), if_neg (by omega)]
    by_cases hT : T < 1
    · have hR : unitsR c r T l = ([], 1) := by unfold unitsR; rw [if_pos (by omega)]
      rw [hR]
      refine Ev.congr (f := fun k => fall_Units.j0 k c r T l true) (fun k => by rw [hL]; simp only [Option.bind_some]; rw [if_pos trivial, if_pos hT]) (bad true rfl)
    by_cases hT2 : T > 1000000
    · have hR : unitsR c r T l = ([], 1) := by unfold unitsR; rw [if_pos (by omega)]
      rw [hR]
      refine Ev.congr (f := fun k => fall_Units.j0 k c r T l (decide (T > 1000000))) (fun k => by rw [hL]; simp only [Option.bind_some]; rw [if_pos trivial, if_neg hT]) (bad _ (by simpa using hT2))
    refine Ev.congr (f := fun k => fall_Units.j0 k c r T l (decide (T > 1000000))) (fun k => by rw [hL]; simp only [Option.bind_some]; rw [if_pos trivial, if_neg hT]) ?_
    have hd : decide (T > 1000000) = false := by simpa using hT2
    rw [hd]
    by_cases h40 : l.length > 40
    · have hR : unitsR c r T l = ([], 2) := by unfold unitsR; rw [if_neg (by omega), if_pos h40]
      rw [hR]
      refine Ev.step (f := fun _ => some _) (fun k => ?_) (Ev.now _)
      simp only [fall_Units.j0]
      rw [if_neg (by decide), if_pos (by omega)]
    · have hR : unitsR c r T l = if l.all okU then (unitsL (c - r) T 0 l, 0) else ([], 1) := by unfold unitsR; rw [if_neg (by omega), if_neg h40]
      rw [hR]
      refine Ev.step (f := fun k => fall_Units.l0 k c r T 0 (acc (c - r) T 0) [] l (l.length : Int) (0 : Nat)) (fun k => ?_) ?_
      · simp only [fall_Units.j0]
        rw [if_neg (by decide), if_neg (by omega), acc_zero _ _ (by omega)]
        rfl
      · have := units_loop c r (c - r) T rfl l (by omega) (by omega) (by omega) (by omega) (by omega) l.length 0 0 [] (by omega) (by omega) (by omega) rfl
        simpa using this

/-! ### the law -/
theorem ev_some {α : Type} {g : Nat → Option α} {r : α} (h : ∀ k, g k = some r) : Ev g r := ⟨0, fun k _ => h k⟩
theorem units_cond {c r T : Int} {l : List Int} (h : (unitsR c r T l).2 = 0) : 0 ≤ r ∧ r ≤ c ∧ c ≤ 1000000000000 ∧ 1 ≤ T ∧ T ≤ 1000000 ∧ l.length ≤ 40 ∧ l.all okU = true ∧ unitsR c r T l = (unitsL (c - r) T 0 l, 0) := by
  unfold unitsR at h ⊢
  split at h
  · simp at h
  rename_i h1
  split at h
  · simp at h
  rename_i h2
  split at h
  · rename_i h3
    rw [if_neg h1, if_neg h2, if_pos h3]
    exact ⟨by omega, by omega, by omega, by omega, by omega, by omega, h3, rfl⟩
  · simp at h
theorem units_bad {c r T : Int} {l : List Int} (h : (unitsR c r T l).2 ≠ 0) : (unitsR c r T l).1 = [] := by
  unfold unitsR at h ⊢
  split
  · rfl
  split
  · rfl
  split
  · rename_i h1 h2 h3
    rw [if_neg h1, if_neg h2, if_pos h3] at h
    exact absurd rfl h
  · rfl
theorem all_ok_mem {l : List Int} (h : l.all okU = true) : ∀ x ∈ l, 0 ≤ x ∧ x ≤ 1000000 := fun x hx => by
  have := List.all_eq_true.1 h x hx
  unfold okU at this
  simpa using this
theorem unitsL_mem (D T : Int) (hT : 1 ≤ T) (hD : 0 ≤ D) : ∀ (l : List Int) (s : Int), (∀ x ∈ l, 0 ≤ x) → 0 ≤ s → ∀ y ∈ unitsL D T s l, -D ≤ y ∧ y ≤ D
  | [], _, _, _, y, hy => by simp [unitsL] at hy
  | u :: us, s, hl, hs, y, hy => by
    have hu := hl u List.mem_cons_self
    rcases List.mem_cons.1 hy with rfl | hy
    · have h1 := acc_nonneg D T (s + u) hT hD (by omega)
      have h2 := acc_le D T (s + u) hT hD
      have h3 := acc_nonneg D T s hT hD hs
      have h4 := acc_le D T s hT hD
      omega
    · exact unitsL_mem D T hT hD us (s + u) (fun x hx => hl x (List.mem_cons_of_mem _ hx)) (by omega) y hy
theorem set_mid {α : Type} (A B : List α) (x y : α) : (A ++ x :: B).set A.length y = A ++ y :: B := by
  rw [List.set_append_right _ _ (Nat.le_refl _), Nat.sub_self]
  rfl
theorem rd_mid (A B : List Int) (x : Int) (i : Int) (h : i = A.length) : rd (A ++ x :: B) i = x := by
  subst h
  simp [rd, List.getD_eq_getElem?_getD]
theorem last3_ev (X Y : List Int) (x1 x2 : Int) (n : Nat) (hX : X.length = n) (hl : n + Y.length ≤ 100) (hb : -1000000000000 ≤ x2 + x1 ∧ x2 + x1 ≤ 1000000000000) :
    Ev (fun k => talkeep_UnitsSum.j3 k n (X ++ (x2 + x1) :: Y) (X ++ x1 :: x2 :: Y) false) true := by
  have hdel : slices_Delete_int_int.f ((X ++ x1 :: x2 :: Y).set ((n : Int) + 1).toNat (x2 + x1)) (n : Int) ((n : Int) + 1) = some (X ++ (x2 + x1) :: Y) := by
    have e : ((n : Int) + 1).toNat = (X ++ [x1]).length := by simp; omega
    rw [e, show X ++ x1 :: x2 :: Y = (X ++ [x1]) ++ x2 :: Y by simp, set_mid]
    unfold slices_Delete_int_int.f
    rw [if_pos ⟨by omega, by omega, by simp; omega⟩]
    rw [Int.toNat_natCast, show ((n : Int) + 1).toNat = X.length + 1 by omega, ← hX]
    simp
  have hr1 : rd (X ++ x1 :: x2 :: Y) (n : Int) = x1 := rd_mid X _ x1 _ (by omega)
  have hr2 : rd (X ++ x1 :: x2 :: Y) ((n : Int) + 1) = x2 := by
    rw [show X ++ x1 :: x2 :: Y = (X ++ [x1]) ++ x2 :: Y by simp]
    exact rd_mid (X ++ [x1]) _ x2 _ (by simp; omega)
  have hL : (X ++ x1 :: x2 :: Y).length = n + 2 + Y.length := by simp; omega
  have hw : wrap64 ((n : Int) + 1) = (n : Int) + 1 := wrap64_id (by omega) (by omega)
  have hw2 : wrap64 (x2 + x1) = x2 + x1 := wrap64_id (by omega) (by omega)
  refine Ev.step (f := fun k => (slices_Equal_int_int.f k (X ++ (x2 + x1) :: Y) (X ++ (x2 + x1) :: Y)).bind fun t => some t) (fun k => ?_) ?_
  · simp only [talkeep_UnitsSum.j3]
    rw [if_neg (by decide), hw, if_pos (by omega), if_pos (by omega), if_pos (by omega), if_pos (by omega), hr1, hr2, hw2, hdel]
    simp only [Option.bind_some]
  · refine Ev.bind (f := fun _ t => some t) (equal_ev _ _ (by simp; omega)) ?_
    simp only [decide_true]
    exact Ev.now _
theorem ins_spec (A B : List Int) (u p : Int) (n : Nat) (hA : A.length = n) (hl : n + B.length ≤ 100) : slices_Insert_int_int.f (A ++ u :: B) (n : Int) [p] = some (A ++ p :: u :: B) := by
  have hll : (A ++ u :: B).length = n + 1 + B.length := by simp; omega
  unfold slices_Insert_int_int.f
  simp only []
  rw [if_pos ⟨by omega, by omega, by omega⟩]
  rw [Int.toNat_natCast, ← hA]
  simp
theorem set_spec (A B : List Int) (u p q : Int) (n : Nat) (hA : A.length = n) : (A ++ p :: u :: B).set ((n : Int) + 1).toNat q = A ++ p :: q :: B := by
  have e : ((n : Int) + 1).toNat = (A ++ [p]).length := by simp; omega
  rw [e, show A ++ p :: u :: B = (A ++ [p]) ++ u :: B by simp, set_mid]
  simp
theorem rd_next (A B : List Int) (u p : Int) (n : Nat) (hA : A.length = n) : rd (A ++ p :: u :: B) ((n : Int) + 1) = u := by
  rw [show A ++ p :: u :: B = (A ++ [p]) ++ u :: B by simp]
  exact rd_mid (A ++ [p]) B u _ (by simp; omega)
theorem sum_nonneg : ∀ (L : List Int), (∀ x ∈ L, 0 ≤ x ∧ x ≤ 1000000) → 0 ≤ L.sum
  | [], _ => by simp
  | a :: L, hL => by
    have h1 := hL a List.mem_cons_self
    have h2 := sum_nonneg L (fun x hx => hL x (List.mem_cons_of_mem _ hx))
    simp only [List.sum_cons]
    omega
theorem unitsR_two (A B : List Int) (u p : Int) (c r T : Int) (h1 : 0 ≤ r) (h2 : r ≤ c) (h3 : c ≤ 1000000000000) (h4 : 1 ≤ T) (h5 : T ≤ 1000000) (hl : A.length + B.length ≤ 38) (hmA : ∀ x ∈ A, 0 ≤ x ∧ x ≤ 1000000) (hmB : ∀ x ∈ B, 0 ≤ x ∧ x ≤ 1000000) (hu : 0 ≤ u ∧ u ≤ 1000000) (hp0 : 0 ≤ p) (hp1 : p ≤ u) :
    unitsR c r T (A ++ p :: (u - p) :: B) = (unitsL (c - r) T 0 (A ++ p :: (u - p) :: B), 0) := by
  have hok2 : (A ++ p :: (u - p) :: B).all okU = true := by
    rw [List.all_eq_true]
    intro x hx
    have : 0 ≤ x ∧ x ≤ 1000000 := by
      simp only [List.mem_append, List.mem_cons] at hx
      rcases hx with hx | rfl | rfl | hx
      · exact hmA x hx
      · omega
      · omega
      · exact hmB x hx
    unfold okU
    simpa using this
  have hlen2 : (A ++ p :: (u - p) :: B).length = A.length + 2 + B.length := by simp; omega
  unfold unitsR
  rw [if_neg (by omega), if_neg (by omega), if_pos hok2]
theorem units_two (A B : List Int) (u p D T : Int) (hT : 1 ≤ T) (hD : 0 ≤ D) (hD2 : D ≤ 1000000000000) (hmA : ∀ x ∈ A, 0 ≤ x ∧ x ≤ 1000000) (hp0 : 0 ≤ p) (hp1 : p ≤ u) :
    ∃ X Y x1 x2, X.length = A.length ∧ Y.length = B.length ∧ -1000000000000 ≤ x2 + x1 ∧ x2 + x1 ≤ 1000000000000 ∧ unitsL D T 0 (A ++ p :: (u - p) :: B) = X ++ x1 :: x2 :: Y ∧ unitsL D T 0 (A ++ u :: B) = X ++ (x2 + x1) :: Y := by
  have hS0 := sum_nonneg A hmA
  have hb : ∀ s, 0 ≤ s → 0 ≤ acc D T s ∧ acc D T s ≤ D := fun s hs => ⟨acc_nonneg _ _ _ hT hD hs, acc_le _ _ _ hT hD⟩
  have hb2 := hb (0 + A.sum) (by omega)
  have hb3 := hb (0 + A.sum + u) (by omega)
  refine ⟨unitsL D T 0 A, unitsL D T (0 + A.sum + u) B, acc D T (0 + A.sum + p) - acc D T (0 + A.sum), acc D T (0 + A.sum + u) - acc D T (0 + A.sum + p), unitsL_length _ _ _ _, unitsL_length _ _ _ _, by omega, by omega, ?_, ?_⟩
  · rw [unitsL_append]
    simp only [unitsL]
    rw [show 0 + A.sum + p + (u - p) = 0 + A.sum + u by omega]
  · rw [unitsL_append]
    simp only [unitsL]
    rw [show acc D T (0 + A.sum + u) - acc D T (0 + A.sum) = acc D T (0 + A.sum + u) - acc D T (0 + A.sum + p) + (acc D T (0 + A.sum + p) - acc D T (0 + A.sum)) by omega]
theorem j2_step (L L1 L2 M : List Int) (c r T a4 a5 : Int) (n : Int) (u p : Int) (k : Nat) (ha4 : talkeep_Within.f a4 (L.length : Int) = some n) (c1 : 0 ≤ n) (c2 : n < (L.length : Int)) (hru : rd L n = u) (hw2 : wrap64 (u + 1) = u + 1) (hp : talkeep_Within.f a5 (u + 1) = some p) (hcl : slices_Clone_int_int.f L = some L)
    (hins : slices_Insert_int_int.f L n [p] = some L1) (hw : wrap64 (n + 1) = n + 1) (c3 : 0 ≤ n + 1) (c4 : n + 1 < (L1.length : Int)) (hr2 : rd L1 (n + 1) = u) (hw3 : wrap64 (u - p) = u - p) (hset : L1.set (n + 1).toNat (u - p) = L2) :
    talkeep_UnitsSum.j2 (k + 1) c r T L a4 a5 M false = (fall_Units.f k c r T L2).bind fun bt => (if bt.2 = 0 then (talkeep_UnitsSum.j3 k n M bt.1 ((bt.1.length : Int) != (wrap64 ((M.length : Int) + 1)))) else (talkeep_UnitsSum.j3 k n M bt.1 true)) := by
  simp only [talkeep_UnitsSum.j2]
  rw [if_neg (by decide), ha4]
  simp only [Option.bind_some]
  rw [if_pos c1, if_pos c2, hru, hw2, hp]
  simp only [Option.bind_some]
  rw [hcl]
  simp only [Option.bind_some]
  rw [hins]
  simp only [Option.bind_some]
  rw [hw, if_pos c3, if_pos c4, hr2, hw3, hset]
/-- The end: what was used in two parts. -/
theorem last2_ev (A B : List Int) (u : Int) (c r T : Int) (h1 : 0 ≤ r) (h2 : r ≤ c) (h3 : c ≤ 1000000000000) (h4 : 1 ≤ T) (h5 : T ≤ 1000000) (hl : A.length + B.length ≤ 38) (hmA : ∀ x ∈ A, 0 ≤ x ∧ x ≤ 1000000) (hmB : ∀ x ∈ B, 0 ≤ x ∧ x ≤ 1000000) (hu : 0 ≤ u ∧ u ≤ 1000000) (a4 a5 : Int) (ha4 : talkeep_Within.f a4 ((A ++ u :: B).length : Int) = some (A.length : Int)) :
    Ev (fun k => talkeep_UnitsSum.j2 k c r T (A ++ u :: B) a4 a5 (unitsL (c - r) T 0 (A ++ u :: B)) false) true := by
  obtain ⟨p, hp, hp0, hp1⟩ := within_spec a5 (u + 1) (by omega) (by omega)
  obtain ⟨X, Y, x1, x2, hX, hY, hx0, hx1, hU2, hU1⟩ := units_two A B u p (c - r) T h4 (by omega) (by omega) hmA hp0 (by omega)
  have hR2 := unitsR_two A B u p c r T h1 h2 h3 h4 h5 hl hmA hmB hu hp0 (by omega)
  rw [hU2] at hR2
  rw [hU1]
  have hlen2 : (A ++ p :: (u - p) :: B).length = A.length + 2 + B.length := by simp; omega
  have hUE := units_ev c r T (A ++ p :: (u - p) :: B) (by omega)
  rw [hR2] at hUE
  clear hU1 hU2 hR2 hlen2 hmA hmB
  obtain ⟨n, hA⟩ : ∃ n, A.length = n := ⟨_, rfl⟩
  have hins := ins_spec A B u p n hA (by omega)
  have hset := set_spec A B u p (u - p) n hA
  have hrd2 := rd_next A B u p n hA
  rw [hA] at ha4 hl hX
  have hll : (A ++ u :: B).length = n + 1 + B.length := by simp; omega
  have hlen3 : (A ++ p :: u :: B).length = n + 2 + B.length := by simp; omega
  have hru : rd (A ++ u :: B) (n : Int) = u := rd_mid A B u _ (by omega)
  have hclone : slices_Clone_int_int.f (A ++ u :: B) = some (A ++ u :: B) := by unfold slices_Clone_int_int.f; rw [if_pos (by omega)]
  have hf3 := last3_ev X Y x1 x2 n hX (by omega) ⟨hx0, hx1⟩
  have c1 : (0 : Int) ≤ (n : Int) := by omega
  have c2 : (n : Int) < ((A ++ u :: B).length : Int) := by omega
  have c3 : (0 : Int) ≤ (n : Int) + 1 := by omega
  have c4 : (n : Int) + 1 < ((A ++ p :: u :: B).length : Int) := by omega
  have e1 : (X ++ x1 :: x2 :: Y).length = n + 2 + B.length := by simp; omega
  have e2 : (X ++ (x2 + x1) :: Y).length = n + 1 + B.length := by simp; omega
  have hne : (((X ++ x1 :: x2 :: Y).length : Int) != (wrap64 (((X ++ (x2 + x1) :: Y).length : Int) + 1))) = false := by
    rw [e1, e2, wrap64_id (by omega) (by omega), bne_eq_false_iff_eq]
    omega
  have hw : wrap64 ((n : Int) + 1) = (n : Int) + 1 := wrap64_id (by omega) (by omega)
  have hw2 : wrap64 (u + 1) = u + 1 := wrap64_id (by omega) (by omega)
  have hw3 : wrap64 (u - p) = u - p := wrap64_id (by omega) (by omega)
  refine Ev.step (fun k => j2_step _ _ _ _ c r T a4 a5 n u p k ha4 c1 c2 hru hw2 hp hclone hins hw c3 c4 hrd2 hw3 hset) ?_
  refine Ev.bind hUE ?_
  refine Ev.congr (fun k => ?_) hf3
  simp only []
  rw [if_pos trivial, hne]
theorem last_ev (l : List Int) (c r T : Int) (h : (unitsR c r T l).2 = 0) (hlen : l.length ≠ 0) (h40 : l.length ≠ 40) (a4 a5 : Int) : Ev (fun k => talkeep_UnitsSum.j2 k c r T l a4 a5 (unitsL (c - r) T 0 l) false) true := by
  obtain ⟨h1, h2, h3, h4, h5, h6, h7, h8⟩ := units_cond h
  have hm := all_ok_mem h7
  obtain ⟨i, hi, hi0, hi1⟩ := within_spec a4 (l.length : Int) (by omega) (by omega)
  obtain ⟨n, rfl⟩ := Int.eq_ofNat_of_zero_le hi0
  have hn : n < l.length := by omega
  obtain ⟨A, u, B, hl, hA⟩ : ∃ A u B, l = A ++ u :: B ∧ A.length = n := by
    refine ⟨l.take n, l[n], l.drop (n + 1), ?_, by simp; omega⟩
    rw [← List.drop_eq_getElem_cons hn, List.take_append_drop]
  subst hl
  rw [← hA] at hi
  have hll : (A ++ u :: B).length = A.length + 1 + B.length := by simp; omega
  exact last2_ev A B u c r T h1 h2 h3 h4 h5 (by omega) (fun x hx => hm x (by simp [hx])) (fun x hx => hm x (by simp [hx])) (hm u (by simp)) a4 a5 hi
theorem mid_ev (l : List Int) (c r T : Int) (h : (unitsR c r T l).2 = 0) (a4 a5 : Int) : Ev (fun k => talkeep_UnitsSum.j1 k c r T l a4 a5 (unitsL (c - r) T 0 l) false) true := by
  have fin : Ev (fun k => talkeep_UnitsSum.j2 k c r T l a4 a5 (unitsL (c - r) T 0 l) true) true := Ev.step (f := fun _ => some true) (fun k => by simp only [talkeep_UnitsSum.j2]; rw [if_pos trivial]) (Ev.now _)
  by_cases h0 : l.length = 0
  · exact Ev.step (f := fun k => talkeep_UnitsSum.j2 k c r T l a4 a5 (unitsL (c - r) T 0 l) true) (fun k => by simp only [talkeep_UnitsSum.j1]; rw [if_neg (by decide), if_pos (by omega)]) fin
  · by_cases h40 : l.length = 40
    · exact Ev.step (f := fun k => talkeep_UnitsSum.j2 k c r T l a4 a5 (unitsL (c - r) T 0 l) true) (fun k => by simp only [talkeep_UnitsSum.j1]; rw [if_neg (by decide), if_neg (by omega), show ((l.length : Int) == 40) = true by rw [beq_iff_eq]; omega]) fin
    · exact Ev.step (f := fun k => talkeep_UnitsSum.j2 k c r T l a4 a5 (unitsL (c - r) T 0 l) false) (fun k => by simp only [talkeep_UnitsSum.j1]; rw [if_neg (by decide), if_neg (by omega), show ((l.length : Int) == 40) = false by rw [beq_eq_false_iff_ne]; omega]) (last_ev l c r T h h0 h40 a4 a5)
theorem all_ev (l : List Int) (hl : l.length ≤ 9223372036854775806) (c r T a4 a5 : Int) : Ev (fun k => talkeep_UnitsSum.j0 k c r T l a4 a5 false) true := by
  refine Ev.step (fun k => by simp only [talkeep_UnitsSum.j0]; rw [if_neg (by decide)]) ?_
  refine Ev.bind (units_ev c r T l hl) ?_
  by_cases h : (unitsR c r T l).2 = 0
  · obtain ⟨h1, h2, h3, h4, h5, h6, h7, h8⟩ := units_cond h
    have hm := all_ok_mem h7
    have hd := unitsL_mem (c - r) T h4 (by omega) l 0 (fun x hx => (hm x hx).1) (by omega)
    have hs := unitsL_sum (c - r) T l 0
    rw [acc_zero _ _ h4] at hs
    have hle := acc_le (c - r) T (0 + l.sum) h4 (by omega)
    have hw : wrap64 (c - r) = c - r := wrap64_id (by omega) (by omega)
    have hlen := unitsL_length (c - r) T l 0
    rw [h8]
    have hmid := mid_ev l c r T h a4 a5
    refine Ev.congr (f := fun k => (talkeep_sum.f k (unitsL (c - r) T 0 l)).bind fun t132 => (if t132 > (wrap64 (c - r)) then (talkeep_UnitsSum.j1 k c r T l a4 a5 (unitsL (c - r) T 0 l) true) else ((talkeep_sum.f k l).bind fun t133 => (if t132 = (wrap64 (c - r)) then (talkeep_UnitsSum.j1 k c r T l a4 a5 (unitsL (c - r) T 0 l) ((decide (t133 ≥ T)) != (decide (t133 ≥ T)))) else (talkeep_UnitsSum.j1 k c r T l a4 a5 (unitsL (c - r) T 0 l) ((decide (t133 ≥ T)) != false)))))) (fun k => by simp only []; rw [if_pos trivial, if_pos (by omega)]) ?_
    refine Ev.bind (sum_ev _ 1000000000000 (fun x hx => ⟨by have := hd x hx; omega, by have := hd x hx; omega⟩) (by omega) (by rw [hlen]; omega) (by omega)) ?_
    refine Ev.congr (fun k => by rw [if_neg (by rw [hw]; omega)]) ?_
    refine Ev.bind (sum_ev l 1000000 (fun x hx => ⟨by have := hm x hx; omega, (hm x hx).2⟩) (by omega) (by omega) (by omega)) ?_
    by_cases he : (unitsL (c - r) T 0 l).sum = c - r
    · exact Ev.congr (fun k => by rw [hw, if_pos he, bne_self_eq_false]) hmid
    · refine Ev.congr (fun k => ?_) hmid
      have : decide (l.sum ≥ T) = false := by
        rw [decide_eq_false_iff_not]
        intro hge
        apply he
        rw [hs, acc_full (c - r) T (0 + l.sum) h4 (by omega)]
        omega
      rw [hw, if_neg he, this, bne_self_eq_false]
  · refine Ev.congr (f := fun _ => some true) (fun k => ?_) (Ev.now _)
    rw [if_neg h, units_bad h]
    rfl
theorem begun_units : unitsR 100 0 10 [3, 9] = ([30, 70], 0) := by decide
/-- The plain law of UnitsSum. -/
theorem UnitsSum : talkeep_UnitsSum.Pure := by
  intro c r T l a4 a5 _ _ _ hl1 hl2 _ _ _
  refine Ev.rounds (r := true) ?_
  unfold talkeep_UnitsSum.f
  refine Ev.bind (units_ev 100 0 10 [3, 9] (by decide)) ?_
  rw [begun_units]
  refine Ev.congr (f := fun k => (slices_Equal_int_int.f k [30, 70] [30, 70]).bind fun t127 => (talkeep_UnitsSum.j0 k c r T l a4 a5 (!t127))) (fun k => by simp only []; rw [if_pos trivial]) ?_
  refine Ev.bind (equal_ev _ _ (by decide)) ?_
  exact all_ev l (by omega) c r T a4 a5
end Go.Proofs.Ytlfbdcobpfainaa.Pure
