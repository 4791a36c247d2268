/- Part of the proof, with what it needs of the printed words alone. -/
import Derived.Test.YtlfbdcobpfainaaTS13
import Derived.KernelRfl
set_option linter.unusedVariables false
set_option linter.unusedSimpArgs false
namespace Go.Proofs.Ytlfbdcobpfainaa.S
open Go.RowKit Go.Proofs.YtlfbdcobpfainaaW.PrintWords Go.Proofs.YtlfbdcobpfainaaW.PrintLast Go.Proofs.YtlfbdcobpfainaaW.PrintMore
theorem u64_wrap (n : Int) : IntKind.u64.wrap n = n % 18446744073709551616 := by simp [IntKind.wrap, IntKind.signed, IntKind.bits]
theorem within_spec (a n : Int) (h1 : 1 ≤ n) (h2 : n ≤ 9223372036854775807) : ∃ r, talkeep_Within.f a n = some r ∧ 0 ≤ r ∧ r < n := by
  unfold talkeep_Within.f
  have hn : IntKind.u64.wrap n = n := by rw [u64_wrap]; omega
  have ha : 0 ≤ IntKind.u64.wrap a := by rw [u64_wrap]; omega
  rw [hn, if_neg (by omega)]
  have ht : Int.tmod (IntKind.u64.wrap a) n = IntKind.u64.wrap a % n := Int.tmod_eq_emod_of_nonneg ha
  rw [ht]
  have h3 := Int.emod_nonneg (IntKind.u64.wrap a) (show n ≠ 0 by omega)
  have h4 := Int.emod_lt_of_pos (IntKind.u64.wrap a) (show 0 < n by omega)
  exact ⟨_, rfl, by rw [IntWalk.wrap64_in _ ⟨by omega, by omega⟩]; exact h3, by rw [IntWalk.wrap64_in _ ⟨by omega, by omega⟩]; exact h4⟩
theorem mono_up {α : Type} {f : Nat → Option α} (hm : ∀ k, LeO (f k) (f (k + 1))) {r : α} {k : Nat} (h : f k = some r) (j : Nat) : f (k + j) = some r := by
  induction j with
  | zero => exact h
  | succ j ih => exact hm (k + j) r ih
theorem begun_true : taltop_begun.f 1100 = some true := by kernel_rfl
theorem begun_at {k : Nat} (hk : 1100 ≤ k) : taltop_begun.f k = some true := by
  have := mono_up (f := fun k => taltop_begun.f k) (fun k => taltop_begun.mono k) begun_true (k - 1100)
  rw [show 1100 + (k - 1100) = k by omega] at this
  exact this
theorem rd_at {l : List Int} {i : Nat} (h : i < l.length) : rd l (i : Int) = l[i] := by simp [rd, List.getD_eq_getElem?_getD, h]
theorem wrap_small {x : Int} (h0 : -1000000000000 ≤ x) (h1 : x ≤ 1000000000000) : wrap64 x = x := IntWalk.wrap64_in _ ⟨by omega, by omega⟩
structure Votes (n : Int) (V : List Int) : Prop where
  len : V.length ≤ 20
  small : ∀ x ∈ V, 0 ≤ x ∧ x ≤ 220
  seats : 0 ≤ n ∧ n ≤ 220
  some_ : V.sum ≠ 0
theorem take_sum_le {V : List Int} (h : ∀ x ∈ V, 0 ≤ x ∧ x ≤ 220) : ∀ (l : List Int), (∀ x ∈ l, 0 ≤ x ∧ x ≤ 220) → 0 ≤ l.sum ∧ l.sum ≤ 220 * (l.length : Int)
  | [], _ => by simp
  | x :: r, hx => by
    have h1 := hx x (by simp)
    have h2 := take_sum_le h r (fun y hy => hx y (by simp [hy]))
    rw [List.sum_cons, List.length_cons]; push_cast; omega
theorem look_loop {n : Int} {V : List Int} (h : Votes n V) : ∀ (d k i : Nat) (s : Int), i + d = V.length → d + 2 ≤ k → 0 ≤ s → s ≤ 220 * (i : Int) → s + (V.drop i).sum = V.sum → seats_look.l0 k n s V (V.length : Int) i = some (V.sum, 0)
  | 0, k, i, s, hi, hk, h0, h1, he => by
    obtain ⟨k, rfl⟩ : ∃ m, k = m + 2 := ⟨k - 2, by omega⟩
    have hs := h.seats
    have hne := h.some_
    rw [List.drop_of_length_le (by omega)] at he
    have e : s = V.sum := by simpa using he
    simp only [seats_look.l0]
    rw [if_neg (by omega), if_neg (by omega), decide_eq_false (by omega)]
    simp only [seats_look.j1]
    rw [if_neg (by decide), if_neg (by rw [e]; exact hne), e]
  | d + 1, k, i, s, hi, hk, h0, h1, he => by
    obtain ⟨k, rfl⟩ : ∃ m, k = m + 1 := ⟨k - 1, by omega⟩
    have hlt : i < V.length := by omega
    have hl := h.len
    have hx := h.small V[i] (List.getElem_mem hlt)
    rw [List.drop_eq_getElem_cons hlt, List.sum_cons] at he
    simp only [seats_look.l0]
    rw [if_pos (by omega), if_pos (by omega), if_pos (by omega), rd_at hlt, if_neg (by omega), if_neg (by omega), wrap_small (by omega) (by omega), wrap_small (by omega) (by omega)]
    exact look_loop h d k (i + 1) (s + V[i]) (by omega) (by omega) (by omega) (by push_cast; omega) (by omega)
theorem look_eq {n : Int} {V : List Int} (h : Votes n V) {k : Nat} (hk : 30 ≤ k) : seats_look.f k n V = some (V.sum, 0) := by
  have hl := h.len
  unfold seats_look.f
  rw [if_neg (by omega)]
  have := look_loop h V.length k 0 0 (by omega) (by omega) (by omega) (by omega) (by simp)
  simpa using this
theorem sum_map_mul (k : Int) : ∀ (vs : List Int), (vs.map fun v => v * k).sum = vs.sum * k
  | [] => by simp
  | x :: r => by rw [List.map_cons, List.sum_cons, List.sum_cons, sum_map_mul k r, Int.add_mul]
theorem whole {n k v : Int} (hn : 0 < n) (hk : 0 < k) : n * (v * k) / (n * k) = v := by
  have : n * (v * k) = (n * k) * v := by rw [Int.mul_assoc, Int.mul_comm v k]
  rw [this]
  exact Int.mul_ediv_cancel_left v (by have := Int.mul_pos hn hk; omega)
theorem set_take_rep (q : List Int) {i n : Nat} (hq : q.length = n) (hi : i < n) : (q.take i ++ List.replicate (n - i) 0).set i (q[i]'(by omega)) = q.take (i + 1) ++ List.replicate (n - (i + 1)) 0 := take_set_rep q 0 hq hi
theorem quot_loop {vs : List Int} {k n : Int} {V : List Int} (hV : V = vs.map fun v => v * k) (h : Votes n V) (hn : 0 < n) (hk : 0 < k) (hv : ∀ v ∈ vs, 0 ≤ v ∧ v ≤ 11) (hk20 : k ≤ 20) : ∀ (d f i : Nat), i + d = V.length → d < f → seats_Quotas.l0 f n (n * k) (vs.take i ++ List.replicate (vs.length - i) 0) V (V.length : Int) i = some (vs, 0)
  | 0, f, i, hi, hf => by
    obtain ⟨f, rfl⟩ : ∃ m, f = m + 1 := ⟨f - 1, by omega⟩
    have hl : V.length = vs.length := by rw [hV]; simp
    simp only [seats_Quotas.l0]
    rw [if_neg (by omega), List.take_of_length_le (by omega), show vs.length - i = 0 by omega]
    simp
  | d + 1, f, i, hi, hf => by
    obtain ⟨f, rfl⟩ : ∃ m, f = m + 1 := ⟨f - 1, by omega⟩
    have hl : V.length = vs.length := by rw [hV]; simp
    have hlt : i < V.length := by omega
    have hl20 := h.len
    have hs := h.seats
    have hvi := hv (vs[i]'(by omega)) (List.getElem_mem _)
    have hVi : V[i] = (vs[i]'(by omega)) * k := by simp [hV]
    obtain ⟨v, hve⟩ : ∃ v, v = vs[i]'(by omega) := ⟨_, rfl⟩
    rw [← hve] at hVi hvi
    have m0 : 0 ≤ v * k := Int.mul_nonneg hvi.1 (by omega)
    have m1 : v * k ≤ 11 * 20 := Int.mul_le_mul hvi.2 hk20 (by omega) (by omega)
    have p0 : 0 ≤ n * (v * k) := Int.mul_nonneg (by omega) m0
    have p1 : n * (v * k) ≤ 220 * 220 := Int.mul_le_mul hs.2 (by omega) m0 (by omega)
    have hnk : 0 < n * k := Int.mul_pos hn hk
    have hlen : (vs.take i ++ List.replicate (vs.length - i) (0 : Int)).length = vs.length := by simp; omega
    simp only [seats_Quotas.l0]
    rw [if_pos (by omega), if_pos (by omega), if_pos (by omega), if_neg (by omega), if_pos (by rw [hlen]; omega), rd_at hlt, hVi, wrap_small (x := n * (v * k)) (by omega) (by omega), Int.tdiv_eq_ediv_of_nonneg p0, whole hn hk, wrap_small (x := v) (by omega) (by omega), wrap_small (x := (i : Int) + 1) (by omega) (by omega)]
    have e : (((i : Nat) : Int)).toNat = i := by simp
    rw [e, hve, set_take_rep vs rfl (by omega)]
    exact quot_loop hV h hn hk hv hk20 d f (i + 1) (by omega) (by omega)
theorem quot_eq {vs : List Int} {k n : Int} {V : List Int} (hV : V = vs.map fun v => v * k) (h : Votes n V) (hnv : n = vs.sum) (hn : 0 < n) (hk : 0 < k) (hv : ∀ v ∈ vs, 0 ≤ v ∧ v ≤ 11) (hk20 : k ≤ 20) {f : Nat} (hf : 50 ≤ f) : seats_Quotas.f f n V = some (vs, 0) := by
  have hl20 := h.len
  have hl : V.length = vs.length := by rw [hV]; simp
  unfold seats_Quotas.f
  rw [look_eq h (by omega), Option.bind_some, if_pos rfl, if_pos (by omega), if_pos (by omega)]
  have hsum : V.sum = n * k := by rw [hV, sum_map_mul, hnv]
  rw [show (V.sum, (0 : Int)).1 = n * k from hsum]
  have := quot_loop hV h hn hk hv hk20 V.length f 0 (by omega) (by omega)
  simpa [hl] using this
def Dv (way s : Int) : Int := if way = 0 then s + 1 else if way = 1 then 2 * s + 1 else s
theorem Dv_bd {way s : Int} (h0 : 0 ≤ s) (h1 : s ≤ 220) : 0 ≤ Dv way s ∧ Dv way s ≤ 441 := by unfold Dv; split; omega; split <;> omega
theorem div_eq {way s : Int} (h0 : 0 ≤ s) (h1 : s ≤ 220) : seats_divisor.f way s = some (Dv way s) := by
  unfold seats_divisor.f Dv
  split
  · rw [wrap_small (by omega) (by omega)]
  · split
    · rw [wrap_small (x := 2 * s) (by omega) (by omega), wrap_small (by omega) (by omega)]
    · rfl
def leL : List Int → List Int → Prop
  | [], [] => True
  | a :: r, b :: s => 0 ≤ a ∧ a ≤ b ∧ leL r s
  | _, _ => False
theorem leL_length : ∀ {a b : List Int}, leL a b → a.length = b.length
  | [], [], _ => rfl
  | _ :: _, _ :: _, h => by simp [leL_length h.2.2]
  | [], _ :: _, h => h.elim
  | _ :: _, [], h => h.elim
theorem leL_sum : ∀ {a b : List Int}, leL a b → a.sum ≤ b.sum
  | [], [], _ => by simp
  | x :: r, y :: s, h => by have := leL_sum h.2.2; have := h.2.1; rw [List.sum_cons, List.sum_cons]; omega
  | [], _ :: _, h => h.elim
  | _ :: _, [], h => h.elim
theorem leL_eq : ∀ {a b : List Int}, leL a b → a.sum = b.sum → a = b
  | [], [], _, _ => rfl
  | x :: r, y :: s, h, e => by
    have h1 := leL_sum h.2.2
    have h2 := h.2.1
    rw [List.sum_cons, List.sum_cons] at e
    rw [leL_eq h.2.2 (by omega), show x = y by omega]
  | [], _ :: _, h, _ => h.elim
  | _ :: _, [], h, _ => h.elim
theorem leL_get : ∀ {a b : List Int}, leL a b → ∀ (i : Nat) (ha : i < a.length) (hb : i < b.length), 0 ≤ a[i] ∧ a[i] ≤ b[i]
  | [], [], _, i, ha, _ => absurd ha (by simp)
  | x :: r, y :: s, h, 0, _, _ => ⟨h.1, h.2.1⟩
  | x :: r, y :: s, h, i + 1, ha, hb => by simpa using leL_get h.2.2 i (by simpa using ha) (by simpa using hb)
  | [], _ :: _, h, _, _, _ => h.elim
  | _ :: _, [], h, _, _, _ => h.elim
theorem leL_set : ∀ {a b : List Int}, leL a b → ∀ (i : Nat) (ha : i < a.length) (hb : i < b.length), a[i] < b[i] → leL (a.set i (a[i] + 1)) b ∧ (a.set i (a[i] + 1)).sum = a.sum + 1
  | [], [], _, i, ha, _, _ => absurd ha (by simp)
  | x :: r, y :: s, h, 0, _, _, hlt => by
    have h1 : x < y := by simpa using hlt
    have h0 := h.1
    refine ⟨⟨by show 0 ≤ x + 1; omega, by show x + 1 ≤ y; omega, h.2.2⟩, ?_⟩
    show ((x + 1) :: r).sum = _
    rw [List.sum_cons, List.sum_cons]; omega
  | x :: r, y :: s, h, i + 1, ha, hb, hlt => by
    obtain ⟨h1, h2⟩ := leL_set h.2.2 i (by simpa using ha) (by simpa using hb) (by simpa using hlt)
    refine ⟨⟨h.1, h.2.1, by simpa using h1⟩, ?_⟩
    have : ((x :: r).set (i + 1) ((x :: r)[i + 1] + 1)) = x :: r.set i (r[i]'(by simpa using ha) + 1) := by simp
    rw [this, List.sum_cons, List.sum_cons, h2]; omega
  | [], _ :: _, h, _, _, _, _ => h.elim
  | _ :: _, [], h, _, _, _, _ => h.elim
theorem leL_lt : ∀ {a b : List Int}, leL a b → a.sum < b.sum → ∃ (i : Nat) (ha : i < a.length) (hb : i < b.length), a[i] < b[i]
  | [], [], _, e => by simp at e
  | x :: r, y :: s, h, e => by
    by_cases c : x < y
    · exact ⟨0, by simp, by simp, by simpa using c⟩
    · have h2 := h.2.1
      rw [List.sum_cons, List.sum_cons] at e
      obtain ⟨i, ha, hb, hl⟩ := leL_lt h.2.2 (by omega)
      exact ⟨i + 1, by simpa using ha, by simpa using hb, by simpa using hl⟩
  | [], _ :: _, h, _ => h.elim
  | _ :: _, [], h, _ => h.elim
def Best (way : Int) (V out : List Int) (j : Nat) (b : Int) : Prop :=
  (b = -1 ∧ ∀ i : Nat, i < j → rd V i = 0) ∨ ∃ bi : Nat, bi < V.length ∧ b = bi ∧ rd V bi ≠ 0 ∧ ∀ i : Nat, i < j → rd V i ≠ 0 → rd V i * Dv way (rd out bi) ≤ rd V bi * Dv way (rd out i)
theorem better {x y v D E F : Int} (hx : 0 < x) (hy : 0 < y) (hv : 0 ≤ v) (hF : 0 ≤ F) (h1 : v * D ≤ x * F) (h2 : x * E < y * D) : v * E ≤ y * F := by
  have a1 : x * (v * E) ≤ x * (y * F) := by
    have b1 : v * (x * E) ≤ v * (y * D) := Int.mul_le_mul_of_nonneg_left (by omega) hv
    have b2 : y * (v * D) ≤ y * (x * F) := Int.mul_le_mul_of_nonneg_left h1 (by omega)
    have e1 : x * (v * E) = v * (x * E) := by rw [Int.mul_left_comm]
    have e2 : v * (y * D) = y * (v * D) := by rw [Int.mul_left_comm]
    have e3 : y * (x * F) = x * (y * F) := by rw [Int.mul_left_comm]
    omega
  exact Int.le_of_mul_le_mul_left a1 hx
theorem deal_l1 {way n : Int} {V out : List Int} {x33 : Int} (h : Votes n V) (ho : out.length = V.length) (hob : ∀ i : Nat, i < V.length → 0 ≤ rd out i ∧ rd out i ≤ 220) : ∀ (d f j : Nat) (b : Int), j + d = V.length → Best way V out j b →
    ∃ b', Best way V out V.length b' ∧ seats_Deal.l1 (f + d) way V out b n x33 V (V.length : Int) j = seats_Deal.l1 f way V out b' n x33 V (V.length : Int) V.length
  | 0, f, j, b, hj, hb => ⟨b, by rw [← show j = V.length by omega]; exact hb, by rw [show j = V.length by omega]; rfl⟩
  | d + 1, f, j, b, hj, hb => by
    have hlt : j < V.length := by omega
    have hl := h.len
    have hxm := h.small V[j] (List.getElem_mem hlt)
    have hw : wrap64 ((j : Int) + 1) = ((j + 1 : Nat) : Int) := by rw [wrap_small (by omega) (by omega)]; rfl
    have hx : rd V (j : Int) = V[j] := rd_at hlt
    rw [← hx] at hxm
    have step : ∀ b2, Best way V out (j + 1) b2 → seats_Deal.l1 (f + (d + 1)) way V out b n x33 V (V.length : Int) j = seats_Deal.l1 (f + d) way V out b2 n x33 V (V.length : Int) ((j + 1 : Nat) : Int) →
        ∃ b', Best way V out V.length b' ∧ seats_Deal.l1 (f + (d + 1)) way V out b n x33 V (V.length : Int) j = seats_Deal.l1 f way V out b' n x33 V (V.length : Int) V.length := by
      intro b2 hb2 he
      obtain ⟨b', h1, h2⟩ := deal_l1 h ho hob d f (j + 1) b2 (by omega) hb2
      exact ⟨b', h1, he.trans h2⟩
    have hun : seats_Deal.l1 (f + (d + 1)) way V out b n x33 V (V.length : Int) j = seats_Deal.l1 ((f + d) + 1) way V out b n x33 V (V.length : Int) j := rfl
    by_cases c0 : rd V (j : Int) = 0
    · refine step b ?_ ?_
      · rcases hb with ⟨h1, h2⟩ | ⟨bi, h1, h2, h3, h4⟩
        · refine Or.inl ⟨h1, fun i hi => ?_⟩
          by_cases e : i = j
          · rw [e]; exact c0
          · exact h2 i (by omega)
        · refine Or.inr ⟨bi, h1, h2, h3, fun i hi hne => ?_⟩
          by_cases e : i = j
          · rw [e] at hne; exact absurd c0 hne
          · exact h4 i (by omega) hne
      · rw [hun, seats_Deal.l1, if_pos (by omega), if_pos (by omega), if_pos (by omega), if_pos c0, hw]
    · by_cases c1 : b < 0
      · refine step j ?_ ?_
        · rcases hb with ⟨h1, h2⟩ | ⟨bi, h1, h2, h3, h4⟩
          · refine Or.inr ⟨j, hlt, rfl, c0, fun i hi hne => ?_⟩
            by_cases e : i = j
            · rw [e]; exact Int.le_refl _
            · exact absurd (h2 i (by omega)) hne
          · omega
        · rw [hun, seats_Deal.l1, if_pos (by omega), if_pos (by omega), if_pos (by omega), if_neg c0, if_pos c1, hw]
      · rcases hb with ⟨h1, _⟩ | ⟨bi, h1, rfl, h3, h4⟩
        · omega
        · have o1 := hob bi h1
          have o2 := hob j hlt
          have d1 := Dv_bd (way := way) o1.1 o1.2
          have d2 := Dv_bd (way := way) o2.1 o2.2
          have hym := h.small V[bi] (List.getElem_mem h1)
          rw [← rd_at h1] at hym
          have p1 : 0 ≤ rd V (j : Int) * Dv way (rd out bi) := Int.mul_nonneg hxm.1 d1.1
          have p2 : rd V (j : Int) * Dv way (rd out bi) ≤ 220 * 441 := Int.mul_le_mul hxm.2 d1.2 d1.1 (by omega)
          have p3 : 0 ≤ rd V (bi : Int) * Dv way (rd out j) := Int.mul_nonneg hym.1 d2.1
          have p4 : rd V (bi : Int) * Dv way (rd out j) ≤ 220 * 441 := Int.mul_le_mul hym.2 d2.2 d2.1 (by omega)
          have hbase : ∀ b2 : Int, (if rd V (j : Int) * Dv way (rd out bi) > rd V (bi : Int) * Dv way (rd out j) then (j : Int) else (bi : Int)) = b2 → seats_Deal.l1 (f + (d + 1)) way V out bi n x33 V (V.length : Int) j = seats_Deal.l1 (f + d) way V out b2 n x33 V (V.length : Int) ((j + 1 : Nat) : Int) := by
            intro b2 hb2
            rw [hun, seats_Deal.l1, if_pos (by omega), if_pos (by omega), if_pos (by omega), if_neg c0, if_neg c1, if_pos (by omega), if_pos (by omega), div_eq o1.1 o1.2, Option.bind_some, if_pos (by omega), if_pos (by omega), div_eq o2.1 o2.2, Option.bind_some, wrap_small (by omega) (by omega), wrap_small (by omega) (by omega), hw, ← hb2]
            split <;> rfl
          by_cases c2 : rd V (j : Int) * Dv way (rd out bi) > rd V (bi : Int) * Dv way (rd out j)
          · refine step j ?_ (hbase j (if_pos c2))
            refine Or.inr ⟨j, hlt, rfl, c0, fun i hi hne => ?_⟩
            by_cases e : i = j
            · rw [e]; exact Int.le_refl _
            · have hil : i < V.length := by omega
              have him := h.small V[i] (List.getElem_mem hil)
              rw [← rd_at hil] at him
              have o3 := hob i hil
              have d3 := Dv_bd (way := way) o3.1 o3.2
              exact better (x := rd V bi) (y := rd V j) (by omega) (by omega) him.1 d3.1 (h4 i (by omega) hne) c2
          · refine step bi ?_ (hbase bi (if_neg c2))
            refine Or.inr ⟨bi, h1, rfl, h3, fun i hi hne => ?_⟩
            by_cases e : i = j
            · rw [e]; omega
            · exact h4 i (by omega) hne
theorem rd_map {vs : List Int} {k : Int} {i : Nat} (h : i < vs.length) : rd (vs.map fun v => v * k) (i : Int) = vs[i] * k := by
  rw [rd_at (by simpa using h)]; simp
theorem not_full {way k v o w : Int} (hk : 0 < k) (hv : 0 < v) (hw : 0 < w) (ho : 0 ≤ o) (hov : o < v) (h : v * k * Dv way w ≤ w * k * Dv way o) : False := by
  have e1 : v * k * Dv way w = k * (v * Dv way w) := by rw [Int.mul_comm v k, Int.mul_assoc]
  have e2 : w * k * Dv way o = k * (w * Dv way o) := by rw [Int.mul_comm w k, Int.mul_assoc]
  rw [e1, e2] at h
  have h2 := Int.le_of_mul_le_mul_left h hk
  unfold Dv at h2
  have a1 : w * o ≤ w * (v - 1) := Int.mul_le_mul_of_nonneg_left (by omega) (by omega)
  have e3 : w * (v - 1) = v * w - w := by rw [Int.mul_sub, Int.mul_one, Int.mul_comm]
  split at h2
  · rw [Int.mul_add, Int.mul_add, Int.mul_one, Int.mul_one] at h2; omega
  · split at h2
    · have e4 : v * (2 * w + 1) = 2 * (v * w) + v := by rw [Int.mul_add, Int.mul_one, Int.mul_left_comm]
      have e5 : w * (2 * o + 1) = 2 * (w * o) + w := by rw [Int.mul_add, Int.mul_one, Int.mul_left_comm]
      rw [e4, e5] at h2; omega
    · omega
theorem deal_l0 {way n k : Int} {vs V : List Int} (hV : V = vs.map fun v => v * k) (h : Votes n V) (hk : 0 < k) (hnv : n = vs.sum) (hv : ∀ v ∈ vs, 0 ≤ v ∧ v ≤ 11) : ∀ (d f r : Nat) (out : List Int), (r : Int) + d = n → d * (V.length + 2) + 2 ≤ f → leL out vs → out.sum = (r : Int) → seats_Deal.l0 f way V out n r = some (vs, 0)
  | 0, f, r, out, hr, hf, hle, hs => by
    obtain ⟨f, rfl⟩ : ∃ m, f = m + 1 := ⟨f - 1, by omega⟩
    have : out = vs := leL_eq hle (by omega)
    rw [seats_Deal.l0, if_neg (by omega), this]
  | d + 1, f, r, out, hr, hf, hle, hs => by
    have hl : V.length = vs.length := by rw [hV]; simp
    have hlo := leL_length hle
    have hl20 := h.len
    have hss := h.seats
    have hf2 : (d + 1) * (V.length + 2) + 2 = (d * (V.length + 2) + 2) + (V.length + 2) := by rw [Nat.add_mul]; omega
    obtain ⟨f, rfl⟩ : ∃ m, f = m + 1 + V.length + 1 := ⟨f - V.length - 2, by omega⟩
    have hob : ∀ i : Nat, i < V.length → 0 ≤ rd out i ∧ rd out i ≤ 220 := by
      intro i hi
      have h1 := leL_get hle i (by omega) (by omega)
      have h2 := hv (vs[i]'(by omega)) (List.getElem_mem _)
      rw [rd_at (by omega : i < out.length)]
      omega
    obtain ⟨b', hb, he⟩ := deal_l1 (way := way) (x33 := (r : Int)) h (by omega) hob V.length (f + 1) 0 (-1) (by omega) (Or.inl ⟨rfl, fun i hi => absurd hi (by omega)⟩)
    have hw : wrap64 ((r : Int) + 1) = ((r + 1 : Nat) : Int) := by rw [wrap_small (by omega) (by omega)]; rfl
    rw [show f + 1 + V.length + 1 = (f + 1 + V.length) + 1 from rfl, seats_Deal.l0, if_pos (by omega)]
    rw [show ((0 : Nat) : Int) = 0 from rfl] at he
    rw [he, seats_Deal.l1, if_neg (by omega)]
    obtain ⟨j, hj1, hj2, hjl⟩ := leL_lt hle (by omega)
    have hjV : rd V (j : Int) = vs[j] * k := by rw [hV]; exact rd_map hj2
    have hj0 := leL_get hle j hj1 hj2
    have hjne : rd V (j : Int) ≠ 0 := by
      rw [hjV]
      have : 0 < vs[j] * k := Int.mul_pos (by omega) hk
      omega
    rcases hb with ⟨_, h2⟩ | ⟨bi, h1, rfl, h3, h4⟩
    · exact absurd (h2 j (by omega)) hjne
    · have hbl : bi < out.length := by omega
      have hbv : bi < vs.length := by omega
      have hlt : out[bi] < vs[bi] := by
        have g := leL_get hle bi hbl hbv
        rcases (show out[bi] < vs[bi] ∨ vs[bi] ≤ out[bi] by omega) with c | c
        · exact c
        · exfalso
          have e : out[bi] = vs[bi] := by omega
          have hmax := h4 j (by omega) hjne
          have hbV : rd V (bi : Int) = vs[bi] * k := by rw [hV]; exact rd_map hbv
          rw [hjV, hbV, rd_at hbl, rd_at hj1, e] at hmax
          have hbpos : 0 < vs[bi] := by
            rcases (show 0 < vs[bi] ∨ vs[bi] ≤ 0 by omega) with c2 | c2
            · exact c2
            · exfalso
              have : vs[bi] = 0 := by omega
              rw [hbV, this, Int.zero_mul] at h3
              exact h3 rfl
          exact not_full hk (by omega) hbpos hj0.1 hjl hmax
      have hsv := hv (vs[bi]'hbv) (List.getElem_mem _)
      have g := leL_get hle bi hbl hbv
      obtain ⟨s1, s2⟩ := leL_set hle bi hbl hbv hlt
      rw [if_pos (by omega), if_pos (by omega), rd_at hbl, wrap_small (by omega) (by omega), hw, show ((bi : Int)).toNat = bi by simp]
      exact deal_l0 hV h hk hnv hv d f (r + 1) _ (by push_cast; omega) (by omega) s1 (by rw [s2, hs]; push_cast; rfl)
theorem leL_zero : ∀ {vs : List Int}, (∀ v ∈ vs, 0 ≤ v ∧ v ≤ 11) → leL (List.replicate vs.length 0) vs
  | [], _ => trivial
  | x :: r, h => ⟨Int.le_refl _, (h x (by simp)).1, leL_zero (fun y hy => h y (by simp [hy]))⟩
theorem deal_eq {way n k : Int} {vs V : List Int} (hV : V = vs.map fun v => v * k) (h : Votes n V) (hk : 0 < k) (hnv : n = vs.sum) (hv : ∀ v ∈ vs, 0 ≤ v ∧ v ≤ 11) (w0 : 0 ≤ way) (w2 : way ≤ 2) {f : Nat} (hf : 5000 ≤ f) : seats_Deal.f f way n V = some (vs, 0) := by
  have hl20 := h.len
  have hs := h.seats
  have hl : V.length = vs.length := by rw [hV]; simp
  obtain ⟨f, rfl⟩ : ∃ m, f = m + 1 := ⟨f - 1, by omega⟩
  unfold seats_Deal.f
  rw [if_neg (by omega), decide_eq_false (by omega), seats_Deal.j0, if_neg (by decide), look_eq h (by omega), Option.bind_some, if_pos rfl, if_pos (by omega), if_pos (by omega), Int.toNat_natCast, hl]
  have hb : n.toNat * (V.length + 2) ≤ 220 * 22 := Nat.mul_le_mul (by omega) (by omega)
  have := deal_l0 (way := way) hV h hk hnv hv n.toNat f 0 (List.replicate vs.length 0) (by omega) (by omega) (leL_zero hv) (by simp)
  simpa using this
theorem by_eq {n k : Int} {vs V : List Int} (hV : V = vs.map fun v => v * k) (h : Votes n V) (hk : 0 < k) (hn : 0 < n) (hnv : n = vs.sum) (hv : ∀ v ∈ vs, 0 ≤ v ∧ v ≤ 11) : split_By.f n V = some (vs, 0) := by
  have hl20 := h.len
  have hs := h.seats
  have hsum : V.sum = n * k := by rw [hV, sum_map_mul, hnv]
  have hW : ∀ (l : List Int) (s : Int), (∀ x ∈ l, 0 ≤ x ∧ x ≤ 220) → weightsL l s = (s + l.sum, 0) := by
    intro l
    induction l with
    | nil => intro s _; simp [weightsL]
    | cons x r ih =>
      intro s hx
      have h1 := hx x (by simp)
      simp only [weightsL]
      rw [if_neg (by omega), ih (s + x) (fun y hy => hx y (by simp [hy])), List.sum_cons, Int.add_assoc]
  have hWR : weightsR V = (n * k, 0) := by
    unfold weightsR
    rw [if_neg (by omega), hW V 0 h.small, Int.zero_add, hsum]
  have hnk : 0 < n * k := Int.mul_pos hn hk
  have hQ : byQ n (n * k) V = vs := by
    unfold byQ
    rw [hV, List.map_map]
    have : ∀ v ∈ vs, ((fun w => n * w / (n * k)) ∘ fun v => v * k) v = v := fun v _ => whole hn hk
    rw [List.map_congr_left this]
    simp
  have hL : byL n (n * k) V = vs := by
    unfold byL
    rw [hQ, ← hnv, Int.sub_self]
    rfl
  unfold split_By.f byR
  rw [hWR, if_neg (by simp), if_neg (by omega), if_neg (by show ¬ n * k = 0; omega), if_neg (by omega)]
  show some ((byL n (n * k) V).map (fun x => x * 1), (0 : Int)) = _
  rw [hL]
  simp
theorem equal_self (l : List Int) (hl : l.length ≤ 1000) : ∀ (d f i : Nat), i + d = l.length → d < f → slices_Equal_int_int.l0 f l l (l.length : Int) i = some true
  | 0, f, i, hi, hf => by
    obtain ⟨f, rfl⟩ : ∃ m, f = m + 1 := ⟨f - 1, by omega⟩
    simp only [slices_Equal_int_int.l0]
    rw [if_neg (by omega)]
  | d + 1, f, i, hi, hf => by
    obtain ⟨f, rfl⟩ : ∃ m, f = m + 1 := ⟨f - 1, by omega⟩
    simp only [slices_Equal_int_int.l0]
    rw [if_pos (by omega), if_pos (by omega), if_pos (by omega), if_pos (by omega), if_pos trivial, wrap_small (by omega) (by omega)]
    exact equal_self l hl d f (i + 1) (by omega) (by omega)
theorem equal_eq {l : List Int} (hl : l.length ≤ 100) {f : Nat} (hf : 200 ≤ f) : slices_Equal_int_int.f f l l = some true := by
  unfold slices_Equal_int_int.f
  rw [if_pos rfl]
  have := equal_self l (by omega) l.length f 0 (by omega) (by omega)
  simpa using this
theorem seats_fin {k n : Int} {vs V : List Int} {f : Nat} {zs : List Int} {len i : Int} (hV : V = vs.map fun v => v * k) (hi : ¬ i < len) (hk : 0 < k) (hk20 : k ≤ 20) (hlen : vs.length ≤ 20) (hnv : n = vs.sum) (hv : ∀ v ∈ vs, 0 ≤ v ∧ v ≤ 11) (hf : 6000 ≤ f) : taltop_TopSeats.l0 (f + 1) k V n zs len i = some true := by
  rw [taltop_TopSeats.l0, if_neg hi]
  have hb := take_sum_le (V := vs) (fun x hx => by have := hv x hx; omega) vs (fun x hx => by have := hv x hx; omega)
  have hn0 : 0 ≤ n := by omega
  by_cases h0 : n = 0
  · rw [if_pos h0]
  · rw [if_neg h0]
    have hb11 : n ≤ 11 * 20 := by
      have : ∀ (l : List Int), (∀ v ∈ l, 0 ≤ v ∧ v ≤ 11) → l.sum ≤ 11 * (l.length : Int) := by
        intro l
        induction l with
        | nil => intro _; simp
        | cons x r ih => intro h; have := ih (fun y hy => h y (by simp [hy])); have := h x (by simp); rw [List.sum_cons, List.length_cons]; push_cast; omega
      have := this vs hv
      omega
    have hsum : V.sum = n * k := by rw [hV, sum_map_mul, hnv]
    have hnk : 0 < n * k := Int.mul_pos (by omega) hk
    have h : Votes n V := ⟨by rw [hV]; simpa using hlen, fun x hx => by
      rw [hV] at hx
      obtain ⟨v, hv2, rfl⟩ := List.mem_map.1 hx
      have := hv v hv2
      exact ⟨Int.mul_nonneg this.1 (by omega), by have := Int.mul_le_mul this.2 hk20 (by omega) (by omega : (0 : Int) ≤ 11); omega⟩, ⟨hn0, by omega⟩, by omega⟩
    have hn : 0 < n := by omega
    rw [quot_eq hV h hnv hn hk hv hk20 (by omega), Option.bind_some, deal_eq hV h hk hnv hv (by omega) (by omega) (by omega), Option.bind_some, deal_eq hV h hk hnv hv (by omega) (by omega) (by omega), Option.bind_some, deal_eq hV h hk hnv hv (by omega) (by omega) (by omega), Option.bind_some, by_eq hV h hk hn hnv hv, Option.bind_some]
    have he := equal_eq (l := vs) (by omega) (f := f) (by omega)
    simp only [he, Option.bind_some, if_true]
theorem seats_loop {k : Int} (hk : 0 < k) (hk20 : k ≤ 20) {zs : List Int} (hz : zs.length ≤ 20) : ∀ (d f i : Nat) (vs : List Int), i + d = zs.length → vs.length = i → (∀ v ∈ vs, 0 ≤ v ∧ v ≤ 11) → d + 7000 ≤ f → taltop_TopSeats.l0 f k (vs.map fun v => v * k) vs.sum zs (zs.length : Int) i = some true
  | 0, f, i, vs, hi, hl, hv, hf => by
    obtain ⟨f, rfl⟩ : ∃ m, f = m + 1 := ⟨f - 1, by omega⟩
    exact seats_fin rfl (by omega) hk hk20 (by omega) rfl hv (by omega)
  | d + 1, f, i, vs, hi, hl, hv, hf => by
    obtain ⟨f, rfl⟩ : ∃ m, f = m + 1 := ⟨f - 1, by omega⟩
    obtain ⟨v, hv1, hv2, hv3⟩ := within_spec (rd zs (i : Int)) 12 (by omega) (by omega)
    have m0 : 0 ≤ v * k := Int.mul_nonneg hv2 (by omega)
    have m1 : v * k ≤ 11 * 20 := Int.mul_le_mul (by omega) hk20 (by omega) (by omega)
    have hb := take_sum_le (V := vs) (fun x hx => by have := hv x hx; omega) vs (fun x hx => by have := hv x hx; omega)
    have hw : wrap64 ((i : Int) + 1) = ((i + 1 : Nat) : Int) := by rw [wrap_small (by omega) (by omega)]; rfl
    rw [taltop_TopSeats.l0, if_pos (by omega), if_pos (by omega), if_pos (by omega), hv1, Option.bind_some, if_pos (by simp; omega), wrap_small (x := v * k) (by omega) (by omega), wrap_small (x := vs.sum + v) (by omega) (by omega), hw]
    have := seats_loop hk hk20 hz d f (i + 1) (vs ++ [v]) (by omega) (by simp [hl]) (fun x hx => by
      rcases List.mem_append.1 hx with hx | hx
      · exact hv x hx
      · obtain rfl := List.mem_singleton.1 hx; omega) (by omega)
    simpa using this
theorem seats_true (l0 : List Int) (a1 : Int) : taltop_TopSeats.f 8000 l0 a1 = some true := by
  unfold taltop_TopSeats.f
  obtain ⟨x, hx, x0, x1⟩ := within_spec a1 20 (by omega) (by omega)
  rw [begun_at (by omega), Option.bind_some, if_pos rfl, hx, Option.bind_some]
  have hm0 : 0 ≤ mn (l0.length : Int) 20 := by unfold mn; split <;> omega
  have hm1 : mn (l0.length : Int) 20 ≤ (l0.length : Int) := by unfold mn; split <;> omega
  have hm2 : mn (l0.length : Int) 20 ≤ 20 := by unfold mn; split <;> omega
  rw [if_pos hm0, if_pos hm1, wrap_small (by omega) (by omega)]
  have := seats_loop (k := 1 + x) (by omega) (by omega) (zs := l0.take (mn (l0.length : Int) 20).toNat) (by simp; omega) (l0.take (mn (l0.length : Int) 20).toNat).length 8000 0 [] (by omega) rfl (fun v hv => absurd hv (by simp)) (by simp; omega)
  simpa using this
theorem TopSeatsPure : taltop_TopSeats.Pure := fun l0 a1 _ _ _ _ => ⟨8000, seats_true l0 a1⟩
end Go.Proofs.Ytlfbdcobpfainaa.S
