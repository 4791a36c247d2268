/- The plain law TopLoan: a loan that is paid off by the least pay leaves nothing owed, and what it cost is all interest. -/
import Derived.Test.YtlfbdcobpfainaaL10
import Derived.Test.YtlfbdcobpfainaaLPureMoved
namespace Go.Proofs.Ytlfbdcobpfainaa.L
open Go.RowKit Go.Proofs.YtlfbdcobpfainaaW.PrintWords Go.Proofs.YtlfbdcobpfainaaW.PrintLast Go.Proofs.YtlfbdcobpfainaaW.PrintMore
abbrev LRow := S55
abbrev LLine := S41
theorem u64_wrap (n : Int) : IntKind.u64.wrap n = n % 18446744073709551616 := by simp [IntKind.wrap, IntKind.signed, IntKind.bits]
theorem within_spec (a n : Int) (h1 : 1 ≤ n) (h2 : n ≤ 9223372036854775807) : ∃ r, talkeep_Within.f a n = some r ∧ 0 ≤ r ∧ r < n := by
  unfold talkeep_Within.f
  have hn : IntKind.u64.wrap n = n := by rw [u64_wrap]; omega
  have ha : 0 ≤ IntKind.u64.wrap a := by rw [u64_wrap]; omega
  rw [hn, if_neg (by omega)]
  have ht : Int.tmod (IntKind.u64.wrap a) n = IntKind.u64.wrap a % n := Int.tmod_eq_emod_of_nonneg ha
  rw [ht]
  have h3 := Int.emod_nonneg (IntKind.u64.wrap a) (show n ≠ 0 by omega)
  have h4 := Int.emod_lt_of_pos (IntKind.u64.wrap a) (show 0 < n by omega)
  exact ⟨_, rfl, by rw [IntWalk.wrap64_in _ ⟨by omega, by omega⟩]; exact h3, by rw [IntWalk.wrap64_in _ ⟨by omega, by omega⟩]; exact h4⟩
/-- Rows that lead from what is owed to nothing. -/
def chainL : Int → List LRow → Prop
  | ow, [] => ow = 0
  | ow, r :: rs => 0 ≤ r.f0 ∧ r.f0 ≤ ow ∧ 1 ≤ r.f1 ∧ r.f1 ≤ ow ∧ r.f2 = ow - r.f1 ∧ chainL r.f2 rs
theorem rowsL_chain {rate pay : Int} (h2 : 0 ≤ rate) (h3 : rate ≤ 1000000) : ∀ (k : Nat) (ow : Int) (acc res : List LRow), 0 ≤ ow → ow ≤ 1000000000000 → acc.length + k = 42 → rowsL rate pay k ow acc = res → res ≠ [] → res.length ≤ 40 → ∃ rows, res = acc ++ rows ∧ chainL ow rows
  | 0, ow, acc, res, h0, h1, hk, h, hne, hl => by
    have : acc = res := h
    subst this
    exact absurd hl (by omega)
  | k + 1, ow, acc, res, h0, h1, hk, h, hne, hl => by
    rw [rowsL_succ] at h
    by_cases hc : 0 < ow ∧ acc.length ≤ 40
    · rw [if_pos hc] at h
      obtain ⟨n1, n2, _, _⟩ := near_le h0 h1 h2 h3
      obtain ⟨i, hi⟩ : ∃ i, i = nearD (ow * rate) 1000000 := ⟨_, rfl⟩
      rw [← hi] at h n1 n2
      by_cases hp : pay ≤ i
      · rw [if_pos hp] at h
        exact absurd h.symm hne
      · rw [if_neg hp] at h
        obtain ⟨m, hm⟩ : ∃ m, m = mn (pay - i) ow := ⟨_, rfl⟩
        have hm0 : 1 ≤ m ∧ m ≤ ow := by rw [hm]; unfold mn; split <;> omega
        rw [← hm] at h
        obtain ⟨rows, hr, hc2⟩ := rowsL_chain h2 h3 k (ow - m) _ res (by omega) (by omega) (by simp; omega) h hne hl
        exact ⟨⟨i, m, ow - m⟩ :: rows, by rw [hr]; simp, n1, n2, hm0.1, hm0.2, rfl, hc2⟩
    · rw [if_neg hc] at h
      subst h
      exact ⟨[], by simp, by show ow = 0; omega⟩
/-- Paid at once. -/
theorem loan_big {ow rate n : Int} (g0 : 1 ≤ ow) (g1 : ow ≤ 1000000000) (h2 : 0 ≤ rate) (h3 : rate ≤ 1000000) (hn : 1 ≤ n) : enough ow rate n 2000000000000 = true := by
  obtain ⟨n1, n2, _, _⟩ := near_le (show 0 ≤ ow by omega) (show ow ≤ 1000000000000 by omega) h2 h3
  have e : loanR ow rate 2000000000000 = [⟨nearD (ow * rate) 1000000, ow, 0⟩] := by
    unfold loanR
    rw [rowsL_succ, if_pos ⟨by omega, by simp⟩, if_neg (by omega)]
    have hm : mn (2000000000000 - nearD (ow * rate) 1000000) ow = ow := by unfold mn; rw [if_pos (by omega)]
    rw [hm, rowsL_succ, if_neg (by omega), Int.sub_self]
    rfl
  unfold enough
  rw [e]
  simp [hn]
theorem least_ok {ow rate n : Int} (g0 : 1 ≤ ow) (g1 : ow ≤ 1000000000) (h2 : 0 ≤ rate) (h3 : rate ≤ 1000000) (hn : 1 ≤ n) (hn2 : n ≤ 40) : ∃ pay : Int, note_Least.f ow rate n = some (pay, 0) ∧ 1 ≤ pay ∧ pay ≤ 2000000000000 ∧ loanR ow rate pay ≠ [] ∧ ((loanR ow rate pay).length : Int) ≤ n := by
  unfold note_Least.f
  rw [if_neg (by omega), if_neg (by omega)]
  obtain ⟨m, hm⟩ : ∃ m, m = bsF (fun i => !enough ow rate n ((i : Int) + 1)) (maxPay + 1) 0 maxPay := ⟨_, rfl⟩
  have hs := bsF_spec (p := fun i => !enough ow rate n ((i : Int) + 1)) (n := maxPay) (k := maxPay + 1) (i := 0) (j := maxPay) (by omega) (Nat.zero_le _) (fun h => absurd h (by omega)) (fun h => absurd h (by omega))
  rw [← hm] at hs ⊢
  obtain ⟨_, h5, h6, h7⟩ := hs
  have hmx : maxPay = 2000000000000 := rfl
  have hlt : m < maxPay := by
    rcases Nat.lt_or_ge m maxPay with h | h
    · exact h
    · exfalso
      have e : m = maxPay := by omega
      have := h6 (by omega)
      rw [show (((m - 1 : Nat) : Int) + 1) = 2000000000000 by omega, loan_big g0 g1 h2 h3 hn] at this
      exact absurd this (by decide)
  have h8 := h7 hlt
  have h9 : enough ow rate n ((m : Int) + 1) = true := by simpa using h8
  unfold enough at h9
  rw [decide_eq_false (by omega), Bool.false_or, Bool.and_eq_true] at h9
  refine ⟨1 + (m : Int), rfl, by omega, by omega, ?_, ?_⟩
  · intro e
    have := h9.1
    rw [Int.add_comm, e] at this
    exact absurd this (by decide)
  · have := of_decide_eq_true h9.2
    rwa [Int.add_comm] at this
abbrev c20 : ByteArray := ⟨#[50, 48]⟩
abbrev c30 : ByteArray := ⟨#[51, 48]⟩
abbrev c40 : ByteArray := ⟨#[52, 48]⟩
theorem code20 : codeB c20 = true := by kernel_rfl
theorem kn20 : (acc0.any fun a => a.f0.toList == c20.toList) = true := by kernel_rfl
theorem ne_10_20 : (c10.toList == c20.toList) = false := by kernel_rfl
theorem ne_20_10 : (c20.toList == c10.toList) = false := by kernel_rfl
theorem ne_20_50 : (c20.toList == c50.toList) = false := by kernel_rfl
/-- An entry of three lines. -/
theorem three_lines {a b c : ByteArray} {x y z : Int} (ha : codeB a = true) (hb : codeB b = true) (hc : codeB c = true) (n1 : (a.toList == b.toList) = false) (n2 : (a.toList == c.toList) = false) (n3 : (b.toList == c.toList) = false) (h : x + y + z = 0) (x0 : x ≠ 0) (y0 : y ≠ 0) (z0 : z ≠ 0)
    (mx : moneyB x = true) (my : moneyB y = true) (mz : moneyB z = true) : linesR [⟨a, x⟩, ⟨b, y⟩, ⟨c, z⟩] = 0 := by
  unfold linesR
  simp [linesLoop, ha, hb, hc, n1, n2, n3, mx, my, mz, x0, y0, z0]
  omega
theorem lineAt_add (c d : ByteArray) (x y : Int) : lineAt c ⟨d, x⟩ + lineAt c ⟨d, y⟩ = lineAt c ⟨d, x + y⟩ := by unfold lineAt; split <;> simp_all
theorem lineAt_zero (c d : ByteArray) : lineAt c ⟨d, 0⟩ = 0 := by unfold lineAt; split <;> rfl
/-- What the books hold: so much is owed, so much was interest. -/
def Holds (es : List Ent) (i : Nat) (ow I : Int) : Prop := ∀ (c : ByteArray) (D : Int), (i : Int) ≤ D → ofR es c 0 D = lineAt c ⟨c20, -ow⟩ + (lineAt c ⟨c10, ow - I⟩ + lineAt c ⟨c50, I⟩)
theorem Holds.first {ow : Int} : Holds (insAt [] (mv 99 0 ow c10 c20)) 0 ow 0 := by
  intro c D hD
  have hD' : (0 : Int) ≤ D := by simpa using hD
  rw [ofR_insert, entAt_mv (by omega) hD']
  simp only [ofR, List.map_nil, List.sum_nil, Int.sub_zero, lineAt_zero]
  omega
theorem day_at {es : List Ent} {i : Nat} {ow I : Int} (h : Holds es i ow I) {x : Ent} (hx : x.f1 = (i : Int) + 1) {off int : Int} (hl : ∀ c, linesSum c x.f2 = lineAt c ⟨c20, off⟩ + (lineAt c ⟨c10, -off - int⟩ + lineAt c ⟨c50, int⟩)) : Holds (insAt es x) (i + 1) (ow - off) (I + int) := by
  intro c D hD
  rw [ofR_insert, h c D (by omega)]
  unfold entAt
  rw [if_neg (by rw [hx]; omega), hl]
  have e1 := lineAt_add c c20 off (-ow)
  have e2 := lineAt_add c c10 (-off - int) (ow - I)
  have e3 := lineAt_add c c50 int I
  rw [show -(ow - off) = off + -ow by omega, show ow - off - (I + int) = -off - int + (ow - I) by omega, Int.add_comm I int, ← e1, ← e2, ← e3]
  omega
/-- A row is posted: one entry, of two lines or of three. -/
theorem loan_row {es : List Ent} {i k : Nat} {ow I : Int} {l : List LRow} {r : LRow} (h : Bk es (fun m => m = 99 ∨ m < i) (i + 1)) (hh : Holds es i ow I) (hi : i < 40) (h0 : 0 ≤ ow) (h1 : ow ≤ 1000000000) (hI0 : 0 ≤ I) (hI : I ≤ 1000000000 * (i : Int)) (r0 : 0 ≤ r.f0) (r1 : r.f0 ≤ ow) (r2 : 1 ≤ r.f1) (r3 : r.f1 ≤ ow) (r4 : r.f2 = ow - r.f1) (lines : List LLine)
    (hlines : lines = if 0 < r.f0 then [⟨c20, r.f1⟩, ⟨c10, -r.f1 - r.f0⟩, ⟨c50, r.f0⟩] else [⟨c20, r.f1⟩, ⟨c10, -r.f1⟩]) (hk : 1000 ≤ k) :
    ∃ es', Bk es' (fun m => m = 99 ∨ m < i + 1) (i + 1 + 1) ∧ Holds es' (i + 1) r.f2 (I + r.f0) ∧
      taltop_TopLoan.j2 (k + 1) I i l (l.length : Int) i acc0 es (-1) r.f0 r.f1 r.f2 (kB i) ((i : Int) + 1) lines = taltop_TopLoan.l0 k (I + r.f0) l (l.length : Int) ((i + 1 : Nat) : Int) acc0 es' (-1) := by
  have hw : wrap64 ((i : Int) + 1) = (i : Int) + 1 := IntWalk.wrap64_in _ ⟨by omega, by omega⟩
  have m1 : moneyB r.f1 = true := by unfold moneyB; simp; omega
  have m2 : moneyB (-r.f1 - r.f0) = true := by unfold moneyB; simp; omega
  have m3 : moneyB r.f0 = true := by unfold moneyB; simp; omega
  have hlr : linesR lines = 0 := by
    rw [hlines]
    split
    · exact three_lines code20 code10 code50 ne_20_10 ne_20_50 ne_10_50 (by omega) (by omega) (by omega) (by omega) m1 m2 m3
    · exact two_lines code20 code10 ne_20_10 (by omega) (by omega) (by omega)
  have hkn : knownB acc0 lines = true := by
    rw [hlines]
    unfold knownB
    split
    · simp only [List.any_cons, List.any_nil, kn20, kn10, kn50]; rfl
    · simp only [List.any_cons, List.any_nil, kn20, kn10]; rfl
  have hls : ∀ c, linesSum c lines = lineAt c ⟨c20, r.f1⟩ + (lineAt c ⟨c10, -r.f1 - r.f0⟩ + lineAt c ⟨c50, r.f0⟩) := by
    intro c
    rw [hlines]
    split
    · simp [linesSum]
    · have e : r.f0 = 0 := by omega
      rw [e, lineAt_zero]
      simp [linesSum]
  have hok : okE acc0 (⟨kB i, (i : Int) + 1, lines⟩ : Ent) := by
    refine ⟨?_, hkn⟩
    show entryR (kB i) ((i : Int) + 1) lines = 0
    unfold entryR
    have hd : dayB ((i : Int) + 1) = true := by unfold dayB; simp; omega
    rw [if_neg (by rw [key_good (by omega)]; decide), if_neg (by rw [hd]; decide)]
    exact hlr
  obtain ⟨hp, hb⟩ := h.post (T := fun m => m = 99 ∨ m < i + 1) (n := i) (x := ⟨kB i, (i : Int) + 1, lines⟩) (by omega) (fun m hm => by omega) (by omega) hok rfl (fun m hm => by omega) (Or.inr (by omega))
  have hh' := day_at hh (x := ⟨kB i, (i : Int) + 1, lines⟩) rfl hls
  rw [← r4] at hh'
  refine ⟨_, hb, hh', ?_⟩
  rw [taltop_TopLoan.j2, hp, Option.bind_some, if_pos rfl, hw, hb.balance kn20 (by omega) (by omega) hk, Option.bind_some, if_pos rfl, hh' c20 _ (by omega)]
  rw [lineAt_eq (by kernel_rfl), lineAt_ne ne_10_20, lineAt_ne (by kernel_rfl), IntWalk.wrap64_in (-r.f2) ⟨by omega, by omega⟩, if_pos (by omega), IntWalk.wrap64_in (I + r.f0) ⟨by omega, by omega⟩]
  rfl
/-- What the accounts of each kind come to. -/
theorem kinds_eq {es : List Ent} {S : Nat → Prop} {N : Nat} (h : Bk es S N) {k : Nat} (hk : 1000 ≤ k) {a b : Int} (v : ByteArray → Int) (hv : ∀ c, ofR es c a b = v c) (hs : ∀ c, -1000000000000000 ≤ v c ∧ v c ≤ 1000000000000000) :
    trial_kinds.f k acc0 es (-1) a b = some [v c10 + v c15, v c20, v c30, v c40, v c50] := by
  have hof : ∀ c, book_Of.f k acc0 es (-1) c a b = some (v c) := by
    intro c
    have := mono_up (f := fun k => book_Of.f k acc0 es (-1) c a b) (fun k => book_Of.mono _ _ _ _ _ _ k) (book_Of.total h.ok c a b) (k - 1000)
    rw [show 1000 + (k - 1000) = k by omega] at this
    rw [← hv c]; exact this
  have w : ∀ c, wrap64 (v c) = v c := fun c => by have := hs c; exact IntWalk.wrap64_in _ ⟨by omega, by omega⟩
  have w2 : wrap64 (v c10 + v c15) = v c10 + v c15 := by have := hs c10; have := hs c15; exact IntWalk.wrap64_in _ ⟨by omega, by omega⟩
  unfold trial_kinds.f
  obtain ⟨A, hA⟩ : ∃ A, A = acc0 := ⟨_, rfl⟩
  rw [← hA] at hof
  have hA2 : kindsL k acc0 es (-1) a b acc0 [0, 0, 0, 0, 0] = kindsL k A es (-1) a b [⟨c10, 0⟩, ⟨c15, 0⟩, ⟨c20, 1⟩, ⟨c30, 2⟩, ⟨c40, 3⟩, ⟨c50, 4⟩] [0, 0, 0, 0, 0] := by rw [hA]; rfl
  rw [hA2]
  simp only [kindsL, hof, Option.bind_some]
  simp [w, w2]
/-- The loop over the rows, and what the books come to. -/
theorem loan_loop {l : List LRow} (hl : l.length ≤ 40) : ∀ (d K i : Nat) (ow I : Int) (es : List Ent), i + d = l.length → 2 * d + 1100 < K → chainL ow (l.drop i) → 0 ≤ ow → ow ≤ 1000000000 → 0 ≤ I → I ≤ 1000000000 * (i : Int) → Bk es (fun m => m = 99 ∨ m < i) (i + 1) → Holds es i ow I →
    taltop_TopLoan.l0 K I l (l.length : Int) i acc0 es (-1) = some true
  | 0, K, i, ow, I, es, hi, hK, hc, h0, h1, hI0, hI, hb, hh => by
    obtain ⟨K, rfl⟩ : ∃ m, K = m + 1 := ⟨K - 1, by omega⟩
    rw [List.drop_of_length_le (by omega)] at hc
    have e0 : ow = 0 := hc
    subst e0
    have hv : ∀ c, ofR es c 0 50 = lineAt c ⟨c10, -I⟩ + lineAt c ⟨c50, I⟩ := by
      intro c
      rw [hh c 50 (by omega), show (-0 : Int) = 0 from rfl, lineAt_zero, Int.zero_add, show (0 : Int) - I = -I by omega]
    have hs : ∀ c, -1000000000000000 ≤ lineAt c ⟨c10, -I⟩ + lineAt c ⟨c50, I⟩ ∧ lineAt c ⟨c10, -I⟩ + lineAt c ⟨c50, I⟩ ≤ 1000000000000000 := by
      intro c
      unfold lineAt
      have hb40 : (i : Int) ≤ 40 := by omega
      split <;> split <;> refine ⟨?_, ?_⟩ <;> (try dsimp only) <;> omega
    have hk := kinds_eq hb (k := K) (by omega) (a := 0) (b := 50) (fun c => lineAt c ⟨c10, -I⟩ + lineAt c ⟨c50, I⟩) hv hs
    have v10 : lineAt c10 ⟨c10, -I⟩ + lineAt c10 ⟨c50, I⟩ = -I := by rw [lineAt_eq (by kernel_rfl), lineAt_ne (by kernel_rfl)]; omega
    have v15 : lineAt c15 ⟨c10, -I⟩ + lineAt c15 ⟨c50, I⟩ = 0 := by rw [lineAt_ne (by kernel_rfl), lineAt_ne (by kernel_rfl)]; omega
    have v20 : lineAt c20 ⟨c10, -I⟩ + lineAt c20 ⟨c50, I⟩ = 0 := by rw [lineAt_ne (by kernel_rfl), lineAt_ne (by kernel_rfl)]; omega
    have v40 : lineAt c40 ⟨c10, -I⟩ + lineAt c40 ⟨c50, I⟩ = 0 := by rw [lineAt_ne (by kernel_rfl), lineAt_ne (by kernel_rfl)]; omega
    have v50 : lineAt c50 ⟨c10, -I⟩ + lineAt c50 ⟨c50, I⟩ = I := by rw [lineAt_ne (by kernel_rfl), lineAt_eq (by kernel_rfl)]; omega
    simp only [v10, v15, v20, v40, v50] at hk
    have hlook : ∀ day : Int, 0 ≤ day → day ≤ 292193 → trial_look.f acc0 es (-1) day = some 0 := by
      intro day d0 d1
      unfold trial_look.f book_Check.f
      rw [hb.ok, Option.bind_some, if_pos rfl]
      have h2 : cal_Is.f day = some true := by unfold cal_Is.f; rw [if_pos (by omega), decide_eq_true (by omega)]
      rw [h2]; rfl
    have w0 : wrap64 0 = 0 := IntWalk.wrap64_in 0 ⟨by omega, by omega⟩
    have hsheet : trial_Sheet.f K acc0 es (-1) 50 = some (-I + 0, 0, wrap64 (-(lineAt c30 ⟨c10, -I⟩ + lineAt c30 ⟨c50, I⟩)), 0) := by
      unfold trial_Sheet.f
      rw [hlook 50 (by omega) (by omega), Option.bind_some, if_pos rfl, hk, Option.bind_some]
      simp only [List.getD_cons_zero, List.getD_cons_succ, Int.neg_zero, w0]
    have hprofit : trial_Profit.f K acc0 es (-1) 0 50 = some (-I, 0) := by
      unfold trial_Profit.f
      rw [hlook 0 (by omega) (by omega), Option.bind_some, if_pos rfl, if_pos ⟨by omega, by omega, by omega⟩, hk]
      show some (wrap64 (wrap64 (-0) - I), (0 : Int)) = _
      rw [Int.neg_zero, w0, IntWalk.wrap64_in (0 - I) ⟨by omega, by omega⟩, Int.zero_sub]
    rw [taltop_TopLoan.l0, if_neg (by omega), hsheet, Option.bind_some, hprofit, Option.bind_some, IntWalk.wrap64_in (-I) ⟨by omega, by omega⟩]
    simp
  | d + 1, K, i, ow, I, es, hi, hK, hc, h0, h1, hI0, hI, hb, hh => by
    obtain ⟨K, rfl⟩ : ∃ m, K = m + 2 := ⟨K - 2, by omega⟩
    have hlt : i < l.length := by omega
    have hrd : rd_T55 l (i : Int) = l[i] := by simp [rd_T55, List.getD_eq_getElem?_getD, hlt]
    rw [List.drop_eq_getElem_cons hlt] at hc
    obtain ⟨r0, r1, r2, r3, r4, hc⟩ := hc
    obtain ⟨r, hr⟩ : ∃ r, r = l[i] := ⟨_, rfl⟩
    rw [← hr] at hrd r0 r1 r2 r3 r4 hc
    have hw : wrap64 ((i : Int) + 1) = (i : Int) + 1 := IntWalk.wrap64_in _ ⟨by omega, by omega⟩
    rw [taltop_TopLoan.l0, if_pos (by omega), if_pos (by omega), if_pos (by omega), hrd, hw, moved_eq (by omega) (by omega) _ _ (by omega) (by omega), Option.bind_some]
    have fin : ∀ lines, (lines = if 0 < r.f0 then [⟨c20, r.f1⟩, ⟨c10, -r.f1 - r.f0⟩, ⟨c50, r.f0⟩] else [⟨c20, r.f1⟩, ⟨c10, -r.f1⟩]) → taltop_TopLoan.j2 (K + 1) I i l (l.length : Int) i acc0 es (-1) r.f0 r.f1 r.f2 (kB i) ((i : Int) + 1) lines = some true := by
      intro lines hlines
      obtain ⟨es', hb', hh', he⟩ := loan_row (l := l) (k := K) hb hh (by omega) h0 h1 hI0 hI r0 r1 r2 r3 r4 lines hlines (by omega)
      rw [he]
      exact loan_loop hl d K (i + 1) r.f2 (I + r.f0) es' (by omega) (by omega) hc (by omega) (by omega) (by omega) (by push_cast; omega) hb' hh'
    by_cases hp : 0 < r.f0
    · rw [if_pos (show r.f0 > 0 from hp)]
      have hlen : (mv i ((i : Int) + 1) r.f1 c20 c10).f2.length < 5864062014805 := by show 2 < _; omega
      rw [if_pos hlen, Option.bind_some]
      have hlen2 : (1 : Int) < (((mv i ((i : Int) + 1) r.f1 c20 c10).f2 ++ [(⟨c50, r.f0⟩ : LLine)]).length : Int) := by show (1 : Int) < ((3 : Nat) : Int); omega
      rw [if_pos hlen2]
      refine fin _ ?_
      rw [if_pos hp]
      show [(⟨c20, r.f1⟩ : LLine), ⟨c10, wrap64 (-r.f1 - r.f0)⟩, ⟨c50, r.f0⟩] = _
      rw [IntWalk.wrap64_in (-r.f1 - r.f0) ⟨by omega, by omega⟩]
    · rw [if_neg (show ¬ r.f0 > 0 from hp)]
      refine fin _ ?_
      rw [if_neg hp]
      rfl
/-- The plain law. -/
theorem loan_true (a0 a1 a2 : Int) : taltop_TopLoan.f 2000 a0 a1 a2 = some true := by
  unfold taltop_TopLoan.f
  rw [begun_at (by omega), Option.bind_some, if_pos rfl]
  obtain ⟨x, hx, x0, x1⟩ := within_spec a0 1000000000 (by omega) (by omega)
  obtain ⟨rate, hr, q0, q1⟩ := within_spec a1 200000 (by omega) (by omega)
  obtain ⟨y, hy, y0, y1⟩ := within_spec a2 40 (by omega) (by omega)
  rw [hx, Option.bind_some, hr, Option.bind_some, hy, Option.bind_some, IntWalk.wrap64_in (1 + x) ⟨by omega, by omega⟩, IntWalk.wrap64_in (1 + y) ⟨by omega, by omega⟩]
  obtain ⟨ow, how⟩ : ∃ ow, ow = 1 + x := ⟨_, rfl⟩
  obtain ⟨n, hn⟩ : ∃ n, n = 1 + y := ⟨_, rfl⟩
  rw [← how, ← hn]
  obtain ⟨pay, hp, p0, p1, hne, hle⟩ := least_ok (ow := ow) (rate := rate) (n := n) (by omega) (by omega) q0 (by omega) (by omega) (by omega)
  rw [hp, Option.bind_some, if_pos rfl]
  obtain ⟨l, hl⟩ : ∃ l, l = loanR ow rate pay := ⟨_, rfl⟩
  have hrows : note_Rows.f ow rate pay = some (l, 0) := by
    unfold note_Rows.f
    rw [if_neg (by omega), if_neg (by omega), if_neg (fun h => hne h.2), if_neg (by omega), hl]
  rw [← hl] at hne hle
  rw [hrows, Option.bind_some, if_pos rfl, decide_eq_false (show ¬ ((l.length : Int) > n) by omega)]
  obtain ⟨rows, he, hc⟩ := rowsL_chain (rate := rate) (pay := pay) q0 (by omega) 42 ow [] l (by omega) (by omega) rfl hl.symm hne (by omega)
  rw [List.nil_append] at he
  rw [← he] at hc
  have hok := mv_ok (n := 99) (d := 0) (amt := ow) (by omega) (by omega) (by omega) code10 code20 ne_10_20 (by omega) (by omega) (by omega) kn10 kn20
  obtain ⟨hpost, hb⟩ := (Bk.empty (fun _ => False) 0).post (T := fun m => m = 99 ∨ m < 0) (n := 99) (by omega) (fun m hm => hm.elim) (by omega) hok rfl (fun m hm => hm.elim) (Or.inl rfl)
  have hm := moved_eq (k := 1999) (n := 99) (by omega) (by omega) 0 ow (by omega) (by omega) c10 c20
  rw [taltop_TopLoan.j0, if_neg (by decide), plain_eq, Option.bind_some]
  rw [show ((99 : Nat) : Int) = 99 from rfl] at hm
  rw [hm, Option.bind_some, hpost, Option.bind_some, if_pos rfl]
  have := loan_loop (l := l) (by omega) l.length 1999 0 ow 0 _ (by omega) (by omega) (by simpa using hc) (by omega) (by omega) (by omega) (by omega) hb Holds.first
  simpa using this
theorem TopLoanPure : taltop_TopLoan.Pure := fun a0 a1 a2 _ _ _ => ⟨2000, loan_true a0 a1 a2⟩
end Go.Proofs.Ytlfbdcobpfainaa.L
