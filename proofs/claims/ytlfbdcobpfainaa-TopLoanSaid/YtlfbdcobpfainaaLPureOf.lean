/- The plain law of balances: book_Of is a sum over the entries, whatever their order. -/
import Derived.Test.YtlfbdcobpfainaaL7
import Derived.Test.YtlfbdcobpfainaaLPureBook
namespace Go.Proofs.Ytlfbdcobpfainaa.L
open Go.RowKit
def lineAt (c : ByteArray) (x : S41) : Int := if x.f0.toList = c.toList then x.f1 else 0
def linesSum (c : ByteArray) (l : List S41) : Int := (l.map (lineAt c)).sum
def entAt (c : ByteArray) (a b : Int) (e : Ent) : Int := if e.f1 < a ∨ b < e.f1 then 0 else linesSum c e.f2
def ofR (es : List Ent) (c : ByteArray) (a b : Int) : Int := (es.map (entAt c a b)).sum
def smallL (l : List S41) : Prop := l.length ≤ 12 ∧ ∀ x ∈ l, -1000000000000 ≤ x.f1 ∧ x.f1 ≤ 1000000000000
theorem lineAt_small {c : ByteArray} {x : S41} (h : -1000000000000 ≤ x.f1 ∧ x.f1 ≤ 1000000000000) : -1000000000000 ≤ lineAt c x ∧ lineAt c x ≤ 1000000000000 := by unfold lineAt; split <;> omega
theorem book_Of.lines (c : ByteArray) (a b : Int) (es : List Ent) (n2 ix : Int) (ls : List S41) (hs : smallL ls) (M : Int) (hM0 : 0 ≤ M) (hM : M ≤ 9000000000000000000) (d k i : Nat) (n : Int) (hi : i + d = ls.length) (h0 : -(M - 1000000000000 * (d : Int)) ≤ n) (h1 : n ≤ M - 1000000000000 * (d : Int)) :
    book_Of.l1 (k + d + 1) c a b n es n2 ix ls (ls.length : Int) i = book_Of.l0 k c a b (n + linesSum c (ls.drop i)) es n2 (wrap64 (ix + 1)) := by
  induction d generalizing k i n with
  | zero =>
    simp only [book_Of.l1]
    rw [if_neg (by omega), List.drop_of_length_le (by omega)]
    simp [linesSum]
  | succ d ih =>
    have hlt : i < ls.length := by omega
    have h12 := hs.1
    have hb : rd_T41 ls (i : Int) = ls[i] := by simp [rd_T41, List.getD_eq_getElem?_getD, hlt]
    have hw : wrap64 ((i : Int) + 1) = ((i + 1 : Nat) : Int) := by rw [IntWalk.wrap64_in _ ⟨by omega, by omega⟩]; rfl
    obtain ⟨g0, g1⟩ := hs.2 ls[i] (List.getElem_mem hlt)
    have e : linesSum c (ls.drop i) = lineAt c ls[i] + linesSum c (ls.drop (i + 1)) := by unfold linesSum; rw [List.drop_eq_getElem_cons hlt, List.map_cons, List.sum_cons]
    have hk : k + (d + 1) + 1 = (k + d + 1) + 1 := by omega
    rw [hk, e]
    rw [book_Of.l1]
    rw [if_pos (by omega), if_pos (by omega), if_pos (by omega), hw, hb]
    by_cases hc : ls[i].f0.toList = c.toList
    · have e2 : lineAt c ls[i] = ls[i].f1 := by unfold lineAt; rw [if_pos hc]
      rw [if_pos hc, IntWalk.wrap64_in _ ⟨by omega, by omega⟩, ih k (i + 1) _ (by omega) (by omega) (by omega), e2, Int.add_assoc]
    · have e2 : lineAt c ls[i] = 0 := by unfold lineAt; rw [if_neg hc]
      rw [if_neg hc, ih k (i + 1) _ (by omega) (by omega) (by omega), e2, Int.zero_add]
theorem linesSum_small {c : ByteArray} : ∀ {l : List S41}, (∀ x ∈ l, -1000000000000 ≤ x.f1 ∧ x.f1 ≤ 1000000000000) → -(1000000000000 * (l.length : Int)) ≤ linesSum c l ∧ linesSum c l ≤ 1000000000000 * (l.length : Int)
  | [], _ => by simp [linesSum]
  | x :: r, h => by
    have h1 := lineAt_small (c := c) (h x (by simp))
    have h2 := linesSum_small (c := c) (l := r) (fun y hy => h y (by simp [hy]))
    have e : linesSum c (x :: r) = lineAt c x + linesSum c r := by unfold linesSum; rw [List.map_cons, List.sum_cons]
    rw [e, List.length_cons]
    constructor <;> push_cast <;> omega
theorem book_Of.ents (c : ByteArray) (a b : Int) (es : List Ent) (hs : ∀ e ∈ es, smallL e.f2) (h60 : es.length ≤ 60) (d k i : Nat) (n : Int) (hi : i + d = es.length) (hk : 15 * d < k) (h0 : -(1000000000000000 - 12000000000000 * (d : Int)) ≤ n) (h1 : n ≤ 1000000000000000 - 12000000000000 * (d : Int)) :
    book_Of.l0 k c a b n es (es.length : Int) i = some (n + ofR (es.drop i) c a b) := by
  induction d generalizing k i n with
  | zero =>
    obtain ⟨k, rfl⟩ : ∃ m, k = m + 1 := ⟨k - 1, by omega⟩
    rw [book_Of.l0, if_neg (by omega), List.drop_of_length_le (by omega)]
    simp [ofR]
  | succ d ih =>
    obtain ⟨k, rfl⟩ : ∃ m, k = m + 2 := ⟨k - 2, by omega⟩
    have hlt : i < es.length := by omega
    have hb : rd_T38 es (i : Int) = es[i] := by simp [rd_T38, List.getD_eq_getElem?_getD, hlt]
    have hw : wrap64 ((i : Int) + 1) = ((i + 1 : Nat) : Int) := by rw [IntWalk.wrap64_in _ ⟨by omega, by omega⟩]; rfl
    have hsm := hs es[i] (List.getElem_mem hlt)
    have e : ofR (es.drop i) c a b = entAt c a b es[i] + ofR (es.drop (i + 1)) c a b := by unfold ofR; rw [List.drop_eq_getElem_cons hlt, List.map_cons, List.sum_cons]
    have hls := linesSum_small (c := c) hsm.2
    have hl12 := hsm.1
    rw [e, book_Of.l0, if_pos (by omega), if_pos (by omega), if_pos (by omega), hb]
    by_cases hd : es[i].f1 < a
    · have e2 : entAt c a b es[i] = 0 := by unfold entAt; rw [if_pos (Or.inl hd)]
      rw [if_pos hd, book_Of.j1, if_pos rfl, hw, ih k (i + 1) n (by omega) (by omega) (by omega) (by omega), e2, Int.zero_add]
    · rw [if_neg hd]
      by_cases hd2 : b < es[i].f1
      · have e2 : entAt c a b es[i] = 0 := by unfold entAt; rw [if_pos (Or.inr hd2)]
        rw [show decide (es[i].f1 > b) = true from decide_eq_true hd2, book_Of.j1, if_pos rfl, hw, ih k (i + 1) n (by omega) (by omega) (by omega) (by omega), e2, Int.zero_add]
      · have e2 : entAt c a b es[i] = linesSum c es[i].f2 := by unfold entAt; rw [if_neg (by omega)]
        obtain ⟨m, rfl⟩ : ∃ m, k = m + es[i].f2.length + 1 := ⟨k - es[i].f2.length - 1, by omega⟩
        rw [show decide (es[i].f1 > b) = false from decide_eq_false hd2, book_Of.j1, if_neg (by decide)]
        have hl := book_Of.lines c a b es (es.length : Int) (i : Int) es[i].f2 hsm 9000000000000000000 (by omega) (by omega) es[i].f2.length m 0 n (by omega) (by omega) (by omega)
        rw [List.drop_zero] at hl
        rw [show ((0 : Nat) : Int) = 0 from rfl] at hl
        rw [hl, hw, ih m (i + 1) _ (by omega) (by omega) (by omega) (by omega), e2, Int.add_assoc]
theorem linesLoop_small : ∀ {l : List S41} {seen : List S41} {s : Int}, (linesLoop seen s l).1 = 0 → ∀ x ∈ l, -1000000000000 ≤ x.f1 ∧ x.f1 ≤ 1000000000000
  | [], _, _, _ => fun x hx => absurd hx (by simp)
  | y :: r, seen, s, h => by
    simp only [linesLoop] at h
    by_cases h1 : codeB y.f0 = false
    · rw [if_pos h1] at h; exact absurd h (by decide)
    · rw [if_neg h1] at h
      by_cases h2 : moneyB y.f1 = false
      · rw [if_pos h2] at h; exact absurd h (by decide)
      · rw [if_neg h2] at h
        by_cases h3 : y.f1 = 0
        · rw [if_pos h3] at h; exact absurd h (by decide)
        · rw [if_neg h3] at h
          by_cases h4 : (seen.any fun z => z.f0.toList == y.f0.toList) = true
          · rw [if_pos h4] at h; exact absurd h (by decide)
          · rw [if_neg h4] at h
            intro x hx
            rcases List.mem_cons.1 hx with rfl | hx
            · unfold moneyB at h2; simpa using h2
            · exact linesLoop_small h x hx
theorem entry_small {x : Ent} (h : entryR x.f0 x.f1 x.f2 = 0) : smallL x.f2 := by
  refine ⟨entryR_len h, ?_⟩
  unfold entryR at h
  split at h
  · exact absurd h (by decide)
  · split at h
    · exact absurd h (by decide)
    · unfold linesR at h
      split at h
      · exact absurd h (by decide)
      · split at h
        · rename_i h1; exact absurd h h1
        · rename_i h1; exact linesLoop_small (by simpa using h1)
theorem book_Of.total {A : List S82} {es : List Ent} {s : Int} (h : bookR A es s = 0) (c : ByteArray) (a b : Int) : book_Of.f 1000 A es s c a b = some (ofR es c a b) := by
  obtain ⟨_, _, _, h4, h5⟩ := bookR_parts h
  obtain ⟨g1, _⟩ := (entriesLoop_iff A es [] none).1 h5
  unfold book_Of.f
  have := book_Of.ents c a b es (fun e he => entry_small (g1 e he).1) h4 es.length 1000 0 0 (by omega) (by omega) (by omega) (by omega)
  simpa using this
theorem insAt_perm (es : List Ent) (x : Ent) : (insAt es x).Perm (x :: es) := by
  refine List.perm_middle.trans ?_
  rw [List.take_append_drop]
theorem sum_perm {l m : List Int} (h : l.Perm m) : l.sum = m.sum := by
  induction h with
  | nil => rfl
  | cons x _ ih => simp [ih]
  | swap x y l => simp only [List.sum_cons]; omega
  | trans _ _ ih1 ih2 => exact ih1.trans ih2
theorem ofR_insert (es : List Ent) (x : Ent) (c : ByteArray) (a b : Int) : ofR (insAt es x) c a b = entAt c a b x + ofR es c a b := by
  unfold ofR
  rw [sum_perm ((insAt_perm es x).map _), List.map_cons, List.sum_cons]
end Go.Proofs.Ytlfbdcobpfainaa.L
