/- The plain law of the book: what an entry that is posted anew leaves is a right book. -/
import Derived.Test.YtlfbdcobpfainaaL6
namespace Go.Proofs.Ytlfbdcobpfainaa.L
open Go.RowKit
theorem bsF_spec {p : Nat → Bool} {n : Nat} : ∀ {k i j : Nat}, j - i < k → i ≤ j → (0 < i → p (i - 1) = true) → (j < n → p j = false) → i ≤ bsF p k i j ∧ bsF p k i j ≤ j ∧ (0 < bsF p k i j → p (bsF p k i j - 1) = true) ∧ (bsF p k i j < n → p (bsF p k i j) = false)
  | 0, i, j, h, _, _, _ => absurd h (by omega)
  | k + 1, i, j, h, hij, h0, h1 => by
    by_cases hlt : i < j
    · cases hp : p ((i + j) / 2) with
      | true =>
        rw [bsF_hit hlt hp]
        obtain ⟨a, b, c, d⟩ := bsF_spec (k := k) (i := (i + j) / 2 + 1) (j := j) (by omega) (by omega) (fun _ => by simpa using hp) h1
        exact ⟨by omega, b, c, d⟩
      | false =>
        rw [bsF_miss hlt hp]
        obtain ⟨a, b, c, d⟩ := bsF_spec (k := k) (i := i) (j := (i + j) / 2) (by omega) (by omega) h0 (fun _ => hp)
        exact ⟨a, by omega, c, d⟩
    · obtain rfl : i = j := by omega
      rw [bsF_end]
      exact ⟨Nat.le_refl _, Nat.le_refl _, h0, h1⟩
theorem cmp_swap : ∀ (a b : List UInt8), Go.Lib.compareBytes b a = - Go.Lib.compareBytes a b
  | [], [] => rfl
  | [], _ :: _ => rfl
  | _ :: _, [] => rfl
  | x :: a, y :: b => by
    simp only [Go.Lib.compareBytes]
    by_cases h1 : x < y
    · have h2 : ¬ y < x := fun h => absurd (UInt8.lt_iff_toNat_lt.1 h) (by have := UInt8.lt_iff_toNat_lt.1 h1; omega)
      simp [h1, h2]
    · by_cases h2 : y < x
      · simp [h1, h2]
      · simp [h1, h2, cmp_swap a b]
theorem cmp_zero : ∀ (a b : List UInt8), Go.Lib.compareBytes a b = 0 → a = b
  | [], [], _ => rfl
  | [], _ :: _, h => absurd h (by simp [Go.Lib.compareBytes])
  | _ :: _, [], h => absurd h (by simp [Go.Lib.compareBytes])
  | x :: a, y :: b, h => by
    simp only [Go.Lib.compareBytes] at h
    by_cases h1 : x < y
    · simp [h1] at h
    · by_cases h2 : y < x
      · simp [h1, h2] at h
      · simp [h1, h2] at h
        have e : x = y := by
          apply UInt8.toNat_inj.1
          have a1 : ¬ x.toNat < y.toNat := fun h => h1 (UInt8.lt_iff_toNat_lt.2 h)
          have a2 : ¬ y.toNat < x.toNat := fun h => h2 (UInt8.lt_iff_toNat_lt.2 h)
          omega
        rw [e, cmp_zero a b h]
abbrev Ent := S38
def keyOf (x : Ent) : List UInt8 := x.f0.data.toList
def chain : Option Ent → List Ent → Prop
  | _, [] => True
  | p, x :: r => (∀ q, p = some q → cmpW q x < 0) ∧ chain (some x) r
def okE (accts : List S82) (x : Ent) : Prop := entryR x.f0 x.f1 x.f2 = 0 ∧ knownB accts x.f2 = true
theorem entriesLoop_iff (accts : List S82) : ∀ (es : List Ent) (seen : List (List UInt8)) (p : Option Ent), entriesLoop accts seen p es = 0 ↔ (∀ x ∈ es, okE accts x) ∧ (es.map keyOf).Nodup ∧ (∀ x ∈ es, keyOf x ∉ seen) ∧ chain p es
  | [], seen, p => by simp [entriesLoop, chain]
  | y :: r, seen, p => by
    simp only [entriesLoop, chain]
    by_cases h1 : entryR y.f0 y.f1 y.f2 = 0
    · rw [if_neg (by simp [h1])]
      by_cases h2 : knownB accts y.f2 = false
      · rw [if_pos h2]
        refine ⟨fun h => absurd h (by decide), fun h => ?_⟩
        have := (h.1 y (by simp)).2
        rw [h2] at this; exact absurd this (by decide)
      · rw [if_neg h2]
        have h2' : knownB accts y.f2 = true := by simpa using h2
        by_cases h3 : seen.any (· == y.f0.data.toList) = true
        · rw [if_pos h3]
          refine ⟨fun h => absurd h (by decide), fun h => ?_⟩
          exfalso
          apply h.2.2.1 y (by simp)
          simpa [keyOf] using h3
        · rw [if_neg h3]
          have h3' : keyOf y ∉ seen := by
            intro h; apply h3
            simpa [keyOf] using h
          have hgoal : ∀ P : Bool, (P = true ↔ (∀ q, p = some q → cmpW q y < 0)) → ((if P = false then 3 else entriesLoop accts (seen ++ [y.f0.data.toList]) (some y) r) = 0 ↔ (∀ x ∈ y :: r, okE accts x) ∧ ((y :: r).map keyOf).Nodup ∧ (∀ x ∈ y :: r, keyOf x ∉ seen) ∧ (∀ q, p = some q → cmpW q y < 0) ∧ chain (some y) r) := by
            intro P hPi
            cases P with
            | false =>
              rw [if_pos rfl]
              refine ⟨fun h => absurd h (by decide), fun h => ?_⟩
              exact absurd (hPi.2 h.2.2.2.1) (by decide)
            | true =>
              rw [if_neg (by decide), entriesLoop_iff accts r (seen ++ [y.f0.data.toList]) (some y)]
              have hc := hPi.1 rfl
              constructor
              · rintro ⟨a, b, c, d⟩
                refine ⟨fun x hx => ?_, ?_, fun x hx => ?_, hc, d⟩
                · rcases List.mem_cons.1 hx with rfl | hx
                  · exact ⟨h1, h2'⟩
                  · exact a x hx
                · rw [List.map_cons, List.nodup_cons]
                  refine ⟨fun h => ?_, b⟩
                  obtain ⟨z, hz, he⟩ := List.mem_map.1 h
                  exact c z hz (by rw [he]; simp [keyOf])
                · rcases List.mem_cons.1 hx with rfl | hx
                  · exact h3'
                  · exact fun h => c x hx (by simp [h])
              · rintro ⟨a, b, c, _, d⟩
                rw [List.map_cons, List.nodup_cons] at b
                refine ⟨fun x hx => a x (by simp [hx]), b.2, fun x hx h => ?_, d⟩
                rcases List.mem_append.1 h with h | h
                · exact c x (by simp [hx]) h
                · have : keyOf x = keyOf y := by simpa [keyOf] using h
                  exact b.1 (by rw [← this]; exact List.mem_map.2 ⟨x, hx, rfl⟩)
          cases p with
          | none => exact hgoal true (by simp)
          | some q => exact hgoal (decide (cmpW q y < 0)) (by simp)
    · rw [if_pos h1]
      exact ⟨fun h => absurd h h1, fun h => absurd (h.1 y (by simp)).1 h1⟩
theorem chain_insert {x : Ent} : ∀ (i : Nat) (es : List Ent) (p : Option Ent), chain p es → i ≤ es.length → (∀ j z, i = j + 1 → es[j]? = some z → cmpW z x < 0) → (∀ z, es[i]? = some z → cmpW x z < 0) → (i = 0 → ∀ q, p = some q → cmpW q x < 0) → chain p (es.take i ++ x :: es.drop i)
  | 0, es, p, h, _, _, hn, hp => by
    refine ⟨hp rfl, ?_⟩
    cases es with
    | nil => trivial
    | cons y r => exact ⟨fun q hq => by obtain rfl := Option.some.inj hq; exact hn y (by simp), h.2⟩
  | i + 1, [], p, h, hi, _, _, _ => absurd hi (by simp)
  | i + 1, y :: r, p, h, hi, h1, hn, hp => by
    refine ⟨h.1, chain_insert i r (some y) h.2 (by simpa using hi) (fun j z hj hz => h1 (j + 1) z (by omega) (by simpa using hz)) (fun z hz => hn z (by simpa using hz)) (fun h0 q hq => ?_)⟩
    obtain rfl := Option.some.inj hq
    exact h1 0 y (by omega) (by simp)
theorem wrap_day {a b : Int} (ha : 0 ≤ a ∧ a ≤ 292193) (hb : 0 ≤ b ∧ b ≤ 292193) : wrap64 (a - b) = a - b := IntWalk.wrap64_in _ ⟨by omega, by omega⟩
theorem cmpW_swap {a b : Ent} (ha : 0 ≤ a.f1 ∧ a.f1 ≤ 292193) (hb : 0 ≤ b.f1 ∧ b.f1 ≤ 292193) (h : ¬ cmpW a b < 0) (hk : keyOf a ≠ keyOf b) : cmpW b a < 0 := by
  unfold cmpW at h ⊢
  by_cases hd : a.f1 = b.f1
  · rw [if_pos hd] at h
    rw [if_pos hd.symm, cmp_swap]
    have : Go.Lib.compareBytes a.f0.data.toList b.f0.data.toList ≠ 0 := fun h0 => hk (cmp_zero _ _ h0)
    omega
  · rw [if_neg hd, wrap_day ha hb] at h
    rw [if_neg (Ne.symm hd), wrap_day hb ha]
    omega
theorem day_ok {x : Ent} (h : entryR x.f0 x.f1 x.f2 = 0) : 0 ≤ x.f1 ∧ x.f1 ≤ 292193 := by
  unfold entryR at h
  split at h
  · exact absurd h (by decide)
  · split at h
    · exact absurd h (by decide)
    · rename_i hd; unfold dayB at hd; simpa using hd
/-- What is posted anew leaves a right book. -/
theorem bookR_insert {a : List S82} {es : List Ent} {s : Int} {x : Ent} (h : bookR a es s = 0) (hx : okE a x) (hk : ∀ y ∈ es, keyOf y ≠ keyOf x) (hl : es.length < 60) : bookR a (insAt es x) s = 0 := by
  obtain ⟨h1, h2, h3, h4, h5⟩ := bookR_parts h
  obtain ⟨g1, g2, _, g4⟩ := (entriesLoop_iff a es [] none).1 h5
  have hbs := bsF_spec (p := fun i : Nat => decide (cmpW (rd_T38 es i) x < 0)) (n := es.length) (k := 1001) (i := 0) (j := es.length) (by omega) (Nat.zero_le _) (fun h => absurd h (by omega)) (fun h => absurd h (by omega))
  obtain ⟨i, hi⟩ : ∃ i, i = bsF (fun i : Nat => decide (cmpW (rd_T38 es i) x < 0)) 1001 0 es.length := ⟨_, rfl⟩
  rw [← hi] at hbs
  obtain ⟨_, b2, b3, b4⟩ := hbs
  have hins : insAt es x = es.take i ++ x :: es.drop i := by rw [hi]; rfl
  have hperm : (insAt es x).Perm (x :: es) := by
    rw [hins]
    refine List.perm_middle.trans ?_
    rw [List.take_append_drop]
  have hrd : ∀ (j : Nat) (z : Ent), es[j]? = some z → rd_T38 es (j : Int) = z := fun j z hz => by simp [rd_T38, List.getD_eq_getElem?_getD, hz]
  have hchain : chain none (insAt es x) := by
    rw [hins]
    refine chain_insert i es none g4 b2 (fun j z hj hz => ?_) (fun z hz => ?_) (fun _ q hq => by cases hq)
    · have := b3 (by omega)
      have e : i - 1 = j := by omega
      rw [e, hrd j z hz] at this
      exact of_decide_eq_true this
    · have hlt : i < es.length := (List.getElem?_eq_some_iff.1 hz).1
      have := b4 hlt
      rw [hrd i z hz] at this
      have hm : z ∈ es := List.mem_of_getElem? hz
      exact cmpW_swap (day_ok (g1 z hm).1) (day_ok hx.1) (of_decide_eq_false this) (hk z hm)
  have hloop : entriesLoop a [] none (insAt es x) = 0 := by
    rw [entriesLoop_iff]
    refine ⟨fun y hy => ?_, ?_, fun y _ => by simp, hchain⟩
    · rcases List.mem_cons.1 (hperm.mem_iff.1 hy) with rfl | hy
      · exact hx
      · exact g1 y hy
    · rw [(hperm.map keyOf).nodup_iff, List.map_cons, List.nodup_cons]
      refine ⟨fun h => ?_, g2⟩
      obtain ⟨y, hy, he⟩ := List.mem_map.1 h
      exact hk y hy he
  have hlen : (insAt es x).length = es.length + 1 := by rw [hperm.length_eq]; rfl
  unfold bookR
  rw [if_neg (by simp [h1]), if_neg (by omega), if_neg (by omega)]
  exact hloop
end Go.Proofs.Ytlfbdcobpfainaa.L
