/- The book of the laws from end to end: its accounts, entries of two lines, and posting them. -/
import Derived.Test.YtlfbdcobpfainaaL7
import Derived.Test.YtlfbdcobpfainaaLPureOf
import Derived.Test.YtlfbdcobpfainaaLPureKey
namespace Go.Proofs.Ytlfbdcobpfainaa.L
open Go.RowKit Go.Proofs.YtlfbdcobpfainaaW.PrintWords Go.Proofs.YtlfbdcobpfainaaW.PrintLast Go.Proofs.YtlfbdcobpfainaaW.PrintMore
def acc0 : List S82 := [⟨⟨#[49, 48]⟩, 0⟩, ⟨⟨#[49, 53]⟩, 0⟩, ⟨⟨#[50, 48]⟩, 1⟩, ⟨⟨#[51, 48]⟩, 2⟩, ⟨⟨#[52, 48]⟩, 3⟩, ⟨⟨#[53, 48]⟩, 4⟩]
abbrev c10 : ByteArray := ⟨#[49, 48]⟩
abbrev c15 : ByteArray := ⟨#[49, 53]⟩
abbrev c50 : ByteArray := ⟨#[53, 48]⟩
theorem plain_eq : taltop_plain.f = some (acc0, [], -1) := rfl
theorem acct_ok : acctR acc0 = 0 := by kernel_rfl
theorem bookR_empty : bookR acc0 [] (-1) = 0 := by kernel_rfl
/-- An entry of two lines. -/
def mv (n : Nat) (d amt : Int) (ta fr : ByteArray) : Ent := ⟨kB n, d, [⟨ta, amt⟩, ⟨fr, -amt⟩]⟩
theorem mono_up {α : Type} {f : Nat → Option α} (hm : ∀ k, LeO (f k) (f (k + 1))) {r : α} {k : Nat} (h : f k = some r) (j : Nat) : f (k + j) = some r := by
  induction j with
  | zero => exact h
  | succ j ih => exact hm (k + j) r ih
theorem moved_eq {k n : Nat} (hk : 5 ≤ k) (hn : n < 130) (d amt : Int) (h0 : -1000000000000 ≤ amt) (h1 : amt ≤ 1000000000000000) (ta fr : ByteArray) : taltop_moved.f k (n : Int) d amt ta fr = some ((mv n d amt ta fr).f0, (mv n d amt ta fr).f1, (mv n d amt ta fr).f2) := by
  unfold taltop_moved.f
  have hkey : taltop_key.f k (n : Int) = some (kB n) := by
    have := mono_up (f := fun k => taltop_key.f k (n : Int)) (fun k => taltop_key.mono _ k) (key_eq hn) (k - 5)
    rw [show 5 + (k - 5) = k by omega] at this
    exact this
  rw [hkey, Option.bind_some, IntWalk.wrap64_in _ ⟨by omega, by omega⟩]
  rfl
theorem two_lines {ta fr : ByteArray} {amt : Int} (ht : codeB ta = true) (hf : codeB fr = true) (hne : (ta.toList == fr.toList) = false) (h0 : amt ≠ 0) (h1 : -1000000000000 ≤ amt) (h2 : amt ≤ 1000000000000) : linesR [⟨ta, amt⟩, ⟨fr, -amt⟩] = 0 := by
  have m1 : moneyB amt = true := by unfold moneyB; simp; omega
  have m2 : moneyB (-amt) = true := by unfold moneyB; simp; omega
  have h3 : ¬ (-amt = 0) := by omega
  unfold linesR
  simp [linesLoop, ht, hf, hne, m1, m2, h0, h3]
  omega
theorem mv_ok {n : Nat} {d amt : Int} {ta fr : ByteArray} (hn : n < 130) (hd0 : 0 ≤ d) (hd1 : d ≤ 292193) (ht : codeB ta = true) (hf : codeB fr = true) (hne : (ta.toList == fr.toList) = false) (h0 : amt ≠ 0) (h1 : -1000000000000 ≤ amt) (h2 : amt ≤ 1000000000000)
    (kt : (acc0.any fun a => a.f0.toList == ta.toList) = true) (kf : (acc0.any fun a => a.f0.toList == fr.toList) = true) : okE acc0 (mv n d amt ta fr) := by
  constructor
  · show entryR (kB n) d _ = 0
    unfold entryR
    have hd : dayB d = true := by unfold dayB; simp; omega
    rw [if_neg (by rw [key_good hn]; decide), if_neg (by rw [hd]; decide)]
    exact two_lines ht hf hne h0 h1 h2
  · show knownB acc0 [⟨ta, amt⟩, ⟨fr, -amt⟩] = true
    unfold knownB
    simp only [List.any_cons, List.any_nil, kt, kf]
    rfl
theorem code10 : codeB c10 = true := by kernel_rfl
theorem code15 : codeB c15 = true := by kernel_rfl
theorem code50 : codeB c50 = true := by kernel_rfl
theorem kn10 : (acc0.any fun a => a.f0.toList == c10.toList) = true := by kernel_rfl
theorem kn15 : (acc0.any fun a => a.f0.toList == c15.toList) = true := by kernel_rfl
theorem kn50 : (acc0.any fun a => a.f0.toList == c50.toList) = true := by kernel_rfl
theorem ne_15_10 : (c15.toList == c10.toList) = false := by kernel_rfl
theorem ne_50_15 : (c50.toList == c15.toList) = false := by kernel_rfl
theorem ne_10_15 : (c10.toList == c15.toList) = false := by kernel_rfl
theorem ne_15_50 : (c15.toList == c50.toList) = false := by kernel_rfl
theorem ne_10_50 : (c10.toList == c50.toList) = false := by kernel_rfl
theorem lineAt_eq {c d : ByteArray} {x : Int} (h : (d.toList == c.toList) = true) : lineAt c ⟨d, x⟩ = x := by unfold lineAt; exact if_pos (by simpa using h)
theorem lineAt_ne {c d : ByteArray} {x : Int} (h : (d.toList == c.toList) = false) : lineAt c ⟨d, x⟩ = 0 := by unfold lineAt; exact if_neg (by simpa using h)
theorem entAt_mv {n : Nat} {d amt a b : Int} {ta fr c : ByteArray} (ha : a ≤ d) (hb : d ≤ b) : entAt c a b (mv n d amt ta fr) = lineAt c ⟨ta, amt⟩ + lineAt c ⟨fr, -amt⟩ := by
  unfold entAt
  rw [if_neg (by show ¬ (d < a ∨ b < d); omega)]
  show linesSum c [⟨ta, amt⟩, ⟨fr, -amt⟩] = _
  simp [linesSum]
/-- Posted anew. -/
theorem post_new {es : List Ent} {x : Ent} (hb : bookR acc0 es (-1) = 0) (hx : okE acc0 x) (hk : ∀ y ∈ es, keyOf y ≠ keyOf x) (hl : es.length < 60) : book_Post.f acc0 es (-1) x.f0 x.f1 x.f2 = some (acc0, insAt es x, -1, 0) := by
  have hd := day_ok hx.1
  have hi : ¬ (0 ≤ YtlfbdcobpfainaaH.idx (fun y : Ent => y.f0.toList == x.f0.toList) es) := by
    unfold YtlfbdcobpfainaaH.idx
    have : (es.any fun y : Ent => y.f0.toList == x.f0.toList) = false := by
      rw [List.any_eq_false]
      intro y hy h
      have h2 : y.f0.toList = x.f0.toList := by simpa using h
      rw [ByteArray.toList_eq, ByteArray.toList_eq] at h2
      exact hk y hy h2
    rw [this, if_neg (by decide)]; decide
  unfold book_Post.f
  rw [if_neg (by simp [hb]), if_neg (by simp [hx.1]), if_neg hi, if_neg (by simp [hx.2]), if_neg (by omega), if_neg (by omega)]
theorem key_inj {m n : Nat} (hm : m < 130) (hn : n < 130) (h : (kB m).data.toList = (kB n).data.toList) : m = n := by
  rcases Nat.lt_trichotomy m n with h1 | h1 | h1
  · exact absurd h (key_apart hn h1)
  · exact h1
  · exact absurd h.symm (key_apart hm h1)
/-- A right book of the laws' accounts, of at most N entries, its keys of numbers among S. -/
structure Bk (es : List Ent) (S : Nat → Prop) (N : Nat) : Prop where
  ok : bookR acc0 es (-1) = 0
  used : ∀ y ∈ es, ∃ m, S m ∧ m < 130 ∧ keyOf y = (kB m).data.toList
  len : es.length ≤ N
theorem Bk.empty (S : Nat → Prop) (N : Nat) : Bk [] S N := ⟨bookR_empty, fun y hy => absurd hy (by simp), Nat.zero_le _⟩
theorem Bk.post {es : List Ent} {S T : Nat → Prop} {N n : Nat} {x : Ent} (h : Bk es S N) (hn : n < 130) (hS : ∀ m, S m → m ≠ n) (hN : N < 60) (hx : okE acc0 x) (hkx : x.f0 = kB n) (hT : ∀ m, S m → T m) (hTn : T n) :
    book_Post.f acc0 es (-1) x.f0 x.f1 x.f2 = some (acc0, insAt es x, -1, 0) ∧ Bk (insAt es x) T (N + 1) := by
  have hfresh : ∀ y ∈ es, keyOf y ≠ keyOf x := by
    intro y hy e
    obtain ⟨m, hm, hm1, he⟩ := h.used y hy
    have e2 : keyOf x = (kB n).data.toList := by unfold keyOf; rw [hkx]
    exact hS m hm (key_inj hm1 hn (by rw [← he, e, e2]))
  have hl := h.len
  refine ⟨post_new h.ok hx hfresh (by omega), bookR_insert h.ok hx hfresh (by omega), fun y hy => ?_, ?_⟩
  · rcases List.mem_cons.1 ((insAt_perm es x).mem_iff.1 hy) with rfl | hy
    · exact ⟨n, hTn, hn, by unfold keyOf; rw [hkx]⟩
    · obtain ⟨m, hm, h2⟩ := h.used y hy
      exact ⟨m, hT m hm, h2⟩
  · rw [(insAt_perm es x).length_eq, List.length_cons]; omega
theorem Bk.balance {es : List Ent} {S : Nat → Prop} {N : Nat} (h : Bk es S N) {c : ByteArray} (hc : (acc0.any fun a => a.f0.toList == c.toList) = true) {d : Int} (h0 : 0 ≤ d) (h1 : d ≤ 292193) {k : Nat} (hk : 1000 ≤ k) :
    book_Balance.f k acc0 es (-1) c d = some (ofR es c 0 d, 0) := by
  unfold book_Balance.f book_Check.f
  rw [h.ok, Option.bind_some, if_pos rfl]
  have hf : ∃ n, acct_Find.f acc0 c = some n ∧ ¬ n < 0 := by
    unfold acct_Find.f
    refine ⟨_, rfl, ?_⟩
    have := @YtlfbdcobpfainaaH.idx_neg _ (fun a : S82 => a.f0.toList == c.toList) acc0
    rw [hc] at this
    exact of_decide_eq_false this
  obtain ⟨n, hn, hn0⟩ := hf
  have h2 : cal_Is.f d = some true := by
    unfold cal_Is.f
    rw [if_pos (by omega), decide_eq_true (by omega)]
  have h3 : book_Of.f k acc0 es (-1) c 0 d = some (ofR es c 0 d) := by
    have := mono_up (f := fun k => book_Of.f k acc0 es (-1) c 0 d) (fun k => book_Of.mono _ _ _ _ _ _ k) (book_Of.total h.ok c 0 d) (k - 1000)
    rw [show 1000 + (k - 1000) = k by omega] at this
    exact this
  rw [hn, Option.bind_some, if_neg hn0, h2, Option.bind_some, if_pos rfl, h3]
  rfl
theorem begun_at {k : Nat} (hk : 1100 ≤ k) : taltop_begun.f k = some true := by
  have := mono_up (f := fun k => taltop_begun.f k) (fun k => taltop_begun.mono k) begun_true (k - 1100)
  rw [show 1100 + (k - 1100) = k by omega] at this
  exact this
end Go.Proofs.Ytlfbdcobpfainaa.L
