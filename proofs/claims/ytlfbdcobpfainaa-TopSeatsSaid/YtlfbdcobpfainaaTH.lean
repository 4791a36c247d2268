/- Part of the proof, with what it needs of the printed words alone. -/
import Derived.Test.YtlfbdcobpfainaaTWMore
import Derived.Test.YtlfbdcobpfainaaTWApart
import Derived.Test.YtlfbdcobpfainaaTWArr
import Derived.Test.YtlfbdcobpfainaaTWKept
import Derived.Test.YtlfbdcobpfainaaTWShare
import Derived.WalkSpells
import Derived.WalkLawsBesides
import Derived.Lib.Hide
import Derived.Laws.CopyOwn
import Derived.Deep.RegionLaw
import Derived.Lib.Overlaps
import Derived.Shelf.Small.Strs
import Derived.Maps.OwnSet
import Derived.Deep.RegionHeld3
import Derived.StringKeys
import Derived.StillTailTactics
namespace Go.Proofs.YtlfbdcobpfainaaH
set_option linter.unusedSimpArgs false
set_option linter.unusedVariables false
open Go.RowKit Go.Proofs.YtlfbdcobpfainaaW.PrintWords Go.Proofs.YtlfbdcobpfainaaW.PrintLast Go.Proofs.YtlfbdcobpfainaaW.PrintMore
theorem R_empty {α : Type} (d : Kd α) (e : Nat) (w : World) (base : Nat) (hb : base ≤ w.heap.size) (ok : Nat → Prop) (hok : ok w.heap.size) : d.R e (w.alloc (.cells #[] e)) base ok (.slice (some ⟨w.heap.size, 0, none⟩) 0 0) [] := by
  refine ⟨fun k hk => ?_, [], ?_, Reps.none _ _⟩
  · simp [Value.ownBlock] at hk; subst hk; exact hok
  · refine ⟨by simp, .inr ⟨w.heap.size, 0, #[], rfl, hb, heap_alloc_new w _, Nat.le_refl _, by simp [maxLen], by simp, by simp⟩⟩
theorem R_row {α : Type} {d : Kd α} {e : Nat} {w : World} {base : Nat} {ok : Nat → Prop} {v : Value} {xs : List α} (h : d.R e w base ok v xs) :
    (v = .slice none 0 0 ∧ xs = []) ∨ ∃ g cap, ∃ cur : List Value, v = .slice (some ⟨g, 0, none⟩) xs.length cap ∧ base ≤ g ∧ g < w.heap.size ∧ w.heap[g]? = some (.cells cur.toArray e (0, 0)) ∧ xs.length ≤ cap ∧ cap ≤ maxLen ∧ cur.length = cap * d.sz ∧ ok g ∧
      Reps (d.M w base (fun k => ok k ∧ k ≠ g)) d.sz xs (cur.take (xs.length * d.sz)) := by
  obtain ⟨hok, inner, hown, hr⟩ := h
  rcases hown.2 with ⟨rfl, h0⟩ | ⟨g, cap, cur, rfl, hb, hh, hnc, hcm, hcs, htake⟩
  · exact .inl ⟨rfl, List.eq_nil_of_length_eq_zero h0⟩
  · refine .inr ⟨g, cap, cur.toList, rfl, hb, blk_lt hh, by simpa using hh, hnc, hcm, by simpa using hcs, hok g rfl, ?_⟩
    rw [htake]
    refine hr.imp_ (fun p c hp => d.M_mono (fun k hk => ⟨hk.1, fun e => hk.2 ?_⟩) hp)
    rw [e]; rfl
theorem row_R {α : Type} {d : Kd α} {e : Nat} {w : World} {base : Nat} {ok : Nat → Prop} {xs : List α} {g cap : Nat} {cur : List Value} (hb : base ≤ g) (hh : w.heap[g]? = some (.cells cur.toArray e (0, 0))) (hnc : xs.length ≤ cap) (hcm : cap ≤ maxLen)
    (hcs : cur.length = cap * d.sz) (hok : ok g) (hr : Reps (d.M w base (fun k => ok k ∧ k ≠ g)) d.sz xs (cur.take (xs.length * d.sz))) : d.R e w base ok (.slice (some ⟨g, 0, none⟩) xs.length cap) xs := by
  refine ⟨fun k hk => ?_, cur.take (xs.length * d.sz), ⟨hr.1, .inr ⟨g, cap, cur.toArray, rfl, hb, by simpa using hh, hnc, hcm, by simpa using hcs, by simp⟩⟩, ?_⟩
  · have : g = k := by simpa [Value.ownBlock] using hk
    exact this ▸ hok
  · refine hr.imp_ (fun p c hp => d.M_mono (fun k hk => ⟨hk.1, fun e => hk.2 ?_⟩) hp)
    have : k = g := by simpa [Value.ownBlock] using e
    exact this
theorem reps_take {α : Type} {R : α → List Value → Prop} {size : Nat} {ps : List α} {cs : List Value} (h : Reps R size ps cs) (n : Nat) (hn : n ≤ ps.length) : Reps R size (ps.take n) (cs.take (n * size)) := by
  refine ⟨by rw [List.length_take, List.length_take, h.1, Nat.min_eq_left hn, Nat.min_eq_left (Nat.mul_le_mul_right _ hn)], fun j p hj => ?_⟩
  have hjn : j < n := by have := (List.getElem?_eq_some_iff.1 hj).1; rw [List.length_take] at this; omega
  rw [List.getElem?_take, if_pos hjn] at hj
  have := h.2 j p hj
  have h1 : j * size + size ≤ n * size := by rw [← Nat.succ_mul]; exact Nat.mul_le_mul_right _ hjn
  rw [List.drop_take, List.take_take, Nat.min_eq_left (by omega)]
  exact this
theorem reps_drop {α : Type} {R : α → List Value → Prop} {size : Nat} {ps : List α} {cs : List Value} (h : Reps R size ps cs) (n : Nat) : Reps R size (ps.drop n) (cs.drop (n * size)) := by
  refine ⟨by rw [List.length_drop, List.length_drop, h.1, Nat.sub_mul], fun j p hj => ?_⟩
  rw [List.getElem?_drop] at hj
  have := h.2 (n + j) p hj
  rw [List.drop_drop, ← Nat.add_mul]
  exact this
theorem grown_trans {w w1 w2 : World} {row row1 : Option Nat} (h : w.grownBy w1 row) (k : w1.grownBy w2 row1) (hr : ∀ b, row1 = some b → row = some b ∨ w.heap.size ≤ b) : w.grownBy w2 row :=
  ⟨k.os.trans h.os, k.tape.trans h.tape, k.output.trans h.output, Nat.le_trans h.size k.size, fun b hb hn => (k.block b (Nat.lt_of_lt_of_le hb h.size) (fun e => by
    rcases hr b e.symm with h1 | h1
    · exact hn h1.symm
    · omega)).trans (h.block b hb hn)⟩
theorem grown_none {w w1 : World} (h : w.grownBy w1 none) (row : Option Nat) : w.grownBy w1 row := ⟨h.os, h.tape, h.output, h.size, fun k hk _ => h.block k hk (by simp)⟩
theorem run_overlaps_rows {P : Program} (w : World) (tS tR e : TypeId) (ht : P.underlying tS = some (.slice e)) (i : TypeInfo) (hi : P.info? e = some i) (ga gb oa ob : Nat) (la ca lb cb : Nat) (hne : ga ≠ gb) (ca' cb' : List Value) (ta tb : TypeId)
    (ha : w.heap[ga]? = some (.cells ca'.toArray ta (0, 0))) (hb : w.heap[gb]? = some (.cells cb'.toArray tb (0, 0))) (hkB : cb'.length ≠ 0) :
    (Extern.SlicesOverlaps.overlaps #[tS, tS] #[tR] #[.slice (some ⟨ga, oa, none⟩) la ca, .slice (some ⟨gb, ob, none⟩) lb cb]).run P w = .ok (.bool false) w :=
  Lib.run_overlaps_apart w tS tR e ht i.size (fun w => by simp [sizeOf, typeInfo, hi]) ⟨ga, oa, none⟩ ⟨gb, ob, none⟩ la ca lb cb hne ta tb ca'.toArray.size cb'.toArray.size (by simp [World.shape?, ha]) (by simp [World.shape?, hb]) (by simpa using hkB) (blk_frozen ha _) (blk_frozen ha _)
theorem one_cell {α : Type} {x p : α} {j g sz : Nat} {e : TypeId} {w : World} {xc rest : List Value} (hj : [x][j]? = some p) (h : w.heap[g]? = some (.cells (xc ++ rest).toArray e (0, 0))) (hl : xc.length = sz) :
    ∃ c : List Value, c.length = sz ∧ (p = x ∧ c = xc) ∧ ∀ i u, c[i]? = some u → w.cell? ((⟨g, 0, none⟩ : Addr).add (j * sz + i)) = some u := by
  match j, hj with
  | 0, hj =>
    have : x = p := by simpa using hj
    refine ⟨xc, hl, ⟨this.symm, rfl⟩, fun i u hu => ?_⟩
    have hi := (List.getElem?_eq_some_iff.1 hu).1
    have hadd : (⟨g, 0, none⟩ : Addr).add (0 * sz + i) = ⟨g, i, none⟩ := by unfold Addr.add; split <;> simp_all
    rw [hadd, blk_cell h]
    rw [List.getElem?_toArray, List.getElem?_append_left hi]
    exact hu
theorem add_zero_off (g m : Nat) : (⟨g, 0, none⟩ : Addr).add m = ⟨g, m, none⟩ := by unfold Addr.add; split <;> simp_all
theorem take_cells {w : World} {g : Nat} {e : TypeId} {cur : List Value} (h : w.heap[g]? = some (.cells cur.toArray e (0, 0))) (m : Nat) : ∀ j v, (cur.take m)[j]? = some v → w.cell? ((⟨g, 0, none⟩ : Addr).add j) = some v := by
  intro j v hj
  rw [add_zero_off, blk_cell h, List.getElem?_toArray]
  rw [List.getElem?_take] at hj
  split at hj
  · exact hj
  · cases hj
theorem drop_cells {w : World} {g : Nat} {e : TypeId} {cur : List Value} (h : w.heap[g]? = some (.cells cur.toArray e (0, 0))) (m o : Nat) : ∀ j v, ((cur.take m).drop o)[j]? = some v → w.cell? ((⟨g, o, none⟩ : Addr).add j) = some v := by
  intro j v hj
  have hadd : (⟨g, o, none⟩ : Addr).add j = ⟨g, o + j, none⟩ := by unfold Addr.add; split <;> simp_all
  rw [hadd, blk_cell h, List.getElem?_toArray]
  rw [List.getElem?_drop, List.getElem?_take] at hj
  split at hj
  · exact hj
  · cases hj
theorem splice_length {L cs : List Value} {off : Nat} (h : off + cs.length ≤ L.length) : (splice L off cs).length = L.length := length_splice L off cs h
theorem splice_two {L xs ys : List Value} {o1 o2 : Nat} (h2 : o2 = o1 + xs.length) (hl : o2 + ys.length ≤ L.length) : (splice (splice L o1 xs) o2 ys).take (o2 + ys.length) = L.take o1 ++ xs ++ ys := by
  have hlen : (splice L o1 xs).length = L.length := length_splice L o1 xs (by omega)
  have e1 : (splice L o1 xs).take o2 = L.take o1 ++ xs := by
    subst h2
    unfold splice
    rw [← List.append_assoc, List.take_append_of_le_length (by simp; omega), List.take_of_length_le (by simp; omega)]
  have e2 : (splice (splice L o1 xs) o2 ys) = (L.take o1 ++ xs) ++ (ys ++ (splice L o1 xs).drop (o2 + ys.length)) := by
    conv => lhs; unfold splice
    rw [show ((L.take o1 ++ (xs ++ L.drop (o1 + xs.length))).take o2) = L.take o1 ++ xs from e1]
    rfl
  rw [e2, ← List.append_assoc, List.take_append_of_le_length (by simp; omega), List.take_of_length_le (by simp; omega)]
theorem splice_two' {L xs ys : List Value} {o1 o2 : Nat} (h2 : o2 = o1 + xs.length) (hl : o2 + ys.length ≤ L.length) : (splice (splice L o2 ys) o1 xs).take (o2 + ys.length) = L.take o1 ++ xs ++ ys := by
  have hlen : (splice L o2 ys).length = L.length := length_splice L o2 ys hl
  have e0 : (splice L o2 ys).take o1 = L.take o1 := by
    unfold splice
    rw [List.take_append_of_le_length (by simp; omega), List.take_take, Nat.min_eq_left (by omega)]
  have e1 : (splice L o2 ys).drop (o1 + xs.length) = ys ++ L.drop (o2 + ys.length) := by
    subst h2
    unfold splice
    rw [List.drop_append, List.drop_of_length_le (by simp; omega)]
    simp
    rw [Nat.min_eq_left (by omega)]
    simp
  conv => lhs; unfold splice
  rw [show (L.take o2 ++ (ys ++ L.drop (o2 + ys.length))).take o1 = L.take o1 from e0, show (L.take o2 ++ (ys ++ L.drop (o2 + ys.length))).drop (o1 + xs.length) = ys ++ L.drop (o2 + ys.length) from e1, ← List.append_assoc, ← List.append_assoc,
    List.take_append_of_le_length (by simp; omega), List.take_of_length_le (by simp; omega)]
theorem head_cells {w : World} {g : Nat} {e : TypeId} {xc rest : List Value} (h : w.heap[g]? = some (.cells (xc ++ rest).toArray e (0, 0))) : ∀ j v, xc[j]? = some v → w.cell? ((⟨g, 0, none⟩ : Addr).add j) = some v := by
  intro j v hj
  have hi := (List.getElem?_eq_some_iff.1 hj).1
  rw [add_zero_off, blk_cell h, List.getElem?_toArray, List.getElem?_append_left hi]
  exact hj
theorem grown_heap {w w1 : World} {row : Option Nat} {g : Nat} {o : Obj} (h : w.grownBy w1 row) (hg : w.heap[g]? = some o) (hne : some g ≠ row) : w1.heap[g]? = some o := (h.block g (blk_lt hg) hne).trans hg
theorem drew_grown {w w1 : World} {row : Option Nat} (h : w.drew.grownBy w1 row) : w.grownBy w1 row := ⟨h.os, h.tape, h.output, h.size, h.block⟩
theorem cut_grow {P : Program} (t e : TypeId) (kh : IntKind) {i : TypeInfo} (ht : P.underlying t = some (.slice e)) (hi : P.info? e = some i) (A : Option Addr) (n c : Nat) (j : Int) (h0 : 0 ≤ j) (hm : j ≤ c) :
    ∀ W : World, (Instr.slice t (.slice A n c) none (some (.int kh j)) none).run P W = .ok (.slice A j.toNat c) W := by
  intro W
  have hel : P.elem t = e := by simp [Program.elem, ht]
  have hu : P.underlying t = some (.slice (P.elem t)) := by rw [hel]; exact ht
  have ha : (A.map fun x => x.add 0) = A := by cases A <;> simp [Addr.add]
  rw [run_slice_h W t A n c hu kh j h0 (by omega), hel]
  simp [sizeOf, typeInfo, hi, sliced, Result.andThen, ha]
theorem reps_insert {α : Type} {d : Kd α} {w w' : World} {base g b : Nat} {ok okx : Nat → Prop} {xs : List α} {cs xc : List Value} {x : α} {row : Option Nat} (h : Reps (d.M w base (fun k => ok k ∧ k ≠ g)) d.sz xs cs) (hx : d.M w base okx x xc) (hg : w.grownBy w' row)
    (h1 : ∀ k, k < w.heap.size → ok k → k ≠ g → some k ≠ row ∧ k ≠ b) (h2 : ∀ k, k < w.heap.size → okx k → some k ≠ row ∧ ok k ∧ k ≠ b) (i : Nat) (hi : i ≤ xs.length) :
    Reps (d.M w' base (fun k => ok k ∧ k ≠ b)) d.sz (xs.take i ++ x :: xs.drop i) (cs.take (i * d.sz) ++ xc ++ cs.drop (i * d.sz)) := by
  have move : ∀ {o : Nat → Prop} {y : α} {c : List Value}, d.M w base o y c → (∀ k, k < w.heap.size → o k → some k ≠ row ∧ ok k ∧ k ≠ b) → d.M w' base (fun k => ok k ∧ k ≠ b) y c := by
    intro o y c hy ho
    have h3 := d.M_bound hy
    have h4 := Kd.M_grown h3 hg (fun k hk => (ho k hk.2.2.1 hk.1).1)
    exact d.M_mono (fun k hk => (ho k hk.2.2.1 hk.1).2) h4
  have hm : Reps (d.M w' base (fun k => ok k ∧ k ≠ b)) d.sz xs cs := h.imp_ (fun _ _ hy => move hy (fun k hlt hk => ⟨(h1 k hlt hk.1 hk.2).1, hk.1, (h1 k hlt hk.1 hk.2).2⟩))
  have hx' : Reps (d.M w' base (fun k => ok k ∧ k ≠ b)) d.sz [x] xc := by
    have hl := d.K_len (d.K_of_M hx)
    refine ⟨by simpa using hl, fun j p hj => ?_⟩
    match j, hj with
    | 0, hj =>
      have : x = p := by simpa using hj
      subst this
      rw [Nat.zero_mul, List.drop_zero, ← hl, List.take_length]
      exact move hx (fun k hlt hk => h2 k hlt hk)
  have := Kd.reps_append (Kd.reps_append (reps_take hm i hi) hx') (reps_drop hm i)
  simpa [List.append_assoc] using this
section
variable {P : Program}
theorem run_copy_sz (w : World) (dT sT ty elem : TypeId) (sz : Nat) (hu : P.underlying dT = some (.slice elem)) (hsz : (P.info? elem).map (·.size) = some sz) (hs0 : 0 < sz) (dp sp : Option Addr) (dLen dCap sLen sCap : Nat)
    (g off : Nat) (cur : List Value) (t : TypeId) (hg : w.heap[g]? = some (.cells cur.toArray t (0, 0))) (cs : List Value) (hn : cs.length = min sLen dLen * sz)
    (hpos : 0 < cs.length → dp = some ⟨g, off, none⟩ ∧ ∃ ad, sp = some ad ∧ ∀ j v, cs[j]? = some v → w.cell? (ad.add j) = some v) (hfit : off + cs.length ≤ cur.length) (h1 : ∀ v ∈ cs, v.oneCell' = true) :
    ∃ w1, (Builtin.copy_ #[dT, sT] ty #[.slice dp dLen dCap, .slice sp sLen sCap]).run P w = .ok (goInt (min sLen dLen : Nat)) w1 ∧ w1.heap[g]? = some (.cells (splice cur off cs).toArray t (0, 0)) ∧ w.grownBy w1 (some g) := by
  obtain ⟨i, hi, hi2⟩ := Option.map_eq_some_iff.1 hsz
  have hmin : Nat.min sLen dLen = min sLen dLen := rfl
  by_cases h0 : min sLen dLen = 0
  · have hc0 : cs = [] := List.eq_nil_of_length_eq_zero (by rw [hn, h0, Nat.zero_mul])
    subst hc0
    refine ⟨w, ?_, by simpa [splice] using hg, World.grownBy.refl w _⟩
    have hf : (Builtin.firstCells sz 0 (.slice sp sLen sCap)).run P w = .ok #[] w := by
      cases sp with
      | none => simp [Builtin.firstCells]
      | some ad => exact run_firstCells_some (P := P) w sz 0 ad sLen sCap [] (by simp) (by simp)
    cases dp <;> simp [Builtin.copy_, run_underlying hu, Builtin.lenOf, sizeOf, typeInfo, hi, hi2, hmin, h0, hf, storeCells, goInt]
  · have hcp : 0 < cs.length := by rw [hn]; exact Nat.mul_pos (Nat.pos_of_ne_zero h0) hs0
    obtain ⟨rfl, ad, rfl, hsrc⟩ := hpos hcp
    have hf := run_firstCells_some (P := P) w sz (min sLen dLen) ad sLen sCap cs hn hsrc
    have hst := run_storeCells_cells (P := P) g off cs 0 w (fun j hj => by rw [cell_of_row w g _ cur.toArray t (0, 0) hg]; simp; omega) (fun j _ => blk_frozen hg _) h1
    simp only [Nat.add_zero] at hst
    obtain ⟨cur', h3, h4, h5⟩ := setCells_row cs off w cur.toArray hg (by simpa using hfit)
    obtain ⟨s1, s2, s3, s4⟩ := setCells_same g cs off w
    refine ⟨w.setCells g off cs, ?_, ?_, ⟨s1, s2, s3, by rw [s4]; exact Nat.le_refl _, fun k _ hk => setCells_far cs off k (fun e => hk (by rw [e]))⟩⟩
    · simp [Builtin.copy_, run_underlying hu, Builtin.lenOf, sizeOf, typeInfo, hi, hi2, hmin, hf, hst, goInt]
    · rw [h3]
      congr 2
      apply Array.ext'
      rw [h5]
      simp [splice]
theorem run_append_zeros_new (w : World) (t ti ty e : TypeId) (i : TypeInfo) (z : Value) (size bytes : Nat) (ht : P.underlying t = some (.slice e)) {k : IntKind} (hti : P.underlying ti = some (.int k)) (hi : P.info? e = some i) (hz : i.zero = some z)
    (hsize : i.size = size) (hby : i.bytes = bytes) (hzs : z.cells.size = size) (hsz : 0 < size) (hb0 : 0 < bytes)
    (A : Option Addr) (n cap : Nat) (xs : List Value) (hxl : xs.length = n * size) (hx : 0 < n → ∃ ad, A = some ad ∧ ∀ j v, xs[j]? = some v → w.cell? (ad.add j) = some v) (kx : IntKind) (m : Nat) (hm0 : 0 < m) (hcap : cap < n + m)
    (hbytes : (n + m) * bytes ≤ 140737488355328) :
    ∃ c, ∃ cur : List Value, (Builtin.append_ #[t, ti] ty #[.slice A n cap, .int kx m]).run P w = .ok (.slice (some ⟨w.heap.size, 0, none⟩) (n + m) c) (w.drew.alloc (.cells cur.toArray e)) ∧ n + m ≤ c ∧ c ≤ maxLen ∧ cur.length = c * size ∧ cur.take (n * size) = xs := by
  subst hsize
  subst hby
  have hle : n + m ≤ 140737488355328 := Nat.le_trans (Nat.le_mul_of_pos_right _ hb0) hbytes
  have h63 : n + m ≤ maxLen := by simp only [maxLen]; omega
  have hw : IntKind.i64.wrap (m : Int) = m := by rw [IntKind.wrap_i64]; omega
  have hneg : ¬ ((m : Int) < 0) := by omega
  have hmb : m * i.bytes ≤ 140737488355328 := Nat.le_trans (Nat.mul_le_mul_right _ (Nat.le_add_left m n)) hbytes
  have hbig : ¬ (281474976710656 < (m : Int) * (i.bytes : Int)) := by
    rw [← Int.natCast_mul]
    omega
  have hsn : i.size ≠ 0 := by omega
  have hn : ¬ (n + m ≤ cap) := by omega
  have h63' : ¬ (9223372036854775807 < ((n : Int) + (m : Int))) := by omega
  have hfit := growslice_fits hcap hbytes
  have h48' : ¬ (281474976710656 < Builtin.nextslicecap (n + m) cap * i.bytes) := by omega
  have hmz : ¬ (m * i.size = 0) := Nat.mul_ne_zero (by omega) hsn
  have hfo : (Builtin.firstCells i.size n (.slice A n cap)).run P w.drew = .ok xs.toArray w.drew := by
    by_cases h0 : n = 0
    · subst h0
      have hc0 : xs = [] := List.eq_nil_of_length_eq_zero (by rw [hxl, Nat.zero_mul])
      subst hc0
      cases A with
      | none => simp [Builtin.firstCells]
      | some ad => exact run_firstCells_some (P := P) w.drew i.size 0 ad 0 cap [] (by simp) (by simp)
    · obtain ⟨ad, rfl, hsrc⟩ := hx (by omega)
      exact run_firstCells_some (P := P) w.drew i.size n ad n cap xs hxl (by simpa using hsrc)
  have hge := grownCap_ge w (n + m) cap e
  have hcm : grownCap w (n + m) cap e ≤ maxLen := grownCap_le_maxLen w (n + m) cap e h63
  refine ⟨grownCap w (n + m) cap e, xs ++ (Builtin.zeroCells z.cells m).toList ++ (Builtin.zeroCells z.cells (grownCap w (n + m) cap e - (n + m))).toList, ?_, hge, hcm, ?_, ?_⟩
  · simp [Builtin.append_, run_underlying ht, run_underlying hti, sizeOf, typeInfo, zeroValue, hi, hz, asInt, asIntOf, hw, hneg, hbig, hn, h63', h48', Question.forced, hfo, newRow, grownCap, hmz]
    congr 2
    apply Array.ext'
    simp [List.append_assoc]
  · simp only [List.length_append, Array.length_toList, size_zeroCells, hzs, hxl, ← Nat.add_mul]
    congr 1
    omega
  · rw [List.append_assoc, ← hxl]
    exact List.take_left
end
section
variable {P : Program} {w : World} {ops : Array Oper} {rest : List Oper} {o : Oper} {a : Act} {Q : Exit → Act → World → Prop} {K : Act → World → Prop} {E : Prop}
theorem wpList_copy_sz (hgd : o.guard = none) (d s : Operand) (dT sT : TypeId) (ho : o.op = .call { callee := .builtin .copy, args := #[d, s], argTypes := #[dT, sT] }) (elem : TypeId) (sz : Nat) (hu : P.underlying dT = some (.slice elem)) (hsz : (P.info? elem).map (·.size) = some sz) (hs0 : 0 < sz)
    (dp sp : Option Addr) (dLen dCap sLen sCap : Nat) (hd : a.eval d = .slice dp dLen dCap) (hs : a.eval s = .slice sp sLen sCap) (g off : Nat) (cur : List Value) (t : TypeId) (hg : w.heap[g]? = some (.cells cur.toArray t (0, 0))) (cs : List Value) (hn : cs.length = min sLen dLen * sz)
    (hpos : 0 < cs.length → dp = some ⟨g, off, none⟩ ∧ ∃ ad, sp = some ad ∧ ∀ j v, cs[j]? = some v → w.cell? (ad.add j) = some v) (hfit : off + cs.length ≤ cur.length) (h1 : ∀ v ∈ cs, v.oneCell' = true)
    (h : ∀ w', w'.heap[g]? = some (.cells (splice cur off cs).toArray t (0, 0)) → w.grownBy w' (some g) → wpList P ops Q rest (a.put o.dst (goInt (min sLen dLen : Nat))) w') : wpList P ops Q (o :: rest) a w := by
  obtain ⟨w1, hr, h2, h3⟩ := run_copy_sz (P := P) w dT sT o.type elem sz hu hsz hs0 dp sp dLen dCap sLen sCap g off cur t hg cs hn hpos hfit h1
  refine wpList_plain hgd fun K hK => ?_
  unfold Oper.wp
  simp [execOp, ho, resolve, invoke, builtin, hd, hs, hr, Result.andThen]
  exact hK _ _ (h w1 h2 h3)
theorem wpList_append_zeros_new (hgd : o.guard = none) (s x : Operand) (t ti e : TypeId) (ho : o.op = .call { callee := .builtin .append, args := #[s, x], argTypes := #[t, ti] }) (z : Value) (size bytes : Nat) (ht : P.underlying t = some (.slice e)) {k : IntKind} (hti : P.underlying ti = some (.int k))
    (hinfo : (P.info? e).map (fun i => (i.zero, i.size, i.bytes)) = some (some z, size, bytes)) (hzs : z.cells.size = size) (hsz : 0 < size) (hb0 : 0 < bytes) (A : Option Addr) (n cap : Nat) (hs : a.eval s = .slice A n cap) (kx : IntKind) (m : Nat) (hx : a.eval x = .int kx m)
    (xs : List Value) (hxl : xs.length = n * size) (hxs : 0 < n → ∃ ad, A = some ad ∧ ∀ j v, xs[j]? = some v → w.cell? (ad.add j) = some v) (hm0 : 0 < m) (hcap : cap < n + m) (hbytes : (n + m) * bytes ≤ 140737488355328) (N : Nat) (hN : N = n + m)
    (h : ∀ c, ∀ cur : List Value, ∀ w', w'.heap[w.heap.size]? = some (.cells cur.toArray e (0, 0)) → w.grownBy w' none → N ≤ c → c ≤ maxLen → cur.length = c * size → cur.take (n * size) = xs → wpList P ops Q rest (a.put o.dst (.slice (some ⟨w.heap.size, 0, none⟩) N c)) w') : wpList P ops Q (o :: rest) a w := by
  subst hN
  obtain ⟨i0, hi, hzz⟩ := Option.map_eq_some_iff.1 hinfo
  simp only [Prod.mk.injEq] at hzz
  obtain ⟨hz0, hz1, hz2⟩ := hzz
  obtain ⟨c, cur, hr, h1, h2, h3, h4⟩ := run_append_zeros_new (P := P) w t ti o.type e i0 z size bytes ht hti hi hz0 hz1 hz2 hzs hsz hb0 A n cap xs hxl hxs kx m hm0 hcap hbytes
  refine wpList_plain hgd fun K hK => ?_
  unfold Oper.wp
  simp [execOp, ho, resolve, invoke, builtin, hs, hx, hr, Result.andThen]
  exact hK _ _ (h c cur _ (heap_alloc_new w.drew _) ⟨rfl, rfl, rfl, by simp, fun k hk _ => heap_alloc_old w.drew _ hk⟩ h1 h2 h3 h4)
end
theorem new_cell (w : World) (cs : Array Value) (e : TypeId) (i : Nat) (v : Value) (h : cs[i]? = some v) (g : Nat) (hg : g = w.heap.size) : (w.alloc (.cells cs e)).cell? ⟨g, i, none⟩ = some v := by
  subst hg
  rw [blk_cell (heap_alloc_new w (.cells cs e)) i]
  exact h
theorem old_cell {w : World} {a : Addr} {v : Value} (h : w.cell? a = some v) (o : Obj) : (w.alloc o).cell? a = some v := Lib.cell?_alloc_some o h
def idx {α : Type} (p : α → Bool) (l : List α) : Int := if l.any p then (l.findIdx p : Nat) else -1
theorem idx_hit {α : Type} {p : α → Bool} {l : List α} {k : Nat} (hk : k < l.length) (hp : p l[k] = true) (hn : ∀ j (hj : j < k), p (l[j]'(by omega)) = false) : idx p l = k := by
  unfold idx
  have h1 : l.any p = true := List.any_eq_true.2 ⟨_, List.getElem_mem hk, hp⟩
  rw [if_pos h1]
  have h2 : l.findIdx p = k := by
    rw [List.findIdx_eq hk]
    exact ⟨hp, fun j hj => by have := hn j hj; simpa using this⟩
  rw [h2]
theorem idx_miss {α : Type} {p : α → Bool} {l : List α} (hn : ∀ j (hj : j < l.length), p l[j] = false) : idx p l = -1 := by
  unfold idx
  rw [if_neg]
  intro h
  obtain ⟨x, hx, hp⟩ := List.any_eq_true.1 h
  obtain ⟨j, hj, rfl⟩ := List.getElem_of_mem hx
  rw [hn j hj] at hp
  cases hp
theorem idx_neg {α : Type} {p : α → Bool} {l : List α} : decide (idx p l < 0) = !l.any p := by
  unfold idx
  split
  · rename_i h; rw [h]; simp
  · rename_i h
    have h2 : l.any p = false := by simpa using h
    rw [h2]; rfl
theorem idx_nonneg' {α : Type} {p : α → Bool} {l : List α} : decide (0 ≤ idx p l) = l.any p := by
  unfold idx
  split
  · rename_i h; rw [h]; simp
  · rename_i h
    have h2 : l.any p = false := by simpa using h
    rw [h2]; rfl
def KeysOwn (P : Program) (k e : TypeId) (w : World) (b n : Nat) (ks : List (List UInt8)) : Prop :=
  ∃ D : DataW Unit, w.ownsMap P k (plainElem P e) b n D ∧ ∀ s : List UInt8, D.atKey (.string s) (.lit (.bool false)) = .lit (.bool (ks.any (· == s)))
theorem KeysOwn.made (P : Program) (k e : TypeId) (w : World) : KeysOwn P k e (w.alloc (.map #[] 0)) w.heap.size 0 [] := ⟨.map [], World.ownsMap_made w P k _, fun s => rfl⟩
theorem KeysOwn.below {P : Program} {k e : TypeId} {w w' : World} {b n B : Nat} {ks : List (List UInt8)} (h : KeysOwn P k e w b n ks) (hb : Below B w w') (hB : b < B) : KeysOwn P k e w' b n ks := by
  obtain ⟨D, ⟨es, clock, hh, r⟩, hD⟩ := h
  exact ⟨D, ⟨es, clock, (hb.block b hB).trans hh, r⟩, hD⟩
theorem KeysOwn.lt {P : Program} {k e : TypeId} {w : World} {b n : Nat} {ks : List (List UInt8)} (h : KeysOwn P k e w b n ks) : b < w.heap.size := h.choose_spec.1.lt
theorem plainElem_bool_inv {P : Program} {e : TypeId} (he : P.underlying e = some .bool) {v : Value} {z : DataW Unit × List MemPlace} (h : plainElem P e v = some z) : ∃ x, v = .bool x ∧ z = (.lit (.bool x), []) := by
  unfold plainElem at h
  rw [he] at h
  cases v <;> simp at h
  subst h
  exact ⟨_, rfl, rfl⟩
theorem KeysOwn.look {P : Program} {k e t : TypeId} {w : World} {b n : Nat} {ks : List (List UInt8)} (h : KeysOwn P k e w b n ks) (hk : P.underlying k = some .string) (he : P.underlying e = some .bool) (ht : P.underlying t = some (.map k e)) (hz : (zeroValue e).run P w = .ok (.bool false) w)
    {s : ByteArray} (hs : s.size ≤ maxLen) : (Instr.lookup t (.map (some b)) (.string s) false).run P w = .ok (.bool (ks.any (· == s.data.toList))) w := by
  obtain ⟨D, hown, hD⟩ := h
  obtain ⟨v, ps, hrun, hv⟩ := hown.lookup (Maps.string_keyed hk) ht hz (plainElem_bool he false) (Go.WideMaps.keyOf_string_mk hk hs)
  obtain ⟨x, rfl, hx⟩ := plainElem_bool_inv he hv
  rw [hD] at hx
  simp only [Prod.mk.injEq, DataW.lit.injEq, Lit.bool.injEq] at hx
  rw [hrun, hx.1]
theorem wpList_look_keys {P : Program} (w : World) {ops : Array Oper} {rest : List Oper} {o : Oper} {a : Act} {Q : Exit → Act → World → Prop}
    (hg : o.guard = none) (m x : Operand) (t : TypeId) (hop : o.op = Op.lookup t m x false) (k e : TypeId) (hk : P.underlying k = some .string) (he : P.underlying e = some .bool) (ht : P.underlying t = some (.map k e)) (hz : (zeroValue e).run P w = .ok (.bool false) w)
    (b n : Nat) (ks : List (List UInt8)) (hm : a.eval m = .map (some b)) (hown : KeysOwn P k e w b n ks) (s : ByteArray) (hs : s.size ≤ maxLen) (hx : a.eval x = .string s)
    (hK : wpList P ops Q rest (a.put o.dst (.bool (ks.any (· == s.data.toList)))) w) : wpList P ops Q (o :: rest) a w := by
  refine wpList_plain hg fun K' hK' => ?_
  have hrun := hown.look hk he ht hz hs
  unfold Oper.wp
  simp [execOp, hop, hm, hx, hrun, Result.andThen]
  exact hK' _ _ hK
theorem wpList_put_keys {P : Program} (w : World) {ops : Array Oper} {rest : List Oper} {o : Oper} {a : Act} {Q : Exit → Act → World → Prop}
    (hg : o.guard = none) (m x v : Operand) (t : TypeId) (hop : o.op = Op.mapUpdate t m x v) (k e : TypeId) (hk : P.underlying k = some .string) (he : P.underlying e = some .bool) (ht : P.underlying t = some (.map k e))
    (b n : Nat) (ks : List (List UInt8)) (hm : a.eval m = .map (some b)) (hown : KeysOwn P k e w b n ks) (hn : n < maxLen) (s : ByteArray) (hs : s.size ≤ maxLen) (hx : a.eval x = .string s) (hv : a.eval v = .bool true) (hdst : o.dst = none)
    (hK : ∀ w', KeysOwn P k e w' b (n + 1) (ks ++ [s.data.toList]) → w.grownBy w' (some b) → wpList P ops Q rest a w') : wpList P ops Q (o :: rest) a w := by
  obtain ⟨D, ho, hD⟩ := hown
  refine wpList_mapUpdate_own w hg m x v t hop k e (Maps.string_keyed hk) ht _ b n D hm ho hn _ _ _ hx hv (Go.WideMaps.keyOf_string_mk hk hs) _ _ (plainElem_bool he true) ?_
  intro w' h1 h2
  rw [hdst]
  refine hK w' ⟨_, h1, fun s' => ?_⟩ h2
  by_cases hs' : s' = s.data.toList
  · subst hs'
    rw [Maps.atKey_put_same ho.isMap ((Maps.string_keyed hk).key (Go.WideMaps.keyOf_string_mk hk hs))]
    simp
  · rw [Maps.atKey_put_other (by simpa using hs'), hD]
    have : (s.data.toList == s') = false := by rw [beq_eq_false_iff_ne]; exact fun e => hs' e.symm
    simp [this]
theorem S_of_tagged {α : Type} {d : Kd α} {e : Nat} {w : World} {base : Nat} {ok : Nat → Prop} {v : Value} {f : Nat → Nat} {ys : List (α × Nat)} (h : (Kd.tag f d).R e w base ok v ys) (hnd : (ys.map (·.2)).Nodup) : Kd.S d e w base ok v (ys.map (·.1)) := by
  obtain ⟨h0, inner, ho, hr⟩ := h
  refine ⟨fun b => (ys.map (·.2)).idxOf (f b), h0, inner, by rw [List.length_zipIdx, List.length_map]; exact ho, by rw [List.length_zipIdx, List.length_map]; exact hr.1, fun j p hj => ?_⟩
  rw [List.getElem?_zipIdx, Nat.zero_add] at hj
  obtain ⟨x, hx, rfl⟩ := Option.map_eq_some_iff.1 hj
  rw [List.getElem?_map] at hx
  obtain ⟨y, hy, rfl⟩ := Option.map_eq_some_iff.1 hx
  refine d.M_mono (fun b hb => ⟨hb.1, ?_⟩) (hr.2 j y hy)
  have h2 : f b = y.2 := hb.2
  have hlt : j < ys.length := (List.getElem?_eq_some_iff.1 hy).1
  have he : ys[j] = y := (List.getElem?_eq_some_iff.1 hy).2
  show (ys.map (·.2)).idxOf (f b) = j
  have e3 : f b = (ys.map (·.2))[j]'(by simpa using hlt) := by rw [List.getElem_map, he, h2]
  rw [e3]
  exact hnd.idxOf_getElem j (by simpa using hlt)
theorem zip_insert_fst {α : Type} (l : List α) (x : α) (i : Nat) : ((l.zipIdx.take i ++ (x, l.length) :: l.zipIdx.drop i).map (·.1)) = l.take i ++ x :: l.drop i := by
  have e : (l.zipIdx.map (·.1)) = l := List.zipIdx_map_fst 0 l
  rw [List.map_append, List.map_cons, List.map_take, List.map_drop, e]
theorem zip_insert_nodup {α : Type} (l : List α) (x : α) (i : Nat) : ((l.zipIdx.take i ++ (x, l.length) :: l.zipIdx.drop i).map (·.2)).Nodup := by
  have e : (l.zipIdx.map (·.2)) = List.range l.length := by simp [List.range_eq_range']
  rw [List.map_append, List.map_cons, List.map_take, List.map_drop, e]
  have hp : ((List.range l.length).take i ++ l.length :: (List.range l.length).drop i).Perm (l.length :: List.range l.length) := by
    refine List.perm_middle.trans ?_
    rw [List.take_append_drop]
  exact hp.nodup_iff.2 (List.nodup_cons.2 ⟨by simp, List.nodup_range⟩)
end Go.Proofs.YtlfbdcobpfainaaH
