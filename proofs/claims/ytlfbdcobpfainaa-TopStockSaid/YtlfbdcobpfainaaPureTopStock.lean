/- The plain law TopStock. -/
import Derived.Test.YtlfbdcobpfainaaQ9
import Derived.Test.YtlfbdcobpfainaaPureMoved
namespace Go.Proofs.Ytlfbdcobpfainaa.Q
open Go.RowKit Go.Proofs.YtlfbdcobpfainaaW.PrintWords Go.Proofs.YtlfbdcobpfainaaW.PrintLast Go.Proofs.YtlfbdcobpfainaaW.PrintMore
abbrev Lot := S44
abbrev Move := S35
def sumL (s : List Lot) : Int := (s.map (·.f1)).sum
theorem takeL_sum : ∀ {s : List Lot} {n c : Int}, (takeL s n c).2.1 = true → (takeL s n c).1 + sumL (takeL s n c).2.2 = c + sumL s
  | [], n, c, h => by
    simp only [takeL] at h ⊢
    split at h <;> simp_all
  | l :: r, n, c, h => by
    simp only [takeL] at h ⊢
    by_cases h1 : n ≤ 0
    · simp [h1]
    · rw [if_neg h1] at h ⊢
      by_cases h2 : l.f0 ≤ n
      · rw [if_pos h2] at h ⊢
        rw [takeL_sum h]
        simp [sumL]; omega
      · rw [if_neg h2] at h ⊢
        simp [sumL]; omega
theorem takeL_nonneg : ∀ {s : List Lot} {n c : Int}, lotsOk s → 0 ≤ c → 0 ≤ (takeL s n c).1
  | [], n, c, _, hc => by simp only [takeL]; split <;> simp [hc]
  | l :: r, n, c, h, hc => by
    obtain ⟨h0, h1, h2, h3⟩ := h l (by simp)
    simp only [takeL]
    split
    · exact hc
    · split
      · exact takeL_nonneg (fun y hy => h y (by simp [hy])) (by omega)
      · rename_i hn _
        have h6 : 0 ≤ l.f1 * n := Int.mul_nonneg h2 (by omega)
        have h7 : 0 ≤ (l.f1 * n).tdiv l.f0 := Int.tdiv_nonneg h6 (by omega)
        show 0 ≤ c + (l.f1 * n).tdiv l.f0
        omega
theorem fifo_prefix : ∀ {l : List Move} {o : List Int} {s : List Lot} {outs : List Int} {lots : List Lot}, fifoLoop l o s = some (outs, lots) → o <+: outs
  | [], o, s, outs, lots, h => by
    simp only [fifoLoop, Option.some.injEq, Prod.mk.injEq] at h
    rw [h.1]; exact List.prefix_refl _
  | m :: r, o, s, outs, lots, h => by
    simp only [fifoLoop] at h
    split at h
    · exact fifo_prefix h
    · split at h
      · cases h
      · exact (List.prefix_append _ _).trans (fifo_prefix h)
theorem sum_nonneg : ∀ {o : List Int}, (∀ y ∈ o, 0 ≤ y) → 0 ≤ o.sum
  | [], _ => by simp
  | x :: r, h => by
    have h1 := h x (by simp)
    have h2 := sum_nonneg (o := r) (fun y hy => h y (by simp [hy]))
    rw [List.sum_cons]; omega
theorem lotsOk_sum : ∀ {s : List Lot}, lotsOk s → 0 ≤ sumL s
  | [], _ => by simp [sumL]
  | l :: r, h => by
    have h1 := h l (by simp)
    have h2 := lotsOk_sum (s := r) (fun y hy => h y (by simp [hy]))
    have e : sumL (l :: r) = l.f1 + sumL r := by simp [sumL]
    omega
theorem sumL_snoc (s : List Lot) (x : Lot) : sumL (s ++ [x]) = sumL s + x.f1 := by simp [sumL]
/-- What the books have moves by just the entry's lines; an entry of nothing is left out. -/
theorem stock_j1 {outs : List Int} {lots : List Lot} {l : List Move} {len x7 : Int} {es : List Ent} {i k : Nat} {amt : Int} {ta fr : ByteArray} (h : Bk es (· < i) i) (hi : i < 40) (ht : codeB ta = true) (hf : codeB fr = true) (hne : (ta.toList == fr.toList) = false) (h1 : 0 ≤ amt) (h2 : amt ≤ 1000000000000)
    (kt : (acc0.any fun a => a.f0.toList == ta.toList) = true) (kf : (acc0.any fun a => a.f0.toList == fr.toList) = true) :
    ∃ es', Bk es' (· < i + 1) (i + 1) ∧ (∀ c, ofR es' c 0 99 = ofR es c 0 99 + (lineAt c ⟨ta, amt⟩ + lineAt c ⟨fr, -amt⟩)) ∧
      taltop_TopStock.j1 (k + 1) outs lots x7 l len i acc0 es (-1) (mv i i amt ta fr).f0 (mv i i amt ta fr).f1 (mv i i amt ta fr).f2 = taltop_TopStock.l0 k outs lots x7 l len ((i + 1 : Nat) : Int) acc0 es' (-1) := by
  have hw : wrap64 ((i : Int) + 1) = ((i + 1 : Nat) : Int) := by rw [IntWalk.wrap64_in _ ⟨by omega, by omega⟩]; rfl
  rw [taltop_TopStock.j1]
  rw [if_pos (show (0 : Int) < ((mv i (i : Int) amt ta fr).f2.length : Int) from by show (0 : Int) < ((2 : Nat) : Int); decide), hw]
  have hrd : (rd_T41 (mv i i amt ta fr).f2 0).f1 = amt := rfl
  rw [hrd]
  by_cases h0 : amt = 0
  · rw [if_pos h0]
    refine ⟨es, ⟨h.ok, fun y hy => ?_, by have := h.len; omega⟩, fun c => ?_, rfl⟩
    · obtain ⟨m, hm, h3⟩ := h.used y hy
      exact ⟨m, Nat.lt_succ_of_lt hm, h3⟩
    · subst h0
      unfold lineAt
      split <;> split <;> simp
  · rw [if_neg h0]
    have hok := mv_ok (n := i) (d := i) (by omega) (by omega) (by omega) ht hf hne h0 (by omega) h2 kt kf
    obtain ⟨hp, hb⟩ := h.post (T := (· < i + 1)) (n := i) (by omega) (fun m hm => Nat.ne_of_lt hm) (by omega) hok rfl (fun m hm => Nat.lt_succ_of_lt hm) (Nat.lt_succ_self _)
    rw [hp]
    refine ⟨_, hb, fun c => ?_, ?_⟩
    · rw [ofR_insert, entAt_mv (by omega) (by omega)]
      omega
    · rfl
theorem stock_l1 {outs : List Int} {es : List Ent} (lots : List Lot) (hs : lotsOk lots) (hlen : lots.length ≤ 40) : ∀ (d k j : Nat) (acc : Int), j + d = lots.length → 0 ≤ acc → acc ≤ 1000000000000 * (j : Int) →
    taltop_TopStock.l1 (k + d) outs acc lots (lots.length : Int) j acc0 es (-1) = taltop_TopStock.l1 k outs (acc + sumL (lots.drop j)) lots (lots.length : Int) lots.length acc0 es (-1)
  | 0, k, j, acc, hj, _, _ => by
    obtain rfl : j = lots.length := by omega
    rw [List.drop_length]
    simp [sumL]
  | d + 1, k, j, acc, hj, ha, hb => by
    have hlt : j < lots.length := by omega
    have hrd : rd_T44 lots (j : Int) = lots[j] := by simp [rd_T44, List.getD_eq_getElem?_getD, hlt]
    have hx := hs lots[j] (List.getElem_mem hlt)
    have hw : wrap64 ((j : Int) + 1) = ((j + 1 : Nat) : Int) := by rw [IntWalk.wrap64_in _ ⟨by omega, by omega⟩]; rfl
    have e : sumL (lots.drop j) = lots[j].f1 + sumL (lots.drop (j + 1)) := by unfold sumL; rw [List.drop_eq_getElem_cons hlt, List.map_cons, List.sum_cons]
    rw [← Nat.add_assoc, taltop_TopStock.l1]
    rw [if_pos (by omega), if_pos (by omega), if_pos (by omega), hrd, hw, IntWalk.wrap64_in _ ⟨by omega, by omega⟩]
    rw [stock_l1 lots hs hlen d k (j + 1) (acc + lots[j].f1) (by omega) (by omega) (by push_cast; omega), e, Int.add_assoc]
theorem sum_l0 (o : List Int) (ho : ∀ y ∈ o, 0 ≤ y) (hs : o.sum ≤ 1000000000000000) (hlen : o.length ≤ 1000) : ∀ (d k j : Nat) (acc : Int), j + d = o.length → 0 ≤ acc → acc + (o.drop j).sum ≤ 1000000000000000 → taltop_sum.l0 (k + d + 1) acc o (o.length : Int) j = some (acc + (o.drop j).sum)
  | 0, k, j, acc, hj, _, _ => by
    obtain rfl : j = o.length := by omega
    rw [List.drop_length, taltop_sum.l0, if_neg (by omega)]
    simp
  | d + 1, k, j, acc, hj, ha, hb => by
    have hlt : j < o.length := by omega
    have hrd : rd o (j : Int) = o[j] := by simp [rd, List.getD_eq_getElem?_getD, hlt]
    have hx := ho o[j] (List.getElem_mem hlt)
    have hw : wrap64 ((j : Int) + 1) = ((j + 1 : Nat) : Int) := by rw [IntWalk.wrap64_in _ ⟨by omega, by omega⟩]; rfl
    have e : (o.drop j).sum = o[j] + (o.drop (j + 1)).sum := by rw [List.drop_eq_getElem_cons hlt, List.sum_cons]
    have hp : 0 ≤ (o.drop (j + 1)).sum := sum_nonneg (fun y hy => ho y (List.mem_of_mem_drop hy))
    rw [show k + (d + 1) + 1 = (k + d + 1) + 1 by omega, taltop_sum.l0]
    rw [if_pos (by omega), if_pos (by omega), if_pos (by omega), hrd, hw, IntWalk.wrap64_in _ ⟨by omega, by omega⟩]
    rw [sum_l0 o ho hs hlen d k (j + 1) (acc + o[j]) (by omega) (by omega) (by omega), e, Int.add_assoc]
theorem sum_eq {o : List Int} (ho : ∀ y ∈ o, 0 ≤ y) (hs : o.sum ≤ 1000000000000000) (hlen : o.length ≤ 1000) {k : Nat} (hk : 1001 ≤ k) : taltop_sum.f k o = some o.sum := by
  unfold taltop_sum.f
  have := sum_l0 o ho hs hlen o.length (k - o.length - 1) 0 0 (by omega) (by omega) (by simpa using hs)
  rw [show k - o.length - 1 + o.length + 1 = k by omega] at this
  simpa using this
/-- The loop over the moves. -/
theorem stock_loop {l : List Move} {outs : List Int} {lots : List Lot} (hl : l.length ≤ 40) (hm : movesLoop l = 0) : ∀ (d K i : Nat) (o : List Int) (s : List Lot) (es : List Ent), i + d = l.length → 2 * d + 1200 < K → fifoLoop (l.drop i) o s = some (outs, lots) → lotsOk s → (∀ y ∈ o, 0 ≤ y) →
    o.sum + sumL s ≤ 1000000000000 * (i : Int) → s.length ≤ i → o.length ≤ i → Bk es (· < i) i → ofR es c15 0 99 = sumL s → ofR es c50 0 99 = o.sum → taltop_TopStock.l0 K outs lots (o.length : Int) l (l.length : Int) i acc0 es (-1) = some true
  | 0, K, i, o, s, es, hi, hK, hf, hs, ho, hsum, hsl, hol, hb, h15, h50 => by
    obtain ⟨K, rfl⟩ : ∃ m, K = m + s.length + 2 := ⟨K - s.length - 2, by omega⟩
    rw [List.drop_of_length_le (by omega)] at hf
    simp only [fifoLoop, Option.some.injEq, Prod.mk.injEq] at hf
    obtain ⟨rfl, rfl⟩ := hf
    have hn := lotsOk_sum hs
    rw [show K + s.length + 2 = (K + s.length + 1) + 1 by omega, taltop_TopStock.l0, if_neg (by omega)]
    have := stock_l1 (outs := o) (es := es) s hs (by omega) s.length (K + 1) 0 0 (by omega) (by omega) (by omega)
    rw [show K + 1 + s.length = K + s.length + 1 by omega] at this
    rw [show ((0 : Nat) : Int) = 0 from rfl] at this
    rw [this, List.drop_zero, taltop_TopStock.l1, if_neg (by omega), hb.balance kn15 (by omega) (by omega) (by omega), Option.bind_some, hb.balance kn50 (by omega) (by omega) (by omega), Option.bind_some]
    rw [sum_eq ho (by omega) (by omega) (by omega), h15, h50]
    simp
  | d + 1, K, i, o, s, es, hi, hK, hf, hs, ho, hsum, hsl, hol, hb, h15, h50 => by
    obtain ⟨K, rfl⟩ : ∃ m, K = m + 2 := ⟨K - 2, by omega⟩
    have hlt : i < l.length := by omega
    have hrd : rd_T35 l (i : Int) = l[i] := by simp [rd_T35, List.getD_eq_getElem?_getD, hlt]
    obtain ⟨m0, m1, m2, m3, m4⟩ := moveE_ok (movesLoop_mem hm l[i] (List.getElem_mem hlt))
    have hn := lotsOk_sum hs
    have hos : 0 ≤ o.sum := sum_nonneg ho
    rw [List.drop_eq_getElem_cons hlt] at hf
    rw [taltop_TopStock.l0, if_pos (by omega), if_pos (by omega), if_pos (by omega), hrd, moved_eq (by omega) (by omega) _ _ (by omega) (by omega), Option.bind_some]
    by_cases hp : 0 < l[i].f0
    · rw [if_neg (by omega)]
      simp only [fifoLoop] at hf
      rw [if_pos hp] at hf
      obtain ⟨es', hb', hof, he⟩ := stock_j1 (outs := outs) (lots := lots) (l := l) (len := (l.length : Int)) (x7 := (o.length : Int)) (k := K) hb (by omega) code15 code10 ne_15_10 m3 m4 kn15 kn10
      rw [he]
      refine stock_loop hl hm d K (i + 1) o _ es' (by omega) (by omega) hf (fun y hy => ?_) ho ?_ (by simp; omega) (by omega) hb' ?_ ?_
      · rcases List.mem_append.1 hy with hy | hy
        · exact hs y hy
        · obtain rfl := List.mem_singleton.1 hy
          exact ⟨by show 1 ≤ l[i].f0; omega, m2, m3, m4⟩
      · rw [sumL_snoc]
        show o.sum + (sumL s + l[i].f1) ≤ _
        push_cast; omega
      · rw [hof, h15, sumL_snoc, lineAt_eq (by kernel_rfl), lineAt_ne ne_10_15]
        show sumL s + (l[i].f1 + 0) = sumL s + l[i].f1
        omega
      · rw [hof, h50, lineAt_ne (by kernel_rfl), lineAt_ne ne_10_50] <;> omega
    · rw [if_pos (by omega)]
      simp only [fifoLoop] at hf
      rw [if_neg hp] at hf
      cases ht : (takeL s (-l[i].f0) 0).2.1 with
      | false => rw [ht] at hf; simp at hf
      | true =>
        rw [ht, if_neg (by decide)] at hf
        have h6 := takeL_sum ht
        obtain ⟨h7, h8⟩ := takeL_ok (n := -l[i].f0) (c := 0) hs
        have h9 := takeL_nonneg (n := -l[i].f0) hs (Int.le_refl 0)
        have hn' := lotsOk_sum h7
        obtain ⟨c, hc⟩ : ∃ c, c = (takeL s (-l[i].f0) 0).1 := ⟨_, rfl⟩
        obtain ⟨s', hs'⟩ : ∃ s', s' = (takeL s (-l[i].f0) 0).2.2 := ⟨_, rfl⟩
        rw [← hc, ← hs'] at hf h6
        rw [← hc] at h9
        rw [← hs'] at h7 h8 hn'
        obtain ⟨t, hpre⟩ := fifo_prefix hf
        have hlen : o.length < outs.length := by rw [← hpre]; simp
        have hrc : rd outs (o.length : Int) = c := by rw [← hpre]; simp [rd, List.getD_eq_getElem?_getD]
        rw [if_neg (by omega), if_pos (by omega), if_pos (by omega), hrc, moved_eq (by omega) (by omega) _ _ (by omega) (by omega), Option.bind_some]
        by_cases hbig : c > 1000000000000
        · rw [if_pos hbig]
        · rw [if_neg hbig]
          have hw : wrap64 ((o.length : Int) + 1) = ((o ++ [c]).length : Int) := by rw [IntWalk.wrap64_in _ ⟨by omega, by omega⟩]; simp
          obtain ⟨es', hb', hof, he⟩ := stock_j1 (outs := outs) (lots := lots) (l := l) (len := (l.length : Int)) (x7 := ((o ++ [c]).length : Int)) (k := K) hb (by omega) code50 code15 ne_50_15 h9 (by omega) kn50 kn15
          rw [hw, he]
          refine stock_loop hl hm d K (i + 1) (o ++ [c]) s' es' (by omega) (by omega) hf h7 (fun y hy => ?_) ?_ (by omega) (by simp; omega) hb' ?_ ?_
          · rcases List.mem_append.1 hy with hy | hy
            · exact ho y hy
            · obtain rfl := List.mem_singleton.1 hy
              exact h9
          · rw [List.sum_append, List.sum_cons, List.sum_nil]
            push_cast; omega
          · rw [hof, h15, lineAt_ne ne_50_15, lineAt_eq (by kernel_rfl)]; omega
          · rw [hof, h50, lineAt_eq (by kernel_rfl), lineAt_ne ne_15_50, List.sum_append, List.sum_cons, List.sum_nil] <;> omega
/-- The plain law. -/
theorem stock_true (l : List Move) : taltop_TopStock.f 2000 l = some true := by
  unfold taltop_TopStock.f
  rw [begun_at (by omega), Option.bind_some, if_pos rfl]
  unfold stock_Fifo.f
  rw [Option.bind_some]
  by_cases hk : lookR l = 0
  · obtain ⟨hl, hm⟩ := lookR_parts hk
    cases hf : fifoLoop l [] [] with
    | none =>
      have e : fifoR l = ([], [], 8) := by unfold fifoR; rw [if_neg (by simp [hk]), hf]
      rw [e]; rfl
    | some r =>
      obtain ⟨outs, lots⟩ := r
      have e : fifoR l = (outs, lots, 0) := by unfold fifoR; rw [if_neg (by simp [hk]), hf]
      rw [e, if_pos rfl, plain_eq, Option.bind_some]
      have := stock_loop (outs := outs) (lots := lots) hl hm l.length 2000 0 [] [] [] (by omega) (by omega) hf (fun y hy => absurd hy (by simp)) (fun y hy => absurd hy (by simp)) (by simp [sumL]) (by simp) (by simp) (Bk.empty _ _) (by simp [ofR, sumL]) (by simp [ofR])
      simpa using this
  · have e : fifoR l = ([], [], lookR l) := by unfold fifoR; rw [if_pos hk]
    rw [e, if_neg hk]
    rfl
end Go.Proofs.Ytlfbdcobpfainaa.Q
