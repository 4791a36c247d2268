/- Part of the proof, with what it needs of the printed words alone. -/
import Derived.Test.YtlfbdcobpfainaaTS0
import Derived.Test.YtlfbdcobpfainaaTS3
import Derived.Test.YtlfbdcobpfainaaTS4
import Derived.Test.YtlfbdcobpfainaaTS5
namespace Go.Proofs.Ytlfbdcobpfainaa.S
open Go.RowKit Go.Proofs.YtlfbdcobpfainaaW.PrintWords Go.Proofs.YtlfbdcobpfainaaW.PrintLast Go.Proofs.YtlfbdcobpfainaaW.PrintMore
attribute [local go_sem] max2_int min2_int max_two min_two max_three min_three max_four min_four
set_option linter.unusedVariables false
set_option linter.unusedSimpArgs false
theorem insert_Entry.info : (Try.prog.info? 38).map (fun i => (i.zero, i.size, i.bytes)) = some (some (.agg #[(.string ⟨#[]⟩), (.int .i64 0), (.slice none 0 0)]), 3, 48) := by kernel_rfl
set_option maxHeartbeats 1600000 in
set_option maxRecDepth 100000 in
theorem insert_Entry.core_end (f : Nat → Nat) (u : Value) (l0 : List (S38 × Nat)) (g2 c2 : Nat) (x : (S38 × Nat)) (xc : List Value) (rest2 : List Value) (w : World) (base : Nat) (ok okx : Nat → Prop) (ho : (Kd.tag f k38).R 38 w base ok u l0)
    (h2 : w.heap[g2]? = some (.cells (xc ++ rest2).toArray 38 (0, 0))) (hxl : xc.length = 3) (hM : (Kd.tag f k38).M w base okx x xc) (hokx : ∀ k, okx k → ok k ∧ some k ≠ u.ownBlock) (hbase : base ≤ w.heap.size) (hfresh : ∀ k, w.heap.size ≤ k → ok k) (hl : (l0.length + 1) * 48 ≤ 140737488355328) :
    Calls Try.prog 43 #[u, .int .i64 l0.length, .slice (some ⟨g2, 0, none⟩) 1 c2] w fun e w' => ∃ v, e = .returned v ∧ (Kd.tag f k38).R 38 w' base ok v (l0 ++ [x]) ∧ w.grownBy w' u.ownBlock := by
  have hinfo := insert_Entry.info
  obtain ⟨i0, hi, hz0, hz1, hz2⟩ := info_parts hinfo
  obtain ⟨A, c, rfl⟩ := Kd.R_slice ho
  have hc : l0.length ≤ c := (Kd.R_reads' ho).2.1
  have hnn : ((l0.length : Int) == (l0.length : Int)) = true := by simp
  obtain ⟨A', hcut⟩ : ∃ A' : Option Addr, ∀ W : World, (Instr.slice 30 (.slice A l0.length c) (some (.int .i64 (l0.length : Int))) none none).run Try.prog W = .ok (.slice A' 0 (c - l0.length)) W := ⟨if c = l0.length then A else A.map (·.add (l0.length * 3)), fun W => by rw [cut_from 30 38 .i64 (P := Try.prog) Try.underlying30 hi 3 hz1 A l0.length c (l0.length : Int) (by omega) (by omega) W]; simp⟩
  have HO := Aside0.mk ho
  have HH2 := Aside0.mk h2
  have HMx := Aside0.mk hM
  have HF := Aside0.mk hfresh
  have HK := Aside0.mk hokx
  have HI := Aside0.mk hinfo
  clear ho h2 hM hfresh hokx hinfo hi hz0 hz1 hz2
  go_enter Try.func43, Try.ntmps43
  go_wp2_with ((with_reducible refine gate_builtin (b := .append) (xs := #[.tmp 23, .tmp 24]) rfl ?_); at_builtin; refine Kd.R_append_rows (Kd.tag f k38) (Rr := fun p cs => p = x ∧ cs = xc) (w0 := w) base rfl (.tmp 23) (.tmp 24) 30 38 (.agg #[(.string ⟨#[]⟩), (.int .i64 0), (.slice none 0 0)]) 48 rfl Try.underlying30 HI.out rfl (show 0 < 3 by decide) (by omega) (.slice A l0.length c) l0 [x] (some ⟨g2, 0, none⟩) 1 c2 ok okx rfl rfl HO.out ?aR (fun _ _ hx => by rw [hx.1, hx.2]; exact HMx.out) HK.out HF.out (Below.refl _ _) hbase ?aL ?_; (case aR => exact ⟨rfl, by omega, fun _ => ⟨_, rfl, fun j p hj => YtlfbdcobpfainaaH.one_cell hj HH2.out hxl⟩⟩); (case aL => exact hl); intro v1 w1 ho hb hg hat; have n0_ := Aside0.mk hg; have n1_ := Aside0.mk ho; clear ho hb hg hat)
  go_ret
  exact ⟨v1, rfl, n1_.out, n0_.out⟩
set_option maxHeartbeats 800000 in
set_option maxRecDepth 100000 in
theorem insert_Entry.core_grow (g cap n i g2 c2 : Nat) (cur xc rest2 : List Value) (w : World) (hg : w.heap[g]? = some (.cells cur.toArray 38 (0, 0))) (hcur : cur.length = cap * 3) (hn : n ≤ cap) (hcap : cap < n + 1) (hin : i < n)
    (h2 : w.heap[g2]? = some (.cells (xc ++ rest2).toArray 38 (0, 0))) (hxl : xc.length = 3) (h1c : ∀ u ∈ cur.take (n * 3), u.oneCell' = true) (h1x : ∀ u ∈ xc, u.oneCell' = true) (hl : (n + 1) * 48 ≤ 140737488355328) :
    Calls Try.prog 43 #[.slice (some ⟨g, 0, none⟩) n cap, .int .i64 i, .slice (some ⟨g2, 0, none⟩) 1 c2] w fun e w' => ∃ c, ∃ cur' : List Value, e = .returned (.slice (some ⟨w.heap.size, 0, none⟩) (n + 1) c) ∧ w'.heap[w.heap.size]? = some (.cells cur'.toArray 38 (0, 0)) ∧ n + 1 ≤ c ∧ c ≤ maxLen ∧ cur'.length = c * 3 ∧
      cur'.take ((n + 1) * 3) = cur.take (i * 3) ++ xc ++ (cur.take (n * 3)).drop (i * 3) ∧ w.grownBy w' none := by
  have hinfo := insert_Entry.info
  obtain ⟨i0, hi, hz0, hz1, hz2⟩ := info_parts hinfo
  have hsz : (Try.prog.info? 38).map (·.size) = some 3 := by rw [hi]; simp [hz1]
  obtain rfl : cap = n := by omega
  have hgs : g < w.heap.size := blk_lt hg
  have hg2s : g2 < w.heap.size := blk_lt h2
  have hne : ((i : Int) == (cap : Int)) = false := by simp; omega
  have h10 : ((1 : Int) == 0) = false := by decide
  have hgt : decide ((cap : Int) < (cap : Int) + 1) = true := by simp; omega
  have hcut1 : ∀ W : World, (Instr.slice 30 (.slice (some ⟨g, 0, none⟩) cap cap) (some (.int .i64 i)) none none).run Try.prog W = .ok (.slice (some ⟨g, i * 3, none⟩) (cap - i) (cap - i)) W := fun W => by rw [cut_from 30 38 .i64 (P := Try.prog) Try.underlying30 hi 3 hz1 _ cap cap (i : Int) (by omega) (by omega) W, if_neg (by omega)]; simp [YtlfbdcobpfainaaH.add_zero_off]
  have hcut2 : ∀ W : World, (Instr.slice 30 (.slice (some ⟨g, 0, none⟩) cap cap) none (some (.int .i64 i)) none).run Try.prog W = .ok (.slice (some ⟨g, 0, none⟩) i cap) W := fun W => by rw [cut_to 30 38 .i64 (P := Try.prog) Try.underlying30 hi _ cap cap (i : Int) (by omega) (by omega) (by omega) W]; simp
  have hsub : IntKind.i64.wrap ((cap : Int) + 1 - i) = ((cap + 1 - i : Nat) : Int) := by rw [IntKind.wrap_i64]; omega
  have e39 : ((cap : Int) + 1 - i) = ((cap + 1 - i : Nat) : Int) := by omega
  have HG := Aside0.mk hg
  have HH2 := Aside0.mk h2
  have HI := Aside0.mk hinfo
  have HSZ := Aside0.mk hsz
  have H39 := Aside0.mk e39
  have H1C := Aside0.mk h1c
  have H1X := Aside0.mk h1x
  have HZ := Aside0.mk hz1
  have HHI := Aside0.mk hi
  have HCUR := Aside0.mk hcur
  have HX := Aside0.mk hxl
  clear hg h2 hinfo hsz e39 hsub hi hz0 hz1 hz2 h1c h1x hcur hxl
  go_enter Try.func43, Try.ntmps43
  go_wp2_with (first | ((with_reducible refine gate_builtin (b := .append) (xs := #[.tmp 34, .tmp 39]) rfl ?_); at_builtin; refine YtlfbdcobpfainaaH.wpList_append_zeros_new rfl (.tmp 34) (.tmp 39) 30 3 38 rfl (.agg #[(.string ⟨#[]⟩), (.int .i64 0), (.slice none 0 0)]) 3 48 Try.underlying30 Try.underlying3 HI.out rfl (by decide) (by omega) (some ⟨g, 0, none⟩) i cap rfl .i64 (cap + 1 - i) (by rw [← H39.out]; rfl) (cur.take (i * 3)) ?a1 ?a2 (by omega) (by omega) ?a3 (cap + 1) (by omega) ?_; (case a1 => have := HCUR.out; simp; omega); (case a2 => exact fun _ => ⟨_, rfl, YtlfbdcobpfainaaH.take_cells HG.out _⟩); (case a3 => omega); intro c cur1 w1 hg1 hgr hnc hcm hcl htk; have n0_ := Aside0.mk hg1; have n1_ := Aside0.mk hgr; have n2_ := Aside0.mk hcl; have n3_ := Aside0.mk htk; clear hg1 hgr hcl htk) | ((with_reducible refine gate_builtin (b := .copy) (xs := #[.tmp 43, .tmp 44]) rfl ?_); refine YtlfbdcobpfainaaH.wpList_copy_sz rfl (.tmp 43) (.tmp 44) 30 30 rfl 38 3 Try.underlying30 HSZ.out (by omega) (some ⟨w.heap.size, i * 3, none⟩) (some ⟨g2, 0, none⟩) (cap + 1 - i) (c - i) 1 c2 rfl rfl w.heap.size (i * 3) cur1 38 n0_.out xc ?b1 ?b2 ?b3 H1X.out ?_; (case b1 => have := HX.out; omega); (case b2 => exact fun _ => ⟨rfl, _, rfl, fun j v hj => YtlfbdcobpfainaaH.head_cells (YtlfbdcobpfainaaH.grown_heap n1_.out HH2.out (by simp)) j v hj⟩); (case b3 => have := HX.out; have := n2_.out; omega); intro w2 hg2 hgr2; have m0_ := Aside0.mk hg2; have m1_ := Aside0.mk hgr2; clear hg2 hgr2))
  have hcut3 : ∀ W : World, (Instr.slice 30 (.slice (some ⟨w.heap.size, 0, none⟩) (cap + 1) c) (some (.int .i64 ((i : Int) + 1))) none none).run Try.prog W = .ok (.slice (some ⟨w.heap.size, (i + 1) * 3, none⟩) (cap - i) (c - (i + 1))) W := fun W => by rw [cut_from 30 38 .i64 (P := Try.prog) Try.underlying30 HHI.out 3 HZ.out _ (cap + 1) c ((i : Int) + 1) (by omega) (by omega) W, if_neg (by omega)]; simp [YtlfbdcobpfainaaH.add_zero_off] <;> omega
  have hi1 : IntKind.i64.wrap ((i : Int) + 1) = (i : Int) + 1 := by rw [IntKind.wrap_i64]; omega
  go_still_tail 8, (by kernel_rfl)
  refine YtlfbdcobpfainaaH.wpList_copy_sz rfl (.tmp 50) (.tmp 53) 30 30 rfl 38 3 Try.underlying30 HSZ.out (by omega) (some ⟨w.heap.size, (i + 1) * 3, none⟩) (some ⟨g, i * 3, none⟩) (cap - i) (c - (i + 1)) (cap - i) (cap - i) rfl rfl w.heap.size ((i + 1) * 3) (splice cur1 (i * 3) xc) 38 m0_.out ((cur.take (cap * 3)).drop (i * 3)) (by have := HCUR.out; simp; omega) (fun _ => ⟨rfl, _, rfl, YtlfbdcobpfainaaH.drop_cells (YtlfbdcobpfainaaH.grown_heap m1_.out (YtlfbdcobpfainaaH.grown_heap n1_.out HG.out (by simp)) (by simp; omega)) _ _⟩) (by have := HCUR.out; have := n2_.out; rw [YtlfbdcobpfainaaH.splice_length (by have := HX.out; omega)]; simp; omega) (fun v hv => H1C.out v (List.mem_of_mem_drop hv)) ?_
  intro w3 hg3 hgr3
  have k0_ := Aside0.mk hg3
  have k1_ := Aside0.mk (YtlfbdcobpfainaaH.drew_grown hgr3)
  clear hg3 hgr3
  go_wp2
  go_ret
  have e3 : i * 3 = i * 3 := by omega
  have h3 := n3_.out
  rw [e3] at h3
  refine ⟨c, _, rfl, k0_.out, hnc, hcm, ?_, ?_, ?_⟩
  · have := HCUR.out; have := n2_.out; have := HX.out
    rw [YtlfbdcobpfainaaH.splice_length (by rw [YtlfbdcobpfainaaH.splice_length (by omega)]; simp; omega), YtlfbdcobpfainaaH.splice_length (by omega)]; omega
  · have := HCUR.out; have := n2_.out; have := HX.out
    have e := YtlfbdcobpfainaaH.splice_two (L := cur1) (xs := xc) (ys := (cur.take (cap * 3)).drop (i * 3)) (o1 := i * 3) (o2 := (i + 1) * 3) (by omega) (by simp; omega)
    rw [h3] at e
    rw [← e]
    congr 1
    simp; omega
  · exact YtlfbdcobpfainaaH.grown_trans (YtlfbdcobpfainaaH.grown_trans n1_.out m1_.out (fun b hb => .inr (by injection hb with hb; omega))) k1_.out (fun b hb => .inr (by injection hb with hb; omega))
set_option maxHeartbeats 800000 in
set_option maxRecDepth 100000 in
theorem insert_Entry.core_room (g cap n i g2 c2 : Nat) (cur xc rest2 : List Value) (w : World) (hg : w.heap[g]? = some (.cells cur.toArray 38 (0, 0))) (hcur : cur.length = cap * 3) (hn : n + 1 ≤ cap) (hcm : cap ≤ maxLen) (hin : i < n) (hne : g2 ≠ g)
    (h2 : w.heap[g2]? = some (.cells (xc ++ rest2).toArray 38 (0, 0))) (hxl : xc.length = 3) (h1c : ∀ u ∈ cur.take (n * 3), u.oneCell' = true) (h1x : ∀ u ∈ xc, u.oneCell' = true) (hl : (n + 1) * 48 ≤ 140737488355328) :
    Calls Try.prog 43 #[.slice (some ⟨g, 0, none⟩) n cap, .int .i64 i, .slice (some ⟨g2, 0, none⟩) 1 c2] w fun e w' => ∃ cur' : List Value, e = .returned (.slice (some ⟨g, 0, none⟩) (n + 1) cap) ∧ w'.heap[g]? = some (.cells cur'.toArray 38 (0, 0)) ∧ cur'.length = cap * 3 ∧
      cur'.take ((n + 1) * 3) = cur.take (i * 3) ++ xc ++ (cur.take (n * 3)).drop (i * 3) ∧ w.grownBy w' (some g) := by
  have hinfo := insert_Entry.info
  obtain ⟨i0, hi, hz0, hz1, hz2⟩ := info_parts hinfo
  have hsz : (Try.prog.info? 38).map (·.size) = some 3 := by rw [hi]; simp [hz1]
  unfold maxLen at hcm
  have hgs : g < w.heap.size := blk_lt hg
  have hg2s : g2 < w.heap.size := blk_lt h2
  have hnei : ((i : Int) == (n : Int)) = false := by simp; omega
  have h10 : ((1 : Int) == 0) = false := by decide
  have hgt : decide ((cap : Int) < (n : Int) + 1) = false := by simp; omega
  have hcut1 : ∀ W : World, (Instr.slice 30 (.slice (some ⟨g, 0, none⟩) n cap) (some (.int .i64 i)) none none).run Try.prog W = .ok (.slice (some ⟨g, i * 3, none⟩) (n - i) (cap - i)) W := fun W => by rw [cut_from 30 38 .i64 (P := Try.prog) Try.underlying30 hi 3 hz1 _ n cap (i : Int) (by omega) (by omega) W, if_neg (by omega)]; simp [YtlfbdcobpfainaaH.add_zero_off]
  have hcut2 : ∀ W : World, (Instr.slice 30 (.slice (some ⟨g, 0, none⟩) n cap) none (some (.int .i64 ((n : Int) + 1))) none).run Try.prog W = .ok (.slice (some ⟨g, 0, none⟩) (n + 1) cap) W := fun W => by rw [YtlfbdcobpfainaaH.cut_grow 30 38 .i64 (P := Try.prog) Try.underlying30 hi _ n cap ((n : Int) + 1) (by omega) (by omega) W]; congr 2
  have hcut3 : ∀ W : World, (Instr.slice 30 (.slice (some ⟨g, 0, none⟩) (n + 1) cap) (some (.int .i64 ((i : Int) + 1))) none none).run Try.prog W = .ok (.slice (some ⟨g, (i + 1) * 3, none⟩) (n - i) (cap - (i + 1))) W := fun W => by rw [cut_from 30 38 .i64 (P := Try.prog) Try.underlying30 hi 3 hz1 _ (n + 1) cap ((i : Int) + 1) (by omega) (by omega) W, if_neg (by omega)]; simp [YtlfbdcobpfainaaH.add_zero_off] <;> omega
  have hcut4 : ∀ W : World, (Instr.slice 30 (.slice (some ⟨g, 0, none⟩) (n + 1) cap) (some (.int .i64 i)) none none).run Try.prog W = .ok (.slice (some ⟨g, i * 3, none⟩) (n + 1 - i) (cap - i)) W := fun W => by rw [cut_from 30 38 .i64 (P := Try.prog) Try.underlying30 hi 3 hz1 _ (n + 1) cap (i : Int) (by omega) (by omega) W, if_neg (by omega)]; simp [YtlfbdcobpfainaaH.add_zero_off]
  have hov : (callFunc 78 #[.slice (some ⟨g2, 0, none⟩) 1 c2, .slice (some ⟨g, (i + 1) * 3, none⟩) (n - i) (cap - (i + 1))]).run Try.prog w = .ok (.value (.bool false)) w := by
    rw [run_callFunc_extern Try.func78 (by kernel_rfl) (by kernel_rfl) (by kernel_rfl) (e := Extern.SlicesOverlaps.overlaps #[30, 30] #[4]) (by kernel_rfl),
      YtlfbdcobpfainaaH.run_overlaps_rows (P := Try.prog) w 30 4 38 Try.underlying30 i0 hi g2 g 0 ((i + 1) * 3) 1 c2 (n - i) (cap - (i + 1)) hne (xc ++ rest2) cur 38 38 h2 hg (by omega)]
    rfl
  have HG := Aside0.mk hg
  have HH2 := Aside0.mk h2
  have HSZ := Aside0.mk hsz
  have H1C := Aside0.mk h1c
  have H1X := Aside0.mk h1x
  have HCUR := Aside0.mk hcur
  have HX := Aside0.mk hxl
  clear hg h2 hinfo hsz hi hz0 hz1 hz2 h1c h1x hcur hxl
  go_enter Try.func43, Try.ntmps43
  go_wp2_with fail
  have hi1 : IntKind.i64.wrap ((i : Int) + 1) = (i : Int) + 1 := by rw [IntKind.wrap_i64]; omega
  go_still_tail 8, (by kernel_rfl)
  refine YtlfbdcobpfainaaH.wpList_copy_sz rfl (.tmp 73) (.tmp 76) 30 30 rfl 38 3 Try.underlying30 HSZ.out (by omega) (some ⟨g, (i + 1) * 3, none⟩) (some ⟨g, i * 3, none⟩) (n - i) (cap - (i + 1)) (n + 1 - i) (cap - i) rfl rfl g ((i + 1) * 3) cur 38 HG.out ((cur.take (n * 3)).drop (i * 3)) (by have := HCUR.out; simp; omega) (fun _ => ⟨rfl, _, rfl, YtlfbdcobpfainaaH.drop_cells (w := w.drew) HG.out _ _⟩) (by have := HCUR.out; simp; omega) (fun v hv => H1C.out v (List.mem_of_mem_drop hv)) ?_
  intro w2 hg2 hgr2
  have m0_ := Aside0.mk hg2
  have m1_ := Aside0.mk (YtlfbdcobpfainaaH.drew_grown hgr2)
  clear hg2 hgr2 hov
  go_wp2_with ((with_reducible refine gate_builtin (b := .copy) (xs := #[.tmp 80, .tmp 81]) rfl ?_); refine YtlfbdcobpfainaaH.wpList_copy_sz rfl (.tmp 80) (.tmp 81) 30 30 rfl 38 3 Try.underlying30 HSZ.out (by omega) (some ⟨g, i * 3, none⟩) (some ⟨g2, 0, none⟩) (n + 1 - i) (cap - i) 1 c2 rfl rfl g (i * 3) _ 38 m0_.out xc ?b1 ?b2 ?b3 H1X.out ?_; (case b1 => have := HX.out; omega); (case b2 => exact fun _ => ⟨rfl, _, rfl, fun j v hj => YtlfbdcobpfainaaH.head_cells (YtlfbdcobpfainaaH.grown_heap m1_.out HH2.out (by simp; exact hne)) j v hj⟩); (case b3 => have := HX.out; have := HCUR.out; rw [YtlfbdcobpfainaaH.splice_length (by simp; omega)]; omega); intro w3 hg3 hgr3; have k0_ := Aside0.mk hg3; have k1_ := Aside0.mk hgr3; clear hg3 hgr3)
  go_ret
  refine ⟨_, rfl, k0_.out, ?_, ?_, ?_⟩
  · have := HCUR.out; have := HX.out
    rw [YtlfbdcobpfainaaH.splice_length (by rw [YtlfbdcobpfainaaH.splice_length (by simp; omega)]; omega), YtlfbdcobpfainaaH.splice_length (by simp; omega)]; omega
  · have := HCUR.out; have := HX.out
    have e := YtlfbdcobpfainaaH.splice_two' (L := cur) (xs := xc) (ys := (cur.take (n * 3)).drop (i * 3)) (o1 := i * 3) (o2 := (i + 1) * 3) (by omega) (by simp; omega)
    rw [← e]
    congr 1
    simp; omega
  · exact YtlfbdcobpfainaaH.grown_trans m1_.out k1_.out (fun b hb => .inl hb)
theorem insert_Entry.core (f : Nat → Nat) (u : Value) (l0 : List (S38 × Nat)) (i g2 c2 : Nat) (x : (S38 × Nat)) (xc rest2 : List Value) (w : World) (base : Nat) (ok okx : Nat → Prop) (ho : (Kd.tag f k38).R 38 w base ok u l0)
    (h2 : w.heap[g2]? = some (.cells (xc ++ rest2).toArray 38 (0, 0))) (hne : some g2 ≠ u.ownBlock) (hM : (Kd.tag f k38).M w base okx x xc) (hokx : ∀ k, okx k → ok k ∧ some k ≠ u.ownBlock) (hbase : base ≤ w.heap.size) (hfresh : ∀ k, w.heap.size ≤ k → ok k) (hi : i ≤ l0.length) (hl : (l0.length + 1) * 48 ≤ 140737488355328) :
    Calls Try.prog 43 #[u, .int .i64 i, .slice (some ⟨g2, 0, none⟩) 1 c2] w fun e w' => ∃ v, e = .returned v ∧ (Kd.tag f k38).R 38 w' base ok v (l0.take i ++ x :: l0.drop i) ∧ w.grownBy w' u.ownBlock := by
  have hs : (Kd.tag f k38).sz = 3 := rfl
  have hxl : xc.length = 3 := ((Kd.tag f k38)).K_len (((Kd.tag f k38)).K_of_M hM)
  have hx1 := ((Kd.tag f k38)).K_one (((Kd.tag f k38)).K_of_M hM)
  by_cases hin : i = l0.length
  · subst hin
    refine (insert_Entry.core_end f u l0 g2 c2 x xc rest2 w base ok okx ho h2 hxl hM hokx hbase hfresh hl).mono ?_
    rintro e w' ⟨v, rfl, hv, hg⟩
    exact ⟨v, rfl, by simpa using hv, hg⟩
  · rcases YtlfbdcobpfainaaH.R_row ho with ⟨rfl, rfl⟩ | ⟨g, cap, cur, rfl, hbg, hgs, hh, hnc, hcm, hcl, hokg, hr⟩
    · exact absurd (by simpa using hi) hin
    have hone : ∀ u ∈ cur.take ((l0.length) * 3), u.oneCell' = true := by
      have := Kd.reps_one hr (show 0 < 3 by decide) (fun x cs hp => ((Kd.tag f k38)).K_one (((Kd.tag f k38)).K_of_M hp))
      simpa [hs] using this
    have hlen : (l0.take i ++ x :: l0.drop i).length = l0.length + 1 := by simp; omega
    rw [hs] at hcl
    have ecs : cur.take (i * 3) = (cur.take ((l0.length) * 3)).take (i * 3) := by rw [List.take_take, Nat.min_eq_left (by omega)]
    by_cases hroom : l0.length + 1 ≤ cap
    · refine (insert_Entry.core_room g cap l0.length i g2 c2 cur xc rest2 w hh (by omega) hroom hcm (by omega) (by simpa [Value.ownBlock] using hne) h2 hxl hone hx1 hl).mono ?_
      rintro e w' ⟨cur', rfl, hh', hcl', htk, hg⟩
      have hR := YtlfbdcobpfainaaH.reps_insert (b := g) hr hM hg (fun k _ _ hk => ⟨by simpa using hk, hk⟩) (fun k _ hk => ⟨(hokx k hk).2, (hokx k hk).1, by simpa [Value.ownBlock] using (hokx k hk).2⟩) i hi
      have hv := YtlfbdcobpfainaaH.row_R (d := (Kd.tag f k38)) (xs := l0.take i ++ x :: l0.drop i) (cap := cap) (cur := cur') hbg hh' (by omega) hcm (by rw [hs]; omega) hokg (by
        rw [hlen, hs]
        simp only [hs] at hR
        try simp only [Nat.mul_one] at hR htk ⊢
        rw [htk, ecs]
        exact hR)
      rw [hlen] at hv
      exact ⟨_, rfl, hv, hg⟩
    · refine (insert_Entry.core_grow g cap l0.length i g2 c2 cur xc rest2 w hh (by omega) hnc (by omega) (by omega) h2 hxl hone hx1 hl).mono ?_
      rintro e w' ⟨c, cur', rfl, hh', hnc', hcm', hcl', htk, hg⟩
      have hR := YtlfbdcobpfainaaH.reps_insert (b := w.heap.size) hr hM hg (fun k hlt _ _ => ⟨by simp, by omega⟩) (fun k hlt hk => ⟨by simp, (hokx k hk).1, by omega⟩) i hi
      have hv := YtlfbdcobpfainaaH.row_R (d := (Kd.tag f k38)) (xs := l0.take i ++ x :: l0.drop i) (cap := c) (cur := cur') hbase hh' (by omega) hcm' (by rw [hs]; omega) (hfresh _ (Nat.le_refl _)) (by
        rw [hlen, hs]
        simp only [hs] at hR
        try simp only [Nat.mul_one] at hR htk ⊢
        rw [htk, ecs]
        exact hR)
      rw [hlen] at hv
      exact ⟨_, rfl, hv, YtlfbdcobpfainaaH.grown_none hg _⟩
theorem book_Copied.loop (es : List S38) (h60 : es.length ≤ 60) (h12 : ∀ x ∈ es, x.f2.length ≤ 12) (a : List S82) (s : Int) : ∀ (d k i : Nat), i + d = es.length → d < k → book_Copied.l0 k es (es.length : Int) i a (es.take i) s = some (a, es, s)
  | 0, k, i, hi, hk => by
    obtain ⟨k, rfl⟩ : ∃ m, k = m + 1 := ⟨k - 1, by omega⟩
    simp only [book_Copied.l0]
    rw [if_neg (by omega), List.take_of_length_le (by omega)]
  | d + 1, k, i, hi, hk => by
    obtain ⟨k, rfl⟩ : ∃ m, k = m + 1 := ⟨k - 1, by omega⟩
    have hlt : i < es.length := by omega
    have hg : rd_T38 es (i : Int) = es[i] := by simp [rd_T38, List.getD_eq_getElem?_getD, hlt]
    have hl := h12 es[i] (List.getElem_mem hlt)
    have hw : wrap64 ((i : Int) + 1) = ((i + 1 : Nat) : Int) := by rw [IntWalk.wrap64_in _ ⟨by omega, by omega⟩]; rfl
    have hcl : api_Line_40.f es[i].f2 = some es[i].f2 := by unfold api_Line_40.f; rw [if_pos (by omega)]
    have ih := book_Copied.loop es h60 h12 a s d k (i + 1) (by omega) (by omega)
    have htk : (es.take i).length < 2932031007402 := by rw [List.length_take]; omega
    rw [List.take_succ_eq_append_getElem hlt] at ih
    simp only [book_Copied.l0, hg]
    rw [if_pos (by omega), if_pos (by omega), if_pos (by omega), hcl, Option.bind_some, if_pos htk, hw]
    exact ih
theorem book_Copied.total (a : List S82) (es : List S38) (s : Int) (ha : a.length ≤ 24) (h60 : es.length ≤ 60) (h12 : ∀ x ∈ es, x.f2.length ≤ 12) : book_Copied.f 70 a es s = some (a, es, s) := by
  unfold book_Copied.f
  have hcl : api_Acct_74.f a = some a := by unfold api_Acct_74.f; rw [if_pos (by omega)]
  rw [hcl, Option.bind_some]
  have := book_Copied.loop es h60 h12 a s es.length 70 0 (by omega) (by omega)
  simpa using this
theorem entryR_len {k : ByteArray} {d : Int} {l : List S41} (h : entryR k d l = 0) : l.length ≤ 12 := by
  unfold entryR at h
  split at h
  · exact absurd h (by decide)
  · split at h
    · exact absurd h (by decide)
    · unfold linesR at h
      split at h
      · exact absurd h (by decide)
      · omega
theorem entriesLoop_mem {accts : List S82} : ∀ {es : List S38} {seen p}, entriesLoop accts seen p es = 0 → ∀ x ∈ es, entryR x.f0 x.f1 x.f2 = 0 ∧ knownB accts x.f2 = true
  | [], _, _, _ => fun x hx => absurd hx (by simp)
  | y :: r, seen, p, h => by
    simp only [entriesLoop] at h
    by_cases h1 : entryR y.f0 y.f1 y.f2 = 0
    · rw [if_neg (by simp [h1])] at h
      by_cases h2 : knownB accts y.f2 = false
      · rw [if_pos h2] at h; exact absurd h (by decide)
      · rw [if_neg h2] at h
        by_cases h3 : seen.any (· == y.f0.data.toList) = true
        · rw [if_pos h3] at h; exact absurd h (by decide)
        · rw [if_neg h3] at h
          obtain ⟨P, h⟩ : ∃ P : Bool, (if P = false then 3 else entriesLoop accts (seen ++ [y.f0.data.toList]) (some y) r) = 0 := ⟨_, h⟩
          cases P with
          | false => rw [if_pos rfl] at h; exact absurd h (by decide)
          | true =>
            rw [if_neg (show ¬ ((true : Bool) = false) by decide)] at h
            intro x hx
            rcases List.mem_cons.1 hx with rfl | hx
            · exact ⟨h1, by simpa using h2⟩
            · exact entriesLoop_mem h x hx
    · rw [if_pos h1] at h; exact absurd h h1
theorem bookR_parts {a : List S82} {es : List S38} {s : Int} (h : bookR a es s = 0) : acctR a = 0 ∧ -1 ≤ s ∧ s ≤ 292193 ∧ es.length ≤ 60 ∧ entriesLoop a [] none es = 0 := by
  unfold bookR at h
  by_cases h1 : acctR a = 0
  · rw [if_neg (by simp [h1])] at h
    split at h
    · exact absurd h (by decide)
    · split at h
      · exact absurd h (by decide)
      · exact ⟨h1, by omega, by omega, by omega, h⟩
  · rw [if_pos h1] at h; exact absurd h h1
theorem acctR_len {a : List S82} (h : acctR a = 0) : a.length ≤ 24 := by
  unfold acctR at h
  split at h
  · exact absurd h (by decide)
  · omega
theorem eg_42 : ∀ (args : Array Value) (W : World), (callFunc 42 args).run Try.prog W = .ok (.enter 42 args) W := fun args W => by simp [callFunc, Try.func42]; rfl
def insAt (es : List S38) (x : S38) : List S38 :=
  es.take (bsF (fun i => decide (cmpW (rd_T38 es i) x < 0)) 1001 0 es.length) ++ x :: es.drop (bsF (fun i => decide (cmpW (rd_T38 es i) x < 0)) 1001 0 es.length)
def book_Post.f (a : List S82) (es : List S38) (s : Int) (k : ByteArray) (d : Int) (l : List S41) : Option (List S82 × List S38 × Int × Int) :=
  if bookR a es s ≠ 0 then some ([], [], 0, bookR a es s) else if entryR k d l ≠ 0 then some ([], [], 0, entryR k d l) else if 0 ≤ YtlfbdcobpfainaaH.idx (fun x : S38 => x.f0.toList == k.toList) es then none else
  if knownB a l = false then some ([], [], 0, 4) else if d ≤ s then some ([], [], 0, 9) else if es.length = 60 then some ([], [], 0, 2) else some (a, insAt es ⟨k, d, l⟩, s, 0)
theorem bsF_le {p : Nat → Bool} : ∀ {k i j : Nat}, i ≤ j → bsF p k i j ≤ j
  | 0, i, j, h => h
  | k + 1, i, j, h => by
    simp only [bsF]
    split
    · split
      · exact bsF_le (by omega)
      · exact Nat.le_trans (bsF_le (by omega)) (by omega)
    · exact h
set_option maxHeartbeats 1600000 in
set_option maxRecDepth 100000 in
theorem book_Post.calls (A0_0 : Option Addr) (c0_0 : Nat) (l0_0 : List (S82)) (A0_1 : Option Addr) (c0_1 : Nat) (l0_1 : List (S38)) (a0_2 : Int) (a1_0 : ByteArray) (a1_1 : Int) (A1_2 : Option Addr) (c1_2 : Nat) (l1_2 : List (S41)) (r1 : List (S82)) (r2 : List (S38)) (r3 r4 : Int) (w : World)
    (hr0_0 : Kd.C k82 w A0_0 l0_0.length l0_0) (hc0_0 : l0_0.length ≤ c0_0) (hr0_1 : Kd.C k38 w A0_1 l0_1.length l0_1) (hc0_1 : l0_1.length ≤ c0_1) (hr1_2 : Kd.C k41 w A1_2 l1_2.length l1_2) (hc1_2 : l1_2.length ≤ c1_2) (h : book_Post.f l0_0 l0_1 a0_2 a1_0 a1_1 l1_2 = some (r1, r2, r3, r4)) :
    Calls Try.prog 12 #[.agg #[.slice A0_0 l0_0.length c0_0, .slice A0_1 l0_1.length c0_1, .int .i64 a0_2], .agg #[.string a1_0, .int .i64 a1_1, .slice A1_2 l1_2.length c1_2]] w fun e w' => ∃ v0_ v1_ : Value, e = .returned (.tuple #[.agg #[v0_, v1_, .int .i64 r3], .int .i64 r4]) ∧ Kd.R k82 82 w' w.heap.size (fun _ => True) v0_ r1 ∧ Kd.S k38 38 w' w.heap.size (fun _ => True) v1_ r2 ∧ Below w.heap.size w w' := by
  have HR0 := Aside0.mk hr0_0
  have HR1 := Aside0.mk hr0_1
  have HR2 := Aside0.mk hr1_2
  have HH := Aside0.mk h
  clear hr0_0 hr0_1 hr1_2 h
  have hu := Try.underlying32
  have hu2 := Try.underlying38
  go_enter Try.func12, Try.ntmps12
  have hcell : ∀ (W : World), Below (w.heap.size + 3) (((w.alloc (.cells #[.slice A0_0 l0_0.length c0_0, .slice A0_1 l0_1.length c0_1, .int .i64 a0_2] 32)).alloc (.cells #[.string a1_0, .int .i64 a1_1, .slice A1_2 l1_2.length c1_2] 38)).alloc (.cells #[.slice none 0 0, .slice none 0 0, .int .i64 0] 32)) W → W.cell? ⟨w.heap.size, 0, none⟩ = some (.slice A0_0 l0_0.length c0_0) ∧ W.cell? ⟨w.heap.size, 1, none⟩ = some (.slice A0_1 l0_1.length c0_1) ∧ W.cell? ⟨w.heap.size, 2, none⟩ = some (.int .i64 a0_2) ∧
      W.cell? ⟨w.heap.size + 1, 0, none⟩ = some (.string a1_0) ∧ W.cell? ⟨w.heap.size + 1, 1, none⟩ = some (.int .i64 a1_1) ∧ W.cell? ⟨w.heap.size + 1, 2, none⟩ = some (.slice A1_2 l1_2.length c1_2) := fun W hb =>
    ⟨(hb.cell (by simp)).trans (YtlfbdcobpfainaaH.old_cell (YtlfbdcobpfainaaH.old_cell (YtlfbdcobpfainaaH.new_cell _ _ _ 0 _ rfl _ rfl) _) _), (hb.cell (by simp)).trans (YtlfbdcobpfainaaH.old_cell (YtlfbdcobpfainaaH.old_cell (YtlfbdcobpfainaaH.new_cell _ _ _ 1 _ rfl _ rfl) _) _), (hb.cell (by simp)).trans (YtlfbdcobpfainaaH.old_cell (YtlfbdcobpfainaaH.old_cell (YtlfbdcobpfainaaH.new_cell _ _ _ 2 _ rfl _ rfl) _) _),
     (hb.cell (by simp)).trans (YtlfbdcobpfainaaH.old_cell (YtlfbdcobpfainaaH.new_cell _ _ _ 0 _ rfl _ (by simp)) _), (hb.cell (by simp)).trans (YtlfbdcobpfainaaH.old_cell (YtlfbdcobpfainaaH.new_cell _ _ _ 1 _ rfl _ (by simp)) _), (hb.cell (by simp)).trans (YtlfbdcobpfainaaH.old_cell (YtlfbdcobpfainaaH.new_cell _ _ _ 2 _ rfl _ (by simp)) _)⟩
  have HCELL := Aside0.mk hcell
  clear hcell
  have hww : ∀ (W : World), Below (w.heap.size + 3) (((w.alloc (.cells #[.slice A0_0 l0_0.length c0_0, .slice A0_1 l0_1.length c0_1, .int .i64 a0_2] 32)).alloc (.cells #[.string a1_0, .int .i64 a1_1, .slice A1_2 l1_2.length c1_2] 38)).alloc (.cells #[.slice none 0 0, .slice none 0 0, .int .i64 0] 32)) W → Below w.heap.size w W := fun W hb => (below_alloc (below_alloc (below_alloc (Below.refl _ _) _) _) _).trans (hb.mono (by omega))
  have hzz : ∀ (W : World), Below (w.heap.size + 3) (((w.alloc (.cells #[.slice A0_0 l0_0.length c0_0, .slice A0_1 l0_1.length c0_1, .int .i64 a0_2] 32)).alloc (.cells #[.string a1_0, .int .i64 a1_1, .slice A1_2 l1_2.length c1_2] 38)).alloc (.cells #[.slice none 0 0, .slice none 0 0, .int .i64 0] 32)) W → W.heap[w.heap.size + 1 + 1]? = some (.cells #[.slice none 0 0, .slice none 0 0, .int .i64 0] 32 (0, 0)) := fun W hb => by
    rw [hb.block _ (by omega)]
    have e : ((w.alloc (.cells #[.slice A0_0 l0_0.length c0_0, .slice A0_1 l0_1.length c0_1, .int .i64 a0_2] 32)).alloc (.cells #[.string a1_0, .int .i64 a1_1, .slice A1_2 l1_2.length c1_2] 38)).heap.size = w.heap.size + 1 + 1 := by simp
    rw [← e]; exact heap_alloc_new _ _
  have hxb : ∀ (W : World), Below (w.heap.size + 3) (((w.alloc (.cells #[.slice A0_0 l0_0.length c0_0, .slice A0_1 l0_1.length c0_1, .int .i64 a0_2] 32)).alloc (.cells #[.string a1_0, .int .i64 a1_1, .slice A1_2 l1_2.length c1_2] 38)).alloc (.cells #[.slice none 0 0, .slice none 0 0, .int .i64 0] 32)) W → W.heap[w.heap.size + 1]? = some (.cells #[.string a1_0, .int .i64 a1_1, .slice A1_2 l1_2.length c1_2] 38 (0, 0)) := fun W hb => by
    rw [hb.block _ (by omega)]
    have e : (w.alloc (.cells #[.slice A0_0 l0_0.length c0_0, .slice A0_1 l0_1.length c0_1, .int .i64 a0_2] 32)).heap.size = w.heap.size + 1 := by simp
    rw [← e, Below.heap_alloc _ _ _ (by simp)]; exact heap_alloc_new _ _
  have HXB := Aside0.mk hxb
  have hzc : ∀ (W : World), Below (w.heap.size + 3) (((w.alloc (.cells #[.slice A0_0 l0_0.length c0_0, .slice A0_1 l0_1.length c0_1, .int .i64 a0_2] 32)).alloc (.cells #[.string a1_0, .int .i64 a1_1, .slice A1_2 l1_2.length c1_2] 38)).alloc (.cells #[.slice none 0 0, .slice none 0 0, .int .i64 0] 32)) W → (W.cell? ⟨w.heap.size + 1 + 1, 0, none⟩ = some (.slice none 0 0) ∧ W.cell? ⟨w.heap.size + 1 + 1, 1, none⟩ = some (.slice none 0 0) ∧ W.cell? ⟨w.heap.size + 1 + 1, 2, none⟩ = some (.int .i64 0)) ∧
      W.frozen? ⟨w.heap.size + 1 + 1, 0, none⟩ = false ∧ W.frozen? ⟨w.heap.size + 1 + 1, 1, none⟩ = false ∧ W.frozen? ⟨w.heap.size + 1 + 1, 2, none⟩ = false := fun W hb =>
    ⟨⟨(blk_cell (hzz W hb) 0).trans rfl, (blk_cell (hzz W hb) 1).trans rfl, (blk_cell (hzz W hb) 2).trans rfl⟩, blk_frozen (hzz W hb) 0, blk_frozen (hzz W hb) 1, blk_frozen (hzz W hb) 2⟩
  have hblk : ∀ (W : World), Below (w.heap.size + 3) (((w.alloc (.cells #[.slice A0_0 l0_0.length c0_0, .slice A0_1 l0_1.length c0_1, .int .i64 a0_2] 32)).alloc (.cells #[.string a1_0, .int .i64 a1_1, .slice A1_2 l1_2.length c1_2] 38)).alloc (.cells #[.slice none 0 0, .slice none 0 0, .int .i64 0] 32)) W → ((((W.setCell ⟨w.heap.size + 1 + 1, 0, none⟩ (.slice none 0 0)).setCell ⟨w.heap.size + 1 + 1, 1, none⟩ (.slice none 0 0)).setCell ⟨w.heap.size + 1 + 1, 2, none⟩ (.int .i64 0))).heap[w.heap.size + 1 + 1]? = some (.cells #[.slice none 0 0, .slice none 0 0, .int .i64 0] 32 (0, 0)) := fun W hb =>
    blk_put (blk_put (blk_put (hzz W hb) 0 _ rfl) 1 _ rfl) 2 _ rfl
  have hend : ∀ (W : World) (x : Int), Below (w.heap.size + 3) (((w.alloc (.cells #[.slice A0_0 l0_0.length c0_0, .slice A0_1 l0_1.length c0_1, .int .i64 a0_2] 32)).alloc (.cells #[.string a1_0, .int .i64 a1_1, .slice A1_2 l1_2.length c1_2] 38)).alloc (.cells #[.slice none 0 0, .slice none 0 0, .int .i64 0] 32)) W → ∃ v0_ v1_ : Value, Ending.returned (.tuple #[.agg #[.slice none 0 0, .slice none 0 0, .int .i64 0], .int .i64 x]) = .returned (.tuple #[.agg #[v0_, v1_, .int .i64 0], .int .i64 x]) ∧ Kd.R k82 82 (((W.setCell ⟨w.heap.size + 1 + 1, 0, none⟩ (.slice none 0 0)).setCell ⟨w.heap.size + 1 + 1, 1, none⟩ (.slice none 0 0)).setCell ⟨w.heap.size + 1 + 1, 2, none⟩ (.int .i64 0)) w.heap.size (fun _ => True) v0_ [] ∧ Kd.S k38 38 (((W.setCell ⟨w.heap.size + 1 + 1, 0, none⟩ (.slice none 0 0)).setCell ⟨w.heap.size + 1 + 1, 1, none⟩ (.slice none 0 0)).setCell ⟨w.heap.size + 1 + 1, 2, none⟩ (.int .i64 0)) w.heap.size (fun _ => True) v1_ [] ∧ Below w.heap.size w (((W.setCell ⟨w.heap.size + 1 + 1, 0, none⟩ (.slice none 0 0)).setCell ⟨w.heap.size + 1 + 1, 1, none⟩ (.slice none 0 0)).setCell ⟨w.heap.size + 1 + 1, 2, none⟩ (.int .i64 0)) := fun W x hb =>
    ⟨_, _, rfl, Kd.R_nil _ _ _ _ _, Kd.S_nil _ _ _ _ _, (((hww W hb).setCell (p := ⟨w.heap.size + 1 + 1, 0, none⟩) (Nat.le_trans (Nat.le_succ _) (Nat.le_succ _)) _).setCell (p := ⟨w.heap.size + 1 + 1, 1, none⟩) (Nat.le_trans (Nat.le_succ _) (Nat.le_succ _)) _).setCell (p := ⟨w.heap.size + 1 + 1, 2, none⟩) (Nat.le_trans (Nat.le_succ _) (Nat.le_succ _)) _⟩
  have HZZ := Aside0.mk hzz
  have HZC := Aside0.mk hzc
  have HBLK := Aside0.mk hblk
  have HEND := Aside0.mk hend
  clear hzz hzc hblk hend hxb
  have HWW := Aside0.mk hww
  clear hww
  go_wp2_with fail
  refine (book_Check.calls A0_0 c0_0 l0_0 A0_1 c0_1 l0_1 a0_2 (bookR l0_0 l0_1 a0_2) _ (Kd.C_below HR0.out (HWW.out _ (Below.refl _ _))) hc0_0 (Kd.C_below HR1.out (HWW.out _ (Below.refl _ _))) hc0_1 rfl).mono ?_
  rintro e w1 ⟨rfl, hb⟩
  have HB1 := Aside0.mk (show Below (w.heap.size + 3) (((w.alloc (.cells #[.slice A0_0 l0_0.length c0_0, .slice A0_1 l0_1.length c0_1, .int .i64 a0_2] 32)).alloc (.cells #[.string a1_0, .int .i64 a1_1, .slice A1_2 l1_2.length c1_2] 38)).alloc (.cells #[.slice none 0 0, .slice none 0 0, .int .i64 0] 32)) w1 from hb.mono (by simp))
  clear hb
  by_cases hbook : bookR l0_0 l0_1 a0_2 = 0
  · have hcb : (bookR l0_0 l0_1 a0_2 == 0) = true := by rw [hbook]; rfl
    have h := HH.out
    unfold book_Post.f at h
    rw [if_neg (by simp [hbook])] at h
    have HH1 := Aside0.mk h
    have HBOOK := Aside0.mk hbook
    obtain ⟨hb0, hb1, hb2, hb3, hb4, hb5⟩ := HCELL.out w1 HB1.out
    clear h hbook HH
    go_wp2_with fail
    refine (entry_Check.calls a1_0 a1_1 A1_2 c1_2 l1_2 (entryR a1_0 a1_1 l1_2) _ (Kd.C_below HR2.out (HWW.out _ HB1.out)) hc1_2 (entry_Check.total _ _ _)).mono ?_
    rintro e w2 ⟨rfl, hb⟩
    have HB2 := Aside0.mk (show Below (w.heap.size + 3) (((w.alloc (.cells #[.slice A0_0 l0_0.length c0_0, .slice A0_1 l0_1.length c0_1, .int .i64 a0_2] 32)).alloc (.cells #[.string a1_0, .int .i64 a1_1, .slice A1_2 l1_2.length c1_2] 38)).alloc (.cells #[.slice none 0 0, .slice none 0 0, .int .i64 0] 32)) w2 from HB1.out.trans (hb.mono (by have := HB1.out.size; simpa using this)))
    clear hb hb0 hb1 hb2 hb3 hb4 hb5
    by_cases hent : entryR a1_0 a1_1 l1_2 = 0
    · have hce : (entryR a1_0 a1_1 l1_2 == 0) = true := by rw [hent]; rfl
      have h := HH1.out
      rw [if_neg (by simp [hent])] at h
      have HH2 := Aside0.mk h
      have HENT := Aside0.mk hent
      obtain ⟨hb0, hb1, hb2, hb3, hb4, hb5⟩ := HCELL.out w2 HB2.out
      clear h hent HH1
      go_wp2_with fail
      refine (book_find.calls A0_0 c0_0 l0_0 A0_1 c0_1 l0_1 a0_2 a1_0 (YtlfbdcobpfainaaH.idx (fun x : S38 => x.f0.toList == a1_0.toList) l0_1) _ (Kd.C_below HR0.out (HWW.out _ HB2.out)) hc0_0 (Kd.C_below HR1.out (HWW.out _ HB2.out)) hc0_1 rfl).mono ?_
      rintro e w3 ⟨rfl, hb⟩
      have HB3 := Aside0.mk (show Below (w.heap.size + 3) (((w.alloc (.cells #[.slice A0_0 l0_0.length c0_0, .slice A0_1 l0_1.length c0_1, .int .i64 a0_2] 32)).alloc (.cells #[.string a1_0, .int .i64 a1_1, .slice A1_2 l1_2.length c1_2] 38)).alloc (.cells #[.slice none 0 0, .slice none 0 0, .int .i64 0] 32)) w3 from HB2.out.trans (hb.mono (by have := HB2.out.size; simpa using this)))
      clear hb hb0 hb1 hb2 hb3 hb4 hb5
      by_cases hidx : 0 ≤ YtlfbdcobpfainaaH.idx (fun x : S38 => x.f0.toList == a1_0.toList) l0_1
      · have h := HH2.out
        rw [if_pos hidx] at h
        cases h
      · have h := HH2.out
        rw [if_neg hidx] at h
        have HH3 := Aside0.mk h
        obtain ⟨ix, hix⟩ : ∃ ix, ix = YtlfbdcobpfainaaH.idx (fun x : S38 => x.f0.toList == a1_0.toList) l0_1 := ⟨_, rfl⟩
        rw [← hix] at hidx ⊢
        have hid : decide (0 ≤ ix) = false := decide_eq_false hidx
        obtain ⟨hb0, hb1, hb2, hb3, hb4, hb5⟩ := HCELL.out w3 HB3.out
        clear h HH2 hidx hix
        go_wp2_with fail
        refine (book_known.calls A0_0 c0_0 l0_0 A0_1 c0_1 l0_1 a0_2 a1_0 a1_1 A1_2 c1_2 l1_2 (knownB l0_0 l1_2) _ (Kd.C_below HR0.out (HWW.out _ HB3.out)) hc0_0 (Kd.C_below HR1.out (HWW.out _ HB3.out)) hc0_1 (Kd.C_below HR2.out (HWW.out _ HB3.out)) hc1_2 rfl).mono ?_
        rintro e w4 ⟨rfl, hb⟩
        have HB4 := Aside0.mk (show Below (w.heap.size + 3) (((w.alloc (.cells #[.slice A0_0 l0_0.length c0_0, .slice A0_1 l0_1.length c0_1, .int .i64 a0_2] 32)).alloc (.cells #[.string a1_0, .int .i64 a1_1, .slice A1_2 l1_2.length c1_2] 38)).alloc (.cells #[.slice none 0 0, .slice none 0 0, .int .i64 0] 32)) w4 from HB3.out.trans (hb.mono (by have := HB3.out.size; simpa using this)))
        clear hb hb0 hb1 hb2 hb3 hb4 hb5
        have h := HH3.out
        cases hkn : knownB l0_0 l1_2 with
        | false =>
          rw [if_pos hkn] at h
          obtain ⟨rfl, rfl, rfl, rfl⟩ : [] = r1 ∧ [] = r2 ∧ 0 = r3 ∧ 4 = r4 := by simpa using h
          obtain ⟨⟨hz0, hz1, hz2⟩, hf0, hf1, hf2⟩ := HZC.out w4 HB4.out
          clear h HH3 hkn
          go_wp2_with fail
          refine bodyPost_ret (results_ct rfl _ _ (w.heap.size + 1 + 1) 32 #[.slice none 0 0, .slice none 0 0, .int .i64 0] (0, 0) _ rfl (HBLK.out _ HB4.out) Try.underlying32 rfl (by kernel_rfl)) rfl ?_
          exact HEND.out _ _ HB4.out
        | true =>
          rw [if_neg (by simp [hkn])] at h
          have HH4 := Aside0.mk h
          clear h HH3 hkn
          obtain ⟨hb0, hb1, hb2, hb3, hb4, hb5⟩ := HCELL.out w4 HB4.out
          by_cases hday : a1_1 ≤ a0_2
          · have h := HH4.out
            rw [if_pos hday] at h
            obtain ⟨rfl, rfl, rfl, rfl⟩ : [] = r1 ∧ [] = r2 ∧ 0 = r3 ∧ 9 = r4 := by simpa using h
            have hd : decide (a1_1 ≤ a0_2) = true := decide_eq_true hday
            obtain ⟨⟨hz0, hz1, hz2⟩, hf0, hf1, hf2⟩ := HZC.out w4 HB4.out
            clear h HH4 hday
            go_wp2_with fail
            refine bodyPost_ret (results_ct rfl _ _ (w.heap.size + 1 + 1) 32 #[.slice none 0 0, .slice none 0 0, .int .i64 0] (0, 0) _ rfl (HBLK.out _ HB4.out) Try.underlying32 rfl (by kernel_rfl)) rfl ?_
            exact HEND.out _ _ HB4.out
          · have h := HH4.out
            rw [if_neg hday] at h
            have hd : decide (a1_1 ≤ a0_2) = false := decide_eq_false hday
            clear hday HH4
            by_cases h60 : l0_1.length = 60
            · rw [if_pos h60] at h
              obtain ⟨rfl, rfl, rfl, rfl⟩ : [] = r1 ∧ [] = r2 ∧ 0 = r3 ∧ 2 = r4 := by simpa using h
              have h6 : ((l0_1.length : Int) == 60) = true := by rw [h60]; rfl
              obtain ⟨⟨hz0, hz1, hz2⟩, hf0, hf1, hf2⟩ := HZC.out w4 HB4.out
              clear h h60
              go_wp2_with fail
              refine bodyPost_ret (results_ct rfl _ _ (w.heap.size + 1 + 1) 32 #[.slice none 0 0, .slice none 0 0, .int .i64 0] (0, 0) _ rfl (HBLK.out _ HB4.out) Try.underlying32 rfl (by kernel_rfl)) rfl ?_
              exact HEND.out _ _ HB4.out
            · rw [if_neg h60] at h
              obtain ⟨rfl, rfl, rfl, rfl⟩ : l0_0 = r1 ∧ insAt l0_1 ⟨a1_0, a1_1, l1_2⟩ = r2 ∧ a0_2 = r3 ∧ 0 = r4 := by simpa using h
              have h6 : ((l0_1.length : Int) == 60) = false := by rw [beq_eq_false_iff_ne]; omega
              clear h
              have hparts := bookR_parts HBOOK.out
              have htot := book_Copied.total l0_0 l0_1 a0_2 (acctR_len hparts.1) hparts.2.2.2.1 (fun x hx => entryR_len (entriesLoop_mem hparts.2.2.2.2 x hx).1)
              have HLEN := Aside0.mk hparts.2.2.2.1
              clear hparts
              go_wp2_with fail
              refine (book_Copied.calls 70 A0_0 c0_0 l0_0 A0_1 c0_1 l0_1 a0_2 l0_0 l0_1 a0_2 _ (Kd.C_below HR0.out (HWW.out _ HB4.out)) hc0_0 (Kd.C_below HR1.out (HWW.out _ HB4.out)) hc0_1 htot).mono ?_
              rintro e w5 ⟨v0, v1, rfl, ho0, ho1, hb⟩
              obtain ⟨B0, d0, rfl⟩ := Kd.R_slice ho0
              obtain ⟨B1, d1, rfl⟩ := Kd.S_slice ho1
              have hs4 : w.heap.size + 3 ≤ w4.heap.size := by have := HB4.out.size; simpa using this
              have HB5 := Aside0.mk (show Below (w.heap.size + 3) (((w.alloc (.cells #[.slice A0_0 l0_0.length c0_0, .slice A0_1 l0_1.length c0_1, .int .i64 a0_2] 32)).alloc (.cells #[.string a1_0, .int .i64 a1_1, .slice A1_2 l1_2.length c1_2] 38)).alloc (.cells #[.slice none 0 0, .slice none 0 0, .int .i64 0] 32)) w5 from HB4.out.trans (hb.mono hs4))
              have HO0 := Aside0.mk ho0
              have HO1 := Aside0.mk ho1
              have hs5 : w4.heap.size ≤ w5.heap.size := hb.size
              clear hb ho0 ho1 htot hb0 hb1 hb2 hb3 hb4 hb5
              have HB6 := Aside0.mk (HB5.out.alloc (by omega) (.cells #[.slice B0 l0_0.length d0, .slice B1 l0_1.length d1, .int .i64 a0_2] 32))
              obtain ⟨hb0, hb1, hb2, hb3, hb4, hb5⟩ := HCELL.out _ HB6.out
              have hcl : api_Line_40.f l1_2 = some l1_2 := by have := entryR_len HENT.out; unfold api_Line_40.f; rw [if_pos (by omega)]
              go_wp2_with fail
              refine (api_Line_40.calls A1_2 c1_2 l1_2 l1_2 _ (Kd.C_below HR2.out (HWW.out _ HB6.out)) hc1_2 hcl).mono ?_
              rintro e w7 ⟨v2, rfl, ho2, hb⟩
              obtain ⟨B2, d2, rfl⟩ := Kd.R_slice ho2
              have HB7 := Aside0.mk (show Below (w.heap.size + 3) (((w.alloc (.cells #[.slice A0_0 l0_0.length c0_0, .slice A0_1 l0_1.length c0_1, .int .i64 a0_2] 32)).alloc (.cells #[.string a1_0, .int .i64 a1_1, .slice A1_2 l1_2.length c1_2] 38)).alloc (.cells #[.slice none 0 0, .slice none 0 0, .int .i64 0] 32)) w7 from HB6.out.trans (hb.mono (by simp; omega)))
              have hx := HXB.out w7 HB7.out
              have hob : w7.heap[w5.heap.size]? = some (.cells #[.slice B0 l0_0.length d0, .slice B1 l0_1.length d1, .int .i64 a0_2] 32 (0, 0)) := (hb.block _ (by simp)).trans (heap_alloc_new _ _)
              have hx2 : w7.cell? ⟨w.heap.size + 1, 2, none⟩ = some (.slice A1_2 l1_2.length c1_2) := (blk_cell hx 2).trans rfl
              have hxf := blk_frozen hx 2
              have HOB := Aside0.mk hob
              have HO2 := Aside0.mk ho2
              have HBC := Aside0.mk hb
              have hx8 : (w7.setCell ⟨w.heap.size + 1, 2, none⟩ (.slice B2 l1_2.length d2)).heap[w.heap.size + 1]? = some (.cells #[.string a1_0, .int .i64 a1_1, .slice B2 l1_2.length d2] 38 (0, 0)) := blk_put hx 2 _ rfl
              have ho8 : (w7.setCell ⟨w.heap.size + 1, 2, none⟩ (.slice B2 l1_2.length d2)).heap[w5.heap.size]? = some (.cells #[.slice B0 l0_0.length d0, .slice B1 l0_1.length d1, .int .i64 a0_2] 32 (0, 0)) := (Below.heap_setCell w7 ⟨w.heap.size + 1, 2, none⟩ _ w5.heap.size (by show w5.heap.size ≠ w.heap.size + 1; omega)).trans hob
              have hx80 : (w7.setCell ⟨w.heap.size + 1, 2, none⟩ (.slice B2 l1_2.length d2)).cell? ⟨w.heap.size + 1, 0, none⟩ = some (.string a1_0) := (blk_cell hx8 0).trans rfl
              have hx81 : (w7.setCell ⟨w.heap.size + 1, 2, none⟩ (.slice B2 l1_2.length d2)).cell? ⟨w.heap.size + 1, 1, none⟩ = some (.int .i64 a1_1) := (blk_cell hx8 1).trans rfl
              have hx82 : (w7.setCell ⟨w.heap.size + 1, 2, none⟩ (.slice B2 l1_2.length d2)).cell? ⟨w.heap.size + 1, 2, none⟩ = some (.slice B2 l1_2.length d2) := (blk_cell hx8 2).trans rfl
              have ho80 : (w7.setCell ⟨w.heap.size + 1, 2, none⟩ (.slice B2 l1_2.length d2)).cell? ⟨w5.heap.size, 0, none⟩ = some (.slice B0 l0_0.length d0) := (blk_cell ho8 0).trans rfl
              have ho81 : (w7.setCell ⟨w.heap.size + 1, 2, none⟩ (.slice B2 l1_2.length d2)).cell? ⟨w5.heap.size, 1, none⟩ = some (.slice B1 l0_1.length d1) := (blk_cell ho8 1).trans rfl
              have ho82 : (w7.setCell ⟨w.heap.size + 1, 2, none⟩ (.slice B2 l1_2.length d2)).cell? ⟨w5.heap.size, 2, none⟩ = some (.int .i64 a0_2) := (blk_cell ho8 2).trans rfl
              have HX8 := Aside0.mk hx8
              have HO8 := Aside0.mk ho8
              have hS8 : Kd.S k38 38 (w7.setCell ⟨w.heap.size + 1, 2, none⟩ (.slice B2 l1_2.length d2)) w4.heap.size (fun k => w4.heap.size ≤ k ∧ k < w5.heap.size) (.slice B1 l0_1.length d1) l0_1 :=
                Kd.S_far (p := ⟨w.heap.size + 1, 2, none⟩) (Kd.S_below (Kd.S_alloc (Kd.S_mono (Kd.S_bound HO1.out) (fun k hk => ⟨hk.2.1, hk.2.2.1⟩)) _) hb) (fun k hk => by show k ≠ w.heap.size + 1; omega) _
              have hR80 : Kd.R k82 82 (w7.setCell ⟨w.heap.size + 1, 2, none⟩ (.slice B2 l1_2.length d2)) w4.heap.size (fun k => w4.heap.size ≤ k ∧ k < w5.heap.size) (.slice B0 l0_0.length d0) l0_0 :=
                Kd.R_far (p := ⟨w.heap.size + 1, 2, none⟩) (Kd.R_below (Kd.R_alloc (Kd.R_mono (Kd.R_bound HO0.out) (fun k hk => ⟨hk.2.1, hk.2.2.1⟩)) _) hb) (fun k hk => by show k ≠ w.heap.size + 1; omega) _
              have hR82 : Kd.R k41 41 (w7.setCell ⟨w.heap.size + 1, 2, none⟩ (.slice B2 l1_2.length d2)) w4.heap.size (fun k => w5.heap.size ≤ k) (.slice B2 l1_2.length d2) l1_2 :=
                Kd.R_far (p := ⟨w.heap.size + 1, 2, none⟩) (Kd.R_lower (Kd.R_mono (Kd.R_bound ho2) (fun k hk => by have := hk.2.1; simp at this; show w5.heap.size ≤ k; omega)) (by simp; omega)) (fun k hk => by show k ≠ w.heap.size + 1; have : w5.heap.size ≤ k := hk; omega) _
              have HS8 := Aside0.mk hS8
              have HR80 := Aside0.mk hR80
              have HR82 := Aside0.mk hR82
              have HB8 := Aside0.mk (show Below w.heap.size w (w7.setCell ⟨w.heap.size + 1, 2, none⟩ (.slice B2 l1_2.length d2)) from (HWW.out _ HB7.out).setCell (p := ⟨w.heap.size + 1, 2, none⟩) (Nat.le_succ _) _)
              have hs7 : w5.heap.size + 1 ≤ w7.heap.size := by have := hb.size; simpa using this
              clear hb0 hb1 hb2 hb3 hb4 hb5 hcl hx hob ho2 hb hx8 ho8 hS8 hR80 hR82
              go_wp2_with fail
              refine (bsearch_Entry 42 #[] eg_42 (fun y => cmpW y ⟨a1_0, a1_1, l1_2⟩) a1_0 a1_1 B2 d2 l1_2.length B1 d1 l0_1 _ (Kd.S_reads' HS8.out).2.2 (Kd.S_reads' HS8.out).2.1 (by have := HLEN.out; omega) (fun y A3 c3 W _ hbW h3 hr3 => book_cmp.calls y.f0 y.f1 A3 c3 y.f2 a1_0 a1_1 B2 d2 l1_2 (cmpW y ⟨a1_0, a1_1, l1_2⟩) W hr3 h3 (Kd.C_below (Kd.R_reads' HR82.out).2.2 hbW) (Kd.R_reads' HR82.out).2.1 (book_cmp.total y ⟨a1_0, a1_1, l1_2⟩))).mono ?_
              rintro e w9 ⟨⟨bb, rfl⟩, hb⟩
              have hbi := bsF_le (p := fun i : Nat => decide (cmpW (rd_T38 l0_1 i) ⟨a1_0, a1_1, l1_2⟩ < 0)) (k := 1001) (Nat.zero_le l0_1.length)
              have hins : insAt l0_1 ⟨a1_0, a1_1, l1_2⟩ = l0_1.take (bsF (fun i : Nat => decide (cmpW (rd_T38 l0_1 i) ⟨a1_0, a1_1, l1_2⟩ < 0)) 1001 0 l0_1.length) ++ ⟨a1_0, a1_1, l1_2⟩ :: l0_1.drop (bsF (fun i : Nat => decide (cmpW (rd_T38 l0_1 i) ⟨a1_0, a1_1, l1_2⟩ < 0)) 1001 0 l0_1.length) := rfl
              generalize hbe : bsF (fun i : Nat => decide (cmpW (rd_T38 l0_1 i) ⟨a1_0, a1_1, l1_2⟩ < 0)) 1001 0 l0_1.length = bi at hbi hins ⊢
              have HINS := Aside0.mk hins
              have HBI := Aside0.mk hbi
              have hs9 : w7.heap.size ≤ w9.heap.size := by have := hb.size; simpa [World.setCell] using this
              have hx9 : w9.heap[w.heap.size + 1]? = some (.cells #[.string a1_0, .int .i64 a1_1, .slice B2 l1_2.length d2] 38 (0, 0)) := (hb.block _ (by simp [World.setCell]; omega)).trans HX8.out
              have ho9 : w9.heap[w5.heap.size]? = some (.cells #[.slice B0 l0_0.length d0, .slice B1 l0_1.length d1, .int .i64 a0_2] 32 (0, 0)) := (hb.block _ (by simp [World.setCell]; omega)).trans HO8.out
              have hx80 : w9.cell? ⟨w.heap.size + 1, 0, none⟩ = some (.string a1_0) := (blk_cell hx9 0).trans rfl
              have hx81 : w9.cell? ⟨w.heap.size + 1, 1, none⟩ = some (.int .i64 a1_1) := (blk_cell hx9 1).trans rfl
              have hx82 : w9.cell? ⟨w.heap.size + 1, 2, none⟩ = some (.slice B2 l1_2.length d2) := (blk_cell hx9 2).trans rfl
              have ho80 : w9.cell? ⟨w5.heap.size, 0, none⟩ = some (.slice B0 l0_0.length d0) := (blk_cell ho9 0).trans rfl
              have ho81 : w9.cell? ⟨w5.heap.size, 1, none⟩ = some (.slice B1 l0_1.length d1) := (blk_cell ho9 1).trans rfl
              have ho82 : w9.cell? ⟨w5.heap.size, 2, none⟩ = some (.int .i64 a0_2) := (blk_cell ho9 2).trans rfl
              have HX9 := Aside0.mk hx9
              have HO9 := Aside0.mk ho9
              have HBD := Aside0.mk hb
              have hz9 : w9.heap[w.heap.size + 1 + 1]? = some (.cells #[.slice none 0 0, .slice none 0 0, .int .i64 0] 32 (0, 0)) := (hb.block _ (by simp [World.setCell]; omega)).trans ((Below.heap_setCell w7 ⟨w.heap.size + 1, 2, none⟩ _ (w.heap.size + 1 + 1) (by show w.heap.size + 1 + 1 ≠ w.heap.size + 1; omega)).trans (HZZ.out w7 HB7.out))
              have hS10 : Kd.S k38 38 (w9.alloc (.cells #[.string a1_0, .int .i64 a1_1, .slice B2 l1_2.length d2] 38)) w4.heap.size (fun k => w4.heap.size ≤ k ∧ k < w5.heap.size) (.slice B1 l0_1.length d1) l0_1 := Kd.S_alloc (Kd.S_below HS8.out hb) _
              have hR0 : Kd.R k82 82 (w9.alloc (.cells #[.string a1_0, .int .i64 a1_1, .slice B2 l1_2.length d2] 38)) w4.heap.size (fun k => w4.heap.size ≤ k ∧ k < w5.heap.size) (.slice B0 l0_0.length d0) l0_0 := Kd.R_alloc (Kd.R_below HR80.out hb) _
              have hR2 : Kd.R k41 41 (w9.alloc (.cells #[.string a1_0, .int .i64 a1_1, .slice B2 l1_2.length d2] 38)) w4.heap.size (fun k => w5.heap.size ≤ k) (.slice B2 l1_2.length d2) l1_2 := Kd.R_alloc (Kd.R_below HR82.out hb) _
              have hown : ∀ k, (Value.slice B1 l0_1.length d1).ownBlock = some k → w4.heap.size ≤ k ∧ k < w5.heap.size := (Kd.S_R hS10).1
              have hcall : Calls Try.prog 43 #[.slice B1 l0_1.length d1, .int .i64 bi, .slice (some ⟨w9.heap.size, 0, none⟩) 1 1] (w9.alloc (.cells #[.string a1_0, .int .i64 a1_1, .slice B2 l1_2.length d2] 38)) fun e w' => ∃ B3 d3, e = .returned (.slice B3 (insAt l0_1 ⟨a1_0, a1_1, l1_2⟩).length d3) ∧ Kd.S k38 38 w' w4.heap.size (fun k => w4.heap.size ≤ k) (.slice B3 (insAt l0_1 ⟨a1_0, a1_1, l1_2⟩).length d3) (insAt l0_1 ⟨a1_0, a1_1, l1_2⟩) ∧ Kd.R k82 82 w' w4.heap.size (fun k => w4.heap.size ≤ k ∧ k < w5.heap.size) (.slice B0 l0_0.length d0) l0_0 ∧ (w9.alloc (.cells #[.string a1_0, .int .i64 a1_1, .slice B2 l1_2.length d2] 38)).grownBy w' (Value.slice B1 l0_1.length d1).ownBlock := by
                obtain ⟨f, hf, hR⟩ := Kd.S_tag hS10 l0_1.length (fun k => w5.heap.size ≤ k) (fun k h1 h2 => by have h1' : w5.heap.size ≤ k := h1; omega)
                refine (insert_Entry.core f (.slice B1 l0_1.length d1) l0_1.zipIdx bi w9.heap.size 1 (⟨a1_0, a1_1, l1_2⟩, l0_1.length) [.string a1_0, .int .i64 a1_1, .slice B2 l1_2.length d2] [] (w9.alloc (.cells #[.string a1_0, .int .i64 a1_1, .slice B2 l1_2.length d2] 38)) w4.heap.size (fun k => w4.heap.size ≤ k) (fun k => w5.heap.size ≤ k)
                  (Kd.R_mono hR (fun k hk => hk.1)) (heap_alloc_new _ _) (fun e => by have := hown _ e.symm; omega) ?hM (fun k hk => ⟨by have : w5.heap.size ≤ k := hk; show w4.heap.size ≤ k; omega, fun e => by have := hown _ e.symm; have : w5.heap.size ≤ k := hk; omega⟩) (by simp; omega) (fun k hk => by simp at hk; show w4.heap.size ≤ k; omega) (by rw [List.length_zipIdx]; exact HBI.out) (by rw [List.length_zipIdx]; have := HLEN.out; omega)).mono ?_
                case hM => exact k38_mkM _ _ _ ⟨a1_0, a1_1, l1_2⟩ (Kd.R_mono hR2 (fun k hk => ⟨hk, hf k hk⟩))
                rintro e w' ⟨v, rfl, hv, hg⟩
                have hs := YtlfbdcobpfainaaH.S_of_tagged hv (YtlfbdcobpfainaaH.zip_insert_nodup _ _ _)
                rw [YtlfbdcobpfainaaH.zip_insert_fst, ← HINS.out] at hs
                obtain ⟨B3, d3, rfl⟩ := Kd.S_slice hs
                exact ⟨B3, d3, rfl, hs, Kd.R_over' hR0 (Kd.S_typed hS10) (by decide) hg, hg⟩
              have HCALL := Aside0.mk hcall
              have HOWN := Aside0.mk hown
              have HZ9 := Aside0.mk hz9
              clear hins hbi hbe hx9 ho9 hb hS10 hR0 hR2 hcall hown hz9
              go_wp2_with fail
              refine HCALL.out.mono ?_
              rintro e w11 ⟨B3, d3, rfl, hs, hr0, hg⟩
              have hb11 : ∀ b, b < w4.heap.size ∨ b = w5.heap.size → w11.heap[b]? = w9.heap[b]? := fun b hb => (hg.block b (by simp; omega) (fun e => by have := HOWN.out b e.symm; omega)).trans (Below.heap_alloc _ _ _ (by omega))
              have ho11 := (hb11 w5.heap.size (.inr rfl)).trans HO9.out
              have hz11 := (hb11 (w.heap.size + 1 + 1) (.inl (by omega))).trans HZ9.out
              have HS11 := Aside0.mk hs
              have HR11 := Aside0.mk hr0
              have HG11 := Aside0.mk hg
              have ho80 : w11.cell? ⟨w5.heap.size, 0, none⟩ = some (.slice B0 l0_0.length d0) := (blk_cell ho11 0).trans rfl
              have ho81 : w11.cell? ⟨w5.heap.size, 1, none⟩ = some (.slice B1 l0_1.length d1) := (blk_cell ho11 1).trans rfl
              have ho82 : w11.cell? ⟨w5.heap.size, 2, none⟩ = some (.int .i64 a0_2) := (blk_cell ho11 2).trans rfl
              have hf1 := blk_frozen ho11 1
              have HO11 := Aside0.mk ho11
              have HZ11 := Aside0.mk hz11
              have hz12 : (w11.setCell ⟨w5.heap.size, 1, none⟩ (.slice B3 (insAt l0_1 ⟨a1_0, a1_1, l1_2⟩).length d3)).heap[w.heap.size + 1 + 1]? = some (.cells #[.slice none 0 0, .slice none 0 0, .int .i64 0] 32 (0, 0)) := (Below.heap_setCell w11 ⟨w5.heap.size, 1, none⟩ _ (w.heap.size + 1 + 1) (by show w.heap.size + 1 + 1 ≠ w5.heap.size; omega)).trans hz11
              have hz0 : (w11.setCell ⟨w5.heap.size, 1, none⟩ (.slice B3 (insAt l0_1 ⟨a1_0, a1_1, l1_2⟩).length d3)).cell? ⟨w.heap.size + 1 + 1, 0, none⟩ = some (.slice none 0 0) := (blk_cell hz12 0).trans rfl
              have hz1 : (w11.setCell ⟨w5.heap.size, 1, none⟩ (.slice B3 (insAt l0_1 ⟨a1_0, a1_1, l1_2⟩).length d3)).cell? ⟨w.heap.size + 1 + 1, 1, none⟩ = some (.slice none 0 0) := (blk_cell hz12 1).trans rfl
              have hz2 : (w11.setCell ⟨w5.heap.size, 1, none⟩ (.slice B3 (insAt l0_1 ⟨a1_0, a1_1, l1_2⟩).length d3)).cell? ⟨w.heap.size + 1 + 1, 2, none⟩ = some (.int .i64 0) := (blk_cell hz12 2).trans rfl
              have hzf0 := blk_frozen hz12 0
              have hzf1 := blk_frozen hz12 1
              have hzf2 := blk_frozen hz12 2
              have hblk : ((((w11.setCell ⟨w5.heap.size, 1, none⟩ (.slice B3 (insAt l0_1 ⟨a1_0, a1_1, l1_2⟩).length d3)).setCell ⟨w.heap.size + 1 + 1, 0, none⟩ (.slice B0 l0_0.length d0)).setCell ⟨w.heap.size + 1 + 1, 1, none⟩ (.slice B3 (insAt l0_1 ⟨a1_0, a1_1, l1_2⟩).length d3)).setCell ⟨w.heap.size + 1 + 1, 2, none⟩ (.int .i64 a0_2)).heap[w.heap.size + 1 + 1]? = some (.cells #[.slice B0 l0_0.length d0, .slice B3 (insAt l0_1 ⟨a1_0, a1_1, l1_2⟩).length d3, .int .i64 a0_2] 32 (0, 0)) := blk_put (blk_put (blk_put hz12 0 _ rfl) 1 _ rfl) 2 _ rfl
              have hS13 : Kd.S k38 38 ((((w11.setCell ⟨w5.heap.size, 1, none⟩ (.slice B3 (insAt l0_1 ⟨a1_0, a1_1, l1_2⟩).length d3)).setCell ⟨w.heap.size + 1 + 1, 0, none⟩ (.slice B0 l0_0.length d0)).setCell ⟨w.heap.size + 1 + 1, 1, none⟩ (.slice B3 (insAt l0_1 ⟨a1_0, a1_1, l1_2⟩).length d3)).setCell ⟨w.heap.size + 1 + 1, 2, none⟩ (.int .i64 a0_2)) w.heap.size (fun _ => True) (.slice B3 (insAt l0_1 ⟨a1_0, a1_1, l1_2⟩).length d3) (insAt l0_1 ⟨a1_0, a1_1, l1_2⟩) :=
                Kd.S_mono (Kd.S_lower (Kd.S_far (p := ⟨w.heap.size + 1 + 1, 2, none⟩) (Kd.S_far (p := ⟨w.heap.size + 1 + 1, 1, none⟩) (Kd.S_far (p := ⟨w.heap.size + 1 + 1, 0, none⟩) (Kd.S_far (p := ⟨w5.heap.size, 1, none⟩) (Kd.S_types hs ho11 (by decide)) (fun k hk => hk.2) _)
                  (fun k hk => by have h1 : w4.heap.size ≤ k := hk.1; show k ≠ w.heap.size + 1 + 1; omega) _) (fun k hk => by have h1 : w4.heap.size ≤ k := hk.1; show k ≠ w.heap.size + 1 + 1; omega) _) (fun k hk => by have h1 : w4.heap.size ≤ k := hk.1; show k ≠ w.heap.size + 1 + 1; omega) _) (by omega)) (fun _ _ => trivial)
              have hR13 : Kd.R k82 82 ((((w11.setCell ⟨w5.heap.size, 1, none⟩ (.slice B3 (insAt l0_1 ⟨a1_0, a1_1, l1_2⟩).length d3)).setCell ⟨w.heap.size + 1 + 1, 0, none⟩ (.slice B0 l0_0.length d0)).setCell ⟨w.heap.size + 1 + 1, 1, none⟩ (.slice B3 (insAt l0_1 ⟨a1_0, a1_1, l1_2⟩).length d3)).setCell ⟨w.heap.size + 1 + 1, 2, none⟩ (.int .i64 a0_2)) w.heap.size (fun _ => True) (.slice B0 l0_0.length d0) l0_0 :=
                Kd.R_mono (Kd.R_lower (Kd.R_far (p := ⟨w.heap.size + 1 + 1, 2, none⟩) (Kd.R_far (p := ⟨w.heap.size + 1 + 1, 1, none⟩) (Kd.R_far (p := ⟨w.heap.size + 1 + 1, 0, none⟩) (Kd.R_far (p := ⟨w5.heap.size, 1, none⟩) hr0 (fun k hk => by show k ≠ w5.heap.size; omega) _)
                  (fun k hk => by show k ≠ w.heap.size + 1 + 1; omega) _) (fun k hk => by show k ≠ w.heap.size + 1 + 1; omega) _) (fun k hk => by show k ≠ w.heap.size + 1 + 1; omega) _) (by omega)) (fun _ _ => trivial)
              have hBW : Below w.heap.size w ((((w11.setCell ⟨w5.heap.size, 1, none⟩ (.slice B3 (insAt l0_1 ⟨a1_0, a1_1, l1_2⟩).length d3)).setCell ⟨w.heap.size + 1 + 1, 0, none⟩ (.slice B0 l0_0.length d0)).setCell ⟨w.heap.size + 1 + 1, 1, none⟩ (.slice B3 (insAt l0_1 ⟨a1_0, a1_1, l1_2⟩).length d3)).setCell ⟨w.heap.size + 1 + 1, 2, none⟩ (.int .i64 a0_2)) := ((((((HB8.out.trans (HBD.out.mono (by simp [World.setCell]; omega))).alloc (by omega) _).grown hg (by simp; omega) (fun k hk => by have := HOWN.out k hk; omega)).setCell (p := ⟨w5.heap.size, 1, none⟩) (by show w.heap.size ≤ w5.heap.size; omega) _).setCell (p := ⟨w.heap.size + 1 + 1, 0, none⟩) (by show w.heap.size ≤ w.heap.size + 1 + 1; omega) _).setCell (p := ⟨w.heap.size + 1 + 1, 1, none⟩) (by show w.heap.size ≤ w.heap.size + 1 + 1; omega) _).setCell (p := ⟨w.heap.size + 1 + 1, 2, none⟩) (by show w.heap.size ≤ w.heap.size + 1 + 1; omega) _
              have HBLK2 := Aside0.mk hblk
              have HEND2 := Aside0.mk (And.intro hR13 (And.intro hS13 hBW))
              clear hs hr0 hg hb11 ho11 hz11 hblk hS13 hR13 hBW hz12
              go_wp2_with fail
              refine bodyPost_ret (results_ct rfl _ _ (w.heap.size + 1 + 1) 32 #[.slice B0 l0_0.length d0, .slice B3 (insAt l0_1 ⟨a1_0, a1_1, l1_2⟩).length d3, .int .i64 a0_2] (0, 0) _ rfl HBLK2.out Try.underlying32 rfl (by kernel_rfl)) rfl ?_
              exact ⟨_, _, rfl, HEND2.out⟩
    · have h := HH1.out
      rw [if_pos hent] at h
      obtain ⟨rfl, rfl, rfl, rfl⟩ : [] = r1 ∧ [] = r2 ∧ 0 = r3 ∧ entryR a1_0 a1_1 l1_2 = r4 := by simpa using h
      have hce : (entryR a1_0 a1_1 l1_2 == 0) = false := by rw [beq_eq_false_iff_ne]; exact hent
      clear h HH1 hent
      obtain ⟨⟨hz0, hz1, hz2⟩, hf0, hf1, hf2⟩ := HZC.out w2 HB2.out
      go_wp2_with fail
      refine bodyPost_ret (results_ct rfl _ _ (w.heap.size + 1 + 1) 32 #[.slice none 0 0, .slice none 0 0, .int .i64 0] (0, 0) _ rfl (HBLK.out _ HB2.out) Try.underlying32 rfl (by kernel_rfl)) rfl ?_
      exact HEND.out _ _ HB2.out
  · have h := HH.out
    unfold book_Post.f at h
    rw [if_pos hbook] at h
    obtain ⟨rfl, rfl, rfl, rfl⟩ : [] = r1 ∧ [] = r2 ∧ 0 = r3 ∧ bookR l0_0 l0_1 a0_2 = r4 := by simpa using h
    have hce : (bookR l0_0 l0_1 a0_2 == 0) = false := by rw [beq_eq_false_iff_ne]; exact hbook
    obtain ⟨⟨hz0, hz1, hz2⟩, hf0, hf1, hf2⟩ := HZC.out w1 HB1.out
    clear h HH hbook
    go_wp2_with fail
    refine bodyPost_ret (results_ct rfl _ _ (w.heap.size + 1 + 1) 32 #[.slice none 0 0, .slice none 0 0, .int .i64 0] (0, 0) _ rfl (HBLK.out _ HB1.out) Try.underlying32 rfl (by kernel_rfl)) rfl ?_
    exact HEND.out _ _ HB1.out
end Go.Proofs.Ytlfbdcobpfainaa.S
