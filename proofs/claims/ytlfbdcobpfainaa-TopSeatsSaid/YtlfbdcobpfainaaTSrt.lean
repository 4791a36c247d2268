/- Part of the proof, with what it needs of the printed words alone. -/
import Derived.Test.YtlfbdcobpfainaaTWWords
import Derived.Test.YtlfbdcobpfainaaTWKept
set_option linter.unusedVariables false
set_option linter.unusedSimpArgs false
namespace Go.Proofs.YtlfbdcobpfainaaSrt
open Go.RowKit Go.Proofs.YtlfbdcobpfainaaW.PrintWords
section
variable {α : Type}
def at_ (z : α) (xs : List α) (i : Nat) : α := xs.getD i z
def swp (z : α) (xs : List α) (i j : Nat) : List α := if i < xs.length ∧ j < xs.length then (xs.set i (at_ z xs j)).set j (at_ z xs i) else xs
theorem at_mem {z : α} {xs : List α} {i : Nat} (h : i < xs.length) : at_ z xs i ∈ xs := by
  unfold at_
  rw [List.getD_eq_getElem?_getD, List.getElem?_eq_getElem h]
  exact List.getElem_mem h
theorem swp_perm (z : α) (xs : List α) (i j : Nat) : (swp z xs i j).Perm xs := by
  unfold swp
  split
  · rename_i h
    have := List.set_set_perm (as := xs) h.1 h.2
    simpa [at_, List.getD_eq_getElem?_getD, h.1, h.2] using this
  · exact List.Perm.refl _
theorem swp_in {z : α} {xs : List α} {i j : Nat} (hi : i < xs.length) (hj : j < xs.length) : swp z xs i j = (xs.set i (at_ z xs j)).set j (at_ z xs i) := if_pos ⟨hi, hj⟩
def bs (p : Nat → Bool) : Nat → Nat → Nat → Nat
  | 0, i, _ => i
  | k + 1, i, j => if i < j then (if p ((i + j) / 2) = true then bs p k ((i + j) / 2 + 1) j else bs p k i ((i + j) / 2)) else i
theorem bs_hit {p : Nat → Bool} {k i j : Nat} (h : i < j) (hp : p ((i + j) / 2) = true) : bs p (k + 1) i j = bs p k ((i + j) / 2 + 1) j := by simp only [bs]; rw [if_pos h, if_pos hp]
theorem bs_miss {p : Nat → Bool} {k i j : Nat} (h : i < j) (hp : p ((i + j) / 2) = false) : bs p (k + 1) i j = bs p k i ((i + j) / 2) := by simp only [bs]; rw [if_pos h, if_neg (by rw [hp]; decide)]
theorem bs_end {p : Nat → Bool} {k i : Nat} : bs p k i i = i := by cases k with | zero => rfl | succ k => simp only [bs]; rw [if_neg (by omega)]
variable (lt : α → α → Bool) (z : α)
def insIn (a : Nat) : Nat → List α → List α
  | 0, xs => xs
  | j + 1, xs => if a < j + 1 then (if lt (at_ z xs (j + 1)) (at_ z xs j) = true then insIn a j (swp z xs (j + 1) j) else xs) else xs
def insOut (a : Nat) : Nat → Nat → List α → List α
  | 0, _, xs => xs
  | d + 1, i, xs => insOut a d (i + 1) (insIn lt z a i xs)
def ins (a b : Nat) (xs : List α) : List α := insOut lt z a (b - (a + 1)) (a + 1) xs
def upM : Nat → Nat → List α → List α
  | 0, _, xs => xs
  | d + 1, k, xs => upM d (k + 1) (swp z xs k (k + 1))
def downM (i : Nat) : Nat → List α → List α
  | 0, xs => xs
  | k + 1, xs => if i < k + 1 then downM i k (swp z xs (k + 1) k) else xs
def swR (a b : Nat) : Nat → Nat → List α → List α
  | 0, _, xs => xs
  | d + 1, i, xs => swR a b d (i + 1) (swp z xs (a + i) (b + i))
def rotM (m : Nat) : Nat → Nat → Nat → List α → List α
  | 0, i, _, xs => swR z (m - i) m i 0 xs
  | f + 1, i, j, xs => if i = j then swR z (m - i) m i 0 xs else if j < i then rotM m f (i - j) j (swR z (m - i) m j 0 xs) else rotM m f i (j - i) (swR z (m - i) (m + j - i) i 0 xs)
def symI1 (a m b : Nat) (xs : List α) : Nat := bs (fun h => lt (at_ z xs h) (at_ z xs a)) (b - m + 1) m b
def symI2 (a m : Nat) (xs : List α) : Nat := bs (fun h => !lt (at_ z xs m) (at_ z xs h)) (m - a + 1) a m
def symS (a m b : Nat) (xs : List α) : Nat := bs (fun c => !lt (at_ z xs ((a + b) / 2 + m - 1 - c)) (at_ z xs c)) ((if (a + b) / 2 < m then (a + b) / 2 else m) - (if (a + b) / 2 < m then (a + b) / 2 + m - b else a) + 1) (if (a + b) / 2 < m then (a + b) / 2 + m - b else a) (if (a + b) / 2 < m then (a + b) / 2 else m)
def symR (a m b : Nat) (s : Nat) (xs : List α) : List α := if s < m ∧ m < (a + b) / 2 + m - s then rotM z m ((a + b) / 2 + m - s - s) (m - s) ((a + b) / 2 + m - s - m) xs else xs
def sym : Nat → Nat → Nat → Nat → List α → List α
  | 0, _, _, _, xs => xs
  | f + 1, a, m, b, xs =>
    if m - a = 1 then upM z (symI1 lt z a m b xs - 1 - a) a xs
    else if b - m = 1 then downM z (symI2 lt z a m xs) m xs
    else
      let s := symS lt z a m b xs
      let x1 := symR z a m b s xs
      let x2 := if a < s ∧ s < (a + b) / 2 then sym f a s ((a + b) / 2) x1 else x1
      if (a + b) / 2 < (a + b) / 2 + m - s ∧ (a + b) / 2 + m - s < b then sym f ((a + b) / 2) ((a + b) / 2 + m - s) b x2 else x2
def symC (f a m b : Nat) (xs : List α) : List α :=
  if (a + b) / 2 < (a + b) / 2 + m - symS lt z a m b xs ∧ (a + b) / 2 + m - symS lt z a m b xs < b then
    sym lt z f ((a + b) / 2) ((a + b) / 2 + m - symS lt z a m b xs) b (if a < symS lt z a m b xs ∧ symS lt z a m b xs < (a + b) / 2 then sym lt z f a (symS lt z a m b xs) ((a + b) / 2) (symR z a m b (symS lt z a m b xs) xs) else symR z a m b (symS lt z a m b xs) xs)
  else (if a < symS lt z a m b xs ∧ symS lt z a m b xs < (a + b) / 2 then sym lt z f a (symS lt z a m b xs) ((a + b) / 2) (symR z a m b (symS lt z a m b xs) xs) else symR z a m b (symS lt z a m b xs) xs)
theorem sym_succ (f a m b : Nat) (xs : List α) : sym lt z (f + 1) a m b xs = if m - a = 1 then upM z (symI1 lt z a m b xs - 1 - a) a xs else if b - m = 1 then downM z (symI2 lt z a m xs) m xs else symC lt z f a m b xs := rfl
def stab (xs : List α) : List α := if xs.length ≤ 20 then ins lt z 0 xs.length xs else sym lt z 40 0 20 xs.length (ins lt z 20 xs.length (ins lt z 0 20 xs))
variable {lt z}
theorem insIn_perm (a : Nat) : ∀ (j : Nat) (xs : List α), (insIn lt z a j xs).Perm xs
  | 0, _ => List.Perm.refl _
  | j + 1, xs => by
    simp only [insIn]
    split
    · split
      · exact (insIn_perm a j _).trans (swp_perm _ _ _ _)
      · exact List.Perm.refl _
    · exact List.Perm.refl _
theorem insOut_perm (a : Nat) : ∀ (d i : Nat) (xs : List α), (insOut lt z a d i xs).Perm xs
  | 0, _, _ => List.Perm.refl _
  | d + 1, i, xs => (insOut_perm a d (i + 1) _).trans (insIn_perm a i xs)
theorem ins_perm (a b : Nat) (xs : List α) : (ins lt z a b xs).Perm xs := insOut_perm _ _ _ _
theorem upM_perm : ∀ (d k : Nat) (xs : List α), (upM z d k xs).Perm xs
  | 0, _, _ => List.Perm.refl _
  | d + 1, k, xs => (upM_perm d (k + 1) _).trans (swp_perm _ _ _ _)
theorem downM_perm (i : Nat) : ∀ (k : Nat) (xs : List α), (downM z i k xs).Perm xs
  | 0, _ => List.Perm.refl _
  | k + 1, xs => by
    simp only [downM]
    split
    · exact (downM_perm i k _).trans (swp_perm _ _ _ _)
    · exact List.Perm.refl _
theorem swR_perm (a b : Nat) : ∀ (d i : Nat) (xs : List α), (swR z a b d i xs).Perm xs
  | 0, _, _ => List.Perm.refl _
  | d + 1, i, xs => (swR_perm a b d (i + 1) _).trans (swp_perm _ _ _ _)
theorem rotM_perm (m : Nat) : ∀ (f i j : Nat) (xs : List α), (rotM z m f i j xs).Perm xs
  | 0, _, _, _ => swR_perm _ _ _ _ _
  | f + 1, i, j, xs => by
    simp only [rotM]
    split
    · exact swR_perm _ _ _ _ _
    · split
      · exact (rotM_perm m f _ _ _).trans (swR_perm _ _ _ _ _)
      · exact (rotM_perm m f _ _ _).trans (swR_perm _ _ _ _ _)
theorem symR_perm (a m b s : Nat) (xs : List α) : (symR z a m b s xs).Perm xs := by
  unfold symR
  split
  · exact rotM_perm _ _ _ _ _
  · exact List.Perm.refl _
theorem sym_perm : ∀ (f a m b : Nat) (xs : List α), (sym lt z f a m b xs).Perm xs
  | 0, _, _, _, _ => List.Perm.refl _
  | f + 1, a, m, b, xs => by
    simp only [sym]
    split
    · exact upM_perm _ _ _
    · split
      · exact downM_perm _ _ _
      · have h2 : (if a < symS lt z a m b xs ∧ symS lt z a m b xs < (a + b) / 2 then sym lt z f a (symS lt z a m b xs) ((a + b) / 2) (symR z a m b (symS lt z a m b xs) xs) else symR z a m b (symS lt z a m b xs) xs).Perm xs := by
          split
          · exact (sym_perm f _ _ _ _).trans (symR_perm _ _ _ _ _)
          · exact symR_perm _ _ _ _ _
        split
        · exact (sym_perm f _ _ _ _).trans h2
        · exact h2
theorem stab_perm (xs : List α) : (stab lt z xs).Perm xs := by
  unfold stab
  split
  · exact ins_perm _ _ _
  · exact (sym_perm _ _ _ _ _).trans ((ins_perm _ _ _).trans (ins_perm _ _ _))
end
theorem symB_low {a m b i : Nat} (h1 : a < m) (h2 : m < b) (hb : ¬ (a + b) / 2 < m) (hlo : a ≤ i) (hhi : i ≤ m) : i ≤ m ∧ m ≤ (a + b) / 2 + m - i ∧ a ≤ i ∧ (a + b) / 2 + m - i ≤ b ∧ i ≤ (a + b) / 2 ∧ (a + b) / 2 ≤ (a + b) / 2 + m - i := by omega
theorem symB_big {a m b i : Nat} (h1 : a < m) (h2 : m < b) (hb : (a + b) / 2 < m) (hlo : (a + b) / 2 + m - b ≤ i) (hhi : i ≤ (a + b) / 2) : i ≤ m ∧ m ≤ (a + b) / 2 + m - i ∧ a ≤ i ∧ (a + b) / 2 + m - i ≤ b ∧ i ≤ (a + b) / 2 ∧ (a + b) / 2 ≤ (a + b) / 2 + m - i := by omega
section
variable {α : Type}
def Row (e : TypeId) (enc : α → List Value) (g : Nat) (rest : List Value) (xs : List α) (w : World) : Prop := w.heap[g]? = some (.cells (xs.flatMap enc ++ rest).toArray e (0, 0))
theorem flat_get {enc : α → List Value} {k : Nat} (hk : ∀ x, (enc x).length = k) : ∀ {xs : List α} {i c : Nat} {x : α} (rest : List Value), xs[i]? = some x → c < k → (xs.flatMap enc ++ rest)[i * k + c]? = (enc x)[c]?
  | [], _, _, _, _, h, _ => by simp at h
  | y :: r, 0, c, x, rest, h, hc => by
    obtain rfl : y = x := by simpa using h
    rw [List.flatMap_cons, List.append_assoc, Nat.zero_mul, Nat.zero_add, List.getElem?_append_left (by rw [hk]; exact hc)]
  | y :: r, i + 1, c, x, rest, h, hc => by
    rw [List.flatMap_cons, List.append_assoc, List.getElem?_append_right (by rw [hk, Nat.add_mul]; omega), hk, show (i + 1) * k + c - k = i * k + c by rw [Nat.add_mul]; omega]
    exact flat_get hk rest (by simpa using h) hc
theorem row_cell {e : TypeId} {enc : α → List Value} {k g : Nat} {rest : List Value} {xs : List α} {w : World} (hk : ∀ x, (enc x).length = k) (h : Row e enc g rest xs w) (z : α) {i c : Nat} (hi : i < xs.length) (hc : c < k) {v : Value} (hv : (enc (at_ z xs i))[c]? = some v) : w.cell? ⟨g, i * k + c, none⟩ = some v := by
  have hx : xs[i]? = some (at_ z xs i) := by simp [at_, List.getD_eq_getElem?_getD, hi]
  refine (blk_cell h _).trans ?_
  rw [List.getElem?_toArray, flat_get hk rest hx hc, hv]
theorem row_frozen {e : TypeId} {enc : α → List Value} {g : Nat} {rest : List Value} {xs : List α} {w : World} (h : Row e enc g rest xs w) (j : Nat) : w.frozen? ⟨g, j, none⟩ = false := blk_frozen h j
theorem flat_set1 {enc : α → List Value} (hk : ∀ x, (enc x).length = 1) : ∀ {xs : List α} {i : Nat} {y : α} {v : Value} (rest : List Value), i < xs.length → enc y = [v] → (xs.flatMap enc ++ rest).set i v = (xs.set i y).flatMap enc ++ rest
  | [], _, _, _, _, h, _ => by simp at h
  | x :: r, 0, y, v, rest, h, hy => by
    have hx := hk x
    match hxe : enc x, hx with
    | [u], _ => simp [List.flatMap_cons, hxe, hy]
  | x :: r, i + 1, y, v, rest, h, hy => by
    have hx := hk x
    have ih := flat_set1 hk (xs := r) (i := i) (y := y) (v := v) rest (by simpa using h) hy
    match hxe : enc x, hx with
    | [u], _ => simpa [List.flatMap_cons, hxe] using ih
theorem row_set1 {e : TypeId} {enc : α → List Value} {g : Nat} {rest : List Value} {xs : List α} {w : World} (hk : ∀ x, (enc x).length = 1) (h : Row e enc g rest xs w) {i : Nat} (hi : i < xs.length) {y : α} {v : Value} (hy : enc y = [v]) : Row e enc g rest (xs.set i y) (w.setCell ⟨g, i, none⟩ v) :=
  blk_put h i v (by rw [List.setIfInBounds_toArray, flat_set1 hk rest hi hy])
theorem row_other {e : TypeId} {enc : α → List Value} {g : Nat} {rest : List Value} {xs : List α} {w w1 : World} (h : Row e enc g rest xs w) (hb : Below w.heap.size w w1) : Row e enc g rest xs w1 := (hb.block g (blk_lt h)).trans h
theorem row_far {e : TypeId} {enc : α → List Value} {g : Nat} {rest : List Value} {xs : List α} {w : World} (h : Row e enc g rest xs w) {p : Addr} (hne : g ≠ p.block) (v : Value) : Row e enc g rest xs (w.setCell p v) := (Below.heap_setCell w p v g hne).trans h
def Ok (g : Nat) (w W : World) : Prop := w.grownBy W (some g)
theorem Ok.refl (g : Nat) (w : World) : Ok g w w := ⟨rfl, rfl, rfl, Nat.le_refl _, fun _ _ _ => rfl⟩
theorem Ok.trans {g : Nat} {w w1 w2 : World} (h : Ok g w w1) (k : Ok g w1 w2) : Ok g w w2 :=
  ⟨k.os.trans h.os, k.tape.trans h.tape, k.output.trans h.output, Nat.le_trans h.size k.size, fun i hi hn => (k.block i (Nat.lt_of_lt_of_le hi h.size) hn).trans (h.block i hi hn)⟩
theorem Ok.below {g : Nat} {w w1 w2 : World} (h : Ok g w w1) (k : Below w1.heap.size w1 w2) : Ok g w w2 :=
  ⟨k.os.trans h.os, k.tape.trans h.tape, k.output.trans h.output, Nat.le_trans h.size k.size, fun i hi hn => (k.block i (Nat.lt_of_lt_of_le hi h.size)).trans (h.block i hi hn)⟩
theorem Ok.set {g : Nat} {w w1 : World} (h : Ok g w w1) (j : Nat) (v : Value) : Ok g w (w1.setCell ⟨g, j, none⟩ v) :=
  ⟨by simpa [World.setCell] using h.os, by simpa [World.setCell] using h.tape, by simpa [World.setCell] using h.output, by simpa [World.setCell] using h.size, fun i hi hn => (Below.heap_setCell w1 ⟨g, j, none⟩ v i (fun e => hn (by rw [e]))).trans (h.block i hi hn)⟩
theorem Ok.drew {g : Nat} {w w1 : World} (h : Ok g w w1) : Ok g w w1.drew := h.below ((Below.refl _ _).drew)
theorem Ok.drewN {g : Nat} {w w1 : World} (h : Ok g w w1) (n : Nat) : Ok g w (w1.drewN n) := h.below (pw_below_drewN (Below.refl _ _) n)
theorem Ok.back {g : Nat} {w W : World} (h : Ok g w W) {B : Nat} (hB : B ≤ g) (hw : B ≤ w.heap.size) : ∀ i, i < B → W.heap[i]? = w.heap[i]? := fun i hi => h.block i (by omega) (fun e => by have := Option.some.inj e; omega)
theorem Ok.under {g B : Nat} {v w W : World} (h : Ok g w W) (hb : Below B v w) (hs : B ≤ w.heap.size) (hg : B ≤ g) : Below B v W := hb.grown h hs (fun b e => by have := Option.some.inj e; omega)
end
end Go.Proofs.YtlfbdcobpfainaaSrt
