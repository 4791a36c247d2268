/- What an argument's cells say, kind by kind: whatever reads as data reads as a kind (Kd) of the printed words. -/
import Derived.Test.YtlfbdcobpfainaaWWords
import Derived.Deep.Slices
import Derived.ChangeArms
namespace Go.Proofs.YtlfbdcobpfainaaO
open Go.ChangeShapes Go.WideShapes Go.RowKit Go.Proofs.YtlfbdcobpfainaaW.PrintWords Go.Deep
section
variable {H : Type} {enc : TypeId × Value → H} {P : Program} {W : World} {spare : Nat → Bool} {held : Bool}
/-- Whatever cells of type t read as data are cells of the kind d. -/
def Opens {α : Type} (enc : TypeId × Value → H) (P : Program) (W : World) (spare : Nat → Bool) (held : Bool) (t : TypeId) (d : Kd α) : Prop :=
  ∀ fuel cs x, DataW.trod enc P W 0 spare held fuel t cs = some x → ∃ y, d.K W y cs
theorem opens_int {t : TypeId} {k : IntKind} (ht : P.underlying t = some (.int k)) : Opens enc P W spare held t (Kd.int k) := by
  intro fuel cs x h
  obtain ⟨n, rfl, _, _⟩ := DataW.trod_int ht h
  exact ⟨n, rfl⟩
theorem opens_bool {t : TypeId} (ht : P.underlying t = some .bool) : Opens enc P W spare held t Kd.bool := by
  intro fuel cs x h
  obtain ⟨n, rfl, _⟩ := DataW.trod_bool ht h
  exact ⟨n, rfl⟩
theorem opens_string {t : TypeId} (ht : P.underlying t = some .string) : Opens enc P W spare held t Kd.string := by
  intro fuel cs x h
  obtain ⟨n, rfl, _⟩ := DataW.trod_string ht h
  exact ⟨n, rfl⟩
theorem pick {α : Type} {R : Nat → α → Prop} : ∀ (n : Nat), (∀ i, i < n → ∃ y, R i y) → ∃ l : List α, l.length = n ∧ ∀ (i : Nat) (y : α), l[i]? = some y → R i y
  | 0, _ => ⟨[], rfl, fun i y h => by simp at h⟩
  | n + 1, h => by
    obtain ⟨l, hl, hr⟩ := pick n (fun i hi => h i (by omega))
    obtain ⟨y, hy⟩ := h n (by omega)
    refine ⟨l ++ [y], by simp [hl], fun i z hz => ?_⟩
    rcases Nat.lt_or_ge i l.length with hi | hi
    · rw [List.getElem?_append_left hi] at hz
      exact hr i z hz
    · have hi2 : i = l.length := by
        have := (List.getElem?_eq_some_iff.1 hz).1
        simp at this
        omega
      subst hi2
      have : y = z := by simpa using hz
      subst this
      rw [hl]; exact hy
theorem opens_slice {α : Type} {d : Kd α} {t e : TypeId} (q : Nat) (ht : P.underlying t = some (.slice e)) (hs : P.cellsOf e = d.sz) (he : Opens enc P W spare held e d) : Opens enc P W spare held t (Kd.slice q d) := by
  intro fuel cs x h
  rcases open_slice ht h with ⟨rfl, _⟩ | ⟨a, len, cap, m, n, D, Pl, rfl, hb, hl, hm, hmm, rfl, hx⟩
  · exact ⟨[], none, 0, rfl, Nat.le_refl _, rfl, Nat.zero_le _, fun h0 => absurd h0 (by simp)⟩
  · have hlm : len ≤ m := by rw [hmm]; split <;> omega
    obtain ⟨l, hl2, hr⟩ := pick (R := fun i y => ∃ c, W.cells? 0 (a.add (i * P.cellsOf e)) (P.cellsOf e) = some c ∧ d.K W y c) len (fun i hi => by
      obtain ⟨c, h1, h2⟩ := hx i (by omega)
      obtain ⟨y, hy⟩ := he _ _ _ h2
      exact ⟨y, c, h1, hy⟩)
    subst hl2
    unfold maxLen at hm
    refine ⟨l, some a, cap, rfl, hl, rfl, by omega, fun _ => ⟨a, rfl, fun j p hj => ?_⟩⟩
    obtain ⟨c, h1, h2⟩ := hr j p hj
    obtain ⟨_, hlen, hcell⟩ := World.cells?_some h1
    refine ⟨c, d.K_len h2, h2, fun i u hu => ?_⟩
    have hi : i < P.cellsOf e := by rw [← hlen]; exact (List.getElem?_eq_some_iff.1 hu).1
    have := hcell i hi
    rw [Deep.add_add, hs] at this
    rw [this]; exact hu
/-- Fields in a row. -/
def Seg {α : Type} (enc : TypeId × Value → H) (P : Program) (W : World) (spare : Nat → Bool) (held : Bool) (fs : List TypeId) (d : Kd α) : Prop :=
  ∀ (fuel : Nat) (cs : List Value), (∀ (i : Nat) (f : TypeId), fs[i]? = some f → ∃ x, DataW.trod enc P W 0 spare held fuel f ((cs.drop ((fs.take i).map P.cellsOf).sum).take (P.cellsOf f)) = some x) → cs.length = (fs.map P.cellsOf).sum → ∃ y, d.K W y cs
theorem seg_one {α : Type} {d : Kd α} {f : TypeId} (h : Opens enc P W spare held f d) : Seg enc P W spare held [f] d := by
  intro fuel cs hc hl
  obtain ⟨x, hx⟩ := hc 0 f rfl
  simp at hx hl
  rw [List.take_of_length_le (by omega)] at hx
  exact h _ _ _ hx
theorem seg_cons {α β : Type} {d : Kd α} {b : Kd β} {f : TypeId} {fs : List TypeId} (h : Opens enc P W spare held f d) (hb : Seg enc P W spare held fs b) : Seg enc P W spare held (f :: fs) (Kd.pair d b) := by
  intro fuel cs hc hl
  obtain ⟨x, hx⟩ := hc 0 f rfl
  simp at hx
  obtain ⟨y, hy⟩ := h _ _ _ hx
  obtain ⟨z, hz⟩ := hb fuel (cs.drop (P.cellsOf f)) (fun i g hg => by
    obtain ⟨x, hx⟩ := hc (i + 1) g (by simpa using hg)
    refine ⟨x, ?_⟩
    rw [List.drop_drop]
    simpa using hx) (by simp at hl ⊢; omega)
  exact ⟨(y, z), cs.take (P.cellsOf f), cs.drop (P.cellsOf f), (List.take_append_drop _ _).symm, hy, hz⟩
/-- The fields stand one behind the other. -/
def inRow (P : Program) : Nat → List Field → Bool
  | _, [] => true
  | o, f :: r => f.offset == o && inRow P (o + P.cellsOf f.type) r
theorem inRow_at : ∀ {fs : List Field} {o i : Nat} {f : Field}, inRow P o fs = true → fs[i]? = some f → f.offset = o + ((fs.take i).map fun g => P.cellsOf g.type).sum
  | [], _, _, _, _, h => by simp at h
  | g :: r, o, 0, f, h, hf => by
    obtain rfl : g = f := by simpa using hf
    simp [inRow] at h
    simp [h.1]
  | g :: r, o, i + 1, f, h, hf => by
    simp [inRow] at h
    have := inRow_at h.2 (by simpa using hf)
    rw [this]
    simp
    omega
theorem opens_struct {α β : Type} {d : Kd α} {t : TypeId} {fs : Array Field} (f : β → α) (ht : P.underlying t = some (.struct fs)) (hr : inRow P 0 fs.toList = true) (hs : P.cellsOf t = ((fs.toList.map Field.type).map P.cellsOf).sum)
    (h : Seg enc P W spare held (fs.toList.map Field.type) d) (hf : ∀ y, ∃ z, f z = y) : Opens enc P W spare held t (Kd.iso d f) := by
  intro fuel cs x hx
  obtain ⟨xs, n, _, _, hl, hxl, hfs⟩ := DataW.trod_struct ht hx
  obtain ⟨y, hy⟩ := h n cs (fun i g hg => by
    rw [List.getElem?_map, Option.map_eq_some_iff] at hg
    obtain ⟨fd, hfd, rfl⟩ := hg
    have h1 := hfs i fd (by simpa using hfd)
    have h2 := inRow_at hr hfd
    have hi : i < xs.length := by rw [hxl]; have := (List.getElem?_eq_some_iff.1 hfd).1; simpa using this
    refine ⟨xs[i], ?_⟩
    rw [List.getElem?_eq_getElem hi, h2, Nat.zero_add] at h1
    rw [← h1]
    congr 3
    rw [List.map_take, List.map_take, List.map_map]
    rfl) (by rw [hl, hs])
  obtain ⟨z, hz⟩ := hf y
  exact ⟨z, by show d.K W (f z) cs; rw [hz]; exact hy⟩
/-- An argument that is a slice. -/
theorem open_arg {α : Type} {d : Kd α} {t : TypeId} {q : Nat} {a : Option Addr} {len cap : Nat} {x : DataW H} {ps : List MemPlace} (h : Opens enc P W spare held t (Kd.slice q d)) (hx : DataW.Trod enc P W 0 spare held t (.slice a len cap) x ps) :
    ∃ l : List α, len = l.length ∧ l.length ≤ cap ∧ d.C W a l.length l := by
  obtain ⟨fuel, hx⟩ := hx
  obtain ⟨l, A, c, he, hl, hc⟩ := h _ _ _ hx
  simp [Value.cells] at he
  obtain ⟨rfl, rfl, rfl⟩ := he
  exact ⟨l, rfl, hl, hc⟩
end
end Go.Proofs.YtlfbdcobpfainaaO
