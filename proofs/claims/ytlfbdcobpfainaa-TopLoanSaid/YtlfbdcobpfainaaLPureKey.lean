/- The keys of the laws, and 'begun'. -/
import Derived.Test.YtlfbdcobpfainaaL7
import Derived.Test.YtlfbdcobpfainaaLPureOf
import Derived.KernelRfl
namespace Go.Proofs.Ytlfbdcobpfainaa.L
open Go.RowKit
theorem begun_true : taltop_begun.f 1100 = some true := by kernel_rfl
/-- The key of a small number. -/
def kB (n : Nat) : ByteArray := (taltop_key.f 5 (n : Int)).getD ⟨#[]⟩
theorem keys_good : (List.range 130).all (fun n => (taltop_key.f 5 (n : Int)).isSome && keyB (kB n)) = true := by kernel_rfl
theorem keys_apart : (List.range 130).all (fun n => (List.range n).all fun m => !((kB m).data.toList == (kB n).data.toList)) = true := by kernel_rfl
theorem key_eq {n : Nat} (h : n < 130) : taltop_key.f 5 (n : Int) = some (kB n) := by
  have := (List.all_eq_true.1 keys_good) n (List.mem_range.2 h)
  rw [Bool.and_eq_true] at this
  obtain ⟨z, hz⟩ := Option.isSome_iff_exists.1 this.1
  unfold kB; rw [hz]; rfl
theorem key_good {n : Nat} (h : n < 130) : keyB (kB n) = true := by
  have := (List.all_eq_true.1 keys_good) n (List.mem_range.2 h)
  rw [Bool.and_eq_true] at this
  exact this.2
theorem key_apart {m n : Nat} (hn : n < 130) (h : m < n) : (kB m).data.toList ≠ (kB n).data.toList := by
  have := (List.all_eq_true.1 ((List.all_eq_true.1 keys_apart) n (List.mem_range.2 hn))) m (List.mem_range.2 h)
  intro e
  rw [e] at this
  simp at this
end Go.Proofs.Ytlfbdcobpfainaa.L
