/- A text of zeros is one word. No program here. -/
import Derived.Lib.FieldsP
import Derived.Lib.SlBytesRow
namespace Go.Proofs.YtndpldhglnblfaaGreatDoor
open Go.Lib
def zeros (n : Nat) : ByteArray := ⟨Array.replicate n 0⟩
def blank : Nat → Bool := fun x => x == 32
theorem zeros_size (n : Nat) : (zeros n).size = n := by simp [zeros, ByteArray.size]
theorem zeros_decode (n i : Nat) (h : i < n) : Utf8.decode (zeros n) i = (0, 1) := by
  have h0 : ((zeros n).get! (i + 0)).toNat = 0 := by simp [zeros, ByteArray.get!, h]
  unfold Utf8.decode
  simp only [h0]
  rfl
theorem zeros_from (n a : Nat) (acc : List (Nat × Nat)) : ∀ (f pos : Nat), spansFromP blank (zeros n) f pos (some a) acc = (acc, some a)
  | 0, _ => rfl
  | f + 1, pos => by
    unfold spansFromP
    by_cases hp : pos < (zeros n).size
    · rw [if_pos hp, zeros_decode n pos (by rwa [zeros_size] at hp)]
      have : blank 0 = false := rfl
      simp only [this]
      exact zeros_from n a acc f (pos + 1)
    · rw [if_neg hp]
theorem zeros_fields (n : Nat) (h : 0 < n) : goFieldsP blank (zeros n) = [zeros n] := by
  obtain ⟨m, rfl⟩ : ∃ m, n = m + 1 := ⟨n - 1, by omega⟩
  have h1 : spansFromP blank (zeros (m + 1)) (zeros (m + 1)).size 0 none [] = ([], some 0) := by
    rw [zeros_size]
    unfold spansFromP
    rw [if_pos (by rw [zeros_size]; omega), zeros_decode _ 0 (by omega)]
    have : blank 0 = false := rfl
    simp only [this]
    exact zeros_from _ 0 [] m (0 + 1)
  unfold goFieldsP spansOfP
  rw [h1]
  show [(zeros (m + 1)).extract 0 (zeros (m + 1)).size] = _
  congr 1
  apply ByteArray.ext
  apply Array.toList_inj.1
  rw [extract_data]
  simp only [List.drop_zero, Nat.sub_zero]
  exact List.take_of_length_le (by rw [← size_eq]; exact Nat.le_refl _)
end Go.Proofs.YtndpldhglnblfaaGreatDoor
