/- A number is laid down in bytes. -/
import Derived.Test.YtokflmiijdpchaaGreatD10
namespace Go.Proofs.YtokflmiijdpchaaGreat
open Go.RowKit
/-- A block of bytes. -/
def Bk (w : World) (b m : Nat) (t : TypeId) : Prop := ∃ c, w.heap[b]? = some (.cells c t (0, 0)) ∧ c.size = m ∧ ∀ v ∈ c, IsU8 v
theorem bk_set {w : World} {b m : Nat} {t : TypeId} (h : Bk w b m t) {v : Value} (hv : IsU8 v) (i : Nat) : Bk (w.setCell ⟨b, i, none⟩ v) b m t := by
  obtain ⟨c, hc, hs, hu⟩ := h
  refine ⟨c.setIfInBounds i v, by simp [World.setCell, Array.getElem?_modify, hc], by simp [hs], fun u hu' => ?_⟩
  rcases Array.mem_or_eq_of_mem_setIfInBounds hu' with h | h
  · exact hu u h
  · rw [h]; exact hv
theorem grown_set {w wr : World} {b : Nat} (h : w.grownBy wr (some b)) (i : Nat) (v : Value) : w.grownBy (wr.setCell ⟨b, i, none⟩ v) (some b) := by
  have k := set_grown wr ⟨b, i, none⟩ v
  exact ⟨k.os.trans h.os, k.tape.trans h.tape, k.output.trans h.output, Nat.le_trans h.size k.size, fun q hq hne => (k.block q (Nat.lt_of_lt_of_le hq h.size) hne).trans (h.block q hq hne)⟩
set_option maxRecDepth 100000 in
set_option maxHeartbeats 2000000 in
theorem put_calls (w : World) (b o n c m : Nat) (t : TypeId) (v : Int) (h : Bk w b m t) (hn : n ≤ 8) (hm : o + n ≤ m) : Calls Tryz.prog 168 #[.slice (some ⟨b, o, none⟩) n c, .int .u64 v] w fun e w' => e = .returned (.tuple #[]) ∧ Bk w' b m t ∧ w.grownBy w' (some b) := by
  have HB := Lib.hid h
  clear h
  go_enter Tryz.func168, Tryz.ntmps168
  go_wp2
  go_loopw [7] (fun x wr => ∃ j : Nat, j ≤ n ∧ x = .int .i64 j ∧ Bk wr b m t ∧ w.grownBy wr (some b)) (fun x _ => n - (intOf x).toNat)
  case atStart => exact ⟨0, by omega, rfl, HB.out, rfl, rfl, rfl, Nat.le_refl _, fun _ _ _ => rfl⟩
  case round =>
    obtain ⟨j, hj, rfl, hb, hg⟩ := hrel
    have HR := Lib.hid (show _ ∧ _ from ⟨hb, hg⟩)
    by_cases hlt : j < n
    · obtain ⟨u, gc, gf⟩ : ∃ u, wr.cell? ⟨b, o + (n - 1 - j), none⟩ = some u ∧ wr.frozen? ⟨b, o + (n - 1 - j), none⟩ = false := by
        obtain ⟨c0, hc, hs, _⟩ := hb
        exact ⟨c0[o + (n - 1 - j)]'(by omega), by rw [(cellD hc _).1, Array.getElem?_eq_getElem (by omega)], (cellD hc _).2⟩
      clear hb hg
      have e1 : ((n : Int) - 1 - (j : Int)).toNat = n - 1 - j := by omega
      go_wp2
      exact ⟨⟨j + 1, by omega, by go_num, bk_set HR.out.1 ⟨_, Int.emod_nonneg _ (by decide), Int.emod_lt_of_pos _ (by decide), rfl⟩ _, grown_set HR.out.2 _ _⟩, by simp [intOf]; omega⟩
    · obtain rfl : j = n := by omega
      clear hb hg
      go_wp2
      first | go_end0 | refine bodyPost_ret (results_none rfl _ _ _) rfl ?_
      exact ⟨rfl, HR.out.1, HR.out.2⟩
end Go.Proofs.YtokflmiijdpchaaGreat
