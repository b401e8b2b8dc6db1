/- merkle.New of no rows. -/
import Derived.Test.YtokflmiijdpchaaGreatD55
namespace Go.Proofs.YtokflmiijdpchaaGreat
open Go.RowKit
attribute [local go_sem] Oper.semAt_some
def dig0N : Nat := dig0.toNat
def pairN (l r : Nat) : Nat := (pairD l r).toNat
theorem dig0N_eq : ((dig0N : Nat) : Int) = dig0 := Int.toNat_of_nonneg (fnv_range _).1
theorem pairN_eq (l r : Nat) : ((pairN l r : Nat) : Int) = pairD l r := Int.toNat_of_nonneg (fnv_range _).1
theorem dig0N_lt : dig0N < 18446744073709551616 := by have := (fnv_range [2]).2; have h2 := dig0N_eq; unfold dig0 at h2; omega
theorem pairN_lt (l r : Nat) : pairN l r < 18446744073709551616 := by have := (fnv_range (3 :: (li l 8 ++ li r 8))).2; have h2 := pairN_eq l r; unfold pairD at h2; omega
/-- A tree's cells: its digests, and no rows. -/
def trn (n m : Nat) (a : Nat → Nat) : List Value := .int .i64 64 :: (((List.range n).map fun q => .int .u64 (a q)) ++ (List.replicate m (.slice none 0 0) ++ [.int .i64 0]))
theorem trn_len (n m : Nat) (a : Nat → Nat) : (trn n m a).length = n + m + 2 := by simp [trn]; omega
theorem trn_dig (n m : Nat) (a : Nat → Nat) (q : Nat) (hq : q < n) : (trn n m a)[1 + q]? = some (.int .u64 (a q)) := by
  rw [trn, Nat.add_comm, List.getElem?_cons_succ, List.getElem?_append_left (by simpa using hq)]
  simp [hq]
theorem trn_row (n m : Nat) (a : Nat → Nat) (q : Nat) (hq : q < m) : (trn n m a)[n + 1 + q]? = some (.slice none 0 0) := by
  rw [trn, show n + 1 + q = (n + q) + 1 by omega, List.getElem?_cons_succ, List.getElem?_append_right (by simp), List.getElem?_append_left (by simp; omega)]
  simp [hq]
theorem trn_set (n m : Nat) (a : Nat → Nat) (q d : Nat) (hq : q < n) : (trn n m a).toArray.setIfInBounds (1 + q) (.int .u64 d) = (trn n m fun p => if p = q then d else a p).toArray := by
  rw [List.setIfInBounds_toArray]
  congr 1
  apply List.ext_getElem?
  intro j
  rw [List.getElem?_set]
  rcases Nat.lt_or_ge j 1 with hj | hj
  · obtain rfl : j = 0 := by omega
    rw [if_neg (by omega)]
    simp [trn]
  · obtain ⟨p, rfl⟩ : ∃ p, j = 1 + p := ⟨j - 1, by omega⟩
    by_cases hpq : p = q
    · subst hpq
      rw [if_pos rfl, trn_dig _ _ _ _ hq, if_pos rfl, if_pos (by rw [trn_len]; omega)]
    · rw [if_neg (by omega)]
      rcases Nat.lt_or_ge p n with hp | hp
      · rw [trn_dig _ _ _ _ hp, trn_dig _ _ _ _ hp, if_neg hpq]
      · rw [trn, trn, Nat.add_comm, List.getElem?_cons_succ, List.getElem?_cons_succ]
        simp [List.getElem?_append, Nat.not_lt.2 hp]
def trl (a : Nat → Nat) : List Value := trn 512 256 a
theorem trl_zero : (Tryz.zeroCells114.setIfInBounds 0 (.int .i64 64)).setIfInBounds 769 (.int .i64 0) = (trl fun _ => 0).toArray := by kernel_rfl
theorem rising_calls (w : World) : Calls Tryz.prog 87 #[.slice none 0 0] w fun e w' => e = .returned (.bool true) ∧ w' = w := by
  go_enter Tryz.func87, Tryz.ntmps87
  go_wp2
  go_loopw [3] (fun i wr => i = .int .i64 1 ∧ wr = w) (fun _ _ => 0)
  case atStart => exact ⟨rfl, rfl⟩
  case round =>
    obtain ⟨rfl, rfl⟩ := hrel
    go_wp2
    go_ret
    exact ⟨rfl, rfl⟩
/-- A tree of no rows whose digests are a. -/
def Tr (w : World) (T : Nat) (a : Nat → Nat) : Prop := w.heap[T]? = some (.cells (trl a).toArray 114 (0, 0))
theorem Tr.below {w w' : World} {T : Nat} {a : Nat → Nat} (h : Tr w T a) (hb : Below w.heap.size w w') : Tr w' T a := (hb.block T (Array.getElem?_eq_some_iff.1 h).1).trans h
theorem Tr.lt {w : World} {T : Nat} {a : Nat → Nat} (h : Tr w T a) : T < w.heap.size := (Array.getElem?_eq_some_iff.1 h).1
theorem Tr.dig {w : World} {T : Nat} {a : Nat → Nat} (h : Tr w T a) (q : Nat) (hq : q < 512) : w.cell? ⟨T, 1 + q, none⟩ = some (.int .u64 (a q)) ∧ w.frozen? ⟨T, 1 + q, none⟩ = false := ⟨(cellD h (1 + q)).1.trans (by rw [List.getElem?_toArray]; exact trn_dig 512 256 a q hq), (cellD h (1 + q)).2⟩
theorem Tr.row {w : World} {T : Nat} {a : Nat → Nat} (h : Tr w T a) (q : Nat) (hq : q < 256) : w.cell? ⟨T, 513 + q, none⟩ = some (.slice none 0 0) := (cellD h (513 + q)).1.trans (by rw [List.getElem?_toArray]; exact trn_row 512 256 a q hq)
theorem Tr.set {w : World} {T : Nat} {a : Nat → Nat} (h : Tr w T a) (q d : Nat) (hq : q < 512) : Tr (w.setCell ⟨T, 1 + q, none⟩ (.int .u64 d)) T (fun p => if p = q then d else a p) := (block_set h (1 + q) _).trans (by rw [trl, trn_set 512 256 a q d hq]; rfl)
set_option maxRecDepth 100000 in
set_option maxHeartbeats 4000000 in
theorem mnew_calls (w : World) : Calls Tryz.prog 46 #[.slice none 0 0, .int .i64 64] w fun e w' => ∃ T a, e = .returned (.tuple #[.pointer (some ⟨T, 0, none⟩), .int .i64 0]) ∧ Tr w' T a ∧ a 0 = 0 ∧ (∀ q, 256 ≤ q → q < 512 → a q = dig0N) ∧ (∀ q, 1 ≤ q → q < 256 → a q = pairN (a (2 * q)) (a (2 * q + 1))) ∧ Below w.heap.size w w' ∧ w.heap.size ≤ T := by
  go_enter Tryz.func46, Tryz.ntmps46
  go_upto_region 6 with (first
    | (go_at_call 87; refine (rising_calls _).mono ?_; rintro y w' ⟨rfl, hw⟩; obtain rfl := hw.symm))
  rw [trl_zero]
  have hn : Tr (w.alloc (.cells (trl fun _ => 0).toArray 114)) w.heap.size (fun _ => 0) := heap_alloc_new w _
  have hB : Below w.heap.size w (w.alloc (.cells (trl fun _ => 0).toArray 114)) := (Below.refl _ _).alloc (Nat.le_refl _) _
  obtain ⟨T, hT⟩ : ∃ T, T = w.heap.size := ⟨_, rfl⟩
  rw [← hT] at hn
  generalize w.alloc (.cells (trl fun _ => 0).toArray 114) = W0 at hn hB ⊢
  generalize (trl fun _ => 0).toArray = A0
  rw [← hT]
  have H0 := Lib.hid (show _ ∧ _ ∧ _ from ⟨hn, hB, hT⟩)
  clear hn hB hT
  go_wp2
  go_loopw [30] (fun i wr => i = .int .i64 0 ∧ wr = W0) (fun _ _ => 0)
  case atStart => exact ⟨rfl, rfl⟩
  case round =>
    obtain ⟨rfl, rfl⟩ := hrel
    go_upto_region 12 with (fail)
    generalize wr = W1 at H0
    go_wp2
    go_loopw [53] (fun i W => ∃ (j : Nat) (a : Nat → Nat), j ≤ 256 ∧ i = .int .i64 j ∧ Tr W T a ∧ a 0 = 0 ∧ (∀ q, q < j → a (256 + q) = dig0N) ∧ (∀ q, a q < 18446744073709551616) ∧ Below w.heap.size w W) (fun i _ => 256 - (intOf i).toNat)
    case atStart => exact ⟨0, _, by omega, rfl, H0.out.1, rfl, fun q hq => by omega, fun q => by decide, H0.out.2.1⟩
    case round =>
      obtain ⟨j, a, hj, rfl, htr, ha0, had, har, hb⟩ := hrel
      by_cases hj2 : j < 256
      · have c1 := htr.row j hj2
        obtain ⟨c2, c2f⟩ := htr.dig (256 + j) (by omega)
        have HR := Lib.hid (show _ ∧ _ ∧ _ ∧ _ ∧ _ from ⟨htr, ha0, had, har, hb⟩)
        clear htr ha0 had har hb
        have hj3 : (256 : Int) + j < 512 := by omega
        have hj4 : (0 : Int) ≤ 256 + j := by omega
        have hj5 : 256 + j < 512 := by omega
        have hj6 : ((256 : Int) + j).toNat = 256 + j := by omega
        have hj7 : (0 : Int) ≤ j := by omega
        have hj8 : (j : Int) < 256 := by omega
        have hwj : IntKind.i64.wrap (256 + (j : Int)) = 256 + j := wrap_small _ (by omega) (by omega)
        go_upto_region 15 with (fail)
        go_region_held3 (fun W => W.cell? ⟨T, 513 + j, none⟩ = some (.slice none 0 0)) (first | exact c1 | exact e1 | exact (H2.out.2.set (256 + j) dig0N (by omega)).row j hj2) ((go_at_call 90; refine (ofBucket_calls _).mono ?_; rintro y W2 ⟨rfl, hb2⟩; have hb3 : Below wr.heap.size wr W2 := (Below.refl _ _).drew.trans hb2; have hb2 := hb3; have ht2 := HR.out.1.below hb2; have e1 := ht2.row j hj2; obtain ⟨e2, e3⟩ := ht2.dig (256 + j) (by omega); rw [← dig0N_eq]; have H2 := Lib.hid (show _ ∧ _ from ⟨hb2, ht2⟩); clear hb2 hb3 ht2))
        have hbe : Below w.heap.size w (W2.setCell ⟨T, 1 + (256 + j), none⟩ (.int .u64 dig0N)) := (HR.out.2.2.2.2.trans (H2.out.1.mono HR.out.2.2.2.2.size)).setCell (p := ⟨T, 1 + (256 + j), none⟩) (by have := H0.out.2.2; simp only; omega) _
        have hte := H2.out.2.set (256 + j) dig0N (by omega)
        have HE := Lib.hid (show _ ∧ _ from ⟨hbe, hte⟩)
        clear hbe hte
        go_wp2
        refine ⟨⟨j + 1, _, by omega, by go_num, HE.out.2, ?_, fun q hq => ?_, fun q => ?_, HE.out.1⟩, by simp [intOf]; omega⟩
        · rw [if_neg (by omega)]
          exact HR.out.2.1
        · by_cases hqj : q = j
          · rw [if_pos (by omega)]
          · rw [if_neg (by omega)]
            exact HR.out.2.2.1 q (by omega)
        · by_cases hqj : q = 256 + j
          · rw [if_pos hqj]
            exact dig0N_lt
          · rw [if_neg hqj]
            exact HR.out.2.2.2.1 q
      · obtain rfl : j = 256 := by omega
        have HR := Lib.hid (show _ ∧ _ ∧ _ ∧ _ ∧ _ from ⟨htr, ha0, had, har, hb⟩)
        clear htr ha0 had har hb
        obtain ⟨a1, ha1⟩ : ∃ a1, a1 = a := ⟨_, rfl⟩
        rw [← ha1] at HR
        clear ha1
        generalize wr = W2 at HR
        rw [show ((256 : Nat) : Int) = 256 from rfl]
        go_wp2
        go_loopw [11] (fun i W => ∃ (k : Nat) (a : Nat → Nat), k ≤ 255 ∧ i = .int .i64 k ∧ Tr W T a ∧ a 0 = 0 ∧ (∀ q, 256 ≤ q → q < 512 → a q = dig0N) ∧ (∀ q, k < q → q < 256 → a q = pairN (a (2 * q)) (a (2 * q + 1))) ∧ (∀ q, a q < 18446744073709551616) ∧ Below w.heap.size w W) (fun i _ => (intOf i).toNat)
        case atStart => exact ⟨255, a1, by omega, rfl, HR.out.1, HR.out.2.1, fun q h1 h2 => by have := HR.out.2.2.1 (q - 256) (by omega); rw [show 256 + (q - 256) = q by omega] at this; exact this, fun q h1 h2 => by omega, HR.out.2.2.2.1, HR.out.2.2.2.2⟩
        case round =>
          obtain ⟨k, a, hk, rfl, htr, ha0, had, hap, har, hb⟩ := hrel
          by_cases hk0 : 0 < k
          · obtain ⟨c1, -⟩ := htr.dig (2 * k) (by omega)
            obtain ⟨c2, -⟩ := htr.dig (2 * k + 1) (by omega)
            have hj7 : (0 : Int) ≤ k := by omega
            have hj8 : (k : Int) < 512 := by omega
            have hj3 : (2 : Int) * k < 512 := by omega
            have hj4 : (2 : Int) * k + 1 < 512 := by omega
            have hj5 : (0 : Int) ≤ 2 * k := by omega
            have hj6 : (0 : Int) ≤ 2 * k + 1 := by omega
            have hj9 : ((2 : Int) * k).toNat = 2 * k := by omega
            have hj10 : ((2 : Int) * k + 1).toNat = 2 * k + 1 := by omega
            have hw1 : IntKind.i64.wrap (2 * (k : Int)) = 2 * k := wrap_small _ (by omega) (by omega)
            have hw2 : IntKind.i64.wrap (2 * (k : Int) + 1) = 2 * k + 1 := wrap_small _ (by omega) (by omega)
            have HR := Lib.hid (show _ ∧ _ ∧ _ ∧ _ ∧ _ ∧ _ from ⟨htr, ha0, had, hap, har, hb⟩)
            clear htr ha0 had hap har hb
            go_upto_region 20 with (fail)
            go_region_held3 (fun W => W.cell? ⟨T, 1 + 2 * k, none⟩ = some (.int .u64 (a (2 * k))) ∧ W.cell? ⟨T, 1 + (2 * k + 1), none⟩ = some (.int .u64 (a (2 * k + 1)))) (first | exact ⟨c1, c2⟩ | exact ⟨e1, e2⟩ | exact ⟨((H3.out.2.set k (pairN (a (2 * k)) (a (2 * k + 1))) (by omega)).dig (2 * k) (by omega)).1.trans (by rw [if_neg (by omega)]), ((H3.out.2.set k (pairN (a (2 * k)) (a (2 * k + 1))) (by omega)).dig (2 * k + 1) (by omega)).1.trans (by rw [if_neg (by omega)])⟩) ((go_at_call 91; refine (ofPair_calls _ (a (2 * k)) (a (2 * k + 1)) (HR.out.2.2.2.2.1 _) (HR.out.2.2.2.2.1 _)).mono ?_; rintro y W3 ⟨rfl, hb2⟩; have hb3 : Below wr.heap.size wr W3 := (Below.refl _ _).drew.trans hb2; have hb2 := hb3; have ht2 := HR.out.1.below hb2; obtain ⟨e1, -⟩ := ht2.dig (2 * k) (by omega); obtain ⟨e2, -⟩ := ht2.dig (2 * k + 1) (by omega); obtain ⟨e3, e4⟩ := ht2.dig k (by omega); rw [← pairN_eq]; have H3 := Lib.hid (show _ ∧ _ from ⟨hb2, ht2⟩); clear hb2 hb3 ht2))
            have hbe : Below w.heap.size w (W3.setCell ⟨T, 1 + k, none⟩ (.int .u64 (pairN (a (2 * k)) (a (2 * k + 1))))) := (HR.out.2.2.2.2.2.trans (H3.out.1.mono HR.out.2.2.2.2.2.size)).setCell (p := ⟨T, 1 + k, none⟩) (by have := H0.out.2.2; simp only; omega) _
            have hte := H3.out.2.set k (pairN (a (2 * k)) (a (2 * k + 1))) (by omega)
            have HE := Lib.hid (show _ ∧ _ from ⟨hbe, hte⟩)
            clear hbe hte
            go_wp2
            refine ⟨⟨k - 1, _, by omega, by go_num, HE.out.2, ?_, fun q h1 h2 => ?_, fun q h1 h2 => ?_, fun q => ?_, HE.out.1⟩, by simp [intOf]; omega⟩
            · rw [if_neg (by omega)]
              exact HR.out.2.1
            · rw [if_neg (by omega)]
              exact HR.out.2.2.1 q h1 h2
            · by_cases hqk : q = k
              · subst hqk
                rw [if_pos rfl, if_neg (by omega), if_neg (by omega)]
              · rw [if_neg hqk, if_neg (by omega), if_neg (by omega)]
                exact HR.out.2.2.2.1 q (by omega) h2
            · by_cases hqk : q = k
              · rw [if_pos hqk]
                exact pairN_lt _ _
              · rw [if_neg hqk]
                exact HR.out.2.2.2.2.1 q
          · obtain rfl : k = 0 := by omega
            have HR := Lib.hid (show _ ∧ _ ∧ _ ∧ _ ∧ _ from ⟨htr, ha0, had, hap, hb⟩)
            clear htr ha0 had hap hb
            go_wp2
            go_ret2
            exact ⟨T, a, rfl, HR.out.1, HR.out.2.1, HR.out.2.2.1, fun q h1 h2 => HR.out.2.2.2.1 q (by omega) h2, HR.out.2.2.2.2, by have := H0.out.2.2; omega⟩
end Go.Proofs.YtokflmiijdpchaaGreat
