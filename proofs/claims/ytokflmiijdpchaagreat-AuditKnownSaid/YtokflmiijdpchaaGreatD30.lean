/- A new shard. -/
import Derived.Test.YtokflmiijdpchaaGreatD29
namespace Go.Proofs.YtokflmiijdpchaaGreat
open Go.RowKit
def seat0 : List Value := [.int .i64 0, .int .i64 0, .bool false, .slice none 0 0, .slice none 0 0, .int .i64 0, .int .i64 0]
def seats0 : List Value := (List.replicate 16 seat0).flatten
def Shd (w : World) (s t : Nat) : Prop := w.heap[s]? = some (.cells (Value.pointer (some ⟨t, 0, none⟩) :: seats0).toArray 172 (0, 0)) ∧ Tb w t
theorem flat_at (n j q : Nat) (hj : j < n) (hq : q < 7) : ((List.replicate n seat0).flatten)[j * 7 + q]? = seat0[q]? := by
  induction n generalizing j with
  | zero => omega
  | succ n ih =>
    rw [List.replicate_succ, List.flatten_cons]
    rcases j with _ | j
    · rw [List.getElem?_append_left (by simp [seat0]; omega)]
      simp
    · rw [List.getElem?_append_right (by simp [seat0]; omega)]
      have := ih j (by omega)
      rw [← this]
      congr 1
      simp [seat0]
      omega
theorem Shd.seat {w : World} {s t : Nat} (h : Shd w s t) (j : Nat) (hj : j < 16) : w.rangeAt s (1 + j * 7) seat0 := fun q v hv => by
  have hq : q < 7 := (List.getElem?_eq_some_iff.1 hv).1
  rw [(cellD h.1 _).1, List.getElem?_toArray, show 1 + j * 7 + q = (j * 7 + q) + 1 by omega, List.getElem?_cons_succ, seats0, flat_at 16 j q hj hq]
  exact hv
theorem Shd.below {w w' : World} {s t : Nat} (h : Shd w s t) (hb : Below w.heap.size w w') : Shd w' s t := ⟨(hb.block s (Array.getElem?_eq_some_iff.1 h.1).1).trans h.1, (hb.block t (Array.getElem?_eq_some_iff.1 h.2).1).trans h.2⟩
set_option maxRecDepth 100000 in
theorem shnew_calls (w : World) : Calls Tryz.prog 75 #[] w fun e w' => ∃ s t, e = .returned (.pointer (some ⟨s, 0, none⟩)) ∧ Shd w' s t ∧ Below w.heap.size w w' ∧ w.heap.size ≤ s ∧ w.heap.size ≤ t := by
  go_enter Tryz.func75, Tryz.ntmps75
  go_wp2_with (first
    | (go_at_call 128; refine (tnew_calls _).mono ?_; rintro e w' ⟨rfl, rfl⟩))
  go_ret
  have hz : Tryz.zeroCells172.setIfInBounds 0 (Value.pointer (some ⟨w.heap.size, 0, none⟩)) = (Value.pointer (some ⟨w.heap.size, 0, none⟩) :: seats0).toArray := by rfl
  rw [hz]
  refine ⟨w.heap.size + 1, w.heap.size, rfl, ⟨?_, (heap_alloc_old _ _ (by simp)).trans (heap_alloc_new w _)⟩, ((Below.refl _ _).alloc (Nat.le_refl _) _).alloc (by simp) _, by omega, Nat.le_refl _⟩
  simpa using heap_alloc_new (w.alloc (.cells #[.pointer none, .int .i64 0, .int .i64 0] 242)) (.cells (Value.pointer (some ⟨w.heap.size, 0, none⟩) :: seats0).toArray 172)
set_option maxRecDepth 100000 in
set_option maxHeartbeats 4000000 in
theorem slay_calls (w : World) (s t : Nat) (h : Shd w s t) (b room : Nat) (bs : List Value) (U : Nat → Prop) (hw : Wr w b room bs U) (hroom : room ≤ 1099511627776) (hfit : bs.length + 1 ≤ room) (hU : U s ∧ U t) :
    Calls Tryz.prog 165 #[.pointer (some ⟨s, 1, none⟩), .pointer (some ⟨b, 0, none⟩)] w fun e w' => e = .returned (.tuple #[]) ∧ Wr w' b room (bs ++ [b0]) U ∧ Kp U w w' := by
  have HS := Lib.hid (show _ ∧ _ from ⟨h, hw⟩)
  clear h hw
  go_enter Tryz.func165, Tryz.ntmps165
  go_wp2
  go_loopw [4, 11] (fun n i wr => ∃ j : Nat, j ≤ 16 ∧ n = .int .i64 0 ∧ i = .int .i64 j ∧ Below w.heap.size w wr) (fun _ i _ => 16 - (intOf i).toNat)
  case atStart => exact ⟨0, by omega, rfl, rfl, Below.refl _ _⟩
  case round =>
    obtain ⟨j, hj, rfl, rfl, hb⟩ := hrel
    have HR := Lib.hid (show _ ∧ _ from ⟨hb, HS.out.1.below hb⟩)
    clear hb
    by_cases hj16 : j < 16
    · have hrg := HR.out.2.seat j hj16
      have q0 : wr.cell? ⟨s, 1 + j * 7, none⟩ = some (.int .i64 0) := hrg 0 _ rfl
      have q1 : wr.cell? ⟨s, 1 + j * 7 + 1, none⟩ = some (.int .i64 0) := hrg 1 _ rfl
      have q2 : wr.cell? ⟨s, 1 + j * 7 + 2, none⟩ = some (.bool false) := hrg 2 _ rfl
      have q3 : wr.cell? ⟨s, 1 + j * 7 + 3, none⟩ = some (.slice none 0 0) := hrg 3 _ rfl
      have q4 : wr.cell? ⟨s, 1 + j * 7 + 4, none⟩ = some (.slice none 0 0) := hrg 4 _ rfl
      have q5 : wr.cell? ⟨s, 1 + j * 7 + 5, none⟩ = some (.int .i64 0) := hrg 5 _ rfl
      have q6 : wr.cell? ⟨s, 1 + j * 7 + 6, none⟩ = some (.int .i64 0) := hrg 6 _ rfl
      clear hrg
      go_wp2
      exact ⟨⟨j + 1, by omega, rfl, by go_num, HR.out.1.trans (((Below.refl _ _).alloc (Nat.le_refl _) _).mono HR.out.1.size)⟩, by simp [intOf]; omega⟩
    · obtain rfl : j = 16 := by omega
      go_wp2_with (first
        | (go_at_call 219; refine (num_calls _ b room bs U (HS.out.2.below HR.out.1) hroom 0 (by decide) hfit).mono ?_; rintro e w2 ⟨rfl, hw2, hk2⟩; have H2 := Lib.hid (show _ ∧ _ from ⟨hw2, (Kp.of_below HR.out.1 fun q hq => HS.out.2.lt hq).trans hk2⟩); clear hw2 hk2))
      have h2 : Shd w2 s t := ⟨(H2.out.2.block s hU.1).trans HS.out.1.1, (H2.out.2.block t hU.2).trans HS.out.1.2⟩
      have HS2 := Lib.hid h2
      clear h2
      go_loopw [28] (fun i wr => ∃ j : Nat, j ≤ 16 ∧ i = .int .i64 j ∧ Below w2.heap.size w2 wr) (fun i _ => 16 - (intOf i).toNat)
      case atStart => exact ⟨0, by omega, rfl, Below.refl _ _⟩
      case round =>
        obtain ⟨j, hj, rfl, hb⟩ := hrel
        have HR := Lib.hid (show _ ∧ _ from ⟨hb, HS2.out.below hb⟩)
        clear hb
        by_cases hj16 : j < 16
        · have hrg := HR.out.2.seat j hj16
          have q0 : wr.cell? ⟨s, 1 + j * 7, none⟩ = some (.int .i64 0) := hrg 0 _ rfl
          have q1 : wr.cell? ⟨s, 1 + j * 7 + 1, none⟩ = some (.int .i64 0) := hrg 1 _ rfl
          have q2 : wr.cell? ⟨s, 1 + j * 7 + 2, none⟩ = some (.bool false) := hrg 2 _ rfl
          have q3 : wr.cell? ⟨s, 1 + j * 7 + 3, none⟩ = some (.slice none 0 0) := hrg 3 _ rfl
          have q4 : wr.cell? ⟨s, 1 + j * 7 + 4, none⟩ = some (.slice none 0 0) := hrg 4 _ rfl
          have q5 : wr.cell? ⟨s, 1 + j * 7 + 5, none⟩ = some (.int .i64 0) := hrg 5 _ rfl
          have q6 : wr.cell? ⟨s, 1 + j * 7 + 6, none⟩ = some (.int .i64 0) := hrg 6 _ rfl
          clear hrg
          go_wp2
          exact ⟨⟨j + 1, by omega, by go_num, HR.out.1.trans (((Below.refl _ _).alloc (Nat.le_refl _) _).mono HR.out.1.size)⟩, by simp [intOf]; omega⟩
        · obtain rfl : j = 16 := by omega
          go_wp2
          first | go_end0 | refine bodyPost_ret (results_none rfl _ _ _) rfl ?_
          exact ⟨rfl, H2.out.1.below HR.out.1, H2.out.2.trans (Kp.of_below HR.out.1 fun q hq => H2.out.1.lt hq)⟩
theorem Shd.lt {w : World} {s t : Nat} (h : Shd w s t) : s < w.heap.size ∧ t < w.heap.size := ⟨(Array.getElem?_eq_some_iff.1 h.1).1, (Array.getElem?_eq_some_iff.1 h.2).1⟩
theorem sbytes_calls (w : World) (s t : Nat) (h : Shd w s t) : Calls Tryz.prog 198 #[.pointer (some ⟨s, 1, none⟩)] w fun e w' => ∃ g, e = .returned (.slice (some ⟨g, 0, none⟩) 1 1) ∧ Below w.heap.size w w' := by
  have hlt := h.lt
  have HS := Lib.hid h
  clear h
  go_enter Tryz.func198, Tryz.ntmps198
  go_wp2_with (first
    | (go_at_call 137; refine (pnew_calls _ 1048576).mono ?_; rintro e w1 ⟨rfl, hw1, hb1⟩; have H1 := Lib.hid (show _ ∧ _ from ⟨hw1, hb1⟩); clear hw1 hb1)
    | (go_at_call 165; refine (slay_calls _ s t (HS.out.below H1.out.2) w.heap.size 1048576 [] _ H1.out.1 (by decide) (by decide) hlt).mono ?_; rintro e w2 ⟨rfl, hw2, hk2⟩; have H2 := Lib.hid (show _ ∧ _ from ⟨hw2, H1.out.2.trans hk2.to_below⟩); clear hw2 hk2)
    | (go_at_call 141; refine (done_calls _ w.heap.size 1048576 _ _ H2.out.1 (by simp) (by decide) (by simp [Value.oneCell', b0])).mono ?_; rintro e w3 ⟨g, rfl, hr3, hb3, hg3, hg3'⟩; have H3 := Lib.hid (show _ ∧ _ from ⟨hr3, H2.out.2.trans (hb3.mono H2.out.2.size)⟩); clear hr3 hb3))
  go_ret
  exact ⟨g, rfl, H3.out.2⟩
set_option maxRecDepth 100000 in
set_option maxHeartbeats 2000000 in
theorem ssize_calls (w : World) (s t : Nat) (h : Shd w s t) : Calls Tryz.prog 129 #[.pointer (some ⟨s, 0, none⟩)] w fun e w' => e = .returned (.int .i64 4) ∧ Below w.heap.size w w' := by
  have c0 : w.cell? ⟨s, 0, none⟩ = some (.pointer (some ⟨t, 0, none⟩)) := (cellD h.1 0).1
  have HS := Lib.hid h
  clear h
  go_enter Tryz.func129, Tryz.ntmps129
  go_wp2_with (first
    | (go_at_call 196; refine (tsize_calls _ t HS.out.2).mono ?_; rintro e w1 ⟨rfl, hb1⟩; have H1 := Lib.hid (show _ ∧ _ from ⟨hb1, HS.out.below hb1⟩); clear hb1))
  go_region_held3 (fun W => w.heap.size ≤ W.heap.size) (first | exact H1.out.1.size | exact H2.out.size) (first
    | (go_at_call 197; refine (numSize_calls _ 2 (by decide)).mono ?_; rintro e w' ⟨rfl, hw⟩; obtain rfl := hw.symm)
    | (go_at_call 198; refine (sbytes_calls w1.drew s t (H1.out.2.below (Below.refl _ _).drew)).mono ?_; rintro e w2 ⟨g, rfl, hb2⟩; have H2 := Lib.hid (show Below w.heap.size w w2 from H1.out.1.drew.trans (hb2.mono H1.out.1.size)); clear hb2))
  go_wp2
  go_ret
  exact ⟨rfl, H2.out⟩
set_option maxRecDepth 100000 in
set_option maxHeartbeats 2000000 in
theorem sexport_calls (w : World) (s t : Nat) (h : Shd w s t) : Calls Tryz.prog 101 #[.pointer (some ⟨s, 0, none⟩)] w fun e w' => ∃ g, e = .returned (.slice (some ⟨g, 0, none⟩) 4 4) ∧ w'.rangeAt g 0 [.int .u8 2, b0, b0, b0] ∧ Below w.heap.size w w' ∧ w.heap.size ≤ g ∧ g < w'.heap.size := by
  have hlt := h.lt
  have HS := Lib.hid h
  have hc : ∀ {W : World}, Below w.heap.size w W → W.cell? ⟨s, 0, none⟩ = some (.pointer (some ⟨t, 0, none⟩)) := fun hb => (cellD (HS.out.below hb).1 0).1
  have HC := Lib.hid (show ∀ W : World, Below w.heap.size w W → W.cell? ⟨s, 0, none⟩ = some (.pointer (some ⟨t, 0, none⟩)) from fun _ hb => hc hb)
  clear h hc
  go_enter Tryz.func101, Tryz.ntmps101
  go_wp2_with (first
    | (go_at_call 137; refine (pnew_calls _ 1048576).mono ?_; rintro e w1 ⟨rfl, hw1, hb1⟩; have c1 := HC.out _ hb1; have hs1 := hb1.size; have H1 := Lib.hid (show _ ∧ _ from ⟨hw1, hb1⟩); clear hw1 hb1)
    | (go_at_call 164; refine (tbytes_calls _ t (HS.out.below H1.out.2).2).mono ?_; rintro e w2 ⟨g2, rfl, hr2, hb2, hg2, hg2'⟩; have H2 := Lib.hid (show _ ∧ _ from ⟨hr2, hb2⟩); clear hr2 hb2)
    | (go_at_call 140; refine (text_calls _ w.heap.size 1048576 [] _ (H1.out.1.below H2.out.2) (by decide) g2 2 2 hg2' [b0, b0] rfl (by decide) H2.out.1 (by simp [b0, Value.oneCell']) (by decide)).mono ?_; rintro e w3 ⟨rfl, hw3, hk3⟩; have c3 := HC.out w3 ((H1.out.2.trans (H2.out.2.mono hs1)).trans hk3.to_below); have H3 := Lib.hid (show _ ∧ _ from ⟨hw3, (H1.out.2.trans (H2.out.2.mono hs1)).trans hk3.to_below⟩); clear hw3 hk3)
    | (go_at_call 165; refine (slay_calls _ s t (HS.out.below H3.out.2) w.heap.size 1048576 _ _ H3.out.1 (by decide) (by decide) hlt).mono ?_; rintro e w4 ⟨rfl, hw4, hk4⟩; have H4 := Lib.hid (show _ ∧ _ from ⟨hw4, H3.out.2.trans hk4.to_below⟩); clear hw4 hk4)
    | (go_at_call 141; refine (done_calls _ w.heap.size 1048576 _ _ H4.out.1 (by simp) (by decide) (by simp [Value.oneCell', b0])).mono ?_; rintro e w5 ⟨g, rfl, hr5, hb5, hg5, hg5'⟩; have hs4 := H4.out.2.size; have H5 := Lib.hid (show _ ∧ _ from ⟨hr5, H4.out.2.trans (hb5.mono H4.out.2.size)⟩); clear hr5 hb5))
  go_ret
  exact ⟨g, rfl, H5.out.1, H5.out.2, by omega, hg5'⟩
end Go.Proofs.YtokflmiijdpchaaGreat
