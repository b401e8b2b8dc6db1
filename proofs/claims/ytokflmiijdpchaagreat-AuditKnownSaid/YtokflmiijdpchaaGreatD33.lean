/- What a state tells. A state's size. -/
import Derived.Test.YtokflmiijdpchaaGreatD32
namespace Go.Proofs.YtokflmiijdpchaaGreat
open Go.RowKit
theorem flat_rc (rs : List HRow) (j q : Nat) (r : HRow) (hr : rs[j]? = some r) (hq : q < 4) : (rs.flatMap rc)[j * 4 + q]? = (rc r)[q]? := by
  induction rs generalizing j with
  | nil => simp at hr
  | cons r0 rs ih =>
    rw [List.flatMap_cons]
    rcases j with _ | j
    · simp only [List.getElem?_cons_zero, Option.some.injEq] at hr
      subst hr
      rw [List.getElem?_append_left (by simp [rc]; omega)]
      simp
    · rw [List.getElem?_append_right (by simp [rc]; omega), ← ih j (by simpa using hr)]
      congr 1
      simp [rc]
      omega
/-- The row's head, and the cells of one of what is held. -/
theorem StV.at {w : World} {st : Nat} {sv n : Int} {v : Value} {rs : List HRow} {U : Nat → Prop} (h : StV w st sv n v rs U) (hne : rs ≠ []) : ∃ g cap, v = .slice (some ⟨g, 0, none⟩) rs.length cap ∧ g < w.heap.size ∧ rs.length ≤ cap ∧ ∀ j r, rs[j]? = some r → ∀ q, q < 4 → w.cell? ⟨g, j * 4 + q, none⟩ = (rc r)[q]? := by
  rcases h.row.2 with ⟨-, h0⟩ | ⟨g, cap, cur, hv, -, hg, hc, -⟩
  · exact absurd (List.length_eq_zero_iff.1 h0) hne
  · refine ⟨g, cap, hv, (Array.getElem?_eq_some_iff.1 hg).1, hc, fun j r hr q hq => ?_⟩
    have hj := (List.getElem?_eq_some_iff.1 hr).1
    have := h.row
    rw [hv] at this
    rw [this.cellAt (j * 4 + q) (by omega), flat_rc rs j q r hr hq]
set_option maxRecDepth 100000 in
theorem stat_calls (w : World) (st : Nat) (sv n : Int) (v : Value) (rs : List HRow) (U : Nat → Prop) (h : StV w st sv n v rs U) (j : Nat) (hj : j < rs.length) (_hm : rs.length ≤ 64) : Calls Tryz.prog 99 #[.pointer (some ⟨st, 0, none⟩), .int .i64 j] w fun e w' => (∃ g cap, v = .slice (some ⟨g, 0, none⟩) rs.length cap ∧ e = .returned (.tuple #[.pointer (some ⟨g, j * 4, none⟩), .int .i64 0])) ∧ w' = w := by
  have c2 := (cellD h.blk 2).1
  obtain ⟨g, cap, rfl, hg, hcap, -⟩ := h.at (by intro e; rw [e] at hj; simp at hj)
  clear h
  go_enter Tryz.func99, Tryz.ntmps99
  go_wp2
  go_ret2
  exact ⟨⟨g, cap, rfl, rfl⟩, rfl⟩
theorem StV.cells {w : World} {st : Nat} {sv n : Int} {rs : List HRow} {U : Nat → Prop} {g m cap : Nat} (h : StV w st sv n (.slice (some ⟨g, 0, none⟩) m cap) rs U) (j : Nat) (r : HRow) (hr : rs[j]? = some r) : w.cell? ⟨g, j * 4, none⟩ = some (.int .i64 r.1) ∧ w.cell? ⟨g, j * 4 + 1, none⟩ = some (.int .i64 0) ∧ w.cell? ⟨g, j * 4 + 2, none⟩ = some (.int .i64 r.2.1) ∧ w.cell? ⟨g, j * 4 + 3, none⟩ = some (.pointer (r.2.2.map fun p => ⟨p.1, 0, none⟩)) := by
  obtain ⟨g', cap', hv, -, -, hc⟩ := h.at (by intro e; rw [e] at hr; simp at hr)
  cases hv
  exact ⟨hc j r hr 0 (by omega), hc j r hr 1 (by omega), hc j r hr 2 (by omega), hc j r hr 3 (by omega)⟩
theorem copyOf_calls (w : World) (st : Nat) (sv n : Int) (v : Value) (rs : List HRow) (U : Nat → Prop) (h : StV w st sv n v rs U) (j : Nat) (r : HRow) (hr : rs[j]? = some r) (hm : rs.length ≤ 64) : Calls Tryz.prog 100 #[.pointer (some ⟨st, 0, none⟩), .int .i64 j] w fun e w' => e = .returned (.pointer (r.2.2.map fun p => ⟨p.1, 0, none⟩)) ∧ w' = w := by
  have hj := (List.getElem?_eq_some_iff.1 hr).1
  have HS := Lib.hid h
  clear h
  go_enter Tryz.func100, Tryz.ntmps100
  go_wp2_with (first
    | (go_at_call 99; refine (stat_calls w st sv n v rs U HS.out j hj hm).mono ?_; rintro e w' ⟨⟨g, cap, rfl, rfl⟩, hw⟩; obtain rfl := hw.symm; have c3 := (HS.out.cells j r hr).2.2.2))
  go_ret
  exact ⟨rfl, rfl⟩
theorem sexport_nil (w : World) : Calls Tryz.prog 101 #[.pointer none] w fun e w' => e = .returned (.slice none 0 0) ∧ w' = w := by
  go_enter Tryz.func101, Tryz.ntmps101
  go_wp2
  go_ret
  exact ⟨rfl, rfl⟩
/-- What an export is: nothing, or an empty shard's form. -/
def Xp (w0 w : World) (r : HRow) (v : Value) : Prop := match r.2.2 with
  | none => v = .slice none 0 0
  | some _ => ∃ g, v = .slice (some ⟨g, 0, none⟩) 4 4 ∧ w.rangeAt g 0 [.int .u8 2, b0, b0, b0] ∧ w0.heap.size ≤ g ∧ g < w.heap.size
theorem stexport_calls (w : World) (st : Nat) (sv n : Int) (v : Value) (rs : List HRow) (U : Nat → Prop) (h : StV w st sv n v rs U) (j : Nat) (r : HRow) (hr : rs[j]? = some r) (hm : rs.length ≤ 64) : Calls Tryz.prog 55 #[.pointer (some ⟨st, 0, none⟩), .int .i64 j] w fun e w' => ∃ x, e = .returned x ∧ Xp w w' r x ∧ Below w.heap.size w w' := by
  have hmem := List.mem_of_getElem? hr
  have HS := Lib.hid h
  clear h
  obtain ⟨a, b, c⟩ := r
  rcases c with _ | ⟨s, t⟩
  · go_enter Tryz.func55, Tryz.ntmps55
    go_wp2_with (first
      | (go_at_call 100; refine (copyOf_calls w st sv n v rs U HS.out j _ hr hm).mono ?_; rintro e w' ⟨rfl, hw⟩; obtain rfl := hw.symm)
      | (go_at_call 101; refine (sexport_nil w).mono ?_; rintro e w' ⟨rfl, hw⟩; obtain rfl := hw.symm))
    go_ret
    exact ⟨_, rfl, rfl, Below.refl _ _⟩
  · have hsd := (HS.out.shd _ hmem s t rfl).1
    have HD := Lib.hid hsd
    clear hsd
    go_enter Tryz.func55, Tryz.ntmps55
    go_wp2_with (first
      | (go_at_call 100; refine (copyOf_calls w st sv n v rs U HS.out j _ hr hm).mono ?_; rintro e w' ⟨rfl, hw⟩; obtain rfl := hw.symm)
      | (go_at_call 101; refine (sexport_calls w s t HD.out).mono ?_; rintro e w1 ⟨g, rfl, hr1, hb1, hg1, hg1'⟩; have H1 := Lib.hid (show _ ∧ _ from ⟨hr1, hb1⟩); clear hr1 hb1))
    go_ret
    exact ⟨_, rfl, ⟨g, rfl, H1.out.1, hg1, hg1'⟩, H1.out.2⟩
theorem textSize_nil (w : World) : Calls Tryz.prog 76 #[.pointer none] w fun e w' => e = .returned (.int .i64 0) ∧ w' = w := by
  go_enter Tryz.func76, Tryz.ntmps76
  go_wp2
  go_ret
  exact ⟨rfl, rfl⟩
theorem textSize_shd (w : World) (s t : Nat) (h : Shd w s t) : Calls Tryz.prog 76 #[.pointer (some ⟨s, 0, none⟩)] w fun e w' => e = .returned (.int .i64 5) ∧ Below w.heap.size w w' := by
  have HS := Lib.hid h
  clear h
  go_enter Tryz.func76, Tryz.ntmps76
  go_wp2_with (first
    | (go_at_call 129; refine (ssize_calls w s t HS.out).mono ?_; rintro e w1 ⟨rfl, hb1⟩; have H1 := Lib.hid hb1; clear hb1)
    | (go_at_call 130; refine (lengthSize_calls _ 4 (by decide)).mono ?_; rintro e w' ⟨rfl, hw⟩; obtain rfl := hw.symm))
  go_ret
  exact ⟨rfl, H1.out⟩
set_option maxRecDepth 100000 in
theorem stledger_calls (w : World) (st : Nat) (sv n : Int) (v : Value) (rs : List HRow) (U : Nat → Prop) (h : StV w st sv n v rs U) (j : Nat) (r : HRow) (hr : rs[j]? = some r) (hm : rs.length ≤ 64) : Calls Tryz.prog 53 #[.pointer (some ⟨st, 0, none⟩), .int .i64 j] w fun e w' => e = .returned (.tuple #[.agg #[.int .i64 r.1, .int .i64 0, .int .i64 r.2.1], .int .i64 0]) ∧ Below w.heap.size w w' := by
  have hj := (List.getElem?_eq_some_iff.1 hr).1
  have hb : ∀ o : Obj, Below w.heap.size w (w.alloc o) := fun o => (Below.refl _ _).alloc (Nat.le_refl _) _
  have HS := Lib.hid h
  clear h
  go_enter Tryz.func53, Tryz.ntmps53
  go_wp2_with (first
    | (go_at_call 99; refine (stat_calls _ st sv n v rs U (HS.out.below (hb _)) j hj hm).mono ?_; rintro e w' ⟨⟨g, cap, rfl, rfl⟩, hw⟩; obtain rfl := hw.symm; obtain ⟨c0, c1, c2, -⟩ := (HS.out.below (hb (.cells #[.int .i64 0, .int .i64 0, .int .i64 0] 41))).cells j r hr))
  have hn := heap_alloc_new w (.cells #[.int .i64 r.1, .int .i64 0, .int .i64 r.2.1] 41)
  have m0 := (cellD hn 0).1
  have m1 := (cellD hn 1).1
  have m2 := (cellD hn 2).1
  refine bodyPost_ret (v := .tuple #[.agg #[.int .i64 r.1, .int .i64 0, .int .i64 r.2.1], .int .i64 0]) (by simp [results, Tryz.results53, go_sem, m0, m1, m2]) rfl ?_
  exact ⟨rfl, hb _⟩
end Go.Proofs.YtokflmiijdpchaaGreat
namespace Go.Proofs.YtokflmiijdpchaaGreat
open Go.RowKit
def tsz (r : HRow) : Nat := if r.2.2.isSome then 5 else 0
def tszs (rs : List HRow) : Nat := (rs.map tsz).sum
theorem tszs_take (rs : List HRow) (j : Nat) (r : HRow) (h : rs[j]? = some r) : tszs (rs.take (j + 1)) = tszs (rs.take j) + tsz r := by
  simp [tszs, List.take_add_one, h]
theorem tszs_le (rs : List HRow) : tszs rs ≤ 5 * rs.length := by
  induction rs with
  | nil => simp [tszs]
  | cons r rs ih =>
    simp only [tszs, List.map_cons, List.sum_cons, List.length_cons] at ih ⊢
    have : tsz r ≤ 5 := by unfold tsz; split <;> omega
    omega
set_option maxRecDepth 100000 in
set_option maxHeartbeats 4000000 in
theorem stsize_calls (w : World) (st : Nat) (sv n : Int) (v : Value) (rs : List HRow) (U : Nat → Prop) (h : StV w st sv n v rs U) (hne : rs ≠ []) (hm : rs.length ≤ 64) : Calls Tryz.prog 40 #[.pointer (some ⟨st, 0, none⟩)] w fun e w' => e = .returned (.int .i64 ((3 + 6 * rs.length + tszs rs : Nat) : Int)) ∧ Below w.heap.size w w' := by
  obtain ⟨g, cap, rfl, hg, hcap, -⟩ := h.at hne
  have c2 := (cellD h.blk 2).1
  have HS := Lib.hid h
  clear h
  have hw1 : wrap64 (6 * (rs.length : Int)) = 6 * rs.length := by simp only [wrap64]; omega
  have hw2 : wrap64 (3 + 6 * (rs.length : Int)) = 3 + 6 * rs.length := by simp only [wrap64]; omega
  go_enter Tryz.func40, Tryz.ntmps40
  go_wp2
  go_loopw [3, 20] (fun s i wr => ∃ j x : Nat, j ≤ rs.length ∧ i = .int .i64 j ∧ s = .int .i64 x ∧ x = 3 + 6 * rs.length + tszs (rs.take j) ∧ Below w.heap.size w wr) (fun _ i _ => rs.length - (intOf i).toNat)
  case atStart => exact ⟨0, 3 + 6 * rs.length, by omega, rfl, by simp, by simp [tszs], Below.refl _ _⟩
  case round =>
    obtain ⟨j, x, hj, rfl, rfl, hx, hb⟩ := hrel
    have HR := Lib.hid (show _ ∧ _ from ⟨hb, HS.out.below hb⟩)
    clear hb
    have hts := tszs_le (rs.take j)
    rw [List.length_take] at hts
    by_cases hjm : j < rs.length
    · obtain ⟨r, hr⟩ : ∃ r, rs[j]? = some r := ⟨_, List.getElem?_eq_getElem hjm⟩
      have hmem := List.mem_of_getElem? hr
      have hst := tszs_take rs j r hr
      obtain ⟨c0, c1, c3, c4⟩ := HR.out.2.cells j r hr
      obtain ⟨a, b, c⟩ := r
      have HT := Lib.hid (show _ ∧ _ ∧ _ from ⟨hr, hmem, hst⟩)
      clear hr hmem hst
      have hx2 : x ≤ 1000 := by omega
      have hw3 : wrap64 ((x : Int) + 5) = x + 5 := by simp only [wrap64]; omega
      have HX := Lib.hid (show _ ∧ _ from ⟨hx, hts⟩)
      clear hx hts
      rcases c with _ | ⟨s, t⟩
      · replace c0 : wr.cell? ⟨g, j * 4, none⟩ = some (.int .i64 a) := c0
        replace c3 : wr.cell? ⟨g, j * 4 + 2, none⟩ = some (.int .i64 b) := c3
        replace c4 : wr.cell? ⟨g, j * 4 + 3, none⟩ = some (.pointer none) := c4
        go_wp2_with (first
          | (go_at_call 76; refine (textSize_nil _).mono ?_; rintro e w' ⟨rfl, hw⟩; obtain rfl := hw.symm))
        exact ⟨⟨j + 1, x, by omega, by go_num, rfl, by rw [HT.out.2.2, HX.out.1]; rfl, HR.out.1.trans (((Below.refl _ _).alloc (Nat.le_refl _) _).mono HR.out.1.size)⟩, by simp [intOf]; omega⟩
      · replace c0 : wr.cell? ⟨g, j * 4, none⟩ = some (.int .i64 a) := c0
        replace c3 : wr.cell? ⟨g, j * 4 + 2, none⟩ = some (.int .i64 b) := c3
        replace c4 : wr.cell? ⟨g, j * 4 + 3, none⟩ = some (.pointer (some ⟨s, 0, none⟩)) := c4
        have HD := Lib.hid (HR.out.2.shd _ HT.out.2.1 s t rfl).1
        go_wp2_with (first
          | (go_at_call 76; refine (textSize_shd _ s t (HD.out.below ((Below.refl _ _).alloc (Nat.le_refl _) _))).mono ?_; rintro e w2 ⟨rfl, hb2⟩; have H2 := Lib.hid (show Below wr.heap.size wr w2 from ((Below.refl wr.heap.size wr).alloc (Nat.le_refl _) _).trans (hb2.mono (by simp))); clear hb2))
        exact ⟨⟨j + 1, x + 5, by omega, by go_num, by go_num, by rw [HT.out.2.2, HX.out.1]; rfl, HR.out.1.trans (H2.out.mono HR.out.1.size)⟩, by simp [intOf]; omega⟩
    · obtain rfl : j = rs.length := by omega
      rw [List.take_length] at hx
      subst hx
      go_wp2
      go_ret
      exact ⟨rfl, HR.out.1⟩
end Go.Proofs.YtokflmiijdpchaaGreat
