/- A state's form. One chunk of bytes. In a round: a copy into a block of bytes, a load of a sector. -/
import Derived.Test.YtokflmiijdpchaaGreatD33
namespace Go.Proofs.YtokflmiijdpchaaGreat
open Go.RowKit
def lb (r : HRow) : List Value := .int .u8 r.1 :: (zs8 4 ++ [.int .u8 r.2.1])
def tb (r : HRow) : List Value := match r.2.2 with
  | none => []
  | some _ => [.int .u8 4, .int .u8 2, b0, b0, b0]
theorem lb_len (rs : List HRow) : (rs.flatMap lb).length = 6 * rs.length := by
  induction rs with
  | nil => rfl
  | cons r rs ih =>
    rw [List.flatMap_cons, List.length_append, ih, List.length_cons]
    simp [lb, zs8]
    omega
theorem tb_len (rs : List HRow) : (rs.flatMap tb).length = tszs rs := by
  induction rs with
  | nil => rfl
  | cons r rs ih =>
    rw [List.flatMap_cons, List.length_append, ih]
    simp only [tszs, List.map_cons, List.sum_cons]
    congr 1
    obtain ⟨a, b, c⟩ := r
    cases c <;> rfl
theorem flat_take {f : HRow → List Value} (rs : List HRow) (j : Nat) (r : HRow) (h : rs[j]? = some r) : (rs.take (j + 1)).flatMap f = (rs.take j).flatMap f ++ f r := by
  rw [List.take_add_one, h, List.flatMap_append]
  simp
theorem tszs_le_take (rs : List HRow) (j : Nat) (r : HRow) (h : rs[j]? = some r) : tszs (rs.take j) + tsz r ≤ tszs rs := by
  rw [← tszs_take rs j r h]
  have : tszs rs = tszs (rs.take (j + 1)) + tszs (rs.drop (j + 1)) := by
    unfold tszs
    rw [← List.sum_append, ← List.map_append, List.take_append_drop]
  omega
theorem wp_index {P : Program} {w : World} {ops : Array Oper} {rest : List Oper} {o : Oper} {a : Act} {Q : Exit → Act → World → Prop} (hgd : o.guard = none) (t : TypeId) (x i : Operand) (_ho : o.op = .index t x i) (v : Value) (hr : (execOp a.eval o).run P w = .ok (.value v) w) (hK : wpList P ops Q rest (a.put o.dst v) w) : wpList P ops Q (o :: rest) a w :=
  wpList_plain hgd fun _ hk => wp_of_run hr (hk _ _ hK)
set_option maxRecDepth 100000 in
set_option maxHeartbeats 8000000 in
theorem stbytes_calls (w : World) (st sv n : Nat) (v : Value) (rs : List HRow) (U : Nat → Prop) (h : StV w st sv n v rs U) (hne : rs ≠ []) (hm : rs.length ≤ 64) (hsv : sv < 256) (hn : n < 256) (hrs : ∀ r ∈ rs, ∃ p q : Nat, r.1 = p ∧ r.2.1 = q ∧ p < 256 ∧ q < 256) :
    Calls Tryz.prog 79 #[.pointer (some ⟨st, 0, none⟩)] w fun e w' => ∃ g bs, e = .returned (.slice (some ⟨g, 0, none⟩) bs.length bs.length) ∧ bs.length = 3 + 6 * rs.length + tszs rs ∧ w'.rangeAt g 0 bs ∧ (∀ u ∈ bs, IsU8 u) ∧ Below w.heap.size w w' ∧ w.heap.size ≤ g ∧ g < w'.heap.size := by
  obtain ⟨g, cap, rfl, hg, hcap, -⟩ := h.at hne
  have hstl := (Array.getElem?_eq_some_iff.1 h.blk).1
  have HS := Lib.hid (show _ ∧ _ ∧ _ from ⟨h, hne, hrs⟩)
  have HM := Lib.hid (show _ ∧ _ ∧ _ from ⟨hm, tszs_le rs, hcap⟩)
  have hm1 : rs.length ≤ cap := hcap
  have hlen : (rs.length : Int) ≤ 64 := by omega
  clear h hne hrs hm
  obtain ⟨L, hL⟩ : ∃ L, L = 3 + 6 * rs.length + tszs rs := ⟨_, rfl⟩
  have HL := Lib.hid hL
  have hSz := Lib.hid (show Calls Tryz.prog 40 #[.pointer (some ⟨st, 0, none⟩)] w fun e w' => e = .returned (.int .i64 (L : Int)) ∧ Below w.heap.size w w' from hL ▸ stsize_calls w st sv n _ rs U HS.out.1 HS.out.2.1 HM.out.1)
  clear hL
  go_enter Tryz.func79, Tryz.ntmps79
  go_wp2_with (first
    | (go_at_call 40; refine hSz.out.mono ?_; rintro e w1 ⟨rfl, hb1⟩; have H1 := Lib.hid hb1; clear hb1)
    | (go_at_call 137; refine (pnew_calls _ L).mono ?_; rintro e w2 ⟨rfl, hw2, hb2⟩; have c0 := (cellD (HS.out.1.below (H1.out.trans (hb2.mono H1.out.size))).blk 0).1; have c1 := (cellD (HS.out.1.below (H1.out.trans (hb2.mono H1.out.size))).blk 1).1; have c2 := (cellD (HS.out.1.below (H1.out.trans (hb2.mono H1.out.size))).blk 2).1; have H2 := Lib.hid (show _ ∧ _ from ⟨hw2, H1.out.trans (hb2.mono H1.out.size)⟩); clear hw2 hb2))
  go_region
  all_goals go_wp2
  have hL1 : L ≤ 1099511627776 := by
    have h1 := HL.out
    have h2 := HM.out.2.1
    have h3 := HM.out.1
    omega
  have hL3 : 3 ≤ L := by
    have h1 := HL.out
    omega
  have hsz1 := H1.out.size
  have hz2 := H2.out.2.size
  have hKp0 : Kp (· < w1.heap.size) w2 w2.drew := (Kp.refl _ w2).drew
  have hWr0 : Wr w2.drew w1.heap.size L [] (· < w1.heap.size) := H2.out.1.below (Below.refl _ _).drew
  have H0 := Lib.hid (show _ ∧ _ from ⟨hWr0, hKp0⟩)
  clear hWr0 hKp0
  go_loopw [31] (fun i wr => ∃ (j : Nat) (bs : List Value), i = .int .i64 j ∧ ((j = 0 ∧ bs = []) ∨ (j = 1 ∧ bs = [.int .u8 sv]) ∨ (j = 2 ∧ bs = [.int .u8 sv, .int .u8 n]) ∨ (j = 3 ∧ bs = [.int .u8 sv, .int .u8 n, .int .u8 rs.length])) ∧ Wr wr w1.heap.size L bs (· < w1.heap.size) ∧ Kp (· < w1.heap.size) w2 wr) (fun i _ => 3 - (intOf i).toNat)
  case atStart => exact ⟨0, [], rfl, .inl ⟨rfl, rfl⟩, H0.out.1, H0.out.2⟩
  case round =>
    obtain ⟨j, bs, rfl, hcase, hw, hk⟩ := hrel
    have HR := Lib.hid (show _ ∧ _ from ⟨hw, hk⟩)
    clear hw hk
    rcases hcase with ⟨rfl, rfl⟩ | ⟨rfl, rfl⟩ | ⟨rfl, rfl⟩ | ⟨rfl, rfl⟩
    · go_wp2_with (first
        | (refine wp_index rfl 234 (.tmp 30) (.tmp 31) rfl (.int .i64 sv) (by kernel_rfl) ?_)
        | (go_at_call 138; refine (byte_calls _ w1.heap.size L [] _ HR.out.1 hL1 sv hsv (by simp; omega)).mono ?_; rintro e w3 ⟨rfl, hw3, hk3⟩; have H3 := Lib.hid (show _ ∧ _ from ⟨hw3, HR.out.2.trans hk3⟩); clear hw3 hk3))
      exact ⟨⟨1, _, rfl, .inr (.inl ⟨rfl, rfl⟩), H3.out.1, H3.out.2⟩, by simp [intOf]⟩
    · go_wp2_with (first
        | (refine wp_index rfl 234 (.tmp 30) (.tmp 31) rfl (.int .i64 n) (by kernel_rfl) ?_)
        | (go_at_call 138; refine (byte_calls _ w1.heap.size L _ _ HR.out.1 hL1 n hn (by simp; omega)).mono ?_; rintro e w3 ⟨rfl, hw3, hk3⟩; have H3 := Lib.hid (show _ ∧ _ from ⟨hw3, HR.out.2.trans hk3⟩); clear hw3 hk3))
      exact ⟨⟨2, _, rfl, .inr (.inr (.inl ⟨rfl, rfl⟩)), H3.out.1, H3.out.2⟩, by simp [intOf]⟩
    · go_wp2_with (first
        | (refine wp_index rfl 234 (.tmp 30) (.tmp 31) rfl (.int .i64 rs.length) (by kernel_rfl) ?_)
        | (go_at_call 138; refine (byte_calls _ w1.heap.size L _ _ HR.out.1 hL1 rs.length (by omega) (by simp; omega)).mono ?_; rintro e w3 ⟨rfl, hw3, hk3⟩; have H3 := Lib.hid (show _ ∧ _ from ⟨hw3, HR.out.2.trans hk3⟩); clear hw3 hk3))
      exact ⟨⟨3, _, rfl, .inr (.inr (.inr ⟨rfl, rfl⟩)), H3.out.1, H3.out.2⟩, by simp [intOf]⟩
    · have hS3 : ∀ W, Kp (· < w1.heap.size) w2 W → StV W st sv n (.slice (some ⟨g, 0, none⟩) rs.length cap) rs U := fun W hk => by
        have hb : Below w1.heap.size w2 W := hk.to_below
        exact HS.out.1.below (H2.out.2.trans (hb.mono hsz1))
      have HS3 := Lib.hid hS3
      clear hS3
      have d2 := (cellD (HS3.out wr HR.out.2).blk 2).1
      go_wp2
      go_loopw [43] (fun i wq => ∃ (j : Nat) (bs : List Value), j ≤ rs.length ∧ i = .int .i64 j ∧ bs = [.int .u8 sv, .int .u8 n, .int .u8 rs.length] ++ (rs.take j).flatMap lb ∧ Wr wq w1.heap.size L bs (· < w1.heap.size) ∧ Kp (· < w1.heap.size) w2 wq) (fun i _ => rs.length - (intOf i).toNat)
      case atStart => exact ⟨0, _, by omega, rfl, by simp, HR.out.1, HR.out.2⟩
      case round =>
        rename_i wr0
        obtain ⟨j, bs, hj, rfl, hbs, hw, hk⟩ := hrel
        have HQ := Lib.hid (show _ ∧ _ ∧ _ from ⟨hw, hk, hbs⟩)
        clear hw hk hbs
        by_cases hjm : j < rs.length
        · obtain ⟨r, hr⟩ : ∃ r, rs[j]? = some r := ⟨_, List.getElem?_eq_getElem hjm⟩
          have hfit : bs.length + 6 ≤ L := by
            rw [HQ.out.2.2, HL.out, List.length_append, lb_len, List.length_take]
            simp
            omega
          have HF := Lib.hid (show _ ∧ _ ∧ _ from ⟨hfit, flat_take (f := lb) rs j r hr, hr⟩)
          obtain ⟨p, q, hp, hq, hp2, hq2⟩ := HS.out.2.2 r (List.mem_of_getElem? hr)
          obtain ⟨k0, k1, k2, k3⟩ := (HS3.out _ HQ.out.2.1).cells j r hr
          rw [hp] at k0
          rw [hq] at k2
          obtain ⟨pp, hpp⟩ : ∃ pp, pp = r.2.2.map fun p => (⟨p.1, 0, none⟩ : Addr) := ⟨_, rfl⟩
          rw [← hpp] at k3
          have HP := Lib.hid (show _ ∧ _ from ⟨hp, hq⟩)
          clear hfit hr hp hq hpp
          go_upto_region 12 with (fail)
          obtain ⟨X, hX⟩ : ∃ X, X = wr.alloc (.cells #[.int .i64 p, .int .i64 0, .int .i64 q, .pointer pp] 155) := ⟨_, rfl⟩
          have hWX : Wr X w1.heap.size L bs (fun q => q < w1.heap.size ∨ q = wr.heap.size) := by
            rw [hX]
            exact (HQ.out.1.more ((Below.refl _ _).alloc (Nat.le_refl _) _)).mono fun q hq => hq.imp id (fun e => by subst e; simp)
          have hcX : X.heap[wr.heap.size]? = some (.cells #[.int .i64 p, .int .i64 0, .int .i64 q, .pointer pp] 155 (0, 0)) := by
            rw [hX]
            exact heap_alloc_new wr _
          have hkX : Kp (· < w1.heap.size) w2 X := by
            rw [hX]
            exact HQ.out.2.1.trans (Kp.of_below ((Below.refl _ _).alloc (Nat.le_refl _) _) fun q hq => HQ.out.1.lt hq)
          rw [← hX]
          have HX := Lib.hid (show _ ∧ _ ∧ _ from ⟨hWX, hkX, hcX⟩)
          have x0 := (cellD hcX 0).1
          have hkc : ∀ W, Kp (fun q => q < w1.heap.size ∨ q = wr.heap.size) X W → W.cell? ⟨wr.heap.size, 1, none⟩ = some (.int .i64 0) ∧ W.cell? ⟨wr.heap.size, 2, none⟩ = some (.int .i64 q) := fun W hk => ⟨(cellD ((hk.block _ (.inr rfl)).trans hcX) 1).1, (cellD ((hk.block _ (.inr rfl)).trans hcX) 2).1⟩
          have HC := Lib.hid hkc
          clear hX hWX hcX hkX hkc k0 k1 k2 k3
          have T1 := trivial
          go_wp2_with (first
            | (clear T1; go_at_call 138; refine (byte_calls X w1.heap.size L bs _ HX.out.1 hL1 p hp2 (by have := HF.out.1; omega)).mono ?_; rintro e w4 ⟨rfl, hw4, hk4⟩; obtain ⟨y1, y2⟩ := HC.out w4 hk4; have H4 := Lib.hid (show _ ∧ _ from ⟨hw4, hk4⟩); clear hw4 hk4; have T2 := trivial)
            | (go_at_call 139; refine (fixed4_calls w4 w1.heap.size L _ _ H4.out.1 hL1 (by have := HF.out.1; rw [List.length_append]; simp; omega)).mono ?_; rintro e w5 ⟨rfl, hw5, hk5⟩; obtain ⟨z1, z2⟩ := HC.out w5 (H4.out.2.trans hk5); have H5 := Lib.hid (show _ ∧ _ from ⟨hw5, H4.out.2.trans hk5⟩); clear hw5 hk5)
            | (clear T2; go_at_call 138; refine (byte_calls w5 w1.heap.size L _ _ H5.out.1 hL1 q hq2 (by have := HF.out.1; rw [List.length_append, List.length_append]; simp [zs8]; omega)).mono ?_; rintro e w6 ⟨rfl, hw6, hk6⟩; have H6 := Lib.hid (show _ ∧ _ from ⟨hw6, H5.out.2.trans hk6⟩); clear hw6 hk6))
          exact ⟨⟨j + 1, _, by omega, by go_num, by rw [HF.out.2.1, HQ.out.2.2]; simp [lb, HP.out.1, HP.out.2], H6.out.1.mono (fun q hq => .inl hq), HX.out.2.1.trans (H6.out.2.mono fun q hq => .inl hq)⟩, by simp [intOf]; omega⟩
        · obtain rfl : j = rs.length := by omega
          have e2 := (cellD (HS3.out _ HQ.out.2.1).blk 2).1
          have hbs2 := HQ.out.2.2
          rw [List.take_length] at hbs2
          have HB := Lib.hid hbs2
          clear hbs2
          go_wp2
          go_loopw [69] (fun i wq => ∃ (j : Nat) (cs : List Value), j ≤ rs.length ∧ i = .int .i64 j ∧ cs = bs ++ (rs.take j).flatMap tb ∧ Wr wq w1.heap.size L cs (· < w1.heap.size) ∧ Kp (· < w1.heap.size) w2 wq) (fun i _ => rs.length - (intOf i).toNat)
          case atStart => exact ⟨0, bs, by omega, rfl, by simp, HQ.out.1, HQ.out.2.1⟩
          case round =>
            obtain ⟨j, cs, hj, rfl, hcs, hw, hk⟩ := hrel
            have HQ3 := Lib.hid (show _ ∧ _ ∧ _ from ⟨hw, hk, hcs⟩)
            clear hw hk hcs
            by_cases hjm : j < rs.length
            · obtain ⟨r, hr⟩ : ∃ r, rs[j]? = some r := ⟨_, List.getElem?_eq_getElem hjm⟩
              have hfit : cs.length + tsz r ≤ L := by
                have h1 := tszs_le_take rs j r hr
                rw [HQ3.out.2.2, List.length_append, tb_len, HB.out, List.length_append, lb_len, HL.out]
                simp
                omega
              have HF := Lib.hid (show _ ∧ _ ∧ _ from ⟨hfit, flat_take (f := tb) rs j r hr, hr⟩)
              obtain ⟨k0, k1, k2, k3⟩ := (HS3.out _ HQ3.out.2.1).cells j r hr
              have hshd := (HS3.out _ HQ3.out.2.1).shd r (List.mem_of_getElem? hr)
              clear hfit hr
              obtain ⟨a, b, c⟩ := r
              replace k0 : wr.cell? ⟨g, j * 4, none⟩ = some (.int .i64 a) := k0
              replace k2 : wr.cell? ⟨g, j * 4 + 2, none⟩ = some (.int .i64 b) := k2
              rcases c with _ | ⟨s, t⟩
              · replace k3 : wr.cell? ⟨g, j * 4 + 3, none⟩ = some (.pointer none) := k3
                clear hshd
                go_wp2
                exact ⟨⟨j + 1, cs, by omega, by go_num, by rw [HF.out.2.1, HQ3.out.2.2]; simp [tb], HQ3.out.1.below ((Below.refl _ _).alloc (Nat.le_refl _) _), HQ3.out.2.1.trans (Kp.of_below ((Below.refl _ _).alloc (Nat.le_refl _) _) fun q hq => HQ3.out.1.lt hq)⟩, by simp [intOf]; omega⟩
              · replace k3 : wr.cell? ⟨g, j * 4 + 3, none⟩ = some (.pointer (some ⟨s, 0, none⟩)) := k3
                have HD := Lib.hid (hshd s t rfl).1
                clear hshd
                have hab : ∀ o : Obj, Below wr.heap.size wr (wr.alloc o) := fun o => (Below.refl _ _).alloc (Nat.le_refl _) _
                have HA := Lib.hid hab
                clear hab
                go_wp2_with (first
                  | (go_at_call 101; refine (sexport_calls _ s t (HD.out.below (HA.out _))).mono ?_; rintro e w4 ⟨g4, rfl, hr4, hb4, hg4, hg4'⟩; have H4 := Lib.hid (show _ ∧ Below wr.heap.size wr w4 from ⟨hr4, (HA.out _).trans (hb4.mono (by simp))⟩); clear hr4 hb4)
                  | (go_at_call 140; refine (text_calls _ w1.heap.size L cs _ (HQ3.out.1.below H4.out.2) hL1 g4 4 4 hg4' [.int .u8 2, b0, b0, b0] rfl (by decide) H4.out.1 (by simp [b0, Value.oneCell']) (by have := HF.out.1; simp [tsz] at this; omega)).mono ?_; rintro e w5 ⟨rfl, hw5, hk5⟩; have H5 := Lib.hid (show _ ∧ _ from ⟨hw5, (Kp.of_below H4.out.2 fun q hq => HQ3.out.1.lt hq).trans hk5⟩); clear hw5 hk5))
                exact ⟨⟨j + 1, _, by omega, by go_num, by rw [HF.out.2.1, HQ3.out.2.2, List.append_assoc]; rfl, H5.out.1, HQ3.out.2.1.trans H5.out.2⟩, by simp [intOf]; omega⟩
            · obtain rfl : j = rs.length := by omega
              have hcs2 := HQ3.out.2.2
              rw [List.take_length] at hcs2
              have hlen3 : cs.length = 3 + 6 * rs.length + tszs rs := by
                rw [hcs2, List.length_append, tb_len, HB.out, List.length_append, lb_len]
                rfl
              have hone : ∀ u ∈ cs, IsU8 u := by
                intro u hu
                rw [hcs2, HB.out] at hu
                rcases List.mem_append.1 hu with hu | hu
                · rcases List.mem_append.1 hu with hu | hu
                  · simp at hu
                    rcases hu with rfl | rfl | rfl
                    · exact ⟨sv, by omega, by omega, rfl⟩
                    · exact ⟨n, by omega, by omega, rfl⟩
                    · exact ⟨rs.length, by omega, by omega, rfl⟩
                  · obtain ⟨r, hr, hu⟩ := List.mem_flatMap.1 hu
                    obtain ⟨p, q, hp, hq, hp2, hq2⟩ := HS.out.2.2 r hr
                    simp [lb, zs8] at hu
                    rcases hu with rfl | rfl | rfl
                    · exact ⟨p, by omega, by omega, by rw [hp]⟩
                    · exact ⟨0, by omega, by omega, rfl⟩
                    · exact ⟨q, by omega, by omega, by rw [hq]⟩
                · obtain ⟨⟨a, b, c⟩, -, hu⟩ := List.mem_flatMap.1 hu
                  rcases c with _ | c
                  · simp [tb] at hu
                  · simp [tb, b0] at hu
                    rcases hu with rfl | rfl | rfl
                    · exact ⟨4, by omega, by omega, rfl⟩
                    · exact ⟨2, by omega, by omega, rfl⟩
                    · exact ⟨0, by omega, by omega, rfl⟩
              have HE := Lib.hid (show _ ∧ _ from ⟨hlen3, hone⟩)
              have hcl : 3 ≤ cs.length := by omega
              have hcl2 : cs.length ≤ 1073741824 := by
                have h1 := HM.out.1
                have h2 := HM.out.2.1
                omega
              clear hcs2 hlen3 hone
              go_wp2_with (first
                | (go_at_call 141; refine (done_calls _ w1.heap.size L cs _ HQ3.out.1 (by intro e; rw [e] at hcl; simp at hcl) hcl2 (fun u hu => (HE.out.2 u hu).one)).mono ?_; rintro e w6 ⟨g6, rfl, hr6, hb6, hg6, hg6'⟩; have H6 := Lib.hid (show _ ∧ _ from ⟨hr6, hb6⟩); clear hr6 hb6))
              go_ret
              have hbw : Below w.heap.size w wr := H2.out.2.trans (HQ3.out.2.1.to_below.mono hsz1)
              exact ⟨g6, cs, rfl, HE.out.1, H6.out.1, HE.out.2, hbw.trans (H6.out.2.mono hbw.size), by have := hbw.size; omega, hg6'⟩
end Go.Proofs.YtokflmiijdpchaaGreat
namespace Go.Proofs.YtokflmiijdpchaaGreat
open Go.RowKit
attribute [local go_sem] Oper.semAt_some
set_option maxRecDepth 100000 in
theorem chunk_calls (w : World) (g n c : Nat) : Calls Tryz.prog 136 #[.slice (some ⟨g, 0, none⟩) n c, .int .i64 64] w fun e w' => e = .returned (.func (.func 202) #[] #[.pointer (some ⟨w.heap.size, 0, none⟩), .pointer (some ⟨w.heap.size + 1, 0, none⟩)]) ∧ w' = (w.alloc (.cells #[.slice (some ⟨g, 0, none⟩) n c] 23)).alloc (.cells #[.int .i64 64] 3) := by
  go_enter Tryz.func136, Tryz.ntmps136
  go_wp2
  go_ret
  exact ⟨rfl, rfl⟩
set_option maxRecDepth 100000 in
set_option maxHeartbeats 4000000 in
theorem chunk1_calls (w : World) (l bd bz g n c : Nat) (hn0 : 1 ≤ n) (hn1 : n ≤ 64) (hc : n ≤ c) (hbd : w.heap[bd]? = some (.cells #[.slice (some ⟨g, 0, none⟩) n c] 23 (0, 0))) (hbz : w.heap[bz]? = some (.cells #[.int .i64 64] 3 (0, 0))) (J : World → Prop)
    (hY : ∀ q, YieldAt Fence.wide 8 Tryz.prog l #[.slice (some ⟨g, 0, none⟩) n n] (w.drewN q) fun e W' => e = .returned (.bool true) ∧ (J W' ∧ W'.heap[bd]? = w.heap[bd]? ∧ W'.heap[bz]? = w.heap[bz]?)) :
    Calls Tryz.prog 202 #[.func (.yield l) #[] #[], .pointer (some ⟨bd, 0, none⟩), .pointer (some ⟨bz, 0, none⟩)] w fun e W => (∃ v, e = .returned v) ∧ J W := by
  have HB := Lib.hid (show _ ∧ _ ∧ _ from ⟨hbd, hbz, hY⟩)
  clear hbd hbz hY
  go_enter Tryz.func202, Tryz.ntmps202
  go_wp2
  go_loopw [4] (fun i wr => wr.heap[bd]? = w.heap[bd]? ∧ wr.heap[bz]? = w.heap[bz]? ∧ ((i = .int .i64 0 ∧ wr = w) ∨ (i = .int .i64 64 ∧ J wr))) (fun i _ => 64 - (intOf i).toNat)
  case atStart => exact ⟨rfl, rfl, .inl ⟨rfl, rfl⟩⟩
  case round =>
    obtain ⟨h1, h2, hcase⟩ := hrel
    have c1 := (cellD (h1.trans HB.out.1) 0).1
    have c2 := (cellD (h2.trans HB.out.2.1) 0).1
    have HR := Lib.hid (show _ ∧ _ from ⟨h1, h2⟩)
    clear h1 h2
    rcases hcase with ⟨rfl, hw⟩ | ⟨rfl, hJ⟩
    · obtain rfl := hw.symm
      go_upto_region 3 with (fail)
      go_region
      all_goals go_upto_region 4 with (fail)
      have hif : (if (n : Int) < 64 then (n : Int) else 64) = n := by split <;> omega
      rw [hif]
      have hYd : YieldAt Fence.wide 8 Tryz.prog l #[.slice (some ⟨g, 0, none⟩) n n] w.drew fun e W' => e = .returned (.bool true) ∧ (J W' ∧ W'.heap[bd]? = w.heap[bd]? ∧ W'.heap[bz]? = w.heap[bz]?) := HB.out.2.2 1
      obtain ⟨fn, tmps, assign, body, hy, hR⟩ := hYd
      refine (wpIn_wide (n := 9)).1 ?_
      gi_wp2
      refine hR.mono ?_
      rintro e W3 ⟨rfl, hJ3, hd3, hz3⟩
      have s1 := (cellD (hd3.trans HB.out.1) 0).1
      have s2 := (cellD (hz3.trans HB.out.2.1) 0).1
      have H3 := Lib.hid (show _ ∧ _ ∧ _ from ⟨hJ3, hd3, hz3⟩)
      clear hJ3 hd3 hz3
      gi_wp2
      go_wp2
      exact ⟨⟨H3.out.2.1, H3.out.2.2, .inr ⟨rfl, H3.out.1⟩⟩, by simp [intOf]⟩
    · go_wp2
      first | go_end0 | refine bodyPost_ret (results_none rfl _ _ _) rfl ?_
      exact ⟨⟨_, rfl⟩, hJ⟩
end Go.Proofs.YtokflmiijdpchaaGreat
namespace Go.Proofs.YtokflmiijdpchaaGreat
open Go.RowKit
attribute [local go_sem] Oper.semAt_some
theorem lin_value {P : Program} {l m : Nat} {ops : Array Oper} {rest : List Oper} {o : Oper} {a : Act} {Q : Exit → Act → World → Prop} {w w' : World} {v : Value} (hgd : o.guard = none) (hsem : o.semAt (some l) a.eval = execOp a.eval o) (hv : (execOp a.eval o).run P w = .ok (.value v) w') (hK : wpListIn (Fence.wide.inRound l) m P ops Q rest (a.put o.dst v) w') : wpListIn (Fence.wide.inRound l) m P ops Q (o :: rest) a w := by
  have hw : Region.wanted o (yielded ops a.tmps) = true := by simp [Region.wanted, hgd]
  simp only [wpListIn, hw, if_true]
  refine ⟨fun _ _ => trivial, ?_⟩
  rw [show (Fence.wide.inRound l).round = some l from rfl, hsem, hv]
  exact hK
set_option maxRecDepth 100000 in
theorem lin_copy_bk {l q : Nat} {W : World} {ops : Array Oper} {rest : List Oper} {o : Oper} {a : Act} {Q : Exit → Act → World → Prop} (hgd : o.guard = none) (d s : Operand) (ho : o.op = .call { callee := .builtin .copy, args := #[d, s], argTypes := #[23, 23] }) (hsem : o.semAt (some l) a.eval = execOp a.eval o)
    (b m off dLen dCap : Nat) (t : TypeId) (h : Bk W b m t) (hd : a.eval d = .slice (some ⟨b, off, none⟩) dLen dCap) (A o1 n c : Nat) (cs : List Value) (hs : a.eval s = .slice (some ⟨A, o1, none⟩) n c) (hr : W.rangeAt A o1 cs) (hl : cs.length = n) (hu : ∀ u ∈ cs, IsU8 u) (hdl : n ≤ dLen) (hm : off + n ≤ m)
    (hK : ∀ w', Bk w' b m t → W.grownBy w' (some b) → wpListIn (Fence.wide.inRound l) q Tryz.prog ops Q rest (a.put o.dst (goInt n)) w') : wpListIn (Fence.wide.inRound l) q Tryz.prog ops Q (o :: rest) a W := by
  obtain ⟨w', hrun, h2, h3⟩ := run_copy_bk (dCap := dCap) h o.type A o1 n c cs hr hl hu hdl hm
  refine lin_value hgd hsem (w' := w') (v := goInt n) ?_ (hK w' h2 h3)
  unfold execOp
  simp only [ho, resolve, invoke, builtin, Sem.run_bind, Sem.run_pure, Result.andThen_ok, List.map_toArray, List.map_cons, List.map_nil, hd, hs, hrun]
theorem lin_load_mid {P : Program} {l q : Nat} {W : World} {ops : Array Oper} {rest : List Oper} {o : Oper} {a : Act} {Q : Exit → Act → World → Prop} (hgd : o.guard = none) (ty : TypeId) (x : Operand) (ho : o.op = .load ty x) (hsem : o.semAt (some l) a.eval = execOp a.eval o) (b o1 : Nat) (hx : a.eval x = .pointer (some ⟨b, o1, none⟩)) (cs : List Value) (hr : W.rangeAt b o1 cs) (d : TypeDesc) (hu : P.underlying ty = some d) (hd : d.isRow = true) (hi : (P.info? ty).map (·.size) = some cs.length)
    (hK : wpListIn (Fence.wide.inRound l) q P ops Q rest (a.put o.dst (.agg cs.toArray)) W) : wpListIn (Fence.wide.inRound l) q P ops Q (o :: rest) a W := by
  refine lin_value hgd hsem (w' := W) (v := .agg cs.toArray) ?_ hK
  have hrun := run_loadAt_mid (P := P) W b o1 ty cs d hr hu hd hi
  unfold execOp
  simp only [ho, hx, Sem.run_bind, Result.andThen_ok, hrun, Sem.run_pure]
end Go.Proofs.YtokflmiijdpchaaGreat
