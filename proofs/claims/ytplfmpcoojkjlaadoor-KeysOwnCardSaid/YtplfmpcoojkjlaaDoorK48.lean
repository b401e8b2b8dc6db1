/- The walk of the document's code: the code of a good row. -/
import Derived.Test.YtplfmpcoojkjlaaDoorK47
import Derived.Test.YtplfmpcoojkjlaaDoorK18
import Derived.StillTailTactics
namespace Go.Proofs.YtplfmpcoojkjlaaDoor
open Go.RowKit Go.Proofs.YtplfmpcoojkjlaaDoorW.PrintWords
/-- Where a walk stands: its row of bytes, and a block beside it. -/
structure St (w0 w : World) (v : Value) (acc : List Int) (N : Nat) (X : Obj) : Prop where
  own : OwnB w w0.heap.size v acc
  below : Below w0.heap.size w0 w
  blk : w.heap[N]? = some X
  ne : some N ≠ v.ownBlock
theorem St.lt {w0 w : World} {v : Value} {acc : List Int} {N : Nat} {X : Obj} (h : St w0 w v acc N X) : N < w.heap.size := (Array.getElem?_eq_some_iff.1 h.blk).1
theorem St.step {w0 w w1 : World} {v v1 : Value} {acc acc1 : List Int} {N : Nat} {X : Obj} (h : St w0 w v acc N X) (ho : OwnB w1 w0.heap.size v1 acc1) (hb : Below w0.heap.size w w1) (hk : Kp w w1 v v1) : St w0 w1 v1 acc1 N X :=
  have h1 := hk N h.lt h.ne
  ⟨ho, h.below.trans hb, h1.1.trans h.blk, h1.2⟩
theorem own_lt {w : World} {base : Nat} {e : TypeId} {size n : Nat} {v : Value} {xs : List Value} (h : w.ownsRow base e size v n xs) : ∀ k, v.ownBlock = some k → k < w.heap.size := by
  intro k hk
  rcases h.2 with ⟨rfl, _⟩ | ⟨g, cap, cur, rfl, hg, hh, _⟩
  · simp [Value.ownBlock] at hk
  · simp [Value.ownBlock] at hk
    subst hk
    exact (Array.getElem?_eq_some_iff.1 hh).1
theorem OwnB.keep {w w1 : World} {base : Nat} {v : Value} {acc : List Int} (h : OwnB w base v acc) (hb : Below w.heap.size w w1) : OwnB w1 base v acc := ownsRow_move h fun k hk => hb.block k (own_lt h k hk)
theorem St.keep {w0 w w1 : World} {v : Value} {acc : List Int} {N : Nat} {X : Obj} (h : St w0 w v acc N X) (hb : Below w.heap.size w w1) : St w0 w1 v acc N X :=
  ⟨h.own.keep hb, h.below.trans (hb.mono h.below.size), (hb.block N h.lt).trans h.blk, h.ne⟩
theorem St.new {w0 w : World} {v : Value} {acc : List Int} (ho : OwnB w w0.heap.size v acc) (hb : Below w0.heap.size w0 w) (X : Obj) : St w0 (w.alloc X) v acc w.heap.size X :=
  ⟨ho.keep ((Below.refl _ _).alloc (Nat.le_refl _) _), hb.trans ((Below.refl _ _).alloc hb.size _), blk_new w X, fun e => by have := own_lt ho _ e.symm; omega⟩
theorem OwnB.row {w : World} {base : Nat} {v : Value} {acc : List Int} (h : OwnB w base v acc) : ∃ A c, v = .slice A acc.length c ∧ Row w A (nums8 acc) ∧ acc.length ≤ c := by
  obtain ⟨A, c, rfl⟩ := cut_slice h
  exact ⟨A, c, rfl, (own_row h).2.1, (own_row h).1⟩
theorem codL_app : ∀ (ps qs : List (TT PS)), codL (ps ++ qs) = codL ps ++ codL qs
  | [], qs => rfl
  | p :: ps, qs => by simp [codL, codL_app ps qs]
theorem xor_int (z : Int) (h0 : -9223372036854775808 ≤ z) (h1 : z ≤ 9223372036854775807) : bits BinOp.xor IntKind.u64 (IntKind.u64.wrap z) 9223372036854775808 = (((z + 9223372036854775808).toNat : Nat) : Int) := by
  have hw : IntKind.u64.wrap z = (((z % 18446744073709551616).toNat : Nat) : Int) := by rw [IntKind.wrap_u64]; omega
  have h := u64_xor_nat (z % 18446744073709551616).toNat 9223372036854775808 (by omega) (by omega)
  rw [hw, show (9223372036854775808 : Int) = ((9223372036854775808 : Nat) : Int) from rfl, h, xor_top _ (by omega)]
  split <;> omega
theorem TT.flts_mem {σ : Type} {κ : σ → Int} {p : TT σ} {d : Nat} : ∀ {ps : List (TT σ)}, TT.flts κ ps d = 0 → p ∈ ps → p.flt κ d = 0
  | [], _, hp => by cases hp
  | q :: ps, h, hp => by
    simp only [TT.flts] at h
    split at h
    · rename_i h1
      rcases List.mem_cons.1 hp with rfl | hp
      · exact h1
      · exact TT.flts_mem h hp
    · rename_i h1
      exact absurd h h1
theorem esc_snoc0 (xs : List Int) : esc (xs ++ [0]) = esc xs ++ [0] ++ [255] := by rw [esc_app]; simp [esc]
theorem esc_snoc1 (xs : List Int) (c : Int) (h : c ≠ 0) : esc (xs ++ [c]) = esc xs ++ [c] := by rw [esc_app]; simp [esc, h]
theorem esc_take (xs : List Int) (k : Nat) : (esc (xs.take k)).length ≤ (esc xs).length := by
  conv => rhs; rw [← List.take_append_drop k xs, esc_app, List.length_append]
  omega
def CodeAt (n : Nat) : Prop := ∀ (w : World) (A : Option Addr) (c deep : Nat) (ms : List (LT PS)), LT.cnts ms ≤ n → RdL PS.enc w A ms → TT.flts PS.kind (LT.pures ms) deep = 0 → TT.alls PS.fits (LT.pures ms) → (codL (LT.pures ms)).length ≤ 1099511627776 →
  Calls Tryd.prog 36 #[.slice A ms.length c] w fun e w' => ∃ v', e = .returned v' ∧ OwnB w' w.heap.size v' (codL (LT.pures ms)) ∧ Below w.heap.size w w'
set_option maxRecDepth 100000 in
set_option maxHeartbeats 4000000 in
theorem code_of (n : Nat) (HI : ∀ m, m < n → CodeAt m) : CodeAt n := by
  intro w A c deep ms hcnt hA hf hp hl
  have hml : ms.length ≤ 9223372036854775807 := hA.len
  have HREC := Lib.hid HI
  have H0 := Lib.hid (show _ ∧ _ ∧ _ ∧ _ ∧ _ from ⟨hcnt, hA, hf, hp, hl⟩)
  clear HI hcnt hA hf hp hl
  go_enter Tryd.func36, Tryd.ntmps36
  go_wp2
  go_loopw [3, 4] (fun vv vi wr => ∃ k : Nat, k ≤ ms.length ∧ vi = .int .i64 k ∧ OwnB wr w.heap.size vv (codL ((LT.pures ms).take k)) ∧ Below w.heap.size w wr) (fun _ vi _ => ms.length - (intOf vi).toNat)
  case atStart => exact ⟨0, by omega, rfl, OwnB.nil _ _, Below.refl _ _⟩
  case round =>
    obtain ⟨k, hk, rfl, hown, hbw⟩ := hrel
    have HW := Lib.hid (show _ ∧ _ from ⟨hown, hbw⟩)
    clear hown hbw
    by_cases hlt : k < ms.length
    · obtain ⟨b, o, rfl, hblt, hcs, hrd⟩ := (H0.out.2.1.below HW.out.2).get PS.enc5 k hlt
      have hlp : k < (LT.pures ms).length := by rw [LT.pures_length]; exact hlt
      have hel : (LT.pures ms)[k] = (ms[k]).pure := by simp [LT.pures_map]
      have hmem : (ms[k]).pure ∈ LT.pures ms := by rw [LT.pures_map]; exact List.mem_map_of_mem (List.getElem_mem hlt)
      have hsplit : (LT.pures ms).take (k + 1) = (LT.pures ms).take k ++ [(ms[k]).pure] := by rw [List.take_succ_eq_append_getElem hlp, hel]
      have hflt : (ms[k]).pure.flt PS.kind deep = 0 := TT.flts_mem H0.out.2.2.1 hmem
      have hfit : (ms[k]).pure.all PS.fits := TT.alls_mem H0.out.2.2.2.1 hmem
      have htot : (codL ((LT.pures ms).take (k + 1))).length ≤ 1099511627776 := by
        refine Nat.le_trans ?_ H0.out.2.2.2.2
        rw [← List.take_append_drop (k + 1) (LT.pures ms), codL_app, List.length_append]
        simp
      have hrw : (ms[k]).Rd PS.enc w := H0.out.2.1.all _ (List.getElem_mem hlt)
      have hcp : LT.cnts (ms[k]).parts < n := by
        have h1 := LT.cnt_parts ms[k]
        have h2 := LT.cnt_mem (List.getElem_mem hlt)
        have := H0.out.1
        omega
      rw [hsplit, codL_app] at htot
      generalize ms[k] = m at *
      obtain ⟨⟨kd, bb, nn, re, im⟩, th, tx, ph, ps⟩ := m
      simp only [LT.pure] at hflt hfit htot hsplit
      simp only [codL, List.append_nil, List.length_append] at htot
      have kp := flt_ok hflt
      dsimp only at kp
      have b0 : wr.cell? ⟨b, o + k * 7, none⟩ = some (.int .i64 kd) := rd_cell7 0 hcs (by omega) rfl
      have b1 : wr.cell? ⟨b, o + k * 7 + 1, none⟩ = some (.bool bb) := rd_cell7 1 hcs (by omega) rfl
      have b2 : wr.cell? ⟨b, o + k * 7 + 2, none⟩ = some (.int .i64 nn) := rd_cell7 2 hcs (by omega) rfl
      have b3 : wr.cell? ⟨b, o + k * 7 + 3, none⟩ = some (.int .u64 re) := rd_cell7 3 hcs (by omega) rfl
      have b4 : wr.cell? ⟨b, o + k * 7 + 4, none⟩ = some (.int .u64 im) := rd_cell7 4 hcs (by omega) rfl
      have b5 : wr.cell? ⟨b, o + k * 7 + 5, none⟩ = some (.slice th.A tx.length th.cap) := rd_cell7 5 hcs (by omega) rfl
      have b6 : wr.cell? ⟨b, o + k * 7 + 6, none⟩ = some (.slice ph.A ps.length ph.cap) := rd_cell7 6 hcs (by omega) rfl
      have hk1 : 1 ≤ kd := kp.1
      have hk7 : kd ≤ 7 := kp.2.1
      have HX := Lib.hid (show _ ∧ _ ∧ _ ∧ _ ∧ _ ∧ _ from ⟨hrw, kp.2.2, hfit, htot, hcp, hsplit⟩)
      clear hcs hrd hrw hflt hfit htot hcp kp hsplit hmem hel hlp
      go_upto_region 6 with (fail)
      generalize hwx : wr.alloc _ = wx
      have hst : St w wx u3 (codL ((LT.pures ms).take k)) wr.heap.size (.cells #[Value.int IntKind.i64 kd, Value.bool bb, Value.int IntKind.i64 nn, Value.int IntKind.u64 re, Value.int IntKind.u64 im, Value.slice th.A tx.length th.cap, Value.slice ph.A ps.length ph.cap] 69 (0, 0)) := by
        rw [← hwx]
        exact St.new HW.out.1 HW.out.2 _
      have x0 : wx.cell? ⟨wr.heap.size, 0, none⟩ = some (.int .i64 kd) := (blk_cell hst.blk 0).trans rfl
      have HS := Lib.hid hst
      have HWX := Lib.hid hwx
      clear hst hwx b0 b1 b2 b3 b4 b5 b6
      go_upto_region 7 with (((with_reducible refine gate_dst (N := 22) rfl ?_); go_loud (refine app_byte rfl (.tmp 17) (.tmp 21) rfl w.heap.size u3 (codL ((LT.pures ms).take k)) kd wx.heap.size rfl rfl rfl HS.out.own (by have := HX.out.2.2.2.1; omega) HS.out.below.size ?_); intro v2 w2 ho2 hb2 hk2; have H2 := Lib.hid (HS.out.step ho2 hb2 hk2); clear ho2 hb2 hk2 x0))
      have y0 : w2.cell? ⟨wr.heap.size, 0, none⟩ = some (.int .i64 kd) := (blk_cell H2.out.blk 0).trans rfl
      have hclose : ∀ v3 w3 acc3, St w w3 v3 acc3 wr.heap.size (.cells #[Value.int IntKind.i64 kd, Value.bool bb, Value.int IntKind.i64 nn, Value.int IntKind.u64 re, Value.int IntKind.u64 im, Value.slice th.A tx.length th.cap, Value.slice ph.A ps.length ph.cap] 69 (0, 0)) → acc3 = codL ((LT.pures ms).take k) ++ codT (.mk ⟨kd, bb, nn, re, im⟩ tx (LT.pures ps)) → OwnB w3 w.heap.size v3 (codL ((LT.pures ms).take (k + 1))) ∧ Below w.heap.size w w3 := fun v3 w3 acc3 h e => by
        subst e
        refine ⟨?_, h.below⟩
        rw [HX.out.2.2.2.2.2, codL_app]
        simpa [codL] using h.own
      have HC := Lib.hid hclose
      have hlen : (codL ((LT.pures ms).take k)).length ≤ 1099511627776 := by have := HX.out.2.2.2.1; omega
      clear hclose
      by_cases h1 : kd = 1
      · subst h1
        go_wp2
        go_roundw
        case rel => exact ⟨k + 1, by omega, by go_num, (HC.out _ _ _ H2.out (by simp [codT])).1, (HC.out _ _ _ H2.out (by simp [codT])).2⟩
        case measure => simp [intOf]; omega
      by_cases h2 : kd = 2
      · subst h2
        have y1 : w2.cell? ⟨wr.heap.size, 1, none⟩ = some (.bool bb) := (blk_cell H2.out.blk 1).trans rfl
        cases bb
        · go_wp2_with (((with_reducible refine gate_dst (N := 34) rfl ?_); go_loud (refine app_byte rfl (.tmp 32) (.tmp 33) rfl w.heap.size v2 (codL ((LT.pures ms).take k) ++ [2]) 0 w2.heap.size rfl rfl rfl H2.out.own (by simp; omega) H2.out.below.size ?_); intro v3 w3 ho3 hb3 hk3; have H3 := Lib.hid (H2.out.step ho3 hb3 hk3); clear ho3 hb3 hk3))
          go_roundw
          case rel => exact ⟨k + 1, by omega, by go_num, (HC.out _ _ _ H3.out (by simp [codT, b2i])).1, (HC.out _ _ _ H3.out (by simp [codT, b2i])).2⟩
          case measure => simp [intOf]; omega
        · go_wp2_with (((with_reducible refine gate_dst (N := 31) rfl ?_); go_loud (refine app_byte rfl (.tmp 29) (.tmp 30) rfl w.heap.size v2 (codL ((LT.pures ms).take k) ++ [2]) 1 w2.heap.size rfl rfl rfl H2.out.own (by simp; omega) H2.out.below.size ?_); intro v3 w3 ho3 hb3 hk3; have H3 := Lib.hid (H2.out.step ho3 hb3 hk3); clear ho3 hb3 hk3))
          go_roundw
          case rel => exact ⟨k + 1, by omega, by go_num, (HC.out _ _ _ H3.out (by simp [codT, b2i])).1, (HC.out _ _ _ H3.out (by simp [codT, b2i])).2⟩
          case measure => simp [intOf]; omega
      have h2b : (kd == 2) = false := by simpa using h2
      by_cases h3 : kd = 3
      · subst h3
        have y2 : w2.cell? ⟨wr.heap.size, 2, none⟩ = some (.int .i64 nn) := (blk_cell H2.out.blk 2).trans rfl
        have hq := xor_int nn HX.out.2.2.1.1.2.1 HX.out.2.2.1.1.2.2
        have hz : -9223372036854775808 ≤ nn ∧ nn ≤ 9223372036854775807 := HX.out.2.2.1.1.2
        have hqb : (nn + 9223372036854775808).toNat < 18446744073709551616 := by omega
        clear hz
        have HCC := Lib.hid (show ∀ acc, acc = codL ((LT.pures ms).take k) ++ [3] ++ be 8 (nn + 9223372036854775808).toNat → acc = codL ((LT.pures ms).take k) ++ codT (.mk ⟨3, bb, nn, re, im⟩ tx (LT.pures ps)) from fun acc h => by rw [h]; simp [codT])
        generalize (nn + 9223372036854775808).toNat = q at *
        have HQ := Lib.hid hqb
        clear hqb
        go_wp2_with fail
        refine (reight_calls w2 q HQ.out).mono ?_
        rintro e w3 ⟨v3, rfl, ho3, hb3⟩
        obtain ⟨A3, c3, rfl, hr3, _⟩ := ho3.row
        have H3 := Lib.hid (show _ ∧ _ from ⟨H2.out.keep hb3, hr3⟩)
        clear ho3 hb3 hr3 hq y0 y2
        go_wp2_with (((with_reducible refine gate_dst (N := 43) rfl ?_); go_loud (refine app_text rfl (.tmp 37) (.tmp 42) rfl w.heap.size v2 (codL ((LT.pures ms).take k) ++ [3]) (be 8 q) A3 (be 8 q).length c3 rfl rfl rfl H3.out.1.own H3.out.2 (by simp [be_length]; omega) H3.out.1.below.size ?_); intro v4 w4 ho4 hb4 hk4; have H4 := Lib.hid (H3.out.1.step ho4 hb4 hk4); clear ho4 hb4 hk4))
        go_roundw
        case rel => exact ⟨k + 1, by omega, by go_num, (HC.out _ _ _ H4.out (HCC.out _ rfl)).1, (HC.out _ _ _ H4.out (HCC.out _ rfl)).2⟩
        case measure => simp [intOf]; omega
      have h3b : (kd == 3) = false := by simpa using h3
      by_cases h4 : kd = 4
      · subst h4
        have y3 : w2.cell? ⟨wr.heap.size, 3, none⟩ = some (.int .u64 re) := (blk_cell H2.out.blk 3).trans rfl
        have HCC := Lib.hid (show ∀ acc, acc = codL ((LT.pures ms).take k) ++ [4] ++ be 8 (rankB re) → acc = codL ((LT.pures ms).take k) ++ codT (.mk ⟨4, bb, nn, re, im⟩ tx (LT.pures ps)) from fun acc h => by rw [h]; simp [codT])
        have HT := Lib.hid (fun w => turned_calls w re HX.out.2.2.1.1.1.1)
        have HQ := Lib.hid (rankB_lt re HX.out.2.2.1.1.1.1)
        generalize rankB re = q at *
        go_wp2_with fail
        refine (HT.out w2).mono ?_
        rintro e w3 ⟨rfl, rfl⟩
        go_wp2_with fail
        refine (reight_calls _ q HQ.out).mono ?_
        rintro e w4 ⟨v3, rfl, ho3, hb3⟩
        obtain ⟨A3, c3, rfl, hr3, _⟩ := ho3.row
        have H3 := Lib.hid (show _ ∧ _ from ⟨H2.out.keep hb3, hr3⟩)
        clear ho3 hb3 hr3 y0 y3
        go_wp2_with (((with_reducible refine gate_dst (N := 51) rfl ?_); go_loud (refine app_text rfl (.tmp 46) (.tmp 50) rfl w.heap.size v2 (codL ((LT.pures ms).take k) ++ [4]) (be 8 q) A3 (be 8 q).length c3 rfl rfl rfl H3.out.1.own H3.out.2 (by simp [be_length]; omega) H3.out.1.below.size ?_); intro v4 w4 ho4 hb4 hk4; have H4 := Lib.hid (H3.out.1.step ho4 hb4 hk4); clear ho4 hb4 hk4))
        go_roundw
        case rel => exact ⟨k + 1, by omega, by go_num, (HC.out _ _ _ H4.out (HCC.out _ rfl)).1, (HC.out _ _ _ H4.out (HCC.out _ rfl)).2⟩
        case measure => simp [intOf]; omega
      have h4b : (kd == 4) = false := by simpa using h4
      by_cases h5 : kd = 5
      · subst h5
        have y3 : w2.cell? ⟨wr.heap.size, 3, none⟩ = some (.int .u64 re) := (blk_cell H2.out.blk 3).trans rfl
        have HCC := Lib.hid (show ∀ acc, acc = codL ((LT.pures ms).take k) ++ [5] ++ be 8 (rankB re) ++ be 8 (rankB im) → acc = codL ((LT.pures ms).take k) ++ codT (.mk ⟨5, bb, nn, re, im⟩ tx (LT.pures ps)) from fun acc h => by rw [h]; simp [codT])
        have HT := Lib.hid (show _ ∧ _ from ⟨fun w => turned_calls w re HX.out.2.2.1.1.1.1, fun w => turned_calls w im HX.out.2.2.1.1.1.2.1⟩)
        have HQ := Lib.hid (show _ ∧ _ from ⟨rankB_lt re HX.out.2.2.1.1.1.1, rankB_lt im HX.out.2.2.1.1.1.2.1⟩)
        generalize rankB re = q at *
        generalize rankB im = q2 at *
        go_wp2_with fail
        refine (HT.out.1 w2).mono ?_
        rintro e w3 ⟨rfl, rfl⟩
        go_wp2_with fail
        refine (reight_calls _ q HQ.out.1).mono ?_
        rintro e w4 ⟨v3, rfl, ho3, hb3⟩
        obtain ⟨A3, c3, rfl, hr3, _⟩ := ho3.row
        have H3 := Lib.hid (show _ ∧ _ from ⟨H2.out.keep hb3, hr3⟩)
        clear ho3 hb3 hr3 y0 y3
        go_upto_region 18 with (((with_reducible refine gate_dst (N := 59) rfl ?_); go_loud (refine app_text rfl (.tmp 54) (.tmp 58) rfl w.heap.size v2 (codL ((LT.pures ms).take k) ++ [5]) (be 8 q) A3 (be 8 q).length c3 rfl rfl rfl H3.out.1.own H3.out.2 (by simp [be_length]; omega) H3.out.1.below.size ?_); intro v4 w5 ho4 hb4 hk4; have H4 := Lib.hid (H3.out.1.step ho4 hb4 hk4); clear ho4 hb4 hk4))
        have z4 : w5.cell? ⟨wr.heap.size, 4, none⟩ = some (.int .u64 im) := (blk_cell H4.out.blk 4).trans rfl
        go_wp2_with fail
        refine (HT.out.2 w5).mono ?_
        rintro e w6 ⟨rfl, rfl⟩
        go_wp2_with fail
        refine (reight_calls _ q2 HQ.out.2).mono ?_
        rintro e w7 ⟨v5, rfl, ho5, hb5⟩
        obtain ⟨A5, c5, rfl, hr5, _⟩ := ho5.row
        have H5 := Lib.hid (show _ ∧ _ from ⟨H4.out.keep hb5, hr5⟩)
        clear ho5 hb5 hr5 z4
        go_wp2_with (((with_reducible refine gate_dst (N := 65) rfl ?_); go_loud (refine app_text rfl (.tmp 60) (.tmp 64) rfl w.heap.size v4 (codL ((LT.pures ms).take k) ++ [5] ++ be 8 q) (be 8 q2) A5 (be 8 q2).length c5 rfl rfl rfl H5.out.1.own H5.out.2 (by simp [be_length]; omega) H5.out.1.below.size ?_); intro v6 w8 ho6 hb6 hk6; have H6 := Lib.hid (H5.out.1.step ho6 hb6 hk6); clear ho6 hb6 hk6))
        go_roundw
        case rel => exact ⟨k + 1, by omega, by go_num, (HC.out _ _ _ H6.out (HCC.out _ rfl)).1, (HC.out _ _ _ H6.out (HCC.out _ rfl)).2⟩
        case measure => simp [intOf]; omega
      have h5b : (kd == 5) = false := by simpa using h5
      by_cases h6 : kd = 6
      · subst h6
        obtain ⟨tA, tc⟩ := th
        have y5 : w2.cell? ⟨wr.heap.size, 5, none⟩ = some (.slice tA tx.length tc) := (blk_cell H2.out.blk 5).trans rfl
        have hct : (codT (.mk ⟨6, bb, nn, re, im⟩ tx (LT.pures ps))) = 6 :: (esc tx ++ [0]) := by simp [codT]
        have hes : (codL ((LT.pures ms).take k)).length + (esc tx).length + 2 ≤ 1099511627776 := by
          have := HX.out.2.2.2.1
          rw [hct] at this
          simp at this
          omega
        have HCC := Lib.hid (show ∀ acc, acc = codL ((LT.pures ms).take k) ++ [6] ++ esc (tx.take tx.length) ++ [0] → acc = codL ((LT.pures ms).take k) ++ codT (.mk ⟨6, bb, nn, re, im⟩ tx (LT.pures ps)) from fun acc h => by rw [h, hct, List.take_length]; simp)
        have htl : tx.length ≤ 9223372036854775807 := HX.out.1.textLen
        have hbyt : Byt tx := HX.out.2.2.1.1.1.2.2
        have hrow : Row w tA (nums8 tx) := HX.out.1.textRow
        have HR := Lib.hid (show _ ∧ _ from ⟨hrow, hbyt⟩)
        clear hct hrow hbyt
        obtain ⟨wo, rfl⟩ : ∃ wo : World, wo = wr := ⟨_, rfl⟩
        go_wp2
        clear y0 y5
        go_loopw [3, 6] (fun vv vj wq => ∃ j : Nat, j ≤ tx.length ∧ vj = .int .i64 j ∧ St w wq vv (codL ((LT.pures ms).take k) ++ [6] ++ esc (tx.take j)) wo.heap.size (.cells #[Value.int IntKind.i64 6, Value.bool bb, Value.int IntKind.i64 nn, Value.int IntKind.u64 re, Value.int IntKind.u64 im, Value.slice tA tx.length tc, Value.slice ph.A ps.length ph.cap] 69 (0, 0))) (fun _ vj _ => tx.length - (intOf vj).toNat)
        case atStart => exact ⟨0, by omega, rfl, by simpa [esc] using H2.out⟩
        case round =>
          obtain ⟨j, hj, rfl, hst⟩ := hrel
          have HQ := Lib.hid hst
          clear hst
          have y5 : wr.cell? ⟨wo.heap.size, 5, none⟩ = some (.slice tA tx.length tc) := (blk_cell HQ.out.blk 5).trans rfl
          have hel := esc_take tx j
          by_cases hjl : j < tx.length
          · obtain ⟨tb, tof, rfl, htb, hcl⟩ := HR.out.1.get (by intro h; have := congrArg List.length h; simp only [nums8_length, List.length_nil] at this; omega)
            have ht0 : w.cell? ⟨tb, tof + j, none⟩ = some (.int .u8 tx[j]) := hcl j _ (nums8_get tx j hjl)
            have htk : tx.take (j + 1) = tx.take j ++ [tx[j]] := List.take_succ_eq_append_getElem hjl
            have hel2 := esc_take tx (j + 1)
            have hbd := HR.out.2.at j hjl
            have hes0 := esc_snoc0 (tx.take j)
            have hes1 := esc_snoc1 (tx.take j) tx[j]
            rw [htk] at hel2
            generalize tx[j] = cj at *
            have hb1 := hbd.1
            have hb2 := hbd.2
            have yt : wr.cell? ⟨tb, tof + j, none⟩ = some (.int .u8 cj) := (HQ.out.below.cell (p := ⟨tb, tof + j, none⟩) htb).trans ht0
            have HT := Lib.hid (show _ ∧ _ ∧ _ ∧ _ ∧ _ from ⟨htb, ht0, htk, hes0, hes1⟩)
            clear htb ht0 htk hes0 hes1 hbd hcl
            go_upto_region 24 with (((with_reducible refine gate_dst (N := 82) rfl ?_); go_loud (refine app_byte rfl (.tmp 75) (.tmp 81) rfl w.heap.size u3 (codL ((LT.pures ms).take k) ++ [6] ++ esc (tx.take j)) cj wr.heap.size rfl rfl rfl HQ.out.own (by simp; omega) HQ.out.below.size ?_); intro v3 w3 ho3 hb3 hk3; have H3 := Lib.hid (HQ.out.step ho3 hb3 hk3); clear ho3 hb3 hk3 y5 yt))
            have y5 : w3.cell? ⟨wo.heap.size, 5, none⟩ = some (.slice (some ⟨tb, tof, none⟩) tx.length tc) := (blk_cell H3.out.blk 5).trans rfl
            have yt : w3.cell? ⟨tb, tof + j, none⟩ = some (.int .u8 cj) := (H3.out.below.cell (p := ⟨tb, tof + j, none⟩) HT.out.1).trans HT.out.2.1
            by_cases hz : cj = 0
            · subst hz
              have hle : (esc (tx.take j)).length + 2 ≤ (esc tx).length := by
                rw [HT.out.2.2.2.1] at hel2
                simpa using hel2
              go_wp2_with (((with_reducible refine gate_dst (N := 91) rfl ?_); go_loud (refine app_byte rfl (.tmp 89) (.tmp 90) rfl w.heap.size v3 (codL ((LT.pures ms).take k) ++ [6] ++ esc (tx.take j) ++ [0]) 255 w3.heap.size rfl rfl rfl H3.out.own (by simp; omega) H3.out.below.size ?_); intro v4 w4 ho4 hb4 hk4; have H4 := Lib.hid (H3.out.step ho4 hb4 hk4); clear ho4 hb4 hk4))
              go_roundw
              case rel => exact ⟨j + 1, by omega, by go_num, by rw [HT.out.2.2.1, HT.out.2.2.2.1]; simpa using H4.out⟩
              case measure => simp [intOf]; omega
            · have hzb : (cj == 0) = false := by simpa using hz
              have HZ := Lib.hid (HT.out.2.2.2.2 hz)
              clear hz
              go_wp2
              go_roundw
              case rel => exact ⟨j + 1, by omega, by go_num, by rw [HT.out.2.2.1, HZ.out]; simpa using H3.out⟩
              case measure => simp [intOf]; omega
          · obtain rfl : j = tx.length := by omega
            rw [List.take_length] at hel
            go_wp2_with (((with_reducible refine gate_dst (N := 94) rfl ?_); go_loud (refine app_byte rfl (.tmp 92) (.tmp 93) rfl w.heap.size u3 (codL ((LT.pures ms).take k) ++ [6] ++ esc (tx.take tx.length)) 0 wr.heap.size rfl rfl rfl HQ.out.own (by simp; omega) HQ.out.below.size ?_); intro v3 w3 ho3 hb3 hk3; have H3 := Lib.hid (HQ.out.step ho3 hb3 hk3); clear ho3 hb3 hk3))
            go_roundw
            case rel => exact ⟨k + 1, by omega, by go_num, (HC.out _ _ _ H3.out (HCC.out _ rfl)).1, (HC.out _ _ _ H3.out (HCC.out _ rfl)).2⟩
            case measure => simp [intOf]; omega
      have h6b : (kd == 6) = false := by simpa using h6
      have h7 : kd = 7 := by omega
      subst h7
      have y6 : w2.cell? ⟨wr.heap.size, 6, none⟩ = some (.slice ph.A ps.length ph.cap) := (blk_cell H2.out.blk 6).trans rfl
      have hct : (codT (.mk ⟨7, bb, nn, re, im⟩ tx (LT.pures ps))) = 7 :: (codL (LT.pures ps) ++ [0]) := by simp [codT]
      have hps : (codL ((LT.pures ms).take k)).length + (codL (LT.pures ps)).length + 2 ≤ 1099511627776 := by
        have := HX.out.2.2.2.1
        rw [hct] at this
        simp at this
        omega
      have HCC := Lib.hid (show ∀ acc, acc = codL ((LT.pures ms).take k) ++ [7] ++ codL (LT.pures ps) ++ [0] → acc = codL ((LT.pures ms).take k) ++ codT (.mk ⟨7, bb, nn, re, im⟩ tx (LT.pures ps)) from fun acc h => by rw [h, hct]; simp)
      have hcall := HREC.out (LT.cnts ps) HX.out.2.2.2.2.1 w2 ph.A ph.cap (deep + 1) ps (Nat.le_refl _) ((HX.out.1.keep H2.out.below).parts) (HX.out.2.1 rfl).2 HX.out.2.2.1.2 (by omega)
      have HCL := Lib.hid hcall
      clear hct hcall
      go_wp2_with fail
      refine HCL.out.mono ?_
      rintro e w3 ⟨v3, rfl, ho3, hb3⟩
      obtain ⟨A3, c3, rfl, hr3, _⟩ := ho3.row
      have H3 := Lib.hid (show _ ∧ _ from ⟨H2.out.keep hb3, hr3⟩)
      clear ho3 hb3 hr3 y0 y6
      go_upto_region 29 with (((with_reducible refine gate_dst (N := 101) rfl ?_); go_loud (refine app_text rfl (.tmp 97) (.tmp 100) rfl w.heap.size v2 (codL ((LT.pures ms).take k) ++ [7]) (codL (LT.pures ps)) A3 (codL (LT.pures ps)).length c3 rfl rfl rfl H3.out.1.own H3.out.2 (by simp; omega) H3.out.1.below.size ?_); intro v4 w5 ho4 hb4 hk4; have H4 := Lib.hid (H3.out.1.step ho4 hb4 hk4); clear ho4 hb4 hk4))
      go_wp2_with (((with_reducible refine gate_dst (N := 104) rfl ?_); go_loud (refine app_byte rfl (.tmp 102) (.tmp 103) rfl w.heap.size v4 (codL ((LT.pures ms).take k) ++ [7] ++ codL (LT.pures ps)) 0 w5.heap.size rfl rfl rfl H4.out.own (by simp; omega) H4.out.below.size ?_); intro v5 w6 ho5 hb5 hk5; have H5 := Lib.hid (H4.out.step ho5 hb5 hk5); clear ho5 hb5 hk5))
      go_roundw
      case rel => exact ⟨k + 1, by omega, by go_num, (HC.out _ _ _ H5.out (HCC.out _ rfl)).1, (HC.out _ _ _ H5.out (HCC.out _ rfl)).2⟩
      case measure => simp [intOf]; omega
    · go_wp2
      go_ret
      have hall : (LT.pures ms).take k = LT.pures ms := List.take_of_length_le (by rw [LT.pures_length]; omega)
      refine ⟨_, rfl, ?_, HW.out.2⟩
      have := HW.out.1
      rwa [hall] at this
end Go.Proofs.YtplfmpcoojkjlaaDoor
