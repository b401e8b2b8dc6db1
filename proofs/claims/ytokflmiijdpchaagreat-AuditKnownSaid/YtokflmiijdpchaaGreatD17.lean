/- Copies into a block of bytes; a log's sector is made. -/
import Derived.Test.YtokflmiijdpchaaGreatD16
import Derived.Laws.CopyOwn
namespace Go.Proofs.YtokflmiijdpchaaGreat
open Go.RowKit
theorem u8_size : (Tryz.prog.info? 5).map (·.size) = some 1 := by kernel_rfl
theorem run_copy_bk {W : World} {b m off dLen dCap : Nat} {t : TypeId} (h : Bk W b m t) (ty : TypeId) (A o n c : Nat) (cs : List Value) (hr : W.rangeAt A o cs) (hl : cs.length = n) (hu : ∀ u ∈ cs, IsU8 u) (hd : n ≤ dLen) (hm : off + n ≤ m) :
    ∃ w', (Builtin.copy_ #[23, 23] ty #[.slice (some ⟨b, off, none⟩) dLen dCap, .slice (some ⟨A, o, none⟩) n c]).run Tryz.prog W = .ok (goInt n) w' ∧ Bk w' b m t ∧ W.grownBy w' (some b) := by
  obtain ⟨cur, hc, hs, hcu⟩ := h
  have hrun := run_copy_row (P := Tryz.prog) W 23 23 ty 5 b off dLen dCap ⟨A, o, none⟩ n c cur t cs Tryz.underlying23 u8_size hc (by rw [hl]; exact (Nat.min_eq_left hd).symm) (fun j v hv => by have := hr j v hv; unfold Addr.add; split <;> simp_all) (by omega) (fun v hv => (hu v hv).one)
  rw [hl] at hrun
  refine ⟨_, hrun, ⟨_, by simp only [World.setRow, Array.getElem?_modify, hc]; rfl, ?_, fun v hv => ?_⟩, ⟨rfl, rfl, rfl, by simp [World.setRow], fun k hk hne => setRow_other W b k _ (fun e => hne (by rw [e]))⟩⟩
  · simp
    omega
  · rw [← Array.mem_toList_iff] at hv
    simp only [List.mem_append] at hv
    rcases hv with (hv | hv) | hv
    · exact hcu v (Array.mem_toList_iff.1 (List.mem_of_mem_take hv))
    · exact hu v hv
    · exact hcu v (Array.mem_toList_iff.1 (List.mem_of_mem_drop hv))
set_option maxRecDepth 100000 in
theorem wpo_copy_bk {W : World} {o : Oper} {a : Act} {K : Act → World → Prop} {Q : Exit → Act → World → Prop} (d s : Operand) (ho : o.op = .call { callee := .builtin .copy, args := #[d, s], argTypes := #[23, 23] })
    (b m off dLen dCap : Nat) (t : TypeId) (h : Bk W b m t) (hd : a.eval d = .slice (some ⟨b, off, none⟩) dLen dCap) (A o1 n c : Nat) (cs : List Value) (hs : a.eval s = .slice (some ⟨A, o1, none⟩) n c) (hr : W.rangeAt A o1 cs) (hl : cs.length = n) (hu : ∀ u ∈ cs, IsU8 u) (hdl : n ≤ dLen) (hm : off + n ≤ m)
    (hK : ∀ w', Bk w' b m t → W.grownBy w' (some b) → K (a.put o.dst (goInt n)) w') : o.wp Tryz.prog a W K Q := by
  obtain ⟨w', hrun, h2, h3⟩ := run_copy_bk (dCap := dCap) h o.type A o1 n c cs hr hl hu hdl hm
  unfold Oper.wp execOp
  simp only [ho, resolve, invoke, builtin, Sem.run_bind, Sem.run_pure, Result.andThen_ok, List.map_toArray, List.map_cons, List.map_nil, hd, hs, hrun]
  exact hK w' h2 h3
theorem wp_copy_bk {W : World} {ops : Array Oper} {rest : List Oper} {o : Oper} {a : Act} {Q : Exit → Act → World → Prop} (hgd : o.guard = none) (d s : Operand) (ho : o.op = .call { callee := .builtin .copy, args := #[d, s], argTypes := #[23, 23] })
    (b m off dLen dCap : Nat) (t : TypeId) (h : Bk W b m t) (hd : a.eval d = .slice (some ⟨b, off, none⟩) dLen dCap) (A o1 n c : Nat) (cs : List Value) (hs : a.eval s = .slice (some ⟨A, o1, none⟩) n c) (hr : W.rangeAt A o1 cs) (hl : cs.length = n) (hu : ∀ u ∈ cs, IsU8 u) (hdl : n ≤ dLen) (hm : off + n ≤ m)
    (hK : ∀ w', Bk w' b m t → W.grownBy w' (some b) → wpList Tryz.prog ops Q rest (a.put o.dst (goInt n)) w') : wpList Tryz.prog ops Q (o :: rest) a W :=
  wpList_plain hgd fun _ hk => wpo_copy_bk d s ho b m off dLen dCap t h hd A o1 n c cs hs hr hl hu hdl hm fun w' h2 h3 => hk _ _ (hK w' h2 h3)
theorem step_copy_bk {W : World} {ops : Array Oper} {o : Oper} {a : Act} {K : Act → World → Prop} {Q : Exit → Act → World → Prop} {E : Prop} (hgd : o.guard = none) (d s : Operand) (ho : o.op = .call { callee := .builtin .copy, args := #[d, s], argTypes := #[23, 23] })
    (b m off dLen dCap : Nat) (t : TypeId) (h : Bk W b m t) (hd : a.eval d = .slice (some ⟨b, off, none⟩) dLen dCap) (A o1 n c : Nat) (cs : List Value) (hs : a.eval s = .slice (some ⟨A, o1, none⟩) n c) (hr : W.rangeAt A o1 cs) (hl : cs.length = n) (hu : ∀ u ∈ cs, IsU8 u) (hdl : n ≤ dLen) (hm : off + n ≤ m)
    (hK : ∀ w', Bk w' b m t → W.grownBy w' (some b) → K (a.put o.dst (goInt n)) w') : if Region.wanted o (yielded ops a.tmps) = true then Oper.wp Tryz.prog o a W K Q else E := by
  have hw : Region.wanted o (yielded ops a.tmps) = true := by simp [Region.wanted, hgd]
  rw [if_pos hw]
  exact wpo_copy_bk d s ho b m off dLen dCap t h hd A o1 n c cs hs hr hl hu hdl hm hK
theorem Bk.at {w : World} {b m : Nat} {t : TypeId} (h : Bk w b m t) (o n : Nat) (hm : o + n ≤ m) : ∀ j, j < n → ∃ x : Int, 0 ≤ x ∧ x < 256 ∧ w.cell? ⟨b, o + j, none⟩ = some (.int .u8 x) := fun j hj => by
  obtain ⟨c, hc, hs, hu⟩ := h
  obtain ⟨x, h0, h1, h2⟩ := hu c[o + j] (Array.getElem_mem (by omega))
  exact ⟨x, h0, h1, by rw [(cellD hc _).1, Array.getElem?_eq_getElem (by omega), h2]⟩
theorem Bk.lt {w : World} {b m : Nat} {t : TypeId} (h : Bk w b m t) : b < w.heap.size := let ⟨_, hc, _⟩ := h; (Array.getElem?_eq_some_iff.1 hc).1
theorem Bk.below {w w' : World} {b m : Nat} {t : TypeId} (h : Bk w b m t) (hb : Below w.heap.size w w') : Bk w' b m t := let ⟨c, hc, hs⟩ := h; ⟨c, (hb.block b (Array.getElem?_eq_some_iff.1 hc).1).trans hc, hs⟩
theorem Bk.sec {w : World} {b : Nat} {t : TypeId} (h : Bk w b 64 t) : ∃ zs, Sec zs ∧ w.rangeAt b 0 zs := by
  obtain ⟨c, hc, hs, hu⟩ := h
  exact ⟨c.toList, ⟨by simpa using hs, fun v hv => hu v (Array.mem_toList_iff.1 hv)⟩, range_whole hc⟩
theorem bk_z64 (w : World) (t : TypeId) : Bk (w.alloc (.cells z64.toArray t)) w.heap.size 64 t := ⟨_, heap_alloc_new w _, by simp [z64], fun v hv => z64_sec.2 v (by simpa using hv)⟩
theorem wnumber4 (w : World) (x : Int) : Calls Tryz.prog 200 #[.int .u64 x, .int .i64 4] w fun e w' => ∃ g c xs, e = .returned (.slice (some ⟨g, 0, none⟩) 4 c) ∧ xs.length = 4 ∧ (∀ u ∈ xs, IsU8 u) ∧ Below w.heap.size w w' ∧ w'.rangeAt g 0 xs ∧ w.heap.size ≤ g ∧ g < w'.heap.size := (wnumber_calls w x 4 (by omega)).mono fun e w' ⟨v, xs, he, ho, hl, hu, hb⟩ => by
  obtain ⟨aa, cc, rfl, -, hf⟩ := ho.form
  obtain ⟨g, rfl, hg, hn, hr⟩ := hf (by intro e; rw [e] at hl; simp at hl)
  exact ⟨g, cc, xs, by rw [he, hl], hl, hu, hb, hr, by omega, hg⟩
theorem wnumber8 (w : World) (x : Int) : Calls Tryz.prog 200 #[.int .u64 x, .int .i64 8] w fun e w' => ∃ g c xs, e = .returned (.slice (some ⟨g, 0, none⟩) 8 c) ∧ xs.length = 8 ∧ (∀ u ∈ xs, IsU8 u) ∧ Below w.heap.size w w' ∧ w'.rangeAt g 0 xs ∧ w.heap.size ≤ g ∧ g < w'.heap.size := (wnumber_calls w x 8 (by omega)).mono fun e w' ⟨v, xs, he, ho, hl, hu, hb⟩ => by
  obtain ⟨aa, cc, rfl, -, hf⟩ := ho.form
  obtain ⟨g, rfl, hg, hn, hr⟩ := hf (by intro e; rw [e] at hl; simp at hl)
  exact ⟨g, cc, xs, by rw [he, hl], hl, hu, hb, hr, by omega, hg⟩
set_option maxRecDepth 100000 in
set_option maxHeartbeats 2000000 in
theorem made_calls (w : World) (g n c : Nat) (xs : List Value) (hr : w.rangeAt g 0 xs) (hg : g < w.heap.size) (hl : xs.length = n) (hn : n ≤ 57) (hu : ∀ u ∈ xs, IsU8 u) :
    Calls Tryz.prog 199 #[.int .i64 1, .slice (some ⟨g, 0, none⟩) n c] w fun e w' => ∃ zs, e = .returned (.agg zs.toArray) ∧ Sec zs ∧ Below w.heap.size w w' := by
  have HX := Lib.hid (show _ ∧ _ from ⟨hr, hu⟩)
  clear hr hu
  go_enter Tryz.func199, Tryz.ntmps199
  go_upto_region 3 with (fail)
  obtain ⟨W0, hW0, hBk, hB0, hZ0⟩ : ∃ W0 : World, W0 = (w.alloc (.cells z64.toArray 277)).alloc (.cells (Value.int .u8 1 :: Value.int .u8 n :: z64.drop 2).toArray 277) ∧ Bk W0 (w.heap.size + 1) 64 277 ∧ Below w.heap.size w W0 ∧ W0.heap[w.heap.size]? = some (.cells z64.toArray 277 (0, 0)) := by
    have hb0 : Below w.heap.size w (w.alloc (.cells z64.toArray 277)) := (Below.refl _ _).alloc (Nat.le_refl _) _
    refine ⟨_, rfl, ⟨_, by simpa using heap_alloc_new (w.alloc (.cells z64.toArray 277)) _, by simp [z64], fun v hv => ?_⟩, hb0.alloc (by simp) _, (heap_alloc_old _ _ (by simp)).trans (heap_alloc_new w _)⟩
    simp only [List.mem_toArray, List.mem_cons] at hv
    rcases hv with rfl | rfl | hv
    · exact ⟨1, by decide, by decide, rfl⟩
    · exact ⟨n, by omega, by omega, rfl⟩
    · exact z64_sec.2 v (List.mem_of_mem_drop hv)
  have HW := Lib.hid (show _ ∧ _ ∧ _ from ⟨hBk, hB0, hZ0⟩)
  clear hBk hB0 hZ0
  change Code.wp _ _ _ _ ((w.alloc (.cells z64.toArray 277)).alloc (.cells (Value.int .u8 1 :: Value.int .u8 n :: z64.drop 2).toArray 277))
  rw [← hW0]
  clear hW0
  have HW2 := Lib.hid (show W0.rangeAt g 0 xs from range_below HX.out.1 HW.out.2.1 hg)
  go_upto_region 4 with (first
    | (refine wp_copy_bk rfl (.tmp 13) (.tmp 14) rfl (w.heap.size + 1) 64 2 62 62 277 HW.out.1 rfl g 0 n c xs rfl HW2.out hl HX.out.2 (by omega) (by omega) ?_; intro w1 hk1 hg1; have H1 := Lib.hid (show _ ∧ _ from ⟨hk1, hg1⟩); clear hk1 hg1))
  go_region_held3 (fun W => Bk W (w.heap.size + 1) 64 277) (first | exact H1.out.1 | exact H2.out.1 | exact H3.out.1 | exact H4.out.1) (first
    | (go_at_call 169; refine (crc_calls _ (w.heap.size + 1) 0 59 64 (by omega) (Bk.at (w := w1.drew) H1.out.1 0 59 (by omega)) (Bk.lt (w := w1.drew) H1.out.1)).mono ?_; rintro e w2 ⟨x, rfl, hx0, hx1, hb2⟩; have H2 := Lib.hid (show _ ∧ _ from ⟨Bk.below (w := w1.drew) H1.out.1 hb2, hb2⟩); clear hb2)
    | (go_at_call 200; refine (wnumber4 _ _).mono ?_; rintro e w3 ⟨g3, cc, ys, rfl, hl3, hu3, hb3, hr3, hg3, hg3'⟩; have H3 := Lib.hid (show _ ∧ _ ∧ _ ∧ _ from ⟨H2.out.1.below hb3, hb3, hr3, hu3⟩); clear hb3 hr3 hu3)
    | (refine step_copy_bk rfl (.tmp 16) (.tmp 20) rfl (w.heap.size + 1) 64 59 5 5 277 H3.out.1 rfl g3 0 4 cc ys rfl H3.out.2.2.1 hl3 H3.out.2.2.2 (by omega) (by omega) ?_; intro w4 hk4 hg4; have H4 := Lib.hid (show _ ∧ _ from ⟨hk4, hg4⟩); clear hk4 hg4))
  obtain ⟨u, gc, gf⟩ : ∃ u, w4.cell? ⟨w.heap.size + 1, 63, none⟩ = some u ∧ w4.frozen? ⟨w.heap.size + 1, 63, none⟩ = false := by
    obtain ⟨c0, hc, hs, _⟩ := H4.out.1
    exact ⟨c0[63]'(by omega), by rw [(cellD hc _).1, Array.getElem?_eq_getElem (by omega)], (cellD hc _).2⟩
  go_upto_region 6 with (fail)
  have hb5 : Bk (w4.setCell ⟨w.heap.size + 1, 63, none⟩ (.int .u8 165)) (w.heap.size + 1) 64 277 := bk_set H4.out.1 ⟨165, by decide, by decide, rfl⟩ 63
  have k5 : Kp (fun b => b < w.heap.size + 1) W0 (w4.setCell ⟨w.heap.size + 1, 63, none⟩ (.int .u8 165)) := by
    have hl0 := HW.out.1.lt
    have hU : ∀ {W : World}, W0.heap.size ≤ W.heap.size → ∀ b, b < w.heap.size + 1 → b < W.heap.size ∧ b ≠ w.heap.size + 1 := fun h b hb => ⟨by omega, by omega⟩
    have a1 : Kp (fun b => b < w.heap.size + 1) W0 w1 := Kp.of_grown H1.out.2 (hU (Nat.le_refl _))
    have a2 : Kp (fun b => b < w.heap.size + 1) w1 w2 := Kp.of_below (Below.trans (b := w1.drew) (Below.refl _ _).drew H2.out.2) fun b hb => (hU a1.size b hb).1
    have a3 : Kp (fun b => b < w.heap.size + 1) w2 w3 := Kp.of_below H3.out.2.1 fun b hb => (hU (a1.trans a2).size b hb).1
    have a4 : Kp (fun b => b < w.heap.size + 1) w3 w4 := Kp.of_grown H4.out.2 (hU ((a1.trans a2).trans a3).size)
    exact (((a1.trans a2).trans a3).trans a4).trans (Kp.of_grown (set_grown _ _ _) (hU (((a1.trans a2).trans a3).trans a4).size))
  obtain ⟨zs, hzs, hzr⟩ := hb5.sec
  have hth : (w4.setCell ⟨w.heap.size + 1, 63, none⟩ (.int .u8 165)).there w.heap.size 0 64 := there_whole ((k5.block w.heap.size (by omega)).trans HW.out.2.2) (by simp [z64])
  have HZ := Lib.hid (show _ ∧ _ ∧ _ ∧ _ from ⟨hzs, hzr, hth, k5⟩)
  clear hzs hzr hth k5 hb5
  go_wp2_with (first
    | (refine wpList_load_mid rfl 277 (.tmp 5) rfl (w.heap.size + 1) 0 rfl zs _ HZ.out.2.1 Tryz.underlying277 rfl (by rw [HZ.out.1.1]; kernel_rfl) ?_)
    | (refine store_over _ rfl rfl 277 (.tmp 4) (.tmp 23) rfl w.heap.size 0 zs rfl rfl (by rw [HZ.out.1.1]; exact HZ.out.2.2.1) (by rw [HZ.out.1.1]; kernel_rfl) (sec_all HZ.out.1) ?_; intro w6 hg6 hs6 hr6 ht6; have H6 := Lib.hid (show _ ∧ _ ∧ _ from ⟨hg6, hs6, hr6⟩); clear hg6 hs6 hr6 ht6))
  refine bodyPost_ret (results_cell_mid Tryz.results199 _ _ w.heap.size 0 zs _ rfl H6.out.2.2 Tryz.underlying277 rfl (by rw [HZ.out.1.1]; kernel_rfl)) rfl ?_
  exact ⟨zs, rfl, HZ.out.1, (HW.out.2.1.trans (HZ.out.2.2.2.mono fun b (hb : b < w.heap.size) => by omega).to_below).grown H6.out.1 (Nat.le_trans HW.out.2.1.size HZ.out.2.2.2.size) (fun q hq => by cases hq; exact Nat.le_refl _)⟩
end Go.Proofs.YtokflmiijdpchaaGreat
