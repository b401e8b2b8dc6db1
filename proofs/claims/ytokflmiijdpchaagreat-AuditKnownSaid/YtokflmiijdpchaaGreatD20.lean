/- A snapshot's head. -/
import Derived.Test.YtokflmiijdpchaaGreatD19
import Derived.Lib.LazyBuf
namespace Go.Proofs.YtokflmiijdpchaaGreat
open Go.RowKit
theorem bk_setCells {b m : Nat} {t : TypeId} : ∀ (vs : List Value) (o : Nat) {w : World}, Bk w b m t → (∀ v ∈ vs, IsU8 v) → Bk (w.setCells b o vs) b m t
  | [], _, _, h, _ => h
  | v :: r, o, _, h, hu => bk_setCells r (o + 1) (bk_set h (hu v List.mem_cons_self) o) fun u hm => hu u (List.mem_cons_of_mem _ hm)
set_option maxRecDepth 100000 in
theorem wp_copyS_bk {W : World} {ops : Array Oper} {rest : List Oper} {o : Oper} {a : Act} {Q : Exit → Act → World → Prop} (hgd : o.guard = none) (d s : Operand) (ho : o.op = .call { callee := .builtin .copy, args := #[d, s], argTypes := #[23, 9] })
    (b m off dLen dCap : Nat) (t : TypeId) (h : Bk W b m t) (hd : a.eval d = .slice (some ⟨b, off, none⟩) dLen dCap) (x : ByteArray) (hs : a.eval s = .string x) (hdl : x.size ≤ dLen) (hm : off + x.size ≤ m)
    (hK : ∀ w', Bk w' b m t → W.grownBy w' (some b) → wpList Tryz.prog ops Q rest (a.put o.dst (goInt x.size)) w') : wpList Tryz.prog ops Q (o :: rest) a W :=
  wpList_plain hgd fun _ hk => by
    obtain ⟨c, hc, hsz, hcu⟩ := h
    have hr := run_copy_string (P := Tryz.prog) W 23 9 o.type 5 b off dLen dCap x Tryz.underlying23 (fun w => by rfl) hdl (fun j hj => by rw [(cellD hc _).1, Array.getElem?_eq_getElem (by omega)]; rfl) (fun j hj => (cellD hc _).2)
    unfold Oper.wp execOp
    simp only [ho, resolve, invoke, builtin, Sem.run_bind, Sem.run_pure, Result.andThen_ok, List.map_toArray, List.map_cons, List.map_nil, hd, hs, hr]
    exact hk _ _ (hK _ (bk_setCells _ _ ⟨c, hc, hsz, hcu⟩ fun v hv => by
      obtain ⟨y, -, rfl⟩ := List.mem_map.1 hv
      exact ⟨_, Int.natCast_nonneg _, by have := y.toNat_lt; omega, rfl⟩) (setC b _ _ _).1)
set_option maxRecDepth 100000 in
set_option maxHeartbeats 4000000 in
theorem head_calls (w : World) (gen : Int) (g n c : Nat) (hn : n ≤ 1048576) (hdat : ∀ j, j < n → ∃ x : Int, 0 ≤ x ∧ x < 256 ∧ w.cell? ⟨g, 0 + j, none⟩ = some (.int .u8 x)) (hg : g < w.heap.size) :
    Calls Tryz.prog 108 #[.int .i64 gen, .slice (some ⟨g, 0, none⟩) n c] w fun e w' => ∃ zs, e = .returned (.agg zs.toArray) ∧ Sec zs ∧ Below w.heap.size w w' := by
  have HX := Lib.hid hdat
  have HB0 := Lib.hid (show Bk (w.alloc (.cells z64.toArray 196)) w.heap.size 64 196 from bk_z64 w _)
  clear hdat
  go_enter Tryz.func108, Tryz.ntmps108
  have T1 := trivial
  go_upto_region 1 with (fail)
  change Code.wp _ _ _ _ (w.alloc (.cells z64.toArray 196))
  obtain ⟨W0, hW0⟩ : ∃ W0 : World, W0 = w.alloc (.cells z64.toArray 196) := ⟨_, rfl⟩
  have hk0 : Kp (· < w.heap.size) w W0 := hW0 ▸ Kp.of_below ((Below.refl _ _).alloc (Nat.le_refl _) _) (fun _ h => h)
  have HB1 := Lib.hid (show Bk W0 w.heap.size 64 196 from hW0 ▸ HB0.out)
  rw [← hW0]
  clear hW0
  have hU : ∀ {W W' : World}, Bk W w.heap.size 64 196 → W.grownBy W' (some w.heap.size) → Kp (· < w.heap.size) W W' := fun h hg => Kp.of_grown hg fun b hb => ⟨by have := h.lt; omega, by omega⟩
  have HK0 := Lib.hid hk0
  clear hk0
  go_upto_region 4 with (first
    | (refine wp_copyS_bk rfl (.tmp 5) _ rfl w.heap.size 64 0 64 64 196 HB1.out rfl _ rfl (by decide) (by decide) ?_; intro w1 hb1 hg1; have H1 := Lib.hid (show _ ∧ _ from ⟨hb1, HK0.out.trans (hU HB1.out hg1)⟩); clear hb1 hg1)
    | (clear T1; go_at_call 168; refine (put_calls _ w.heap.size 4 8 60 64 196 _ H1.out.1 (by omega) (by omega)).mono ?_; rintro e w2 ⟨rfl, hb2, hg2⟩; have H2 := Lib.hid (show _ ∧ _ from ⟨hb2, H1.out.2.trans (hU H1.out.1 hg2)⟩); clear hb2 hg2; have T2 := trivial)
    | (clear T2; go_at_call 168; refine (put_calls _ w.heap.size 12 4 52 64 196 _ H2.out.1 (by omega) (by omega)).mono ?_; rintro e w3 ⟨rfl, hb3, hg3⟩; have H3 := Lib.hid (show _ ∧ _ from ⟨hb3, H2.out.2.trans (hU H2.out.1 hg3)⟩); clear hb3 hg3; have T3 := trivial))
  have hdat3 : ∀ j, j < n → ∃ x : Int, 0 ≤ x ∧ x < 256 ∧ w3.drew.cell? ⟨g, 0 + j, none⟩ = some (.int .u8 x) := fun j hj => by
    obtain ⟨x, h0, h1, h2⟩ := HX.out j hj
    exact ⟨x, h0, h1, (World.cell?_of_block (a := ⟨g, 0 + j, none⟩) (H3.out.2.block g hg)).trans h2⟩
  have HX3 := Lib.hid hdat3
  have hg3 : g < w3.drew.heap.size := Nat.lt_of_lt_of_le hg H3.out.2.size
  clear hdat3
  go_region_held3 (fun W => Bk W w.heap.size 64 196) (first | exact H3.out.1 | exact H4.out.1 | exact H5.out.1) (first
    | (go_at_call 169; refine (crc_calls _ g 0 n c (by omega) HX3.out hg3).mono ?_; rintro e w4 ⟨x, rfl, hx0, hx1, hb4⟩; have H4 := Lib.hid (show _ ∧ _ from ⟨Bk.below (w := w3.drew) H3.out.1 hb4, H3.out.2.trans (Kp.of_below (w := w3) ⟨hb4.os, hb4.tape, hb4.output, hb4.size, hb4.block⟩ fun b hb => Nat.lt_of_lt_of_le hb H3.out.2.size)⟩); clear hb4)
    | (go_at_call 168; refine (put_calls _ w.heap.size 16 4 48 64 196 _ H4.out.1 (by omega) (by omega)).mono ?_; rintro e w5 ⟨rfl, hb5, hg5⟩; have H5 := Lib.hid (show _ ∧ _ from ⟨hb5, H4.out.2.trans (hU H4.out.1 hg5)⟩); clear hb5 hg5))
  go_upto_region 5 with (fail)
  go_region_held3 (fun W => Bk W w.heap.size 64 196) (first | exact H5.out.1 | exact H6.out.1 | exact H7.out.1) (first
    | (go_at_call 169; refine (crc_calls _ w.heap.size 0 59 64 (by omega) (Bk.at (w := w5.drew) H5.out.1 0 59 (by omega)) (Bk.lt (w := w5.drew) H5.out.1)).mono ?_; rintro e w6 ⟨y, rfl, hy0, hy1, hb6⟩; have H6 := Lib.hid (show _ ∧ _ from ⟨Bk.below (w := w5.drew) H5.out.1 hb6, H5.out.2.trans (Kp.of_below (w := w5) ⟨hb6.os, hb6.tape, hb6.output, hb6.size, hb6.block⟩ fun b hb => Nat.lt_of_lt_of_le hb H5.out.2.size)⟩); clear hb6)
    | (go_at_call 168; refine (put_calls _ w.heap.size 59 5 5 64 196 _ H6.out.1 (by omega) (by omega)).mono ?_; rintro e w7 ⟨rfl, hb7, hg7⟩; have H7 := Lib.hid (show _ ∧ _ from ⟨hb7, H6.out.2.trans (hU H6.out.1 hg7)⟩); clear hb7 hg7))
  obtain ⟨zs, hzs, hzr⟩ := H7.out.1.sec
  have hth : w7.there w.heap.size 0 64 := by
    obtain ⟨c0, hc, hs, _⟩ := H7.out.1
    exact there_whole hc (by omega)
  have HZ := Lib.hid (show _ ∧ _ ∧ _ from ⟨hzs, hzr, hth⟩)
  clear hzs hzr hth
  go_wp2_with (first
    | (refine wpList_load_mid rfl 196 (.tmp 4) rfl w.heap.size 0 rfl zs _ HZ.out.2.1 Tryz.underlying196 rfl (by rw [HZ.out.1.1]; kernel_rfl) ?_)
    | (refine store_over _ rfl rfl 196 (.tmp 4) (.tmp 28) rfl w.heap.size 0 zs rfl rfl (by rw [HZ.out.1.1]; exact HZ.out.2.2) (by rw [HZ.out.1.1]; kernel_rfl) (sec_all HZ.out.1) ?_; intro w8 hg8 hs8 hr8 ht8; have H8 := Lib.hid (show _ ∧ _ ∧ _ from ⟨hg8, hs8, hr8⟩); clear hg8 hs8 hr8 ht8))
  refine bodyPost_ret (results_cell_mid Tryz.results108 _ _ w.heap.size 0 zs _ rfl H8.out.2.2 Tryz.underlying196 rfl (by rw [HZ.out.1.1]; kernel_rfl)) rfl ?_
  exact ⟨zs, rfl, HZ.out.1, H7.out.2.to_below.grown H8.out.1 H7.out.2.size (fun q hq => by cases hq; exact Nat.le_refl _)⟩
end Go.Proofs.YtokflmiijdpchaaGreat
