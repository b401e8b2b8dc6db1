/- The engine's Open over a disk of zeros. -/
import Derived.Test.YtokflmiijdpchaaGreatD40
namespace Go.Proofs.YtokflmiijdpchaaGreat
open Go.RowKit
attribute [local go_sem] Oper.semAt_some
theorem StV.mono {w : World} {st : Nat} {sv n : Int} {v : Value} {rs : List HRow} {U V : Nat → Prop} (h : StV w st sv n v rs U) (hv : ∀ q, V q → U q) : StV w st sv n v rs V :=
  ⟨h.blk, h.row, ⟨h.own.1, fun b e hu => h.own.2 b e (hv b hu)⟩, fun r hr s t e => let ⟨h1, h2, h3, h4, h5, h6⟩ := h.shd r hr s t e; ⟨h1, h2, h3, h4, fun u => h5 (hv _ u), fun u => h6 (hv _ u)⟩⟩
def stp (n m lg sh : Nat) (cl sd : Int) : Array Value := #[.int .i64 n, .int .i64 m, .int .i64 cl, .int .i64 lg, .int .i64 sh, .int .u64 sd]
/-- The blocks of Open. -/
def OE (W : World) (b e d n m lg sh : Nat) (cl sd : Int) (s l st : Value) : Prop :=
  W.heap[b]? = some (.cells (stp n m lg sh cl sd) 32 (0, 0)) ∧ W.heap[b + 1]? = some (.cells #[.pointer none] 65 (0, 0)) ∧ W.heap[b + 1 + 1]? = some (.cells #[.int .i64 0] 25 (0, 0)) ∧ Eng W e d lg sh s l st
theorem OE.kp {U : Nat → Prop} {W W' : World} {b e d n m lg sh : Nat} {cl sd : Int} {s l st : Value} (h : OE W b e d n m lg sh cl sd s l st) (hk : Kp U W W') (hu : ∀ q, (q = b ∨ q = b + 1 ∨ q = b + 1 + 1 ∨ q = e) → U q) : OE W' b e d n m lg sh cl sd s l st :=
  ⟨(hk.block _ (hu _ (.inl rfl))).trans h.1, (hk.block _ (hu _ (.inr (.inl rfl)))).trans h.2.1, (hk.block _ (hu _ (.inr (.inr (.inl rfl))))).trans h.2.2.1, (hk.block _ (hu _ (.inr (.inr (.inr rfl))))).trans h.2.2.2⟩
theorem OE.below {W W' : World} {b e d n m lg sh : Nat} {cl sd : Int} {s l st : Value} (h : OE W b e d n m lg sh cl sd s l st) (hb : Below W.heap.size W W') : OE W' b e d n m lg sh cl sd s l st :=
  ⟨(hb.block _ (Array.getElem?_eq_some_iff.1 h.1).1).trans h.1, (hb.block _ (Array.getElem?_eq_some_iff.1 h.2.1).1).trans h.2.1, (hb.block _ (Array.getElem?_eq_some_iff.1 h.2.2.1).1).trans h.2.2.1, (hb.block _ (Array.getElem?_eq_some_iff.1 h.2.2.2).1).trans h.2.2.2⟩
theorem OE.err {W : World} {b e d n m lg sh : Nat} {cl sd : Int} {s l st : Value} (h : OE W b e d n m lg sh cl sd s l st) (he : b + 1 + 1 < e) : OE (W.setCell ⟨b + 1 + 1, 0, none⟩ (.int .i64 0)) b e d n m lg sh cl sd s l st :=
  ⟨(set_other _ ⟨b + 1 + 1, 0, none⟩ _ _ (by simp only; omega)).trans h.1, (set_other _ ⟨b + 1 + 1, 0, none⟩ _ _ (by simp only; omega)).trans h.2.1, block_set h.2.2.1 0 _, (set_other _ ⟨b + 1 + 1, 0, none⟩ _ _ (by simp only; omega)).trans h.2.2.2⟩
theorem OE.shots {W : World} {b e d n m lg sh : Nat} {cl sd : Int} {s l st : Value} (h : OE W b e d n m lg sh cl sd s l st) (he : b + 1 + 1 < e) (v : Value) : OE (W.setCell ⟨e, 3, none⟩ v) b e d n m lg sh cl sd v l st :=
  ⟨(set_other _ ⟨e, 3, none⟩ _ _ (by simp only; omega)).trans h.1, (set_other _ ⟨e, 3, none⟩ _ _ (by simp only; omega)).trans h.2.1, (set_other _ ⟨e, 3, none⟩ _ _ (by simp only; omega)).trans h.2.2.1, block_set h.2.2.2 3 _⟩
theorem OE.state {W : World} {b e d n m lg sh : Nat} {cl sd : Int} {s l st : Value} (h : OE W b e d n m lg sh cl sd s l st) (he : b + 1 + 1 < e) (v : Value) : OE (W.setCell ⟨e, 5, none⟩ v) b e d n m lg sh cl sd s l v :=
  ⟨(set_other _ ⟨e, 5, none⟩ _ _ (by simp only; omega)).trans h.1, (set_other _ ⟨e, 5, none⟩ _ _ (by simp only; omega)).trans h.2.1, (set_other _ ⟨e, 5, none⟩ _ _ (by simp only; omega)).trans h.2.2.1, block_set h.2.2.2 5 _⟩
theorem OE.got {W : World} {b e d n m lg sh : Nat} {cl sd : Int} {s l st : Value} (h : OE W b e d n m lg sh cl sd s l st) :
    W.cell? ⟨b, 0, none⟩ = some (.int .i64 n) ∧ W.cell? ⟨b, 1, none⟩ = some (.int .i64 m) ∧ W.cell? ⟨b, 3, none⟩ = some (.int .i64 lg) ∧ W.cell? ⟨b, 4, none⟩ = some (.int .i64 sh) ∧ W.cell? ⟨b + 1, 0, none⟩ = some (.pointer none) ∧ W.frozen? ⟨b + 1, 0, none⟩ = false ∧ W.cell? ⟨b + 1 + 1, 0, none⟩ = some (.int .i64 0) ∧ W.frozen? ⟨b + 1 + 1, 0, none⟩ = false ∧ W.cell? ⟨e, 3, none⟩ = some s ∧ W.frozen? ⟨e, 3, none⟩ = false ∧ W.cell? ⟨e, 5, none⟩ = some st ∧ W.frozen? ⟨e, 5, none⟩ = false :=
  ⟨(cellD h.1 0).1, (cellD h.1 1).1, (cellD h.1 3).1, (cellD h.1 4).1, (cellD h.2.1 0).1, (cellD h.2.1 0).2, (cellD h.2.2.1 0).1, (cellD h.2.2.1 0).2, (cellD h.2.2.2 3).1, (cellD h.2.2.2 3).2, (cellD h.2.2.2 5).1, (cellD h.2.2.2 5).2⟩
set_option maxRecDepth 100000 in
set_option maxHeartbeats 8000000 in
theorem eopen_zero (w : World) (d N sb : Nat) (hd : Dsk w d N sb (.slice none 0 0) 0) (hz : Zro w sb N) (B : Nat) (hBd : B ≤ d) (hBs : B ≤ sb) (sv n m lg sh : Nat) (cl sd : Int) (h1 : n ≤ 8 ∧ sv < n ∧ 1 ≤ m ∧ m ≤ 64 ∧ 24 ≤ lg ∧ lg ≤ 4096 ∧ 64 ≤ sh ∧ sh ≤ 16384) (hN : 2 * (lg + sh) ≤ N)
    (H : Nat → Nat) (hH : ∀ i, i < m → ∀ W : World, Calls Tryz.prog 74 #[.int .i64 i, .int .i64 n] W fun e w' => e = .returned (.int .i64 (H i)) ∧ Below W.heap.size W w') (hH8 : ∀ i, i < m → H i < 256)
    (hfit : 3 + 11 * m ≤ 64) :
    Calls Tryz.prog 20 #[.pointer (some ⟨d, 0, none⟩), .int .i64 sv, .agg (stp n m lg sh cl sd)] w fun r w' => ∃ e l s st v rs, r = .returned (.tuple #[.pointer (some ⟨e, 0, none⟩), .int .i64 0]) ∧ Eng w' e d lg sh s l (.pointer (some ⟨st, 0, none⟩)) ∧ StV w' st sv n v rs (· < B) ∧ rs.length = m ∧ (∀ i r, rs[i]? = some r → okRow sv (H i) r) ∧ Below B w w' ∧ B ≤ e ∧ B ≤ st := by
  have hmf : ∀ (fn : Fn) (first cap : Array Value) (w : World), (Instr.makeFunc fn first cap).run Tryz.prog w = .ok (.func fn first cap) w := fun _ _ _ _ => rfl
  obtain ⟨g1, g2, g3, g4, g5, g6, g7, g8⟩ := h1
  have hBw : B ≤ w.heap.size := by have := hd.own_lt (b := d) (.inl rfl); omega
  have hb3 : ∀ o1 o2 o3 : Obj, Below w.heap.size w (((w.alloc o1).alloc o2).alloc o3) := fun o1 o2 o3 => (((Below.refl _ _).alloc (Nat.le_refl _) _).alloc (by simp) _).alloc (by simp; omega) _
  have hroom := hd.room
  have HX := Lib.hid (show _ ∧ _ ∧ _ ∧ _ from ⟨hd, hz, hH, hH8⟩)
  clear hd hz hH hH8
  go_enter_defers Tryz.func20, Tryz.ntmps20
  go_upto_region 1 with (fail)
  obtain ⟨W1, hW1⟩ : ∃ W1, W1 = ((w.alloc (.cells (stp n m lg sh cl sd) 32)).alloc (.cells #[.pointer none] 65)).alloc (.cells #[.int .i64 0] 25) := ⟨_, rfl⟩
  have b0 : W1.heap[w.heap.size]? = some (.cells (stp n m lg sh cl sd) 32 (0, 0)) := by
    rw [hW1, heap_alloc_old _ _ (by simp; omega), heap_alloc_old _ _ (by simp)]
    exact heap_alloc_new w _
  have b1 : W1.heap[w.heap.size + 1]? = some (.cells #[.pointer none] 65 (0, 0)) := by
    rw [hW1, heap_alloc_old _ _ (by simp)]
    simpa using heap_alloc_new (w.alloc (.cells (stp n m lg sh cl sd) 32)) (.cells #[.pointer none] 65)
  have b2 : W1.heap[w.heap.size + 1 + 1]? = some (.cells #[.int .i64 0] 25 (0, 0)) := by
    rw [hW1]
    simpa using heap_alloc_new ((w.alloc (.cells (stp n m lg sh cl sd) 32)).alloc (.cells #[.pointer none] 65)) (.cells #[.int .i64 0] 25)
  have hB1 : Below w.heap.size w W1 := hW1 ▸ hb3 _ _ _
  have hsz1 : W1.heap.size = w.heap.size + 1 + 1 + 1 := by rw [hW1]; simp
  rw [← hW1]
  clear hW1 hb3
  obtain ⟨b, hb⟩ : ∃ b, b = w.heap.size := ⟨_, rfl⟩
  rw [← hb] at b0 b1 b2 hB1 hsz1 ⊢
  have hR : Calls Tryz.prog 32 #[.pointer (some ⟨d, 0, none⟩), .int .i64 sv, .agg (stp n m lg sh cl sd)] W1 fun e w' => e = .returned (.bool true) ∧ Below W1.heap.size W1 w' := (eright_calls W1 d N sb 0 _ (HX.out.1.below (hb ▸ hB1)) sv n m cl lg sh sd (by omega)).mono fun e w' ⟨h1, h2⟩ => ⟨by rw [h1]; simp; omega, h2⟩
  have k0 : W1.cell? ⟨b, 0, none⟩ = some (.int .i64 n) := (cellD b0 0).1
  have k1 : W1.cell? ⟨b, 1, none⟩ = some (.int .i64 m) := (cellD b0 1).1
  have k2 : W1.cell? ⟨b, 2, none⟩ = some (.int .i64 cl) := (cellD b0 2).1
  have k3 : W1.cell? ⟨b, 3, none⟩ = some (.int .i64 lg) := (cellD b0 3).1
  have k4 : W1.cell? ⟨b, 4, none⟩ = some (.int .i64 sh) := (cellD b0 4).1
  have k5 : W1.cell? ⟨b, 5, none⟩ = some (.int .u64 sd) := (cellD b0 5).1
  have H1 := Lib.hid (show _ ∧ _ ∧ _ ∧ _ ∧ _ ∧ _ from ⟨hR, b0, b1, b2, hB1, hb⟩)
  clear hR b0 b1 b2 hB1 hb
  go_upto_region 6 with ((go_at_call 32; refine H1.out.1.mono ?_; rintro e W2 ⟨rfl, hb2⟩; have H2 := Lib.hid hb2; clear hb2))
  have hW12 := H2.out
  have b0 := (hW12.block b (by omega)).trans H1.out.2.1
  have b1 := (hW12.block (b + 1) (by omega)).trans H1.out.2.2.1
  have b2 := (hW12.block (b + 1 + 1) (by omega)).trans H1.out.2.2.2.1
  have hB2 : Below w.heap.size w W2 := by have h1 := H1.out.2.2.2.2.1; have h2 := H1.out.2.2.2.2.2; subst h2; exact h1.trans (hW12.mono (by omega))
  have hs2 := hW12.size
  have hbw := H1.out.2.2.2.2.2
  clear k0 k1 k2 k3 k4 k5 hW12
  have k3 : W2.cell? ⟨b, 3, none⟩ = some (.int .i64 lg) := (cellD b0 3).1
  have k4 : W2.cell? ⟨b, 4, none⟩ = some (.int .i64 sh) := (cellD b0 4).1
  have H2b := Lib.hid (show _ ∧ _ ∧ _ ∧ _ ∧ _ from ⟨b0, b1, b2, hB2, hbw⟩)
  clear b0 b1 b2 hB2 hbw
  go_upto_region 7 with (fail)
  obtain ⟨W3, hW3⟩ : ∃ W3, W3 = W2.alloc (.cells #[.pointer (some ⟨d, 0, none⟩), .int .i64 lg, .int .i64 sh, .pointer none, .pointer none, .pointer none, .bool false] 97) := ⟨_, rfl⟩
  have hOE : OE W3 b W2.heap.size d n m lg sh cl sd (.pointer none) (.pointer none) (.pointer none) := by
    rw [hW3]
    exact ⟨(heap_alloc_old _ _ (by omega)).trans H2b.out.1, (heap_alloc_old _ _ (by omega)).trans H2b.out.2.1, (heap_alloc_old _ _ (by omega)).trans H2b.out.2.2.1, heap_alloc_new W2 _⟩
  have hB3 : Below w.heap.size w W3 := hW3 ▸ H2b.out.2.2.2.1.alloc (by have := H2b.out.2.2.2.2; omega) _
  have hs3 : W3.heap.size = W2.heap.size + 1 := by rw [hW3]; simp
  rw [← hW3]
  clear hW3
  obtain ⟨e, he⟩ : ∃ e, e = W2.heap.size := ⟨_, rfl⟩
  rw [← he] at hOE hs3 ⊢
  have hbe : b + 1 + 1 < e := by omega
  have hwb : w.heap.size = b := H2b.out.2.2.2.2.symm
  clear he
  have hSO := sopen_zero W3 d N sb (HX.out.1.below hB3) (zro_below HX.out.2.1 hB3) (2 * lg) sh (by omega) (by omega)
  rw [show ((2 * lg : Nat) : Int) = 2 * (lg : Int) from by push_cast; rfl] at hSO
  have H3 := Lib.hid (show _ ∧ _ ∧ _ from ⟨hOE, hB3, hSO⟩)
  have k3 : W3.cell? ⟨b, 3, none⟩ = some (.int .i64 lg) := (cellD hOE.1 3).1
  have k4 : W3.cell? ⟨b, 4, none⟩ = some (.int .i64 sh) := (cellD hOE.1 4).1
  clear hOE hB3 hSO
  go_upto_region 9 with (first
    | (go_at_call 35; refine H3.out.2.2.mono ?_; rintro e4 W4 ⟨s, rfl, hsh, hb4, hs⟩; have hO4 := H3.out.1.below hb4; have c2 : W4.cell? ⟨b + 1 + 1, 0, none⟩ = some (.int .i64 0) := hO4.got.2.2.2.2.2.2.1; have c2f : W4.frozen? ⟨b + 1 + 1, 0, none⟩ = false := hO4.got.2.2.2.2.2.2.2.1; have hE : (W4.setCell ⟨b + 1 + 1, 0, none⟩ (.int .i64 0)).cell? ⟨b + 1 + 1, 0, none⟩ = some (.int .i64 0) := World.cell?_setCell_same' _ _ _ (by simp [go_sem, c2]); have H4 := Lib.hid (show _ ∧ _ ∧ _ from ⟨hsh, hb4, hO4⟩); clear hsh hb4 hO4)
    | (go_at_call 36; refine (emust_calls _).mono ?_; rintro e5 W5 ⟨rfl, hw⟩; obtain rfl := hw.symm))
  have hO5 := (H4.out.2.2.err hbe).shots hbe (.pointer (some ⟨s, 0, none⟩))
  have hlt4 : b + 1 + 1 < W3.heap.size ∧ e < W3.heap.size := ⟨by omega, by omega⟩
  have hS5 : Sht ((W4.setCell ⟨b + 1 + 1, 0, none⟩ (.int .i64 0)).setCell ⟨e, 3, none⟩ (.pointer (some ⟨s, 0, none⟩))) s d ((2 * lg : Nat) : Int) sh 0 false := (set_other _ ⟨e, 3, none⟩ _ _ (by simp only; omega)).trans ((set_other _ ⟨b + 1 + 1, 0, none⟩ _ _ (by simp only; omega)).trans H4.out.1)
  have hB5 : Below w.heap.size w ((W4.setCell ⟨b + 1 + 1, 0, none⟩ (.int .i64 0)).setCell ⟨e, 3, none⟩ (.pointer (some ⟨s, 0, none⟩))) := ((H3.out.2.1.trans (H4.out.2.1.mono (by omega))).setCell (p := ⟨b + 1 + 1, 0, none⟩) (by simp only; omega) _).setCell (p := ⟨e, 3, none⟩) (by simp only; omega) _
  have hs5 : W3.heap.size ≤ ((W4.setCell ⟨b + 1 + 1, 0, none⟩ (.int .i64 0)).setCell ⟨e, 3, none⟩ (.pointer (some ⟨s, 0, none⟩))).heap.size := (((Below.refl 0 _).trans (H4.out.2.1.mono (Nat.zero_le _))).setCell (p := ⟨b + 1 + 1, 0, none⟩) (Nat.zero_le _) _ |>.setCell (p := ⟨e, 3, none⟩) (Nat.zero_le _) _).size
  have c3 : (W4.setCell ⟨b + 1 + 1, 0, none⟩ (.int .i64 0)).cell? ⟨e, 3, none⟩ = some (.pointer none) := (H4.out.2.2.err hbe).got.2.2.2.2.2.2.2.2.1
  have c3f : (W4.setCell ⟨b + 1 + 1, 0, none⟩ (.int .i64 0)).frozen? ⟨e, 3, none⟩ = false := (H4.out.2.2.err hbe).got.2.2.2.2.2.2.2.2.2.1
  have H5 := Lib.hid (show _ ∧ _ ∧ _ from ⟨hO5, hS5, hB5⟩)
  clear hO5 hS5 hB5
  go_upto_region 10 with (fail)
  clear c2 c2f hE c3 c3f k3 k4
  generalize hW6 : (W4.setCell ⟨b + 1 + 1, 0, none⟩ (.int .i64 0)).setCell ⟨e, 3, none⟩ (.pointer (some ⟨s, 0, none⟩)) = W6 at H5 hs5 ⊢
  have k0 : W6.cell? ⟨b, 0, none⟩ = some (.int .i64 n) := (cellD H5.out.1.1 0).1
  have k1 : W6.cell? ⟨b, 1, none⟩ = some (.int .i64 m) := (cellD H5.out.1.1 1).1
  have HSN := Lib.hid (stnew_calls W6 sv n m g1 g2 g3 g4 H HX.out.2.2.1)
  have HW6 := Lib.hid hW6
  clear hW6
  go_upto_region 15 with (first
    | (go_at_call 37; refine (sgen_calls _ s d _ _ _ _ H5.out.2.1).mono ?_; rintro e6 Wg ⟨rfl, hw⟩; obtain rfl := hw.symm)
    | (go_at_call 39; refine HSN.out.mono ?_; rintro e7 W7 ⟨st, rs, rfl, hst, hrl, hrs, hb7, hst0⟩; have hO7 := H5.out.1.below hb7; have c5 : W7.cell? ⟨e, 5, none⟩ = some (.pointer none) := hO7.got.2.2.2.2.2.2.2.2.2.2.1; have c5f : W7.frozen? ⟨e, 5, none⟩ = false := hO7.got.2.2.2.2.2.2.2.2.2.2.2; have hO7b := hO7.state hbe (.pointer (some ⟨st, 0, none⟩)); have c2 : (W7.setCell ⟨e, 5, none⟩ (.pointer (some ⟨st, 0, none⟩))).cell? ⟨b + 1 + 1, 0, none⟩ = some (.int .i64 0) := hO7b.got.2.2.2.2.2.2.1; have c2f : (W7.setCell ⟨e, 5, none⟩ (.pointer (some ⟨st, 0, none⟩))).frozen? ⟨b + 1 + 1, 0, none⟩ = false := hO7b.got.2.2.2.2.2.2.2.1; have hE : ((W7.setCell ⟨e, 5, none⟩ (.pointer (some ⟨st, 0, none⟩))).setCell ⟨b + 1 + 1, 0, none⟩ (.int .i64 0)).cell? ⟨b + 1 + 1, 0, none⟩ = some (.int .i64 0) := World.cell?_setCell_same' _ _ _ (by simp [go_sem, c2]); have H7 := Lib.hid (show _ ∧ _ ∧ _ ∧ _ ∧ _ ∧ _ from ⟨hst, hrl, hrs, hb7, hst0, hO7b⟩); clear hst hrl hrs hb7 hst0 hO7 hO7b)
    | (go_at_call 36; refine (emust_calls _).mono ?_; rintro e5 W5 ⟨rfl, hw⟩; obtain rfl := hw.symm))
  clear c5 c5f c2 c2f hE k0 k1 HSN HW6
  obtain ⟨v, hst7⟩ := H7.out.1
  have hrl := H7.out.2.1
  have hne : rs ≠ [] := by intro h0; rw [h0] at hrl; simp at hrl; omega
  have hst0 := H7.out.2.2.2.2.1
  have hsz67 := H7.out.2.2.2.1.size
  have hes : e < W6.heap.size ∧ b + 1 + 1 < W6.heap.size := ⟨by omega, by omega⟩
  have hss : s < W6.heap.size := (Array.getElem?_eq_some_iff.1 H5.out.2.1).1
  have hK8 : ∀ u v : Value, Kp (fun q => W6.heap.size ≤ q) W7 ((W7.setCell ⟨e, 5, none⟩ u).setCell ⟨b + 1 + 1, 0, none⟩ v) := fun u v => ⟨rfl, rfl, rfl, by simp, fun q hq => (set_other _ ⟨b + 1 + 1, 0, none⟩ _ _ (by simp only; omega)).trans (set_other _ ⟨e, 5, none⟩ _ _ (by simp only; omega))⟩
  have hst8 := hst7.kp (hK8 (.pointer (some ⟨st, 0, none⟩)) (.int .i64 0)) hst0 fun q _ hq => by simpa using hq
  have hO8 := H7.out.2.2.2.2.2.err hbe
  have hS8 : Sht ((W7.setCell ⟨e, 5, none⟩ (.pointer (some ⟨st, 0, none⟩))).setCell ⟨b + 1 + 1, 0, none⟩ (.int .i64 0)) s d ((2 * lg : Nat) : Int) sh 0 false := (set_other _ ⟨b + 1 + 1, 0, none⟩ _ _ (by simp only; omega)).trans ((set_other _ ⟨e, 5, none⟩ _ _ (by simp only; omega)).trans ((H7.out.2.2.2.1.block s hss).trans H5.out.2.1))
  have hB8 : Below w.heap.size w ((W7.setCell ⟨e, 5, none⟩ (.pointer (some ⟨st, 0, none⟩))).setCell ⟨b + 1 + 1, 0, none⟩ (.int .i64 0)) := ((H5.out.2.2.trans (H7.out.2.2.2.1.mono H5.out.2.2.size)).setCell (p := ⟨e, 5, none⟩) (by simp only; omega) _).setCell (p := ⟨b + 1 + 1, 0, none⟩) (by simp only; omega) _
  have hs8 : W7.heap.size ≤ ((W7.setCell ⟨e, 5, none⟩ (.pointer (some ⟨st, 0, none⟩))).setCell ⟨b + 1 + 1, 0, none⟩ (.int .i64 0)).heap.size := (hK8 (.pointer (some ⟨st, 0, none⟩)) (.int .i64 0)).size
  have H8 := Lib.hid (show _ ∧ _ ∧ _ ∧ _ from ⟨hst8, hO8, hS8, hB8⟩)
  have H7b := Lib.hid (show _ ∧ _ from ⟨hrl, H7.out.2.2.1⟩)
  clear hst8 hO8 hS8 hB8 hst7 H7 hK8
  generalize (W7.setCell ⟨e, 5, none⟩ (.pointer (some ⟨st, 0, none⟩))).setCell ⟨b + 1 + 1, 0, none⟩ (.int .i64 0) = W8 at H8 hs8 ⊢
  have c5 : W8.cell? ⟨e, 5, none⟩ = some (.pointer (some ⟨st, 0, none⟩)) := H8.out.2.1.got.2.2.2.2.2.2.2.2.2.2.1
  have hSZ := stsize_calls W8 st sv n v rs _ H8.out.1 hne (by omega)
  have hts := tszs_le rs
  obtain ⟨X, hX⟩ : ∃ X : Nat, X = 3 + 6 * rs.length + tszs rs := ⟨_, rfl⟩
  rw [← hX] at hSZ
  have hX2 : X ≤ 64 := by omega
  have HSZ := Lib.hid (show _ ∧ _ from ⟨hSZ, hX⟩)
  clear hSZ hX hts hrl
  have hcmp : decide (64 * ((sh : Int) - 1) < (X : Int)) = false := by simp; omega
  go_upto_region 17 with (first
    | (go_at_call 40; refine HSZ.out.1.mono ?_; rintro e9 W9 ⟨rfl, hb9⟩; have H9 := Lib.hid hb9; clear hb9)
    | (go_at_call 41; refine (most_calls _ s d _ _ _ _ ((H9.out.block s (Array.getElem?_eq_some_iff.1 H8.out.2.2.1).1).trans H8.out.2.2.1) (by omega) (by omega)).mono ?_; rintro e6 Wg ⟨rfl, hw⟩; obtain rfl := hw.symm))
  clear c5
  have hs9 := H9.out.size
  have hB9 : Below w.heap.size w W9 := H8.out.2.2.2.trans (H9.out.mono H8.out.2.2.2.size)
  have hD9 : DU W9 d N sb 0 (fun q => q < B ∨ (w.heap.size ≤ q ∧ q < W9.heap.size)) := by
    have hl1 := HX.out.1.own_lt (b := d) (.inl rfl)
    have hl2 := HX.out.1.own_lt (b := sb) (.inr (.inl rfl))
    refine ⟨_, HX.out.1.below hB9, fun q hq => ⟨by omega, ?_⟩⟩
    rintro (h1 | h1 | h1)
    · omega
    · omega
    · simp [Value.ownBlock] at h1
  have hO9 := H8.out.2.1.below H9.out
  have hS9 : Sht W9 s d ((2 * lg : Nat) : Int) sh 0 false := (H9.out.block s (Array.getElem?_eq_some_iff.1 H8.out.2.2.1).1).trans H8.out.2.2.1
  have hst9 := H8.out.1.below H9.out
  have hstl := (Array.getElem?_eq_some_iff.1 hst9.blk).1
  have hrs : ∀ r ∈ rs, ∃ p q : Nat, r.1 = p ∧ r.2.1 = q ∧ p < 256 ∧ q < 256 := fun r hr => by
    obtain ⟨i, hi, hri⟩ := List.getElem_of_mem hr
    have hrl := H7b.out.1
    rcases H7b.out.2 i r (by rw [List.getElem?_eq_getElem hi, hri]) with ⟨_, p, rfl⟩ | ⟨_, rfl⟩
    · exact ⟨1, sv, rfl, rfl, by omega, by omega⟩
    · exact ⟨0, H i, rfl, rfl, by omega, HX.out.2.2.2 i (by omega)⟩
  have HCP := Lib.hid (echeck_calls W9 e d lg sh s st (.pointer none) hO9.2.2.2 hS9 N sb 0 _ _ hD9 (.inr ⟨by omega, by omega⟩) (.inr ⟨by omega, by omega⟩) sv n v rs hst9 (.inr ⟨by omega, hstl⟩) (fun q hq hv => .inr ⟨by omega, hq⟩) hne (by have := H7b.out.1; omega) (by omega) (by omega) hrs (by rw [← HSZ.out.2]; omega) ⟨g5, g6, g7, g8⟩ hN (by omega))
  have H9b := Lib.hid (show _ ∧ _ ∧ _ from ⟨hB9, hO9, hst9⟩)
  clear hB9 hD9 hO9 hS9 hst9 hrs
  have hU2 : ∀ q, (q = b ∨ q = b + 1 ∨ q = b + 1 + 1) → (q < B ∨ (w.heap.size ≤ q ∧ q < W9.heap.size)) ∧ q ≠ s ∧ q ≠ e := fun q hq => ⟨.inr ⟨by omega, by omega⟩, by omega, by omega⟩
  have HU2 := Lib.hid hU2
  clear hU2
  go_wp2_with (first
    | (go_at_call 42; refine HCP.out.mono ?_; rintro e10 W10 ⟨rfl, ⟨l, hE10⟩, hk10⟩; have k1 := (hk10.block _ (HU2.out _ (.inr (.inl rfl)))).trans H9b.out.2.1.2.1; have k2 := (hk10.block _ (HU2.out _ (.inr (.inr rfl)))).trans H9b.out.2.1.2.2.1; have c1 : W10.cell? ⟨b + 1, 0, none⟩ = some (.pointer none) := (cellD k1 0).1; have c1f : W10.frozen? ⟨b + 1, 0, none⟩ = false := (cellD k1 0).2; have c2 : W10.cell? ⟨b + 1 + 1, 0, none⟩ = some (.int .i64 0) := (cellD k2 0).1; have c2f : W10.frozen? ⟨b + 1 + 1, 0, none⟩ = false := (cellD k2 0).2; have H10 := Lib.hid (show _ ∧ _ from ⟨hE10, hk10⟩); clear k1 k2 hE10 hk10))
  refine leaves_cons (f := 33) (args := #[.pointer (some ⟨b + 1, 0, none⟩), .pointer (some ⟨b + 1 + 1, 0, none⟩)]) (by simp) (by simp [go_sem]) ?_
  refine (eopen1_idle _ _ _).mono ?_
  rintro e11 u' W11 ⟨rfl, rfl, rfl⟩
  simp [Leaves, settle, results, Tryz.results20, go_sem, c1, c2]
  have hkF : Kp (fun q => (q < B ∨ (w.heap.size ≤ q ∧ q < W9.heap.size)) ∧ q ≠ s ∧ q ≠ e ∧ q ≠ b + 1 ∧ q ≠ b + 1 + 1) W9 ((W10.setCell ⟨b + 1, 0, none⟩ (.pointer (some ⟨e, 0, none⟩))).setCell ⟨b + 1 + 1, 0, none⟩ (.int .i64 0)) :=
    (H10.out.2.mono fun q hq => ⟨hq.1, hq.2.1, hq.2.2.1⟩).trans ⟨rfl, rfl, rfl, by simp, fun q hq => (set_other _ ⟨b + 1 + 1, 0, none⟩ _ _ hq.2.2.2.2).trans (set_other _ ⟨b + 1, 0, none⟩ _ _ hq.2.2.2.1)⟩
  have hEF : Eng ((W10.setCell ⟨b + 1, 0, none⟩ (.pointer (some ⟨e, 0, none⟩))).setCell ⟨b + 1 + 1, 0, none⟩ (.int .i64 0)) e d lg sh (.pointer (some ⟨s, 0, none⟩)) (.pointer (some ⟨l, 0, none⟩)) (.pointer (some ⟨st, 0, none⟩)) := (set_other _ ⟨b + 1 + 1, 0, none⟩ _ _ (by simp only; omega)).trans ((set_other _ ⟨b + 1, 0, none⟩ _ _ (by simp only; omega)).trans H10.out.1)
  have hsF := (H9b.out.2.2.kp hkF ⟨.inr ⟨by omega, hstl⟩, by omega, by omega, by omega, by omega⟩ fun q hq hv => ⟨.inr ⟨by omega, hq⟩, by omega, by omega, by omega, by omega⟩).mono (V := (· < B)) fun q hq => by change q < B at hq; change q < W6.heap.size; omega
  refine ⟨_, _, st, hEF, v, rs, hsF, H7b.out.1, fun i p q o h => H7b.out.2 i (p, q, o) h, (H9b.out.1.mono hBw).trans (Kp.to_below (hkF.mono fun q hq => ⟨.inl hq, by omega, by omega, by omega, by omega⟩)), by omega, by omega⟩
set_option maxRecDepth 100000 in
set_option maxHeartbeats 4000000 in
theorem eopen_small (w : World) (d N sb : Nat) (hd : Dsk w d N sb (.slice none 0 0) 0) (sv n m lg sh : Nat) (cl sd : Int) (h1 : n ≤ 8 ∧ sv < n ∧ 1 ≤ m ∧ m ≤ 64 ∧ 24 ≤ lg ∧ lg ≤ 4096 ∧ 64 ≤ sh ∧ sh ≤ 16384) (hN : N < 2 * (lg + sh)) :
    Calls Tryz.prog 20 #[.pointer (some ⟨d, 0, none⟩), .int .i64 sv, .agg (stp n m lg sh cl sd)] w fun r w' => r = .returned (.tuple #[.pointer none, .int .i64 2]) ∧ Below w.heap.size w w' := by
  have hb3 : ∀ o1 o2 o3 : Obj, Below w.heap.size w (((w.alloc o1).alloc o2).alloc o3) := fun o1 o2 o3 => (((Below.refl _ _).alloc (Nat.le_refl _) _).alloc (by simp) _).alloc (by simp; omega) _
  have HX := Lib.hid hd
  clear hd
  go_enter_defers Tryz.func20, Tryz.ntmps20
  go_upto_region 1 with (fail)
  obtain ⟨W1, hW1⟩ : ∃ W1, W1 = ((w.alloc (.cells (stp n m lg sh cl sd) 32)).alloc (.cells #[.pointer none] 65)).alloc (.cells #[.int .i64 0] 25) := ⟨_, rfl⟩
  have b0 : W1.heap[w.heap.size]? = some (.cells (stp n m lg sh cl sd) 32 (0, 0)) := by
    rw [hW1, heap_alloc_old _ _ (by simp; omega), heap_alloc_old _ _ (by simp)]
    exact heap_alloc_new w _
  have b1 : W1.heap[w.heap.size + 1]? = some (.cells #[.pointer none] 65 (0, 0)) := by
    rw [hW1, heap_alloc_old _ _ (by simp)]
    simpa using heap_alloc_new (w.alloc (.cells (stp n m lg sh cl sd) 32)) (.cells #[.pointer none] 65)
  have b2 : W1.heap[w.heap.size + 1 + 1]? = some (.cells #[.int .i64 0] 25 (0, 0)) := by
    rw [hW1]
    simpa using heap_alloc_new ((w.alloc (.cells (stp n m lg sh cl sd) 32)).alloc (.cells #[.pointer none] 65)) (.cells #[.int .i64 0] 25)
  have hB1 : Below w.heap.size w W1 := hW1 ▸ hb3 _ _ _
  have hsz1 : W1.heap.size = w.heap.size + 1 + 1 + 1 := by rw [hW1]; simp
  rw [← hW1]
  clear hW1 hb3
  obtain ⟨b, hb⟩ : ∃ b, b = w.heap.size := ⟨_, rfl⟩
  rw [← hb] at b0 b1 b2 hB1 hsz1 ⊢
  have hR : Calls Tryz.prog 32 #[.pointer (some ⟨d, 0, none⟩), .int .i64 sv, .agg (stp n m lg sh cl sd)] W1 fun e w' => e = .returned (.bool false) ∧ Below W1.heap.size W1 w' := (eright_calls W1 d N sb 0 _ (HX.out.below (hb ▸ hB1)) sv n m cl lg sh sd (by omega)).mono fun e w' ⟨h1, h2⟩ => ⟨by rw [h1]; simp; omega, h2⟩
  have k0 : W1.cell? ⟨b, 0, none⟩ = some (.int .i64 n) := (cellD b0 0).1
  have k1 : W1.cell? ⟨b, 1, none⟩ = some (.int .i64 m) := (cellD b0 1).1
  have k2 : W1.cell? ⟨b, 2, none⟩ = some (.int .i64 cl) := (cellD b0 2).1
  have k3 : W1.cell? ⟨b, 3, none⟩ = some (.int .i64 lg) := (cellD b0 3).1
  have k4 : W1.cell? ⟨b, 4, none⟩ = some (.int .i64 sh) := (cellD b0 4).1
  have k5 : W1.cell? ⟨b, 5, none⟩ = some (.int .u64 sd) := (cellD b0 5).1
  have H1 := Lib.hid (show _ ∧ _ ∧ _ ∧ _ ∧ _ from ⟨hR, b1, b2, hB1, hb⟩)
  clear hR b0 b1 b2 hB1 hb
  go_wp2_with ((go_at_call 32; refine H1.out.1.mono ?_; rintro e W2 ⟨rfl, hb2⟩; have n1 := (hb2.block (b + 1) (by omega)).trans H1.out.2.1; have n2 := (hb2.block (b + 1 + 1) (by omega)).trans H1.out.2.2.1; have c1 : W2.cell? ⟨b + 1, 0, none⟩ = some (.pointer none) := (cellD n1 0).1; have c1f : W2.frozen? ⟨b + 1, 0, none⟩ = false := (cellD n1 0).2; have c2 : W2.cell? ⟨b + 1 + 1, 0, none⟩ = some (.int .i64 0) := (cellD n2 0).1; have c2f : W2.frozen? ⟨b + 1 + 1, 0, none⟩ = false := (cellD n2 0).2; have H2 := Lib.hid hb2; clear hb2 n1 n2))
  simp [bodyPostD, Leaves, results, Tryz.results20, go_sem, c1, c2]
  have h1 := H1.out.2.2.2.2
  have h2 := H1.out.2.2.2.1
  subst h1
  exact ((h2.trans (H2.out.mono (by omega))).setCell (p := ⟨w.heap.size + 1, 0, none⟩) (by simp only; omega) _).setCell (p := ⟨w.heap.size + 1 + 1, 0, none⟩) (by simp only; omega) _
end Go.Proofs.YtokflmiijdpchaaGreat
