/- audit.New over images of zeros. -/
import Derived.Test.YtokflmiijdpchaaGreatD47
namespace Go.Proofs.YtokflmiijdpchaaGreat
open Go.RowKit
attribute [local go_sem] Oper.semAt_some
/-- Other blocks that are none of a state's. -/
theorem StV.re {w : World} {st : Nat} {sv n : Int} {v : Value} {rs : List HRow} {U V : Nat → Prop} (h : StV w st sv n v rs U) (hv : ∀ q, q < w.heap.size → V q → U q) : StV w st sv n v rs V :=
  ⟨h.blk, h.row, ⟨h.own.1, fun b e hu => h.own.2 b e (hv b (h.row.lt b e).2 hu)⟩, fun r hr s t e => let ⟨h1, h2, h3, h4, h5, h6⟩ := h.shd r hr s t e; ⟨h1, h2, h3, h4, fun u => h5 (hv s h1.lt.1 u), fun u => h6 (hv t h1.lt.2 u)⟩⟩
/-- An engine that stands, none of whose blocks lies below B or is g. -/
def EnX (w : World) (sv n m : Nat) (H : Nat → Nat) (B : Nat) (g : Option Nat) (e : Nat) : Prop := ∃ (d : Nat) (lg sh : Int) (s l : Value) (st : Nat) (v : Value) (rs : List HRow), Eng w e d lg sh s l (.pointer (some ⟨st, 0, none⟩)) ∧ StV w st sv n v rs (fun q => q < B ∨ g = some q) ∧ (B ≤ e ∧ g ≠ some e) ∧ (B ≤ st ∧ g ≠ some st) ∧ rs.length = m ∧ ∀ i r, rs[i]? = some r → okRow sv (H i) r
theorem EnX.step {w w' : World} {sv n m : Nat} {H : Nat → Nat} {B : Nat} {g g' : Option Nat} {e : Nat} (h : EnX w sv n m H B g e) (hk : Kp (fun q => B ≤ q ∧ q < w.heap.size ∧ g ≠ some q) w w') (hg : ∀ q, q < w.heap.size → g' = some q → g = some q) : EnX w' sv n m H B g' e := by
  obtain ⟨d, lg, sh, s, l, st, v, rs, h1, h2, h3, h4, h5, h6⟩ := h
  have l1 := (Array.getElem?_eq_some_iff.1 h1).1
  have l2 := (Array.getElem?_eq_some_iff.1 h2.blk).1
  have hr : StV w st sv n v rs (fun q => (q < B ∨ g' = some q) ∨ g = some q) := h2.re fun q hq hv => by
    rcases hv with (hv | hv) | hv
    · exact .inl hv
    · exact .inr (hg q hq hv)
    · exact .inr hv
  refine ⟨d, lg, sh, s, l, st, v, rs, (hk.block e ⟨h3.1, l1, h3.2⟩).trans h1, (hr.kp hk ⟨h4.1, l2, h4.2⟩ ?_).mono fun _ hq => .inl hq, ⟨h3.1, fun e' => h3.2 (hg e l1 e')⟩, ⟨h4.1, fun e' => h4.2 (hg st l2 e')⟩, h5, h6⟩
  intro q hq hv
  exact ⟨by omega, hq, fun e' => hv (.inr e')⟩
theorem EnX.enh {w : World} {sv n m : Nat} {H : Nat → Nat} {B : Nat} {g : Option Nat} {e : Nat} (h : EnX w sv n m H B g e) : EnH w sv n m H e :=
  let ⟨d, lg, sh, s, l, st, v, rs, h1, h2, _, _, h5, h6⟩ := h
  ⟨rs, ⟨d, lg, sh, s, l, st, v, h1, h2.mono fun _ q => q.elim⟩, h5, h6⟩
/-- The engines so far. -/
def Es (w : World) (n m : Nat) (H : Nat → Nat) (B : Nat) (v : Value) (j : Nat) (es : List Nat) : Prop := Oe 65 1 w v j (es.map fun e => .pointer (some ⟨e, 0, none⟩)) (fun q => q < w.heap.size ∧ v.ownBlock ≠ some q) ∧ es.length = j ∧ (∀ q, v.ownBlock = some q → B ≤ q) ∧ ∀ i e, es[i]? = some e → EnX w i n m H B v.ownBlock e
theorem Es.below {w w' : World} {n m : Nat} {H : Nat → Nat} {B : Nat} {v : Value} {j : Nat} {es : List Nat} (h : Es w n m H B v j es) (hb : Below w.heap.size w w') : Es w' n m H B v j es :=
  ⟨⟨(h.1.below hb).1, fun _ hq => hq⟩, h.2.1, h.2.2.1, fun i e hi => (h.2.2.2 i e hi).step (Kp.of_below hb fun _ hq => hq.2.1) fun _ _ q => q⟩
theorem oe_form {e : TypeId} {s : Nat} {w : World} {v : Value} {k : Nat} {xs : List Value} {U : Nat → Prop} (h : Oe e s w v k xs U) : ∃ a c, v = .slice a k c := by
  obtain ⟨hl, ⟨rfl, rfl⟩ | ⟨g, cap, cur, rfl, -⟩⟩ := h.1
  · exact ⟨_, _, rfl⟩
  · exact ⟨_, _, rfl⟩
theorem es_app {W w4 : World} {n m : Nat} {H : Nat → Nat} {B : Nat} {v : Value} {j : Nat} {es : List Nat} (h : Es W n m H B v j es) (e : Nat) (he : EnX W j n m H B v.ownBlock e) (v2 : Value)
    (ho : Oe 65 1 w4 v2 (j + 1) ((es.map fun e => .pointer (some ⟨e, 0, none⟩)) ++ [.pointer (some ⟨e, 0, none⟩)]) (fun q => q < W.heap.size ∧ v.ownBlock ≠ some q)) (hk : Kp (fun q => q < W.heap.size ∧ v.ownBlock ≠ some q) W w4) (p : Addr) (hp : p.block < B) (hB : B ≤ W.heap.size) (u : Value) : Es (w4.setCell p u) n m H B v2 (j + 1) (es ++ [e]) := by
  have hv2 : ∀ q, q < W.heap.size → v2.ownBlock = some q → v.ownBlock = some q := fun q hq e' => Classical.byContradiction fun hn => (ho.2 q ⟨hq, hn⟩).2 e'
  have hv3 : ∀ q, v2.ownBlock = some q → B ≤ q := fun q e' => Classical.byContradiction fun hn => hn (h.2.2.1 q (hv2 q (by omega) e'))
  have hk5 : Kp (fun q => B ≤ q ∧ q < W.heap.size ∧ v.ownBlock ≠ some q) W (w4.setCell p u) := kp_set (hk.mono fun q hq => hq.2) p u (by omega)
  refine ⟨⟨?_, fun q hq => hq⟩, by rw [List.length_append, h.2.1]; rfl, hv3, fun i e' hi => ?_⟩
  · rw [List.map_append]
    refine own_kp ho.1 (V := fun q => q ≠ p.block) (kp_set (Kp.refl _ _) p u (by simp)) fun q e' => ?_
    have := hv3 q e'
    omega
  · by_cases hij : i < j
    · rw [List.getElem?_append_left (by rw [h.2.1]; exact hij)] at hi
      exact (h.2.2.2 i e' hi).step hk5 hv2
    · have hil := (List.getElem?_eq_some_iff.1 hi).1
      rw [List.length_append, h.2.1] at hil
      obtain rfl : i = j := by simp at hil; omega
      rw [List.getElem?_append_right (by rw [h.2.1]; exact Nat.le_refl _), h.2.1] at hi
      simp at hi
      subst hi
      exact he.step hk5 hv2
theorem es_aud {w : World} {a n m : Nat} {H : Nat → Nat} {B : Nat} {v : Value} {es : List Nat} (h : Es w n m H B v n es) (hn : 1 ≤ n) (ha : w.heap[a]? = some (.cells #[.int .i64 n, .int .i64 m, v] 61 (0, 0))) : Aud w a n m H := by
  have h0 := h.1.1
  obtain ⟨hl, ⟨-, hh⟩ | ⟨g, cap, cur, rfl, -, hg, -⟩⟩ := h.1.1
  · omega
  · refine ⟨g, cap, ha, (Array.getElem?_eq_some_iff.1 hg).1, fun sv hs => ?_⟩
    have hlen := h.2.1
    refine ⟨es[sv], ?_, (h.2.2.2 sv _ (List.getElem?_eq_getElem (by omega))).enh⟩
    rw [h0.cellAt sv (by omega), List.getElem?_map, List.getElem?_eq_getElem (by omega)]
    rfl
set_option maxRecDepth 100000 in
set_option maxHeartbeats 4000000 in
theorem anew_calls (w : World) (im c b cb N : Nat) (n m lg sh : Nat) (cl sd : Int) (H : Nat → Nat) (hi : ∀ i, i < n → w.cell? ⟨im, i, none⟩ = some (.slice (some ⟨b, 0, none⟩) (N * 64) cb)) (him : im < w.heap.size) (hN1 : 1 ≤ N) (hN2 : N ≤ 65536) (hz : ∀ j, j < N * 64 → w.cell? ⟨b, j, none⟩ = some (.int .u8 0)) (hb : b < w.heap.size) (hcb : N * 64 ≤ cb)
    (h1 : 1 ≤ n ∧ n ≤ 8 ∧ 1 ≤ m ∧ m ≤ 64 ∧ 24 ≤ lg ∧ lg ≤ 4096 ∧ 64 ≤ sh ∧ sh ≤ 16384) (hN : 2 * (lg + sh) ≤ N)
    (hH : ∀ i, i < m → ∀ W : World, Calls Tryz.prog 74 #[.int .i64 i, .int .i64 n] W fun e w' => e = .returned (.int .i64 (H i)) ∧ Below W.heap.size W w') (hH8 : ∀ i, i < m → H i < 256) (hfit : 3 + 11 * m ≤ 64) :
    Calls Tryz.prog 5 #[.agg (stp n m lg sh cl sd), .slice (some ⟨im, 0, none⟩) n c] w fun r w' => ∃ a, r = .returned (.tuple #[.pointer (some ⟨a, 0, none⟩), .int .i64 0]) ∧ Aud w' a n m H ∧ Below w.heap.size w w' := by
  have HX := Lib.hid (show _ ∧ _ ∧ _ ∧ _ from ⟨hi, hz, hH, hH8⟩)
  clear hi hz hH hH8
  obtain ⟨g1, g2, g3, g4, g5, g6, g7, g8⟩ := h1
  have n0 := heap_alloc_new w (.cells (stp n m lg sh cl sd) 32)
  have k0 : (w.alloc (.cells (stp n m lg sh cl sd) 32)).cell? ⟨w.heap.size, 0, none⟩ = some (.int .i64 n) := (cellD n0 0).1
  have k1 : (w.alloc (.cells (stp n m lg sh cl sd) 32)).cell? ⟨w.heap.size, 1, none⟩ = some (.int .i64 m) := (cellD n0 1).1
  clear n0
  go_enter Tryz.func5, Tryz.ntmps5
  go_upto_region 4 with (fail)
  obtain ⟨W0, hW0⟩ : ∃ W0, W0 = (w.alloc (.cells (stp n m lg sh cl sd) 32)).alloc (.cells #[.int .i64 n, .int .i64 m, .slice none 0 0] 61) := ⟨_, rfl⟩
  have b0 : W0.heap[w.heap.size]? = some (.cells (stp n m lg sh cl sd) 32 (0, 0)) := by
    rw [hW0, heap_alloc_old _ _ (by simp)]
    exact heap_alloc_new w _
  have b1 : W0.heap[w.heap.size + 1]? = some (.cells #[.int .i64 n, .int .i64 m, .slice none 0 0] 61 (0, 0)) := by
    rw [hW0]
    simpa using heap_alloc_new (w.alloc (.cells (stp n m lg sh cl sd) 32)) (.cells #[.int .i64 n, .int .i64 m, .slice none 0 0] 61)
  have hB0 : Below w.heap.size w W0 := hW0 ▸ ((Below.refl _ _).alloc (Nat.le_refl _) _).alloc (by simp) _
  have hs0 : W0.heap.size = w.heap.size + 2 := by rw [hW0]; simp
  rw [← hW0]
  clear hW0 k0 k1
  have k0 : W0.cell? ⟨w.heap.size, 0, none⟩ = some (.int .i64 n) := (cellD b0 0).1
  have H0 := Lib.hid (show _ ∧ _ ∧ _ from ⟨b0, b1, hB0⟩)
  clear b0 b1 hB0
  go_wp2
  go_loopw [34] (fun i wr => ∃ (j : Nat) (v : Value) (es : List Nat), j ≤ n ∧ i = .int .i64 j ∧ wr.heap[w.heap.size]? = some (.cells (stp n m lg sh cl sd) 32 (0, 0)) ∧ wr.heap[w.heap.size + 1]? = some (.cells #[.int .i64 n, .int .i64 m, v] 61 (0, 0)) ∧ Es wr n m H (w.heap.size + 2) v j es ∧ Below w.heap.size w wr) (fun i _ => n - (intOf i).toNat)
  case atStart => exact ⟨0, .slice none 0 0, [], by omega, rfl, H0.out.1, H0.out.2.1, ⟨Oe.nil fun q hq => hq.1, rfl, by simp [Value.ownBlock], by simp⟩, H0.out.2.2⟩
  case round =>
    obtain ⟨j, v, es, hj, rfl, hb0, hb1, hes, hbl⟩ := hrel
    by_cases hjn : j < n
    · have hsr : w.heap.size + 2 ≤ wr.heap.size := by have := (Array.getElem?_eq_some_iff.1 hb1).1; omega
      have ci : wr.cell? ⟨im, j, none⟩ = some (.slice (some ⟨b, 0, none⟩) (N * 64) cb) := (hbl.cell (p := ⟨im, j, none⟩) him).trans (HX.out.1 j hjn)
      have HL := load_zeros wr b (N * 64) cb N rfl hN1 hN2 (fun q hq => (hbl.cell (p := ⟨b, q, none⟩) hb).trans (HX.out.2.1 q hq)) (Nat.lt_of_lt_of_le hb hbl.size) hcb
      have HR := Lib.hid (show _ ∧ _ ∧ _ ∧ _ ∧ _ from ⟨hb0, hb1, hes, hbl, HL⟩)
      clear hb0 hb1 hes hbl HL
      go_upto_region 10 with ((go_at_call 19; refine HR.out.2.2.2.2.mono ?_; rintro y W1 ⟨d, sb, rfl, hd, hz, hd1, hs1, hb1⟩; have H1 := Lib.hid (show _ ∧ _ ∧ _ ∧ _ ∧ _ from ⟨hd, hz, hd1, hs1, hb1⟩); clear hd hz hd1 hs1 hb1))
      have m0 := (H1.out.2.2.2.2.block w.heap.size (by omega)).trans HR.out.1
      have m1 := (H1.out.2.2.2.2.block (w.heap.size + 1) (by omega)).trans HR.out.2.1
      have q0 : W1.cell? ⟨w.heap.size, 0, none⟩ = some (.int .i64 n) := (cellD m0 0).1
      have q1 : W1.cell? ⟨w.heap.size, 1, none⟩ = some (.int .i64 m) := (cellD m0 1).1
      have q2 : W1.cell? ⟨w.heap.size, 2, none⟩ = some (.int .i64 cl) := (cellD m0 2).1
      have q3 : W1.cell? ⟨w.heap.size, 3, none⟩ = some (.int .i64 lg) := (cellD m0 3).1
      have q4 : W1.cell? ⟨w.heap.size, 4, none⟩ = some (.int .i64 sh) := (cellD m0 4).1
      have q5 : W1.cell? ⟨w.heap.size, 5, none⟩ = some (.int .u64 sd) := (cellD m0 5).1
      have HM := Lib.hid m1
      have hsr1 := H1.out.2.2.2.2.size
      have HO := Lib.hid (eopen_zero W1 d N sb H1.out.1 H1.out.2.1 wr.heap.size H1.out.2.2.1 H1.out.2.2.2.1 j n m lg sh cl sd ⟨g2, hjn, g3, g4, g5, g6, g7, g8⟩ hN H HX.out.2.2.1 HX.out.2.2.2 hfit)
      clear m0 m1
      go_upto_region 13 with ((go_at_call 20; refine HO.out.mono ?_; rintro y W2 ⟨e, l, s, st, ve, rs, rfl, he1, he2, he3, he4, he5, he6, he7⟩; have n1 := (he5.block (w.heap.size + 1) (by omega)).trans HM.out; have c2 : W2.cell? ⟨w.heap.size + 1, 2, none⟩ = some v := (cellD n1 2).1; have H2 := Lib.hid (show _ ∧ _ ∧ _ ∧ _ ∧ _ ∧ _ ∧ _ ∧ _ from ⟨he1, he2, he3, he4, he5, he6, he7, n1⟩); clear he1 he2 he3 he4 he5 he6 he7 n1))
      have hb2 : Below wr.heap.size wr W2 := H1.out.2.2.2.2.trans H2.out.2.2.2.2.1
      have hs2 := hb2.size
      have hes2 := HR.out.2.2.1.below hb2
      have hX : EnX W2 j n m H (w.heap.size + 2) v.ownBlock e := by
        have hvl : ∀ q, v.ownBlock = some q → q < wr.heap.size := fun q hq => (HR.out.2.2.1.1.1.lt q hq).2
        obtain ⟨he1, he2, he3, he4, he5, he6, he7, -⟩ := H2.out
        exact ⟨d, lg, sh, s, l, st, ve, rs, he1, he2.mono fun q hq => by
          change q < wr.heap.size
          rcases hq with hq | hq
          · omega
          · exact hvl q hq, ⟨by omega, fun e' => by have := hvl e e'; omega⟩, ⟨by omega, fun e' => by have := hvl st e'; omega⟩, he3, he4⟩
      have HE := Lib.hid (show _ ∧ _ ∧ _ ∧ _ from ⟨hes2, hX, hb2, H2.out.2.2.2.2.2.2.2⟩)
      clear hes2 hX hb2 H2 q0 q1 q2 q3 q4 q5 HO HM
      go_wp2_with ((refine wp_appE1 rfl 59 65 1 8 Tryz.underlying59 ⟨_, _, rfl, rfl, rfl, rfl, rfl⟩ (by decide) (by decide) (.tmp 62) (.tmp 64) rfl _ j _ _ rfl HE.out.1.1 _ [.pointer (some ⟨e, 0, none⟩)] rfl rfl rfl (by simp [Value.oneCell']) (by omega) ?_; intro v2 w4 ho2 hk2; obtain ⟨va, vc, rfl⟩ := oe_form ho2; have n4 := (hk2.block (w.heap.size + 1) ⟨by omega, fun e' => by have := HE.out.1.2.2.1 _ e'; omega⟩).trans HE.out.2.2.2; have c4 : w4.cell? ⟨w.heap.size + 1, 2, none⟩ = some v := (cellD n4 2).1; have c4f : w4.frozen? ⟨w.heap.size + 1, 2, none⟩ = false := (cellD n4 2).2; have H4 := Lib.hid (show _ ∧ _ ∧ _ from ⟨ho2, hk2, n4⟩); clear ho2 hk2 n4))
      have hB : w.heap.size + 2 ≤ W2.heap.size := by omega
      have hes5 := es_app HE.out.1 e HE.out.2.1 _ H4.out.1 H4.out.2.1 ⟨w.heap.size + 1, 2, none⟩ (by simp only; omega) hB (.slice va (j + 1) vc)
      have hvS : v.ownBlock ≠ some w.heap.size := fun e' => by have := HE.out.1.2.2.1 _ e'; omega
      have n5 := (set_other w4 ⟨w.heap.size + 1, 2, none⟩ (.slice va (j + 1) vc) w.heap.size (by simp only; omega)).trans ((H4.out.2.1.block w.heap.size ⟨by omega, hvS⟩).trans ((HE.out.2.2.1.block w.heap.size (by omega)).trans HR.out.1))
      have n6 := block_set H4.out.2.2 2 (.slice va (j + 1) vc)
      have hb5 : Below w.heap.size w (w4.setCell ⟨w.heap.size + 1, 2, none⟩ (.slice va (j + 1) vc)) := ((HR.out.2.2.2.1.trans (HE.out.2.2.1.mono (by omega))).trans (H4.out.2.1.mono fun q hq => ⟨by omega, fun e' => by have := HE.out.1.2.2.1 _ e'; omega⟩).to_below).setCell (p := ⟨w.heap.size + 1, 2, none⟩) (by simp only; omega) _
      exact ⟨⟨j + 1, _, _, by omega, by go_num, n5, n6, hes5, hb5⟩, by simp [intOf]; omega⟩
    · obtain rfl : j = n := by omega
      have HR := Lib.hid (show _ ∧ _ ∧ _ from ⟨hb1, hes, hbl⟩)
      clear hb0 hb1 hes hbl
      go_wp2
      go_ret2
      exact ⟨_, rfl, es_aud HR.out.2.1 g1 HR.out.1, HR.out.2.2⟩
end Go.Proofs.YtokflmiijdpchaaGreat
