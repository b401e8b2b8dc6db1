/- What is pending becomes safe. -/
import Derived.Test.YtokflmiijdpchaaGreatD1
import Derived.Deep.RegionHeld3
import Derived.Deep.Cut
namespace Go.Proofs.YtokflmiijdpchaaGreat
open Go.RowKit
theorem Dsk.ne {w : World} {d N sb k : Nat} {rv : Value} (h : Dsk w d N sb rv k) : sb ≠ d := by
  obtain ⟨⟨lf, c0, c1, h1⟩, ⟨c, h2, -⟩, -, -, -⟩ := h
  intro e
  subst e
  have h3 := Eq.trans (Eq.symm h1) h2
  injection h3 with h3
  injection h3 with h3 h4
  exact absurd h4 (by decide)
theorem Dsk.lt {w : World} {d N sb k : Nat} {rv : Value} (h : Dsk w d N sb rv k) : sb < w.heap.size := by
  obtain ⟨-, ⟨c, h2, -⟩, -, -, -⟩ := h
  exact (Array.getElem?_eq_some_iff.1 h2).1
theorem Dsk.there {w : World} {d N sb k : Nat} {rv : Value} (h : Dsk w d N sb rv k) {i : Nat} (hi : i < N) : w.there sb (i * 64) 64 := fun j hj => by
  obtain ⟨-, ⟨c, h2, h3, -⟩, -, -, -⟩ := h
  obtain ⟨h4, h5⟩ := cellD h2 (i * 64 + j)
  have hlt : i * 64 + j < N * 64 := by
    have : (i + 1) * 64 ≤ N * 64 := Nat.mul_le_mul_right _ hi
    omega
  exact ⟨by rw [h4, Array.getElem?_eq_getElem (by omega)]; rfl, h5⟩
theorem setC_block {b : Nat} {t : TypeId} {fr : Nat × Nat} (p : Value → Prop) : ∀ (vs : List Value) (o : Nat) (w : World) (c : Array Value), w.heap[b]? = some (.cells c t fr) → (∀ v ∈ c, p v) → (∀ v ∈ vs, p v) → ∃ c', (w.setCells b o vs).heap[b]? = some (.cells c' t fr) ∧ c'.size = c.size ∧ ∀ v ∈ c', p v
  | [], _, _, c, h, hc, _ => ⟨c, h, rfl, hc⟩
  | v :: vs, o, w, c, h, hc, hv => by
    have h1 : (w.setCell ⟨b, o, none⟩ v).heap[b]? = some (.cells (c.setIfInBounds o v) t fr) := by simp [World.setCell, Array.getElem?_modify, h]
    obtain ⟨c', h2, h3, h4⟩ := setC_block p vs (o + 1) _ _ h1 (fun u hu => by
      rcases Array.mem_or_eq_of_mem_setIfInBounds hu with h | h
      · exact hc u h
      · rw [h]; exact hv v List.mem_cons_self) (fun u hu => hv u (List.mem_cons_of_mem _ hu))
    exact ⟨c', h2, by rw [h3]; simp, h4⟩
theorem Dsk.row_ne {w : World} {d N sb k : Nat} {rv : Value} (h : Dsk w d N sb rv k) : rv.ownBlock ≠ some sb ∧ rv.ownBlock ≠ some d := by
  obtain ⟨⟨lf, c0, c1, h1⟩, ⟨c, h2, -⟩, ⟨base, xs, h4, -⟩, -, -⟩ := h
  rcases h4.2 with ⟨rfl, _⟩ | ⟨g, cap, cur, rfl, hb, hg, _⟩
  · exact ⟨by simp [Value.ownBlock], by simp [Value.ownBlock]⟩
  · constructor
    · intro e
      have e' : g = sb := Option.some.inj e
      subst e'
      have h3 := Eq.trans (Eq.symm hg) h2
      injection h3 with h3
      injection h3 with h3 h5
      exact absurd h5 (by decide)
    · intro e
      have e' : g = d := Option.some.inj e
      subst e'
      have h3 := Eq.trans (Eq.symm hg) h1
      injection h3 with h3
      injection h3 with h3 h5
      exact absurd h5 (by decide)
theorem Dsk.put {w : World} {d N sb k : Nat} {rv : Value} (h : Dsk w d N sb rv k) {i : Nat} (_hi : i < N) {es : List Value} (hes : Sec es) : Dsk (w.setCells sb (i * 64) es) d N sb rv k := by
  have hne := h.ne
  have hrn := h.row_ne
  obtain ⟨⟨lf, c0, c1, h1⟩, ⟨c, h2, h3, h3'⟩, ⟨base, xs, h4, h5⟩, h6, h7⟩ := h
  obtain ⟨hg, hs⟩ := setC sb es (i * 64) w
  obtain ⟨c', g2, g3, g4⟩ := setC_block IsU8 es (i * 64) w c h2 h3' hes.2
  exact ⟨⟨lf, c0, c1, (hg.block d (Array.getElem?_eq_some_iff.1 h1).1 (fun e => hne (Option.some.inj e).symm)).trans h1⟩, ⟨c', g2, g3.trans h3, g4⟩, ⟨base, xs, h4.kept hg (.inr hrn.1), h5⟩, h6, h7⟩
theorem But.put {w wr w3 : World} {F : Nat → Prop} (h : But w wr F) (hb : Below wr.heap.size wr w3) (b : Nat) (hF : F b) (o : Nat) (vs : List Value) : But w (w3.setCells b o vs) F := by
  obtain ⟨hg, hs⟩ := setC b vs o w3
  exact ⟨hg.os.trans (hb.os.trans h.os), hg.tape.trans (hb.tape.trans h.tape), hg.output.trans (hb.output.trans h.output), Nat.le_trans h.size (Nat.le_trans hb.size hg.size), fun q hq hn => (hg.block q (Nat.lt_of_lt_of_le hq (Nat.le_trans h.size hb.size)) (fun e => hn (by rw [Option.some.inj e]; exact hF))).trans ((hb.block q (Nat.lt_of_lt_of_le hq h.size)).trans (h.block q hq hn))⟩
theorem Dsk.fin {w W : World} {d N sb k k' : Nat} {rv rv' : Value} (h : Dsk w d N sb rv k) (hg : w.grownBy W (some d)) (hb : ∃ lf c0 c1 : Int, W.heap[d]? = some (.cells #[.slice (some ⟨sb, 0, none⟩) N N, rv', .bool false, .int .i64 lf, .int .i64 c0, .int .i64 c1] 88 (0, 0)))
    (hr : ∃ base xs, W.ownsRow base 283 65 rv' k' xs ∧ Pend N k' xs) (hk : k' ≤ 1048576) : Dsk W d N sb rv' k' := by
  have hne := h.ne
  obtain ⟨-, ⟨c, h2, h3⟩, -, h6, -⟩ := h
  exact ⟨hb, ⟨c, (hg.block sb (Array.getElem?_eq_some_iff.1 h2).1 (fun e => hne (Option.some.inj e))).trans h2, h3⟩, hr, h6, hk⟩
theorem three_grown (w : World) (d : Nat) (a b c : Value) : w.grownBy ((((w.setCell ⟨d, 1, none⟩ a).setCell ⟨d, 5, none⟩ b).setCell ⟨d, 3, none⟩ c).drew) (some d) ∧
    ∀ (x : Array Value) (t : TypeId), w.heap[d]? = some (.cells x t (0, 0)) → ((((w.setCell ⟨d, 1, none⟩ a).setCell ⟨d, 5, none⟩ b).setCell ⟨d, 3, none⟩ c).drew).heap[d]? = some (.cells (((x.setIfInBounds 1 a).setIfInBounds 5 b).setIfInBounds 3 c) t (0, 0)) := by
  refine ⟨⟨rfl, rfl, rfl, by simp [World.setCell], fun k _ hne => ?_⟩, fun x t h => ?_⟩
  · have : d ≠ k := fun e => hne (by rw [e])
    show (((w.setCell ⟨d, 1, none⟩ a).setCell ⟨d, 5, none⟩ b).setCell ⟨d, 3, none⟩ c).heap[k]? = _
    simp [World.setCell, Array.getElem?_modify, this]
  · show (((w.setCell ⟨d, 1, none⟩ a).setCell ⟨d, 5, none⟩ b).setCell ⟨d, 3, none⟩ c).heap[d]? = _
    simp [World.setCell, Array.getElem?_modify, h]
theorem But.then_ {w wr W : World} {F G : Nat → Prop} {d : Nat} (h : But w wr F) (hg : wr.grownBy W (some d)) (hFG : ∀ b, F b → G b) (hd : G d) : But w W G :=
  ⟨hg.os.trans h.os, hg.tape.trans h.tape, hg.output.trans h.output, Nat.le_trans h.size hg.size, fun b hb hn => (hg.block b (Nat.lt_of_lt_of_le hb h.size) (fun e => hn (by rw [Option.some.inj e]; exact hd))).trans (h.block b hb (fun hf => hn (hFG b hf)))⟩
set_option maxRecDepth 100000 in
set_option maxHeartbeats 2000000 in
theorem sync_calls (w : World) (d N sb k : Nat) (rv : Value) (h : Dsk w d N sb rv k) : Calls Tryz.prog 121 #[.pointer (some ⟨d, 0, none⟩)] w fun e w' => e = .returned (.int .i64 0) ∧ Dsk w' d N sb (.slice none 0 0) 0 ∧ But w w' (DF d sb rv) := by
  have HD := Lib.hid h
  have g0 := h.c0
  have g1 := h.c1
  have hroom := h.room
  have hkm := h.kmax
  obtain ⟨g, cap, rfl, -⟩ | ⟨rfl, rfl⟩ : (∃ g cap, rv = .slice (some ⟨g, 0, none⟩) k cap ∧ k ≤ cap) ∨ (rv = .slice none 0 0 ∧ k = 0) := HD.out.form.symm
  rotate_left
  · clear h
    obtain ⟨lf, q0, q1, hblk⟩ := HD.out.blk
    have f1a := (cellD hblk 1).1
    have f1b := (cellD hblk 1).2
    have f3 := (cellD hblk 3).1
    have f3' := (cellD hblk 3).2
    have f5 := (cellD hblk 5).1
    have f5' := (cellD hblk 5).2
    have HB := Lib.hid hblk
    clear hblk
    go_enter Tryz.func121, Tryz.ntmps121
    go_wp2_with (first
      | (go_at_call 183; refine (power_calls _ d N sb 0 _ HD.out).mono ?_; rintro e w' ⟨rfl, hw⟩; obtain rfl := hw.symm))
    go_loopw [16] (fun v wr => v = .int .i64 0 ∧ wr = w) (fun _ _ => 0)
    case atStart => exact ⟨rfl, rfl⟩
    case round =>
      obtain ⟨rfl, hw⟩ := hrel
      obtain rfl := hw.symm
      go_wp2
      go_region
      all_goals go_wp2
      go_ret
      have hg := three_grown w d (.slice none 0 0) (.int .i64 (wrap64 (q1 + 1))) (.int .i64 (wrap64 (lf - 1)))
      exact ⟨rfl, HD.out.fin hg.1 (rv' := .slice none 0 0) (k' := 0) ⟨_, _, _, hg.2 _ _ HB.out⟩ ⟨0, [], World.ownsRow_nil _ _ _ _, fun i hi => absurd hi (by omega)⟩ (by omega), But.then_ ⟨rfl, rfl, rfl, Nat.le_refl _, fun _ _ _ => rfl⟩ hg.1 (F := fun _ => False) (fun b hb => hb.elim) (.inl rfl)⟩
  clear h
  go_enter Tryz.func121, Tryz.ntmps121
  go_wp2_with (first
    | (go_at_call 183; refine (power_calls _ d N sb k _ HD.out).mono ?_; rintro e w' ⟨rfl, hw⟩; obtain rfl := hw.symm))
  go_loopw [16] (fun v wr => ∃ j : Nat, j ≤ k ∧ v = .int .i64 j ∧ Dsk wr d N sb (.slice (some ⟨g, 0, none⟩) k cap) k ∧ But w wr (fun b => b = d ∨ b = sb)) (fun v _ => k - (intOf v).toNat)
  case atStart => exact ⟨0, by omega, rfl, HD.out, rfl, rfl, rfl, Nat.le_refl _, fun _ _ _ => rfl⟩
  case round =>
    obtain ⟨j, hj, rfl, hd2, hbt⟩ := hrel
    have HR := Lib.hid (show _ ∧ _ from ⟨hd2, hbt⟩)
    have r0 := hd2.c0
    clear hd2 hbt
    by_cases hjk : j < k
    · obtain ⟨at_, es, hat, hes, hrg⟩ := HR.out.1.pend j hjk
      have HE := Lib.hid (show _ ∧ _ from ⟨hes, hrg⟩)
      clear hes hrg
      go_upto_region 7 with (first
        | (refine wpList_load_mid rfl 283 (.tmp 18) rfl g (j * 65) rfl (.int .i64 at_ :: es) _ HE.out.2 Tryz.underlying283 rfl (by rw [List.length_cons, HE.out.1.1]; kernel_rfl) ?_)
        | (refine store_fresh _ _ rfl rfl 283 (.tmp 5) (.tmp 19) rfl (.int .i64 at_ :: es) rfl rfl (by rw [List.length_cons, HE.out.1.1]; decide) (by rw [List.length_cons, HE.out.1.1]; kernel_rfl) (pend_all HE.out.1) ?_; intro w3 hb3 hs3 hr3 ht3; have gB := hr3 0 _ rfl; have gd := (HR.out.1.below hb3).c0; have H3 := Lib.hid (show _ ∧ _ ∧ _ ∧ _ from ⟨hb3, hs3, hr3, ht3⟩); clear hb3 hs3 hr3 ht3))
      have hun := Tryz.underlying90
      have hsz : (Tryz.prog.info? 90).map (·.size) = some es.length := by rw [HE.out.1.1]; kernel_rfl
      have hl64 := HE.out.1.1
      have hone : ∀ v ∈ es, v.oneCell' = true := fun v hv => (HE.out.1.2 v hv).one
      have hrg := range_tail H3.out.2.2.1
      have hth : w3.there sb (at_ * 64) 64 := (HR.out.1.below H3.out.1).there hat
      have hne := HR.out.1.ne
      have hsl := HR.out.1.lt
      have k3 : (w3.drew.setCells sb (at_ * 64) es).rangeAt wr.heap.size 1 es := World.rangeAt_setCells_apart ((World.rangeAt_drew _ _ _ _).2 hrg) _ _ _ (.inl (by omega))
      have k4 : (w3.drew.setCells sb (at_ * 64) es).there sb (at_ * 64) 64 := World.there_setCells ((World.there_drew _ _ _ _).2 hth) _ _ _
      have k1 : (w3.drew.setCells sb (at_ * 64) es).cell? ⟨d, 0, none⟩ = some (.slice (some ⟨sb, 0, none⟩) N N) := (World.cell?_setCells_out _ _ _ _ _ (fun e => absurd e (fun e => hne e.symm))).trans gd
      have k2 : (w3.drew.setCells sb (at_ * 64) es).cell? ⟨wr.heap.size, 0 + 0, none⟩ = some (.int .i64 at_) := (World.cell?_setCells_out _ _ _ _ _ (fun e => absurd e (show wr.heap.size ≠ sb by omega))).trans gB
      go_region_held3 (fun W => W.rangeAt wr.heap.size 1 es ∧ W.there sb (at_ * 64) 64 ∧ W.cell? ⟨d, 0, none⟩ = some (.slice (some ⟨sb, 0, none⟩) N N) ∧ W.cell? ⟨wr.heap.size, 0 + 0, none⟩ = some (.int .i64 at_)) (first | go_keep_ranges | exact ⟨k3, k4, k1, k2⟩) (fail)
      go_wp2
      have hd4 : Dsk w3.drew d N sb (.slice (some ⟨g, 0, none⟩) k cap) k := (HR.out.1.below H3.out.1).below ((Below.refl _ _).drew)
      have hb4 : Below wr.heap.size wr w3.drew := H3.out.1.drew
      exact ⟨⟨j + 1, by omega, by go_num, hd4.put hat HE.out.1, HR.out.2.put hb4 sb (.inr rfl) _ _⟩, by simp [intOf]; omega⟩
    · obtain rfl : j = k := by omega
      have g3 : ∃ lf c0 c1 : Int, wr.heap[d]? = some (.cells #[.slice (some ⟨sb, 0, none⟩) N N, .slice (some ⟨g, 0, none⟩) j cap, .bool false, .int .i64 lf, .int .i64 c0, .int .i64 c1] 88 (0, 0)) := HR.out.1.blk
      obtain ⟨lf, q0, q1, hblk⟩ := g3
      have f1 := cellD hblk 1
      have f3 := (cellD hblk 3).1
      have f3' := (cellD hblk 3).2
      have f5 := (cellD hblk 5).1
      have f5' := (cellD hblk 5).2
      have f1a := f1.1
      have f1b := f1.2
      clear f1
      have HB := Lib.hid hblk
      clear hblk
      go_wp2
      go_region
      all_goals go_wp2
      go_ret
      have hg := three_grown wr d (.slice none 0 0) (.int .i64 (wrap64 (q1 + 1))) (.int .i64 (wrap64 (lf - 1)))
      refine ⟨rfl, HR.out.1.fin hg.1 (rv' := .slice none 0 0) (k' := 0) ⟨_, _, _, hg.2 _ _ HB.out⟩ ⟨0, [], World.ownsRow_nil _ _ _ _, fun i hi => absurd hi (by omega)⟩ (by omega), But.then_ HR.out.2 hg.1 (fun b hb => by rcases hb with h | h; exact .inl h; exact .inr (.inl h)) (.inl rfl)⟩
end Go.Proofs.YtokflmiijdpchaaGreat
