/- A disk is read. -/
import Derived.Test.YtokflmiijdpchaaGreatD0
import Derived.Deep.Upon
namespace Go.Proofs.YtokflmiijdpchaaGreat
open Go.RowKit
theorem sec_of {w : World} {sb N : Nat} {c : Array Value} {t : TypeId} (h : w.heap[sb]? = some (.cells c t (0, 0))) (hs : c.size = N * 64) (hu : ∀ v ∈ c, IsU8 v) (i : Nat) (hi : i < N) : ∃ cs, Sec cs ∧ w.rangeAt sb (i * 64) cs := by
  refine ⟨(c.toList.drop (i * 64)).take 64, ⟨?_, fun v hv => hu v ?_⟩, fun j v hv => ?_⟩
  · rw [List.length_take, List.length_drop, Array.length_toList, hs]
    omega
  · exact Array.mem_toList_iff.1 (List.mem_of_mem_drop (List.mem_of_mem_take hv))
  · have hj : j < 64 := by
      have := (List.getElem?_eq_some_iff.1 hv).1
      rw [List.length_take] at this
      omega
    rw [List.getElem?_take_of_lt hj, List.getElem?_drop, Array.getElem?_toList] at hv
    rw [(cellD h _).1]
    exact hv
theorem sec_all {cs : List Value} (h : Sec cs) : cs.toArray.all (·.oneCell') = true := all_oneCell_toArray fun v hv => (h.2 v hv).one
theorem setC (b : Nat) : ∀ (vs : List Value) (o : Nat) (w : World), w.grownBy (w.setCells b o vs) (some b) ∧ (w.setCells b o vs).heap.size = w.heap.size
  | [], _, _ => ⟨⟨rfl, rfl, rfl, Nat.le_refl _, fun _ _ _ => rfl⟩, rfl⟩
  | v :: vs, o, w => by
    obtain ⟨h, hs⟩ := setC b vs (o + 1) (w.setCell ⟨b, o, none⟩ v)
    have hs1 : (w.setCell ⟨b, o, none⟩ v).heap.size = w.heap.size := by simp [World.setCell]
    refine ⟨⟨h.os, h.tape, h.output, by have := h.size; rw [hs1] at this; exact this, fun k hk hne => (h.block k (by rw [hs1]; exact hk) hne).trans ?_⟩, hs.trans hs1⟩
    have : b ≠ k := fun e => hne (by rw [e])
    simp [World.setCell, Array.getElem?_modify, this]
theorem pend_all {q : Nat} {cs : List Value} (h : Sec cs) : (Value.int .i64 q :: cs).toArray.all (·.oneCell') = true := all_oneCell_toArray fun v hv => by
  rcases List.mem_cons.1 hv with rfl | hv
  · rfl
  · exact (h.2 v hv).one
theorem range_tail {w : World} {b : Nat} {v : Value} {cs : List Value} (h : w.rangeAt b 0 (v :: cs)) : w.rangeAt b 1 cs := fun j u hu => by
  have h1 := h (j + 1) u (by simpa using hu)
  rw [show 1 + j = 0 + (j + 1) by omega]
  exact h1
theorem there_below {w w' : World} {b o n : Nat} (h : w.there b o n) (hb : Below w.heap.size w w') (hlt : b < w.heap.size) : w'.there b o n := fun j hj => by
  obtain ⟨h1, h2⟩ := h j hj
  have e := hb.block b hlt
  exact ⟨by rw [World.cell?_of_block (a := ⟨b, o + j, none⟩) e]; exact h1, by rw [World.frozen?_of_block (a := ⟨b, o + j, none⟩) e]; exact h2⟩
theorem range_below {w w' : World} {b o : Nat} {cs : List Value} (h : w.rangeAt b o cs) (hb : Below w.heap.size w w') (hlt : b < w.heap.size) : w'.rangeAt b o cs := fun j v hv => by
  rw [World.cell?_of_block (a := ⟨b, o + j, none⟩) (hb.block b hlt)]
  exact h j v hv
section
variable {P : Program} {ops : Array Oper} {rest : List Oper} {o : Oper} {a : Act} {Q : Exit → Act → World → Prop}
/-- A value of many cells goes into a block that has just been made. -/
theorem store_fresh (W : World) (C : Array Value) (hgd : o.guard = none) (hN : o.dst = none) (t : TypeId) (x y : Operand) (ho : o.op = .store t x y) (cs : List Value) (hx : a.eval x = .pointer (some ⟨W.heap.size, 0, none⟩)) (hy : a.eval y = .agg cs.toArray)
    (hC : cs.length ≤ C.size) (hi : (P.info? t).map (·.size) = some cs.length) (h1 : cs.toArray.all (·.oneCell') = true)
    (h : ∀ w2, Below W.heap.size W w2 → w2.heap.size = W.heap.size + 1 → w2.rangeAt W.heap.size 0 cs → w2.there W.heap.size 0 cs.length → wpList P ops Q rest a w2) : wpList P ops Q (o :: rest) a (W.alloc (.cells C t)) := by
  have hth : (W.alloc (.cells C t)).there W.heap.size 0 cs.length := fun j hj => by
    obtain ⟨h2, h3⟩ := cellD (heap_alloc_new W (.cells C t)) (0 + j)
    refine ⟨?_, h3⟩
    rw [h2, Array.getElem?_eq_getElem (by omega)]
    rfl
  refine wpList_store_mid hgd t x y ho W.heap.size 0 cs.toArray hx hy (by simpa using hth) (by simpa using hi) h1 ?_
  rw [hN]
  have hl : cs.toArray.toList = cs := by simp
  rw [hl]
  obtain ⟨hg, hs⟩ := setC W.heap.size cs 0 (W.alloc (.cells C t))
  have ha : (W.alloc (.cells C t)).heap.size = W.heap.size + 1 := by simp
  exact h _ ⟨hg.os, hg.tape, hg.output, by rw [hs, ha]; omega, fun b hb => (hg.block b (by omega) (fun e => by have := Option.some.inj e; omega)).trans (heap_alloc_old W _ hb)⟩ (hs.trans ha) (World.rangeAt_setCells_same _ _ _ _ hth) (World.there_setCells hth _ _ _)
/-- .. goes over what a block of one's own holds. -/
theorem store_over (W : World) (hgd : o.guard = none) (_hN : o.dst = none) (t : TypeId) (x y : Operand) (ho : o.op = .store t x y) (A q : Nat) (cs : List Value) (hx : a.eval x = .pointer (some ⟨A, q, none⟩)) (hy : a.eval y = .agg cs.toArray)
    (hth : W.there A q cs.length) (hi : (P.info? t).map (·.size) = some cs.length) (h1 : cs.toArray.all (·.oneCell') = true)
    (h : ∀ w2, W.grownBy w2 (some A) → w2.heap.size = W.heap.size → w2.rangeAt A q cs → (∀ b o n, W.there b o n → w2.there b o n) → wpList P ops Q rest (a.put o.dst undef) w2) : wpList P ops Q (o :: rest) a W := by
  refine wpList_store_mid hgd t x y ho A q cs.toArray hx hy (by simpa using hth) (by simpa using hi) h1 ?_
  have hl : cs.toArray.toList = cs := by simp
  rw [hl]
  obtain ⟨hg, hs⟩ := setC A cs q W
  exact h _ hg hs (World.rangeAt_setCells_same _ _ _ _ hth) (fun b o n hb => World.there_setCells hb _ _ _)
end
set_option maxRecDepth 100000 in
set_option maxHeartbeats 2000000 in
/-- Where nothing is pending: what is read is what lies there. -/
theorem read_nil (w : World) (d N sb : Nat) (h : Dsk w d N sb (.slice none 0 0) 0) (i : Nat) (hi : i < N) (cs : List Value) (hsec : Sec cs) (hr : w.rangeAt sb (i * 64) cs) : Calls Tryz.prog 166 #[.pointer (some ⟨d, 0, none⟩), .int .i64 i] w fun e w' => ∃ A, e = .returned (.tuple #[.slice (some ⟨A, 0, none⟩) 64 64, .int .i64 0]) ∧ w'.rangeAt A 0 cs ∧ w.heap.size ≤ A ∧ A < w'.heap.size ∧ Below w.heap.size w w' := by
  have HD := Lib.hid h
  have g0 := h.c0
  have g1 := h.c1
  have hroom := h.room
  have HS := Lib.hid (show _ ∧ _ from ⟨hsec, hr⟩)
  clear h hsec hr
  go_enter Tryz.func166, Tryz.ntmps166
  go_wp2_with (first
    | (go_at_call 183; refine (power_calls _ d N sb 0 _ HD.out).mono ?_; rintro e w' ⟨rfl, hw⟩; obtain rfl := hw.symm)
    | (refine wpList_load_mid rfl 90 (.tmp 31) rfl sb (i * 64) rfl cs _ HS.out.2 Tryz.underlying90 rfl (by rw [HS.out.1.1]; kernel_rfl) ?_)
    | (refine store_fresh _ _ rfl rfl 90 (.tmp 7) (.tmp 32) rfl cs rfl rfl (by rw [HS.out.1.1]; decide) (by rw [HS.out.1.1]; kernel_rfl) (sec_all HS.out.1) ?_; intro w2 hb2 hs2 hr2 ht2; have gd := (HD.out.below hb2).c1; have H2 := Lib.hid (show _ ∧ _ ∧ _ ∧ _ from ⟨hb2, hs2, hr2, ht2⟩); clear hb2 hs2 hr2 ht2))
  go_loopw [38] (fun v wr => v = .int .i64 0 ∧ wr = w2) (fun _ _ => 0)
  case atStart => exact ⟨rfl, rfl⟩
  case round =>
    obtain ⟨rfl, hw⟩ := hrel
    obtain rfl := hw.symm
    go_wp2
    go_ret2
    exact ⟨w.heap.size, rfl, H2.out.2.2.1, Nat.le_refl _, by rw [H2.out.2.1]; omega, H2.out.1⟩
set_option maxRecDepth 100000 in
set_option maxHeartbeats 2000000 in
theorem read_calls (w : World) (d N sb k : Nat) (rv : Value) (h : Dsk w d N sb rv k) (i : Nat) (hi : i < N) : Calls Tryz.prog 166 #[.pointer (some ⟨d, 0, none⟩), .int .i64 i] w fun e w' => ∃ A cs, e = .returned (.tuple #[.slice (some ⟨A, 0, none⟩) 64 64, .int .i64 0]) ∧ Sec cs ∧ w'.rangeAt A 0 cs ∧ w.heap.size ≤ A ∧ A < w'.heap.size ∧ Below w.heap.size w w' := by
  have HD := Lib.hid h
  have h0 := h
  obtain ⟨⟨lf, c0, c1, h1⟩, ⟨c, h2, h3, h4⟩, -, hroom, hkm⟩ := h
  obtain ⟨cs, hsec, hr⟩ := sec_of h2 h3 h4 i hi
  have g0 := (cellD h1 0).1
  have g1 := (cellD h1 1).1
  have HS := Lib.hid (show _ ∧ _ from ⟨hsec, hr⟩)
  obtain ⟨g, cap, rfl, -⟩ | ⟨rfl, rfl⟩ : (∃ g cap, rv = .slice (some ⟨g, 0, none⟩) k cap ∧ k ≤ cap) ∨ (rv = .slice none 0 0 ∧ k = 0) := HD.out.form.symm
  rotate_left
  · exact (read_nil w d N sb h0 i hi cs hsec hr).mono fun e w' ⟨A, he, h5, h6, h7, h8⟩ => ⟨A, cs, he, hsec, h5, h6, h7, h8⟩
  clear h0 h1 h2 h3 h4 hsec hr
  go_enter Tryz.func166, Tryz.ntmps166
  go_wp2_with (first
    | (go_at_call 183; refine (power_calls _ d N sb k _ HD.out).mono ?_; rintro e w' ⟨rfl, hw⟩; obtain rfl := hw.symm)
    | (refine wpList_load_mid rfl 90 (.tmp 31) rfl sb (i * 64) rfl cs _ HS.out.2 Tryz.underlying90 rfl (by rw [HS.out.1.1]; kernel_rfl) ?_)
    | (refine store_fresh _ _ rfl rfl 90 (.tmp 7) (.tmp 32) rfl cs rfl rfl (by rw [HS.out.1.1]; decide) (by rw [HS.out.1.1]; kernel_rfl) (sec_all HS.out.1) ?_; intro w2 hb2 hs2 hr2 ht2; have gd := (HD.out.below hb2).c1; have H2 := Lib.hid (show _ ∧ _ ∧ _ ∧ _ from ⟨hb2, hs2, hr2, ht2⟩); clear hb2 hs2 hr2 ht2))
  go_loopw [38] (fun v wr => ∃ j : Nat, j ≤ k ∧ v = .int .i64 j ∧ Below w.heap.size w wr ∧ (∃ ds, Sec ds ∧ wr.rangeAt w.heap.size 0 ds) ∧ wr.there w.heap.size 0 64 ∧ w.heap.size < wr.heap.size) (fun v _ => k - (intOf v).toNat)
  case atStart => exact ⟨0, by omega, rfl, H2.out.1, ⟨cs, HS.out.1, H2.out.2.2.1⟩, by have h := H2.out.2.2.2; rwa [HS.out.1.1] at h, by rw [H2.out.2.1]; omega⟩
  case round =>
    obtain ⟨j, hj, rfl, hbe, ⟨ds, hds, hrd⟩, hth, hlt⟩ := hrel
    have HR := Lib.hid (show _ ∧ _ ∧ _ ∧ _ ∧ _ from ⟨hbe, hds, hrd, hth, hlt⟩)
    clear hbe hds hrd hth hlt
    by_cases hjk : j < k
    · obtain ⟨at_, es, hat, hes, hrg⟩ := (HD.out.below HR.out.1).pend j hjk
      have HE := Lib.hid (show _ ∧ _ from ⟨hes, hrg⟩)
      clear hes hrg
      go_wp2_with (first
        | (refine wpList_load_mid rfl 283 (.tmp 40) rfl g (j * 65) rfl (.int .i64 at_ :: es) _ HE.out.2 Tryz.underlying283 rfl (by rw [List.length_cons, HE.out.1.1]; kernel_rfl) ?_)
        | (refine store_fresh _ _ rfl rfl 283 (.tmp 9) (.tmp 41) rfl (.int .i64 at_ :: es) rfl rfl (by rw [List.length_cons, HE.out.1.1]; decide) (by rw [List.length_cons, HE.out.1.1]; kernel_rfl) (pend_all HE.out.1) ?_; intro w3 hb3 hs3 hr3 ht3; have gB := hr3 0 _ rfl; have H3 := Lib.hid (show _ ∧ _ ∧ _ ∧ _ from ⟨hb3, hs3, hr3, ht3⟩); clear hb3 hs3 hr3 ht3)
        | (refine wpList_load_mid rfl 90 (.tmp 46) rfl wr.heap.size 1 rfl es _ (range_tail H3.out.2.2.1) Tryz.underlying90 rfl (by rw [HE.out.1.1]; kernel_rfl) ?_)
        | (refine store_over _ rfl rfl 90 (.tmp 7) (.tmp 47) rfl w.heap.size 0 es rfl rfl (by rw [HE.out.1.1]; exact there_below HR.out.2.2.2.1 H3.out.1 HR.out.2.2.2.2) (by rw [HE.out.1.1]; kernel_rfl) (sec_all HE.out.1) ?_; intro w4 hg4 hs4 hr4 ht4; have H4 := Lib.hid (show _ ∧ _ ∧ _ ∧ _ from ⟨hg4, hs4, hr4, ht4⟩); clear hg4 hs4 hr4 ht4))
      · exact ⟨⟨j + 1, by omega, by go_num, (HR.out.1.trans (H3.out.1.mono HR.out.1.size)).grown H4.out.1 (Nat.le_trans HR.out.1.size H3.out.1.size) (fun q hq => by cases hq; exact Nat.le_refl _), ⟨es, HE.out.1, H4.out.2.2.1⟩, H4.out.2.2.2 _ _ _ (there_below HR.out.2.2.2.1 H3.out.1 HR.out.2.2.2.2), by have h1 := HR.out.2.2.2.2; have h2 := H3.out.2.1; have h3 := H4.out.2.1; omega⟩, by simp [intOf]; omega⟩
      · exact ⟨⟨j + 1, by omega, by go_num, HR.out.1.trans (H3.out.1.mono HR.out.1.size), ⟨ds, HR.out.2.1, range_below HR.out.2.2.1 H3.out.1 HR.out.2.2.2.2⟩, there_below HR.out.2.2.2.1 H3.out.1 HR.out.2.2.2.2, by have h1 := HR.out.2.2.2.2; have h2 := H3.out.2.1; omega⟩, by simp [intOf]; omega⟩
    · obtain rfl : j = k := by omega
      go_wp2
      go_ret2
      exact ⟨w.heap.size, ds, rfl, HR.out.2.1, HR.out.2.2.1, Nat.le_refl _, HR.out.2.2.2.2, HR.out.1⟩
end Go.Proofs.YtokflmiijdpchaaGreat
