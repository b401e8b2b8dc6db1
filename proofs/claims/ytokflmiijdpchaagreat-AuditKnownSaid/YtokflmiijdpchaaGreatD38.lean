/- A snapshot is saved. -/
import Derived.Test.YtokflmiijdpchaaGreatD39
namespace Go.Proofs.YtokflmiijdpchaaGreat
open Go.RowKit
attribute [local go_sem] Oper.semAt_some
attribute [-go_sem] Instr.build
set_option maxRecDepth 100000 in
set_option maxHeartbeats 8000000 in
theorem ssave_calls (w : World) (s d f z : Nat) (h : Sht w s d f z 0 false) (N sb : Nat) (U : Nat → Prop) (hd : DU w d N sb 0 U) (hs : U s) (g n c : Nat) (xs : List Value) (hg : U g) (hr : w.rangeAt g 0 xs) (hl : xs.length = n) (hu : ∀ u ∈ xs, IsU8 u) (hn0 : 1 ≤ n) (hn1 : n ≤ 64) (hc : n ≤ c) (hz : 2 ≤ z) (hfz : f + 2 * z ≤ N) :
    Calls Tryz.prog 78 #[.pointer (some ⟨s, 0, none⟩), .slice (some ⟨g, 0, none⟩) n c] w fun e w' => e = .returned (.int .i64 0) ∧ Kp (fun q => U q ∧ q ≠ s) w w' := by
  have hmf : ∀ (fn : Fn) (first cap : Array Value) (w : World), (Instr.makeFunc fn first cap).run Tryz.prog w = .ok (.func fn first cap) w := fun _ _ _ _ => rfl
  obtain ⟨BV, hB, hBV⟩ : ∃ BV : Value, (∀ W : World, (Instr.build 196 #[]).run Tryz.prog W = .ok BV W) ∧ BV = .agg z64.toArray := ⟨_, fun W => by rfl, rfl⟩
  have hroom := hd.room
  have hsl := hd.lt hs
  have hgl := hd.lt hg
  have hb2 : ∀ o1 o2 : Obj, Below w.heap.size w ((w.alloc o1).alloc o2) := fun o1 o2 => ((Below.refl _ _).alloc (Nat.le_refl _) _).alloc (by simp) _
  have hmost : (n : Int) ≤ 64 * ((z : Int) - 1) := by omega
  have HX := Lib.hid (show _ ∧ _ ∧ _ ∧ _ ∧ _ ∧ _ from ⟨h, hd, hr, hu, hBV, hb2⟩)
  clear h hd hr hu hBV hb2
  have T1 := trivial
  refine calls_of_wp_mix Tryz.func78 rfl ?_
  simp only [Tryz.ntmps78, List.size_toArray, List.length_cons, List.length_nil, Nat.reduceAdd, Nat.reduceSub, Array.replicate_succ, Array.replicate_zero, List.push_toArray, List.append_toArray, List.nil_append, List.cons_append]
  go_upto_region 1 with (fail)
  obtain ⟨xb, hxb⟩ : ∃ xb, xb = w.heap.size := ⟨_, rfl⟩
  obtain ⟨W1, hW1⟩ : ∃ W1, W1 = (w.alloc (.cells #[.pointer (some ⟨s, 0, none⟩)] 93)).alloc (.cells #[.int .i64 0] 25) := ⟨_, rfl⟩
  have hB1 : Below w.heap.size w W1 := hW1 ▸ HX.out.2.2.2.2.2 _ _
  have hD1 : DU W1 d N sb 0 (fun q => U q ∨ q = xb ∨ q = xb + 1) := by
    rw [hW1, hxb]
    exact (HX.out.2.1.more (HX.out.2.2.2.2.2 _ _)).mono fun q hq => hq.imp id fun e => by rcases e with rfl | rfl <;> simp <;> omega
  have hx1 : W1.heap[xb]? = some (.cells #[.pointer (some ⟨s, 0, none⟩)] 93 (0, 0)) := by
    rw [hW1, hxb, heap_alloc_old _ _ (by simp)]
    exact heap_alloc_new w _
  have he1 : W1.heap[xb + 1]? = some (.cells #[.int .i64 0] 25 (0, 0)) := by
    rw [hW1, hxb]
    simpa using heap_alloc_new (w.alloc (.cells #[.pointer (some ⟨s, 0, none⟩)] 93)) (.cells #[.int .i64 0] 25)
  have hs1 : Sht W1 s d f z 0 false := (hB1.block s hsl).trans HX.out.1
  rw [← hW1, ← hxb]
  have hne : s ≠ xb ∧ s ≠ xb + 1 ∧ g ≠ xb ∧ g ≠ xb + 1 := by omega
  have H1 := Lib.hid (show _ ∧ _ ∧ _ ∧ _ ∧ _ from ⟨hB1, hD1, hx1, he1, hs1⟩)
  have hk : ∀ W, Kp (fun q => U q ∨ q = xb ∨ q = xb + 1) W1 W → W.cell? ⟨xb, 0, none⟩ = some (.pointer (some ⟨s, 0, none⟩)) ∧ W.cell? ⟨s, 3, none⟩ = some (.int .i64 0) ∧ W.cell? ⟨s, 4, none⟩ = some (.bool false) := fun W hk => by
    have h1 := (hk.block xb (.inr (.inl rfl))).trans H1.out.2.2.1
    have h2 := (hk.block s (.inl hs)).trans H1.out.2.2.2.2
    exact ⟨(cellD h1 0).1, (cellD h2 3).1, (cellD h2 4).1⟩
  have hgd : ∀ W, Kp (fun q => U q ∨ q = xb ∨ q = xb + 1) W1 W → ∀ j, j < n → ∃ x : Int, 0 ≤ x ∧ x < 256 ∧ W.cell? ⟨g, 0 + j, none⟩ = some (.int .u8 x) := fun W hk j hj => by
    obtain ⟨x, h0, h1, h2⟩ := HX.out.2.2.2.1 (xs[j]'(by omega)) (List.getElem_mem _)
    exact ⟨x, h0, h1, (World.cell?_of_block (a := ⟨g, 0 + j, none⟩) ((hk.block g (.inl hg)).trans (H1.out.1.block g hgl))).trans ((HX.out.2.2.1 j _ (List.getElem?_eq_getElem _)).trans (by rw [h2]))⟩
  have HG := Lib.hid hgd
  clear hgd
  have HK := Lib.hid hk
  obtain ⟨a0, a3, a4⟩ := hk W1 (Kp.refl _ _)
  have HXB := Lib.hid hxb
  clear hW1 hxb hB1 hD1 hx1 he1 hs1 hk
  go_upto_region 10 with (first
    | (go_at_call 41; refine (most_calls W1 s d f z 0 false H1.out.2.2.2.2 (by omega) (by omega)).mono ?_; rintro e w' ⟨rfl, hw⟩; obtain rfl := hw.symm))
  go_region_held3 (fun W => W.cell? ⟨xb, 0, none⟩ = some (.pointer (some ⟨s, 0, none⟩)) ∧ W.cell? ⟨s, 3, none⟩ = some (.int .i64 0)) (first | go_keep) ((go_at_call 103; refine (slot_odd W1.drew s d f z 0 false H1.out.2.2.2.2).mono ?_; rintro e w' ⟨rfl, hw⟩; obtain rfl := hw.symm))
  go_upto_region 12 with (first
    | (go_at_call 104; refine (usread_calls W1.drew s d f z 0 false H1.out.2.2.2.2 N sb 0 _ (H1.out.2.1.below (Below.refl _ _).drew) f (by omega)).mono ?_; rintro e w3 ⟨zs, rfl, hs3, hb3⟩; obtain ⟨cb, hcb, hcg⟩ : ∃ cb : Bool, (∀ W : World, (binOp .neq 196 (.agg zs.toArray) BV).run Tryz.prog W = .ok (.bool cb) W) ∧ ∀ W x y, (eqGuard .neq 196 x y (.agg zs.toArray) BV).run Tryz.prog W = .ok () W := HX.out.2.2.2.2.1 ▸ (let ⟨c, h⟩ := sneq hs3 z64_sec; ⟨c, fun W => (h W).1, fun W => (h W).2⟩); have hk3 : Kp (fun q => U q ∨ q = xb ∨ q = xb + 1) W1 w3 := (Kp.refl _ W1).drew.trans (Kp.of_below hb3 fun q hq => H1.out.2.1.lt hq); obtain ⟨b0', b3, b4⟩ := HK.out w3 hk3; have H3 := Lib.hid (show _ ∧ _ from ⟨(H1.out.2.1.below (Below.refl _ _).drew).below hb3, hk3⟩); clear hs3 hb3 hk3))
  · go_wp2_with (first
      | (go_at_call 134; rw [HX.out.2.2.2.2.1]; refine (swrite_calls w3 s d f z 0 false (H1.out.2.2.2.2.kp H3.out.2 (.inl hs)) N sb 0 _ H3.out.1 (.inl hs) (by omega) f (by omega) z64 z64_sec).mono ?_; rintro e w4 ⟨rfl, hd4, hk4⟩; obtain ⟨b5', b6, b7⟩ := HK.out w4 (H3.out.2.trans hk4); have H4 := Lib.hid (show _ ∧ _ from ⟨hd4, H3.out.2.trans hk4⟩); clear hd4 hk4)
      | (go_at_call 135; refine (ussync_calls w4 s d f z 0 false (H1.out.2.2.2.2.kp H4.out.2 (.inl hs)) N sb _ _ H4.out.1).mono ?_; rintro e w5 ⟨rfl, hd5, hk5⟩; obtain ⟨b8', b8, b9⟩ := HK.out w5 (H4.out.2.trans hk5); have H5 := Lib.hid (show _ ∧ _ from ⟨hd5, H4.out.2.trans hk5⟩); clear hd5 hk5))
    have hVk := H5.out.2
    have hab : ∀ (W : World) (o : Obj), Below W.heap.size W (W.alloc o) := fun W o => (Below.refl _ _).alloc (Nat.le_refl _) _
    go_wp2_with (first
      | (go_at_call 136; refine (chunk_calls _ g n c).mono ?_; rintro e w' ⟨rfl, rfl⟩))
    obtain ⟨vz, hvz⟩ : ∃ vz, vz = w5.heap.size := ⟨_, rfl⟩
    obtain ⟨W6, hW6⟩ : ∃ W6, W6 = ((w5.alloc (.cells #[.int .i64 f] 3)).alloc (.cells #[.slice (some ⟨g, 0, none⟩) n c] 23)).alloc (.cells #[.int .i64 64] 3) := ⟨_, rfl⟩
    have p0 : W6.heap[vz]? = some (.cells #[.int .i64 f] 3 (0, 0)) := by
      rw [hW6, hvz, heap_alloc_old _ _ (by simp; omega), heap_alloc_old _ _ (by simp)]
      exact heap_alloc_new w5 _
    have p1 : W6.heap[vz + 1]? = some (.cells #[.slice (some ⟨g, 0, none⟩) n c] 23 (0, 0)) := by
      rw [hW6, hvz, heap_alloc_old _ _ (by simp)]
      simpa using heap_alloc_new (w5.alloc (.cells #[.int .i64 f] 3)) (.cells #[.slice (some ⟨g, 0, none⟩) n c] 23)
    have p2 : W6.heap[vz + 1 + 1]? = some (.cells #[.int .i64 64] 3 (0, 0)) := by
      rw [hW6, hvz]
      simpa using heap_alloc_new ((w5.alloc (.cells #[.int .i64 f] 3)).alloc (.cells #[.slice (some ⟨g, 0, none⟩) n c] 23)) (.cells #[.int .i64 64] 3)
    have p3 : Below w5.heap.size w5 W6 := hW6 ▸ (((hab _ _).alloc (by simp) _).alloc (by simp; omega) _)
    have p4 : W6.heap.size = vz + 1 + 1 + 1 := by rw [hW6, hvz]; simp
    rw [← hW6, ← hvz]
    have H6 := Lib.hid (show _ ∧ _ ∧ _ ∧ _ from ⟨p0, p1, p2, p3⟩)
    have hvz' : vz = w5.heap.size := hvz
    clear hW6 hvz p0 p1 p2 p3
    have hgu : g < vz := by have := (H5.out.1).lt (.inl hg); omega
    have hxu : xb < vz := by have := (H5.out.1).lt (.inr (.inl rfl)); omega
    have hsu : s < vz := by have := (H5.out.1).lt (.inl hs); omega
    have HZ := Lib.hid hvz'
    clear hvz'
    refine wp_rangeFunc_wide (gf := 202) (lb := #[.pointer (some ⟨vz + 1, 0, none⟩), .pointer (some ⟨vz + 1 + 1, 0, none⟩)]) rfl (enters_of Tryz.func202 (by kernel_rfl) rfl) ?_
    intro fn
    rw [p4]
    generalize hrec : LRec fn _ _ _ _ _ = rec
    obtain ⟨W7, hW7⟩ : ∃ W7, W7 = (W6.alloc (.deferred (some []))).alloc (.loop rec) := ⟨_, rfl⟩
    have r0 : W7.heap[vz + 1 + 1 + 1]? = some (.deferred (some [])) := by
      rw [hW7, heap_alloc_old _ _ (by simp; omega)]
      simpa [p4] using heap_alloc_new W6 (.deferred (some []))
    have r1 : W7.heap[vz + 1 + 1 + 1 + 1]? = some (.loop rec) := by
      rw [hW7]
      simpa [p4] using heap_alloc_new (W6.alloc (.deferred (some []))) (.loop rec)
    have r2 : Below W6.heap.size W6 W7 := hW7 ▸ (hab _ _).alloc (by simp) _
    have r3 : Below w5.heap.size w5 W7 := H6.out.2.2.2.trans (r2.mono (by have := HZ.out; omega))
    have r4 : W7.heap.size = vz + 1 + 1 + 1 + 1 + 1 := by rw [hW7]; simp [p4]
    have r5 : DU W7 d N sb 0 (fun q => (U q ∨ q = xb ∨ q = xb + 1) ∨ (vz ≤ q ∧ q < vz + 1 + 1 + 1 + 1 + 1)) := ((H5.out.1).more r3).mono fun q hq => by
      rw [← HZ.out, r4]
      exact hq
    rw [← hW7]
    have H7 := Lib.hid (show _ ∧ _ ∧ _ ∧ _ ∧ _ from ⟨r0, r1, r2, r3, r5⟩)
    clear hW7 r0 r1 r2 r3 r5
    have q0 := (H7.out.2.2.1.block vz (by omega)).trans H6.out.1
    have q1 := (H7.out.2.2.1.block (vz + 1) (by omega)).trans H6.out.2.1
    have q2 := (H7.out.2.2.1.block (vz + 1 + 1) (by omega)).trans H6.out.2.2.1
    have HQ := Lib.hid (show _ ∧ _ ∧ _ from ⟨q0, q1, q2⟩)
    clear q0 q1 q2
    refine (chunk1_calls W7 (vz + 1 + 1 + 1 + 1) (vz + 1) (vz + 1 + 1) g n c hn0 hn1 hc HQ.out.2.1 HQ.out.2.2 (fun W => W.heap[vz + 1 + 1 + 1 + 1]? = some (.loop rec) ∧ W.heap[vz + 1 + 1 + 1]? = some (.deferred (some [])) ∧ DU W d N sb 1 (fun q => (U q ∨ q = xb ∨ q = xb + 1) ∨ (vz ≤ q ∧ q < vz + 1 + 1 + 1 + 1 + 1)) ∧ Kp (fun q => U q ∨ q = xb ∨ q = xb + 1) W7 W) ?_).mono ?_
    · intro q
      have hlr : (W7.drewN q).heap[vz + 1 + 1 + 1 + 1]? = some (.loop rec) := H7.out.2.1
      have hl := hlr
      rw [← hrec] at hl
      refine yield_at hl rfl ?_
      gi_wp2
      refine ⟨let ⟨_, h⟩ := Array.getElem?_eq_some_iff.1 hlr; h, ?_⟩
      obtain ⟨Wb, hWb⟩ : ∃ Wb, Wb = (W7.drewN q).putObj (vz + 1 + 1 + 1 + 1) (.loop { rec with state := .busy }) := ⟨_, rfl⟩
      have hpo : ∀ b, b ≠ vz + 1 + 1 + 1 + 1 → Wb.heap[b]? = W7.heap[b]? := fun b hb => by
        rw [hWb]
        exact World.putObj_heap_other hb
      have hbs : Wb.heap.size = vz + 1 + 1 + 1 + 1 + 1 := by
        rw [hWb]
        simp [World.putObj]
        exact r4
      have hbl : Wb.heap[vz + 1 + 1 + 1 + 1]? = some (.loop { rec with state := .busy }) := by
        rw [hWb]
        exact World.putObj_heap_same (by rw [show (W7.drewN q).heap.size = W7.heap.size from rfl, r4]; omega)
      have hgr : W7.grownBy Wb (some (vz + 1 + 1 + 1 + 1)) := ⟨by rw [hWb]; rfl, by rw [hWb]; rfl, by rw [hWb]; rfl, by omega, fun k hk hne => hpo k fun e => hne (by rw [e])⟩
      rw [← hWb]
      clear hWb hlr hl
      have hDb : DU Wb d N sb 0 (fun q => (U q ∨ q = xb ∨ q = xb + 1) ∨ (vz ≤ q ∧ q < vz + 1 + 1 + 1 + 1 + 1)) := H7.out.2.2.2.2.grown hgr (.inr ⟨by omega, by omega⟩)
      have hPu : ∀ q, (U q ∨ q = xb ∨ q = xb + 1) → q < vz := fun q hq => by have := (H5.out.1).lt hq; have := HZ.out; omega
      have hxs : Wb.rangeAt g 0 xs := fun j v hv => (World.cell?_of_block (a := ⟨g, 0 + j, none⟩) ((hpo g (by omega)).trans ((H7.out.2.2.2.1.block g (by have := HZ.out; omega)).trans ((hVk.block g (.inl hg)).trans (H1.out.1.block g hgl))))).trans (HX.out.2.2.1 j v hv)
      have hvb := (hpo vz (by omega)).trans HQ.out.1
      have hxbb : Wb.heap[xb]? = some (.cells #[.pointer (some ⟨s, 0, none⟩)] 93 (0, 0)) := (hpo xb (by omega)).trans ((H7.out.2.2.2.1.block xb (by have := HZ.out; omega)).trans ((hVk.block xb (.inr (.inl rfl))).trans H1.out.2.2.1))
      have hsb : Sht Wb s d f z 0 false := (hpo s (by omega)).trans ((H7.out.2.2.2.1.block s (by have := HZ.out; omega)).trans ((hVk.block s (.inl hs)).trans H1.out.2.2.2.2))
      have hKb : Kp (fun q => U q ∨ q = xb ∨ q = xb + 1) W7 Wb := Kp.of_grown hgr fun q hq => by have := hPu q hq; omega
      have HW := Lib.hid (show _ ∧ _ ∧ _ ∧ _ ∧ _ ∧ _ ∧ _ ∧ _ ∧ _ from ⟨hDb, hxs, hvb, hxbb, hsb, hbl, hpo, hPu, hKb⟩)
      have HBS := Lib.hid hbs
      clear hDb hxs hvb hxbb hsb hpo hgr hPu hbl hbs hKb
      gi_wp2_with (first
        | (refine lin_copy_bk rfl (.tmp 52) (.tmp 53) rfl rfl Wb.heap.size 64 0 64 64 196 (bk_z64 Wb _) rfl g 0 n n xs rfl (range_below HW.out.2.1 (hab _ _) (by have := HBS.out; omega)) hl HX.out.2.2.2.1 hn1 (by omega) ?_; intro w8 hk8 hg8; have hw8 : ∀ b, b < Wb.heap.size → w8.heap[b]? = Wb.heap[b]? := fun b hb => (hg8.block b (by simp; omega) (fun e => absurd (Option.some.inj e) (by omega))).trans (heap_alloc_old Wb _ hb); have m1 : w8.cell? ⟨vz, 0, none⟩ = some (.int .i64 f) := (cellD ((hw8 vz (by have := HBS.out; omega)).trans HW.out.2.2.1) 0).1; have m1f := (cellD ((hw8 vz (by have := HBS.out; omega)).trans HW.out.2.2.1) 0).2; obtain ⟨w9, hw9⟩ : ∃ w9, w9 = w8.setCell ⟨vz, 0, none⟩ (.int .i64 ((f : Int) + 1)) := ⟨_, rfl⟩; have hk9 : Bk w9 Wb.heap.size 64 196 := (let ⟨c, h1, h2⟩ := hk8; ⟨c, by rw [hw9]; exact (set_other _ _ _ _ (by simp only; have := HBS.out; omega)).trans h1, h2⟩); obtain ⟨zs9, hzs9, hzr9⟩ := hk9.sec; have ho9 : ∀ b, b < Wb.heap.size → b ≠ vz → w9.heap[b]? = Wb.heap[b]? := (fun b hb hn => by rw [hw9]; exact (set_other _ _ _ b (by simp only; exact hn)).trans (hw8 b hb)); have x9 : w9.cell? ⟨xb, 0, none⟩ = some (.pointer (some ⟨s, 0, none⟩)) := (cellD ((ho9 xb (by have := HBS.out; omega) (by omega)).trans HW.out.2.2.2.1) 0).1; have v9 : w9.cell? ⟨vz, 0, none⟩ = some (.int .i64 ((f : Int) + 1)) := (by rw [hw9]; exact World.cell?_setCell_same' _ _ _ (by rw [m1]; rfl)); have x8 : w8.cell? ⟨xb, 0, none⟩ = some (.pointer (some ⟨s, 0, none⟩)) := (cellD ((hw8 xb (by have := HBS.out; omega)).trans HW.out.2.2.2.1) 0).1; have xv : ¬ xb = vz := (by omega); have D8 : DU w8 d N sb 0 (fun q => (U q ∨ q = xb ∨ q = xb + 1) ∨ (vz ≤ q ∧ q < vz + 1 + 1 + 1 + 1 + 1)) := ((HW.out.1.more (hab Wb (.cells z64.toArray 196))).grown hg8 (.inr ⟨Nat.le_refl _, by simp⟩)).mono (fun q hq => .inl hq); have D9 : DU w9 d N sb 0 (fun q => (U q ∨ q = xb ∨ q = xb + 1) ∨ (vz ≤ q ∧ q < vz + 1 + 1 + 1 + 1 + 1)) := hw9 ▸ D8.grown (set_grown w8 ⟨vz, 0, none⟩ (.int .i64 ((f : Int) + 1))) (.inr ⟨Nat.le_refl _, by show vz < _; omega⟩); have K8 : Kp (fun q => U q ∨ q = xb ∨ q = xb + 1) W7 w8 := HW.out.2.2.2.2.2.2.2.2.trans ((Kp.of_below (hab Wb _) (fun q hq => by have := HW.out.2.2.2.2.2.2.2.1 q hq; have := HBS.out; omega)).trans (Kp.of_grown hg8 (fun q hq => by have := HW.out.2.2.2.2.2.2.2.1 q hq; have := HBS.out; simp; omega))); have K9 : Kp (fun q => U q ∨ q = xb ∨ q = xb + 1) W7 w9 := hw9 ▸ K8.set _ _ (fun q hq => by have := HW.out.2.2.2.2.2.2.2.1 q hq; have := HBS.out; have := hg8.size; simp at this; simp only; omega); have H9 := Lib.hid (show _ ∧ _ ∧ _ ∧ _ ∧ _ from ⟨hzs9, hzr9, ho9, D9, K9⟩); have H8 := Lib.hid (show _ ∧ _ from ⟨hg8, hw9⟩); clear hk8 hg8 hw8 hk9 hzs9 hzr9 ho9 hw9 D8 D9 K8 K9)
        | (rw [← H8.out.2]; refine lin_load_mid rfl 196 (.tmp 8) rfl rfl Wb.heap.size 0 rfl zs9 H9.out.2.1 _ Tryz.underlying196 rfl (by rw [H9.out.1.1]; kernel_rfl) ?_))
      have hs9 : Sht w9 s d f z 0 false := (H9.out.2.2.1 s (by have := HBS.out; omega) (by omega)).trans HW.out.2.2.2.2.1
      refine ⟨trivial, (CallsIn.inRound _ (callsIn_wide.2 (swrite_calls w9 s d f z 0 false hs9 N sb 0 _ H9.out.2.2.2.1 (.inl (.inl hs)) (by omega) (f + 1) (by omega) zs9 H9.out.1))).mono ?_⟩
      rintro e w10 ⟨rfl, hd10, hk10⟩
      have H10 := Lib.hid (show _ ∧ _ from ⟨hd10, hk10⟩)
      clear hd10 hk10
      gi_wp2
      have hb10 : ∀ b, b ≠ vz → b ≠ vz + 1 + 1 + 1 + 1 → vz ≤ b → b < vz + 1 + 1 + 1 + 1 → (w10.putObj (vz + 1 + 1 + 1 + 1) (.loop rec)).heap[b]? = W7.heap[b]? := fun b h1 h2 h3 h4 => (World.putObj_heap_other h2).trans ((H10.out.2.block b (.inr ⟨h3, by omega⟩)).trans ((H9.out.2.2.1 b (by have := HBS.out; omega) h1).trans (HW.out.2.2.2.2.2.2.1 b h2)))
      have hsz10 : vz + 1 + 1 + 1 + 1 < w10.heap.size := by
        have := H10.out.1.lt (b := vz + 1 + 1 + 1 + 1) (.inr ⟨by omega, by omega⟩)
        exact this
      refine ⟨(H10.out.2.block _ (.inr ⟨by omega, by omega⟩)).trans ((H9.out.2.2.1 _ (by have := HBS.out; omega) (by omega)).trans HW.out.2.2.2.2.2.1), ⟨World.putObj_heap_same hsz10, (hb10 _ (by omega) (by omega) (by omega) (by omega)).trans H7.out.1, H10.out.1.grown (put_grown _ _ _) (.inr ⟨by omega, by omega⟩), ?_⟩, ?_, ?_⟩
      · exact (H9.out.2.2.2.2.trans (H10.out.2.mono fun q hq => .inl hq)).trans (kp_putObj _ _ _ fun q hq => by have := HW.out.2.2.2.2.2.2.2.1 q hq; omega)
      · exact (hb10 _ (by omega) (by omega) (by omega) (by omega)).trans (Array.getElem?_eq_getElem _)
      · exact (hb10 _ (by omega) (by omega) (by omega) (by omega)).trans (Array.getElem?_eq_getElem _)
    · rintro e W9 ⟨he, hL, hDm, hD, hK⟩
      refine ⟨he, hL, ?_⟩
      generalize hob : Obj.loop _ = ob
      clear hob
      have hPu : ∀ q, (U q ∨ q = xb ∨ q = xb + 1) → q < vz := fun q hq => by have := (H5.out.1).lt hq; have := HZ.out; omega
      obtain ⟨Wx, hWx⟩ : ∃ Wx, Wx = W9.putObj (vz + 1 + 1 + 1 + 1) ob := ⟨_, rfl⟩
      have hDx : DU Wx d N sb 1 (fun q => (U q ∨ q = xb ∨ q = xb + 1) ∨ (vz ≤ q ∧ q < vz + 1 + 1 + 1 + 1 + 1)) := hWx ▸ hD.grown (put_grown _ _ _) (.inr ⟨by omega, by omega⟩)
      have hKx : Kp (fun q => U q ∨ q = xb ∨ q = xb + 1) W1 Wx := (H5.out.2).trans ((Kp.of_below H7.out.2.2.2.1 fun q hq => (H5.out.1).lt hq).trans (hK.trans (hWx ▸ kp_putObj _ _ _ fun q hq => by have := hPu q hq; omega)))
      have hMx : Wx.heap[vz + 1 + 1 + 1]? = some (.deferred (some [])) := hWx ▸ (World.putObj_heap_other (by omega)).trans hDm
      rw [← hWx]
      obtain ⟨x10, x11, x12⟩ := HK.out Wx hKx
      have HX2 := Lib.hid (show _ ∧ _ ∧ _ ∧ _ from ⟨hDx, hKx, hMx, hPu⟩)
      clear hWx hDx hKx hMx hPu he hL hDm hD hK
      go_wp2_with (first
        | (go_at_call 135; refine (ussync_calls Wx s d f z 0 false (H1.out.2.2.2.2.kp HX2.out.2.1 (.inl hs)) N sb _ _ HX2.out.1).mono ?_; rintro e w11 ⟨rfl, hd11, hk11⟩; have hk11' : Kp (fun q => U q ∨ q = xb ∨ q = xb + 1) W1 w11 := HX2.out.2.1.trans (hk11.mono fun q hq => .inl hq); obtain ⟨x13, x14, x15⟩ := HK.out w11 hk11'; have H11 := Lib.hid (show _ ∧ _ ∧ _ from ⟨hd11, hk11', hk11⟩); clear hd11 hk11 hk11'))
      go_region_held3 (fun W => W.cell? ⟨xb, 0, none⟩ = some (.pointer (some ⟨s, 0, none⟩)) ∧ W.cell? ⟨s, 3, none⟩ = some (.int .i64 0)) (first | go_keep) (first
        | (go_at_call 108; refine (head_calls w11.drew 1 g n c (by omega) (HG.out w11 H11.out.2.1) (by have := H11.out.1.lt (b := g) (.inl (.inl hg)); exact this)).mono ?_; rintro e w12 ⟨zs12, rfl, hs12, hb12⟩; have hk12 : Kp (fun q => (U q ∨ q = xb ∨ q = xb + 1) ∨ (vz ≤ q ∧ q < vz + 1 + 1 + 1 + 1 + 1)) w11 w12 := (Kp.refl _ w11).drew.trans (Kp.of_below hb12 fun q hq => H11.out.1.lt hq); obtain ⟨x16, x17, x18⟩ := HK.out w12 (H11.out.2.1.trans (hk12.mono fun q hq => .inl hq)); have H12 := Lib.hid (show _ ∧ _ ∧ _ ∧ _ from ⟨hs12, (H11.out.1.below (Below.refl _ _).drew).below hb12, H11.out.2.1.trans (hk12.mono fun q hq => .inl hq), H11.out.2.2.trans hk12⟩); clear hs12 hb12 hk12)
        | (go_at_call 134; refine (swrite_calls w12 s d f z 0 false (H1.out.2.2.2.2.kp H12.out.2.2.1 (.inl hs)) N sb 0 _ H12.out.2.1 (.inl (.inl hs)) (by omega) f (by omega) zs12 H12.out.1).mono ?_; rintro e w13 ⟨rfl, hd13, hk13⟩; have hk13' : Kp (fun q => U q ∨ q = xb ∨ q = xb + 1) W1 w13 := H12.out.2.2.1.trans (hk13.mono fun q hq => .inl hq); obtain ⟨x19, x20, x21⟩ := HK.out w13 hk13'; have H13 := Lib.hid (show _ ∧ _ ∧ _ from ⟨hd13, hk13', H12.out.2.2.2.trans hk13⟩); clear hd13 hk13 hk13'))
      all_goals go_wp2_with (first
        | (go_at_call 135; refine (ussync_calls w13 s d f z 0 false (H1.out.2.2.2.2.kp H13.out.2.1 (.inl hs)) N sb _ _ H13.out.1).mono ?_; rintro e w14 ⟨rfl, hd14, hk14⟩; have hk14' : Kp (fun q => U q ∨ q = xb ∨ q = xb + 1) W1 w14 := H13.out.2.1.trans (hk14.mono fun q hq => .inl hq); obtain ⟨x22, x23, x24⟩ := HK.out w14 hk14'; have x25 : w14.cell? ⟨xb + 1, 0, none⟩ = some (.int .i64 0) := (cellD ((hk14'.block (xb + 1) (.inr (.inr rfl))).trans H1.out.2.2.2.1) 0).1; have x26 := (cellD ((hk14'.block (xb + 1) (.inr (.inr rfl))).trans H1.out.2.2.2.1) 0).2; have x27 := (cellD ((hk14'.block s (.inl hs)).trans H1.out.2.2.2.2) 3).2; have H14 := Lib.hid (show _ ∧ _ ∧ _ from ⟨hd14, hk14', H13.out.2.2.trans hk14⟩); clear hd14 hk14 hk14'))
      · have hPu := HX2.out.2.2.2
        have hsu := hPu s (.inl hs)
        have hxu1 := hPu (xb + 1) (.inr (.inr rfl))
        have y1 : (w14.setCell ⟨s, 3, none⟩ (.int .i64 1)).heap[s]? = _ := block_set (H1.out.2.2.2.2.kp H14.out.2.1 (.inl hs)) 3 (.int .i64 1)
        have y2 : (w14.setCell ⟨s, 3, none⟩ (.int .i64 1)).heap[xb + 1]? = _ := (set_other w14 ⟨s, 3, none⟩ (.int .i64 1) (xb + 1) (fun e => hne.2.1 e.symm)).trans ((H14.out.2.1.block (xb + 1) (.inr (.inr rfl))).trans H1.out.2.2.2.1)
        obtain ⟨w15, hw15⟩ : ∃ w15, w15 = (w14.setCell ⟨s, 3, none⟩ (.int .i64 1)).setCell ⟨xb + 1, 0, none⟩ (.int .i64 0) := ⟨_, rfl⟩
        rw [← hw15]
        have z1 : Sht w15 s d f z 1 false := hw15 ▸ (set_other _ ⟨xb + 1, 0, none⟩ _ s hne.2.1).trans y1
        have z2 : w15.heap[xb + 1]? = some (.cells #[.int .i64 0] 25 (0, 0)) := hw15 ▸ block_set y2 0 (.int .i64 0)
        have z3 : w15.heap[xb]? = some (.cells #[.pointer (some ⟨s, 0, none⟩)] 93 (0, 0)) := hw15 ▸ (set_other _ ⟨xb + 1, 0, none⟩ _ xb (by simp only; omega)).trans ((set_other _ ⟨s, 3, none⟩ _ xb (fun e => hne.1 e.symm)).trans ((H14.out.2.1.block xb (.inr (.inl rfl))).trans H1.out.2.2.1))
        have z4 : w15.heap[vz + 1 + 1 + 1]? = some (.deferred (some [])) := hw15 ▸ (set_other _ ⟨xb + 1, 0, none⟩ _ _ (by simp only; omega)).trans ((set_other _ ⟨s, 3, none⟩ _ _ (by simp only; omega)).trans ((H14.out.2.2.block _ (.inr ⟨by omega, by omega⟩)).trans HX2.out.2.2.1))
        have z5 : Kp (fun q => U q ∧ q ≠ s) W1 w15 := by
          rw [hw15]
          refine ((H14.out.2.1.mono fun q (hq : U q ∧ q ≠ s) => .inl hq.1).set _ _ ?_).set _ _ ?_
          · exact fun q hq => ⟨H14.out.1.lt (.inl (.inl hq.1)), hq.2⟩
          · exact fun q hq => ⟨by rw [World.size_setCell]; exact H14.out.1.lt (.inl (.inl hq.1)), fun e => by have := HX.out.2.1.lt hq.1; have := HXB.out; simp only at e; omega⟩
        refine ⟨by simp, .inl ⟨_, _, rfl, run_takeDeferred z4, ?_⟩⟩
        have hp : ∀ b, b ≠ vz + 1 + 1 + 1 → (w15.putObj (vz + 1 + 1 + 1) (.deferred none)).heap[b]? = w15.heap[b]? := fun b hb => World.putObj_heap_other hb
        obtain ⟨w16, hw16⟩ : ∃ w16, w16 = w15.putObj (vz + 1 + 1 + 1) (.deferred none) := ⟨_, rfl⟩
        rw [← hw16] at hp ⊢
        have u1 : Sht w16 s d f z 1 false := (hp s (by omega)).trans z1
        have u2 := (hp (xb + 1) (by omega)).trans z2
        have u3 := (hp xb (by omega)).trans z3
        have u4 : Kp (fun q => U q ∧ q ≠ s) W1 w16 := z5.trans (hw16 ▸ kp_putObj _ _ _ fun q hq => by have := hPu q (.inl hq.1); omega)
        refine ⟨by simp, .inr ⟨.func 133, #[.pointer (some ⟨xb + 1, 0, none⟩), .pointer (some ⟨xb, 0, none⟩)], 133, #[.pointer (some ⟨xb + 1, 0, none⟩), .pointer (some ⟨xb, 0, none⟩)], rfl, by simp [go_sem], ?_⟩⟩
        · refine (save1_walk w16 (xb + 1) xb s d f z 1 false (cellD u2 0).1 (cellD u2 0).2 (cellD u3 0).1 u1 (fun e => hne.2.1 e.symm) (by omega)).mono ?_
          rintro e u' w'' ⟨rfl, rfl, rfl⟩
          have y3 : (w16.setCell ⟨xb + 1, 0, none⟩ (.int .i64 0)).heap[xb + 1]? = some (.cells #[.int .i64 0] 25 (0, 0)) := block_set u2 0 (.int .i64 0)
          have y4 : ((w16.setCell ⟨xb + 1, 0, none⟩ (.int .i64 0)).setCell ⟨s, 4, none⟩ (.bool false)).cell? ⟨xb + 1, 0, none⟩ = some (.int .i64 0) := (cellD ((set_other _ ⟨s, 4, none⟩ _ (xb + 1) (fun e => hne.2.1 e.symm)).trans y3) 0).1
          have hkp : Kp (fun q => U q ∧ q ≠ s) w (((w16.setCell ⟨xb + 1, 0, none⟩ (.int .i64 0)).setCell ⟨s, 4, none⟩ (.bool false)).drew) := by
            have hlt : ∀ q, U q → q < w16.heap.size := fun q hq => by have := HX.out.2.1.lt hq; have := H1.out.1.size; have := u4.size; omega
            refine (((Kp.of_below H1.out.1 fun q hq => HX.out.2.1.lt hq.1).trans u4).set _ _ ?_).set _ _ ?_ |>.drew
            · exact fun q hq => ⟨hlt q hq.1, fun e => by have := HX.out.2.1.lt hq.1; have := HXB.out; simp only at e; omega⟩
            · exact fun q hq => ⟨by rw [World.size_setCell]; exact hlt q hq.1, hq.2⟩
          simp [LeavesX, Leaves, settle, results, Tryz.results78, go_sem, y4]
          exact hkp
  · have hVk := H3.out.2
    have hab : ∀ (W : World) (o : Obj), Below W.heap.size W (W.alloc o) := fun W o => (Below.refl _ _).alloc (Nat.le_refl _) _
    go_wp2_with (first
      | (go_at_call 136; refine (chunk_calls _ g n c).mono ?_; rintro e w' ⟨rfl, rfl⟩))
    obtain ⟨vz, hvz⟩ : ∃ vz, vz = w3.heap.size := ⟨_, rfl⟩
    obtain ⟨W6, hW6⟩ : ∃ W6, W6 = ((w3.alloc (.cells #[.int .i64 f] 3)).alloc (.cells #[.slice (some ⟨g, 0, none⟩) n c] 23)).alloc (.cells #[.int .i64 64] 3) := ⟨_, rfl⟩
    have p0 : W6.heap[vz]? = some (.cells #[.int .i64 f] 3 (0, 0)) := by
      rw [hW6, hvz, heap_alloc_old _ _ (by simp; omega), heap_alloc_old _ _ (by simp)]
      exact heap_alloc_new w3 _
    have p1 : W6.heap[vz + 1]? = some (.cells #[.slice (some ⟨g, 0, none⟩) n c] 23 (0, 0)) := by
      rw [hW6, hvz, heap_alloc_old _ _ (by simp)]
      simpa using heap_alloc_new (w3.alloc (.cells #[.int .i64 f] 3)) (.cells #[.slice (some ⟨g, 0, none⟩) n c] 23)
    have p2 : W6.heap[vz + 1 + 1]? = some (.cells #[.int .i64 64] 3 (0, 0)) := by
      rw [hW6, hvz]
      simpa using heap_alloc_new ((w3.alloc (.cells #[.int .i64 f] 3)).alloc (.cells #[.slice (some ⟨g, 0, none⟩) n c] 23)) (.cells #[.int .i64 64] 3)
    have p3 : Below w3.heap.size w3 W6 := hW6 ▸ (((hab _ _).alloc (by simp) _).alloc (by simp; omega) _)
    have p4 : W6.heap.size = vz + 1 + 1 + 1 := by rw [hW6, hvz]; simp
    rw [← hW6, ← hvz]
    have H6 := Lib.hid (show _ ∧ _ ∧ _ ∧ _ from ⟨p0, p1, p2, p3⟩)
    have hvz' : vz = w3.heap.size := hvz
    clear hW6 hvz p0 p1 p2 p3
    have hgu : g < vz := by have := (H3.out.1).lt (.inl hg); omega
    have hxu : xb < vz := by have := (H3.out.1).lt (.inr (.inl rfl)); omega
    have hsu : s < vz := by have := (H3.out.1).lt (.inl hs); omega
    have HZ := Lib.hid hvz'
    clear hvz'
    refine wp_rangeFunc_wide (gf := 202) (lb := #[.pointer (some ⟨vz + 1, 0, none⟩), .pointer (some ⟨vz + 1 + 1, 0, none⟩)]) rfl (enters_of Tryz.func202 (by kernel_rfl) rfl) ?_
    intro fn
    rw [p4]
    generalize hrec : LRec fn _ _ _ _ _ = rec
    obtain ⟨W7, hW7⟩ : ∃ W7, W7 = (W6.alloc (.deferred (some []))).alloc (.loop rec) := ⟨_, rfl⟩
    have r0 : W7.heap[vz + 1 + 1 + 1]? = some (.deferred (some [])) := by
      rw [hW7, heap_alloc_old _ _ (by simp; omega)]
      simpa [p4] using heap_alloc_new W6 (.deferred (some []))
    have r1 : W7.heap[vz + 1 + 1 + 1 + 1]? = some (.loop rec) := by
      rw [hW7]
      simpa [p4] using heap_alloc_new (W6.alloc (.deferred (some []))) (.loop rec)
    have r2 : Below W6.heap.size W6 W7 := hW7 ▸ (hab _ _).alloc (by simp) _
    have r3 : Below w3.heap.size w3 W7 := H6.out.2.2.2.trans (r2.mono (by have := HZ.out; omega))
    have r4 : W7.heap.size = vz + 1 + 1 + 1 + 1 + 1 := by rw [hW7]; simp [p4]
    have r5 : DU W7 d N sb 0 (fun q => (U q ∨ q = xb ∨ q = xb + 1) ∨ (vz ≤ q ∧ q < vz + 1 + 1 + 1 + 1 + 1)) := ((H3.out.1).more r3).mono fun q hq => by
      rw [← HZ.out, r4]
      exact hq
    rw [← hW7]
    have H7 := Lib.hid (show _ ∧ _ ∧ _ ∧ _ ∧ _ from ⟨r0, r1, r2, r3, r5⟩)
    clear hW7 r0 r1 r2 r3 r5
    have q0 := (H7.out.2.2.1.block vz (by omega)).trans H6.out.1
    have q1 := (H7.out.2.2.1.block (vz + 1) (by omega)).trans H6.out.2.1
    have q2 := (H7.out.2.2.1.block (vz + 1 + 1) (by omega)).trans H6.out.2.2.1
    have HQ := Lib.hid (show _ ∧ _ ∧ _ from ⟨q0, q1, q2⟩)
    clear q0 q1 q2
    refine (chunk1_calls W7 (vz + 1 + 1 + 1 + 1) (vz + 1) (vz + 1 + 1) g n c hn0 hn1 hc HQ.out.2.1 HQ.out.2.2 (fun W => W.heap[vz + 1 + 1 + 1 + 1]? = some (.loop rec) ∧ W.heap[vz + 1 + 1 + 1]? = some (.deferred (some [])) ∧ DU W d N sb 1 (fun q => (U q ∨ q = xb ∨ q = xb + 1) ∨ (vz ≤ q ∧ q < vz + 1 + 1 + 1 + 1 + 1)) ∧ Kp (fun q => U q ∨ q = xb ∨ q = xb + 1) W7 W) ?_).mono ?_
    · intro q
      have hlr : (W7.drewN q).heap[vz + 1 + 1 + 1 + 1]? = some (.loop rec) := H7.out.2.1
      have hl := hlr
      rw [← hrec] at hl
      refine yield_at hl rfl ?_
      gi_wp2
      refine ⟨let ⟨_, h⟩ := Array.getElem?_eq_some_iff.1 hlr; h, ?_⟩
      obtain ⟨Wb, hWb⟩ : ∃ Wb, Wb = (W7.drewN q).putObj (vz + 1 + 1 + 1 + 1) (.loop { rec with state := .busy }) := ⟨_, rfl⟩
      have hpo : ∀ b, b ≠ vz + 1 + 1 + 1 + 1 → Wb.heap[b]? = W7.heap[b]? := fun b hb => by
        rw [hWb]
        exact World.putObj_heap_other hb
      have hbs : Wb.heap.size = vz + 1 + 1 + 1 + 1 + 1 := by
        rw [hWb]
        simp [World.putObj]
        exact r4
      have hbl : Wb.heap[vz + 1 + 1 + 1 + 1]? = some (.loop { rec with state := .busy }) := by
        rw [hWb]
        exact World.putObj_heap_same (by rw [show (W7.drewN q).heap.size = W7.heap.size from rfl, r4]; omega)
      have hgr : W7.grownBy Wb (some (vz + 1 + 1 + 1 + 1)) := ⟨by rw [hWb]; rfl, by rw [hWb]; rfl, by rw [hWb]; rfl, by omega, fun k hk hne => hpo k fun e => hne (by rw [e])⟩
      rw [← hWb]
      clear hWb hlr hl
      have hDb : DU Wb d N sb 0 (fun q => (U q ∨ q = xb ∨ q = xb + 1) ∨ (vz ≤ q ∧ q < vz + 1 + 1 + 1 + 1 + 1)) := H7.out.2.2.2.2.grown hgr (.inr ⟨by omega, by omega⟩)
      have hPu : ∀ q, (U q ∨ q = xb ∨ q = xb + 1) → q < vz := fun q hq => by have := (H3.out.1).lt hq; have := HZ.out; omega
      have hxs : Wb.rangeAt g 0 xs := fun j v hv => (World.cell?_of_block (a := ⟨g, 0 + j, none⟩) ((hpo g (by omega)).trans ((H7.out.2.2.2.1.block g (by have := HZ.out; omega)).trans ((hVk.block g (.inl hg)).trans (H1.out.1.block g hgl))))).trans (HX.out.2.2.1 j v hv)
      have hvb := (hpo vz (by omega)).trans HQ.out.1
      have hxbb : Wb.heap[xb]? = some (.cells #[.pointer (some ⟨s, 0, none⟩)] 93 (0, 0)) := (hpo xb (by omega)).trans ((H7.out.2.2.2.1.block xb (by have := HZ.out; omega)).trans ((hVk.block xb (.inr (.inl rfl))).trans H1.out.2.2.1))
      have hsb : Sht Wb s d f z 0 false := (hpo s (by omega)).trans ((H7.out.2.2.2.1.block s (by have := HZ.out; omega)).trans ((hVk.block s (.inl hs)).trans H1.out.2.2.2.2))
      have hKb : Kp (fun q => U q ∨ q = xb ∨ q = xb + 1) W7 Wb := Kp.of_grown hgr fun q hq => by have := hPu q hq; omega
      have HW := Lib.hid (show _ ∧ _ ∧ _ ∧ _ ∧ _ ∧ _ ∧ _ ∧ _ ∧ _ from ⟨hDb, hxs, hvb, hxbb, hsb, hbl, hpo, hPu, hKb⟩)
      have HBS := Lib.hid hbs
      clear hDb hxs hvb hxbb hsb hpo hgr hPu hbl hbs hKb
      gi_wp2_with (first
        | (refine lin_copy_bk rfl (.tmp 52) (.tmp 53) rfl rfl Wb.heap.size 64 0 64 64 196 (bk_z64 Wb _) rfl g 0 n n xs rfl (range_below HW.out.2.1 (hab _ _) (by have := HBS.out; omega)) hl HX.out.2.2.2.1 hn1 (by omega) ?_; intro w8 hk8 hg8; have hw8 : ∀ b, b < Wb.heap.size → w8.heap[b]? = Wb.heap[b]? := fun b hb => (hg8.block b (by simp; omega) (fun e => absurd (Option.some.inj e) (by omega))).trans (heap_alloc_old Wb _ hb); have m1 : w8.cell? ⟨vz, 0, none⟩ = some (.int .i64 f) := (cellD ((hw8 vz (by have := HBS.out; omega)).trans HW.out.2.2.1) 0).1; have m1f := (cellD ((hw8 vz (by have := HBS.out; omega)).trans HW.out.2.2.1) 0).2; obtain ⟨w9, hw9⟩ : ∃ w9, w9 = w8.setCell ⟨vz, 0, none⟩ (.int .i64 ((f : Int) + 1)) := ⟨_, rfl⟩; have hk9 : Bk w9 Wb.heap.size 64 196 := (let ⟨c, h1, h2⟩ := hk8; ⟨c, by rw [hw9]; exact (set_other _ _ _ _ (by simp only; have := HBS.out; omega)).trans h1, h2⟩); obtain ⟨zs9, hzs9, hzr9⟩ := hk9.sec; have ho9 : ∀ b, b < Wb.heap.size → b ≠ vz → w9.heap[b]? = Wb.heap[b]? := (fun b hb hn => by rw [hw9]; exact (set_other _ _ _ b (by simp only; exact hn)).trans (hw8 b hb)); have x9 : w9.cell? ⟨xb, 0, none⟩ = some (.pointer (some ⟨s, 0, none⟩)) := (cellD ((ho9 xb (by have := HBS.out; omega) (by omega)).trans HW.out.2.2.2.1) 0).1; have v9 : w9.cell? ⟨vz, 0, none⟩ = some (.int .i64 ((f : Int) + 1)) := (by rw [hw9]; exact World.cell?_setCell_same' _ _ _ (by rw [m1]; rfl)); have x8 : w8.cell? ⟨xb, 0, none⟩ = some (.pointer (some ⟨s, 0, none⟩)) := (cellD ((hw8 xb (by have := HBS.out; omega)).trans HW.out.2.2.2.1) 0).1; have xv : ¬ xb = vz := (by omega); have D8 : DU w8 d N sb 0 (fun q => (U q ∨ q = xb ∨ q = xb + 1) ∨ (vz ≤ q ∧ q < vz + 1 + 1 + 1 + 1 + 1)) := ((HW.out.1.more (hab Wb (.cells z64.toArray 196))).grown hg8 (.inr ⟨Nat.le_refl _, by simp⟩)).mono (fun q hq => .inl hq); have D9 : DU w9 d N sb 0 (fun q => (U q ∨ q = xb ∨ q = xb + 1) ∨ (vz ≤ q ∧ q < vz + 1 + 1 + 1 + 1 + 1)) := hw9 ▸ D8.grown (set_grown w8 ⟨vz, 0, none⟩ (.int .i64 ((f : Int) + 1))) (.inr ⟨Nat.le_refl _, by show vz < _; omega⟩); have K8 : Kp (fun q => U q ∨ q = xb ∨ q = xb + 1) W7 w8 := HW.out.2.2.2.2.2.2.2.2.trans ((Kp.of_below (hab Wb _) (fun q hq => by have := HW.out.2.2.2.2.2.2.2.1 q hq; have := HBS.out; omega)).trans (Kp.of_grown hg8 (fun q hq => by have := HW.out.2.2.2.2.2.2.2.1 q hq; have := HBS.out; simp; omega))); have K9 : Kp (fun q => U q ∨ q = xb ∨ q = xb + 1) W7 w9 := hw9 ▸ K8.set _ _ (fun q hq => by have := HW.out.2.2.2.2.2.2.2.1 q hq; have := HBS.out; have := hg8.size; simp at this; simp only; omega); have H9 := Lib.hid (show _ ∧ _ ∧ _ ∧ _ ∧ _ from ⟨hzs9, hzr9, ho9, D9, K9⟩); have H8 := Lib.hid (show _ ∧ _ from ⟨hg8, hw9⟩); clear hk8 hg8 hw8 hk9 hzs9 hzr9 ho9 hw9 D8 D9 K8 K9)
        | (rw [← H8.out.2]; refine lin_load_mid rfl 196 (.tmp 8) rfl rfl Wb.heap.size 0 rfl zs9 H9.out.2.1 _ Tryz.underlying196 rfl (by rw [H9.out.1.1]; kernel_rfl) ?_))
      have hs9 : Sht w9 s d f z 0 false := (H9.out.2.2.1 s (by have := HBS.out; omega) (by omega)).trans HW.out.2.2.2.2.1
      refine ⟨trivial, (CallsIn.inRound _ (callsIn_wide.2 (swrite_calls w9 s d f z 0 false hs9 N sb 0 _ H9.out.2.2.2.1 (.inl (.inl hs)) (by omega) (f + 1) (by omega) zs9 H9.out.1))).mono ?_⟩
      rintro e w10 ⟨rfl, hd10, hk10⟩
      have H10 := Lib.hid (show _ ∧ _ from ⟨hd10, hk10⟩)
      clear hd10 hk10
      gi_wp2
      have hb10 : ∀ b, b ≠ vz → b ≠ vz + 1 + 1 + 1 + 1 → vz ≤ b → b < vz + 1 + 1 + 1 + 1 → (w10.putObj (vz + 1 + 1 + 1 + 1) (.loop rec)).heap[b]? = W7.heap[b]? := fun b h1 h2 h3 h4 => (World.putObj_heap_other h2).trans ((H10.out.2.block b (.inr ⟨h3, by omega⟩)).trans ((H9.out.2.2.1 b (by have := HBS.out; omega) h1).trans (HW.out.2.2.2.2.2.2.1 b h2)))
      have hsz10 : vz + 1 + 1 + 1 + 1 < w10.heap.size := by
        have := H10.out.1.lt (b := vz + 1 + 1 + 1 + 1) (.inr ⟨by omega, by omega⟩)
        exact this
      refine ⟨(H10.out.2.block _ (.inr ⟨by omega, by omega⟩)).trans ((H9.out.2.2.1 _ (by have := HBS.out; omega) (by omega)).trans HW.out.2.2.2.2.2.1), ⟨World.putObj_heap_same hsz10, (hb10 _ (by omega) (by omega) (by omega) (by omega)).trans H7.out.1, H10.out.1.grown (put_grown _ _ _) (.inr ⟨by omega, by omega⟩), ?_⟩, ?_, ?_⟩
      · exact (H9.out.2.2.2.2.trans (H10.out.2.mono fun q hq => .inl hq)).trans (kp_putObj _ _ _ fun q hq => by have := HW.out.2.2.2.2.2.2.2.1 q hq; omega)
      · exact (hb10 _ (by omega) (by omega) (by omega) (by omega)).trans (Array.getElem?_eq_getElem _)
      · exact (hb10 _ (by omega) (by omega) (by omega) (by omega)).trans (Array.getElem?_eq_getElem _)
    · rintro e W9 ⟨he, hL, hDm, hD, hK⟩
      refine ⟨he, hL, ?_⟩
      generalize hob : Obj.loop _ = ob
      clear hob
      have hPu : ∀ q, (U q ∨ q = xb ∨ q = xb + 1) → q < vz := fun q hq => by have := (H3.out.1).lt hq; have := HZ.out; omega
      obtain ⟨Wx, hWx⟩ : ∃ Wx, Wx = W9.putObj (vz + 1 + 1 + 1 + 1) ob := ⟨_, rfl⟩
      have hDx : DU Wx d N sb 1 (fun q => (U q ∨ q = xb ∨ q = xb + 1) ∨ (vz ≤ q ∧ q < vz + 1 + 1 + 1 + 1 + 1)) := hWx ▸ hD.grown (put_grown _ _ _) (.inr ⟨by omega, by omega⟩)
      have hKx : Kp (fun q => U q ∨ q = xb ∨ q = xb + 1) W1 Wx := (H3.out.2).trans ((Kp.of_below H7.out.2.2.2.1 fun q hq => (H3.out.1).lt hq).trans (hK.trans (hWx ▸ kp_putObj _ _ _ fun q hq => by have := hPu q hq; omega)))
      have hMx : Wx.heap[vz + 1 + 1 + 1]? = some (.deferred (some [])) := hWx ▸ (World.putObj_heap_other (by omega)).trans hDm
      rw [← hWx]
      obtain ⟨x10, x11, x12⟩ := HK.out Wx hKx
      have HX2 := Lib.hid (show _ ∧ _ ∧ _ ∧ _ from ⟨hDx, hKx, hMx, hPu⟩)
      clear hWx hDx hKx hMx hPu he hL hDm hD hK
      go_wp2_with (first
        | (go_at_call 135; refine (ussync_calls Wx s d f z 0 false (H1.out.2.2.2.2.kp HX2.out.2.1 (.inl hs)) N sb _ _ HX2.out.1).mono ?_; rintro e w11 ⟨rfl, hd11, hk11⟩; have hk11' : Kp (fun q => U q ∨ q = xb ∨ q = xb + 1) W1 w11 := HX2.out.2.1.trans (hk11.mono fun q hq => .inl hq); obtain ⟨x13, x14, x15⟩ := HK.out w11 hk11'; have H11 := Lib.hid (show _ ∧ _ ∧ _ from ⟨hd11, hk11', hk11⟩); clear hd11 hk11 hk11'))
      go_region_held3 (fun W => W.cell? ⟨xb, 0, none⟩ = some (.pointer (some ⟨s, 0, none⟩)) ∧ W.cell? ⟨s, 3, none⟩ = some (.int .i64 0)) (first | go_keep) (first
        | (go_at_call 108; refine (head_calls w11.drew 1 g n c (by omega) (HG.out w11 H11.out.2.1) (by have := H11.out.1.lt (b := g) (.inl (.inl hg)); exact this)).mono ?_; rintro e w12 ⟨zs12, rfl, hs12, hb12⟩; have hk12 : Kp (fun q => (U q ∨ q = xb ∨ q = xb + 1) ∨ (vz ≤ q ∧ q < vz + 1 + 1 + 1 + 1 + 1)) w11 w12 := (Kp.refl _ w11).drew.trans (Kp.of_below hb12 fun q hq => H11.out.1.lt hq); obtain ⟨x16, x17, x18⟩ := HK.out w12 (H11.out.2.1.trans (hk12.mono fun q hq => .inl hq)); have H12 := Lib.hid (show _ ∧ _ ∧ _ ∧ _ from ⟨hs12, (H11.out.1.below (Below.refl _ _).drew).below hb12, H11.out.2.1.trans (hk12.mono fun q hq => .inl hq), H11.out.2.2.trans hk12⟩); clear hs12 hb12 hk12)
        | (go_at_call 134; refine (swrite_calls w12 s d f z 0 false (H1.out.2.2.2.2.kp H12.out.2.2.1 (.inl hs)) N sb 0 _ H12.out.2.1 (.inl (.inl hs)) (by omega) f (by omega) zs12 H12.out.1).mono ?_; rintro e w13 ⟨rfl, hd13, hk13⟩; have hk13' : Kp (fun q => U q ∨ q = xb ∨ q = xb + 1) W1 w13 := H12.out.2.2.1.trans (hk13.mono fun q hq => .inl hq); obtain ⟨x19, x20, x21⟩ := HK.out w13 hk13'; have H13 := Lib.hid (show _ ∧ _ ∧ _ from ⟨hd13, hk13', H12.out.2.2.2.trans hk13⟩); clear hd13 hk13 hk13'))
      all_goals go_wp2_with (first
        | (go_at_call 135; refine (ussync_calls w13 s d f z 0 false (H1.out.2.2.2.2.kp H13.out.2.1 (.inl hs)) N sb _ _ H13.out.1).mono ?_; rintro e w14 ⟨rfl, hd14, hk14⟩; have hk14' : Kp (fun q => U q ∨ q = xb ∨ q = xb + 1) W1 w14 := H13.out.2.1.trans (hk14.mono fun q hq => .inl hq); obtain ⟨x22, x23, x24⟩ := HK.out w14 hk14'; have x25 : w14.cell? ⟨xb + 1, 0, none⟩ = some (.int .i64 0) := (cellD ((hk14'.block (xb + 1) (.inr (.inr rfl))).trans H1.out.2.2.2.1) 0).1; have x26 := (cellD ((hk14'.block (xb + 1) (.inr (.inr rfl))).trans H1.out.2.2.2.1) 0).2; have x27 := (cellD ((hk14'.block s (.inl hs)).trans H1.out.2.2.2.2) 3).2; have H14 := Lib.hid (show _ ∧ _ ∧ _ from ⟨hd14, hk14', H13.out.2.2.trans hk14⟩); clear hd14 hk14 hk14'))
      · have hPu := HX2.out.2.2.2
        have hsu := hPu s (.inl hs)
        have hxu1 := hPu (xb + 1) (.inr (.inr rfl))
        have y1 : (w14.setCell ⟨s, 3, none⟩ (.int .i64 1)).heap[s]? = _ := block_set (H1.out.2.2.2.2.kp H14.out.2.1 (.inl hs)) 3 (.int .i64 1)
        have y2 : (w14.setCell ⟨s, 3, none⟩ (.int .i64 1)).heap[xb + 1]? = _ := (set_other w14 ⟨s, 3, none⟩ (.int .i64 1) (xb + 1) (fun e => hne.2.1 e.symm)).trans ((H14.out.2.1.block (xb + 1) (.inr (.inr rfl))).trans H1.out.2.2.2.1)
        obtain ⟨w15, hw15⟩ : ∃ w15, w15 = (w14.setCell ⟨s, 3, none⟩ (.int .i64 1)).setCell ⟨xb + 1, 0, none⟩ (.int .i64 0) := ⟨_, rfl⟩
        rw [← hw15]
        have z1 : Sht w15 s d f z 1 false := hw15 ▸ (set_other _ ⟨xb + 1, 0, none⟩ _ s hne.2.1).trans y1
        have z2 : w15.heap[xb + 1]? = some (.cells #[.int .i64 0] 25 (0, 0)) := hw15 ▸ block_set y2 0 (.int .i64 0)
        have z3 : w15.heap[xb]? = some (.cells #[.pointer (some ⟨s, 0, none⟩)] 93 (0, 0)) := hw15 ▸ (set_other _ ⟨xb + 1, 0, none⟩ _ xb (by simp only; omega)).trans ((set_other _ ⟨s, 3, none⟩ _ xb (fun e => hne.1 e.symm)).trans ((H14.out.2.1.block xb (.inr (.inl rfl))).trans H1.out.2.2.1))
        have z4 : w15.heap[vz + 1 + 1 + 1]? = some (.deferred (some [])) := hw15 ▸ (set_other _ ⟨xb + 1, 0, none⟩ _ _ (by simp only; omega)).trans ((set_other _ ⟨s, 3, none⟩ _ _ (by simp only; omega)).trans ((H14.out.2.2.block _ (.inr ⟨by omega, by omega⟩)).trans HX2.out.2.2.1))
        have z5 : Kp (fun q => U q ∧ q ≠ s) W1 w15 := by
          rw [hw15]
          refine ((H14.out.2.1.mono fun q (hq : U q ∧ q ≠ s) => .inl hq.1).set _ _ ?_).set _ _ ?_
          · exact fun q hq => ⟨H14.out.1.lt (.inl (.inl hq.1)), hq.2⟩
          · exact fun q hq => ⟨by rw [World.size_setCell]; exact H14.out.1.lt (.inl (.inl hq.1)), fun e => by have := HX.out.2.1.lt hq.1; have := HXB.out; simp only at e; omega⟩
        refine ⟨by simp, .inl ⟨_, _, rfl, run_takeDeferred z4, ?_⟩⟩
        have hp : ∀ b, b ≠ vz + 1 + 1 + 1 → (w15.putObj (vz + 1 + 1 + 1) (.deferred none)).heap[b]? = w15.heap[b]? := fun b hb => World.putObj_heap_other hb
        obtain ⟨w16, hw16⟩ : ∃ w16, w16 = w15.putObj (vz + 1 + 1 + 1) (.deferred none) := ⟨_, rfl⟩
        rw [← hw16] at hp ⊢
        have u1 : Sht w16 s d f z 1 false := (hp s (by omega)).trans z1
        have u2 := (hp (xb + 1) (by omega)).trans z2
        have u3 := (hp xb (by omega)).trans z3
        have u4 : Kp (fun q => U q ∧ q ≠ s) W1 w16 := z5.trans (hw16 ▸ kp_putObj _ _ _ fun q hq => by have := hPu q (.inl hq.1); omega)
        refine ⟨by simp, .inr ⟨.func 133, #[.pointer (some ⟨xb + 1, 0, none⟩), .pointer (some ⟨xb, 0, none⟩)], 133, #[.pointer (some ⟨xb + 1, 0, none⟩), .pointer (some ⟨xb, 0, none⟩)], rfl, by simp [go_sem], ?_⟩⟩
        · refine (save1_walk w16 (xb + 1) xb s d f z 1 false (cellD u2 0).1 (cellD u2 0).2 (cellD u3 0).1 u1 (fun e => hne.2.1 e.symm) (by omega)).mono ?_
          rintro e u' w'' ⟨rfl, rfl, rfl⟩
          have y3 : (w16.setCell ⟨xb + 1, 0, none⟩ (.int .i64 0)).heap[xb + 1]? = some (.cells #[.int .i64 0] 25 (0, 0)) := block_set u2 0 (.int .i64 0)
          have y4 : ((w16.setCell ⟨xb + 1, 0, none⟩ (.int .i64 0)).setCell ⟨s, 4, none⟩ (.bool false)).cell? ⟨xb + 1, 0, none⟩ = some (.int .i64 0) := (cellD ((set_other _ ⟨s, 4, none⟩ _ (xb + 1) (fun e => hne.2.1 e.symm)).trans y3) 0).1
          have hkp : Kp (fun q => U q ∧ q ≠ s) w (((w16.setCell ⟨xb + 1, 0, none⟩ (.int .i64 0)).setCell ⟨s, 4, none⟩ (.bool false)).drew) := by
            have hlt : ∀ q, U q → q < w16.heap.size := fun q hq => by have := HX.out.2.1.lt hq; have := H1.out.1.size; have := u4.size; omega
            refine (((Kp.of_below H1.out.1 fun q hq => HX.out.2.1.lt hq.1).trans u4).set _ _ ?_).set _ _ ?_ |>.drew
            · exact fun q hq => ⟨hlt q hq.1, fun e => by have := HX.out.2.1.lt hq.1; have := HXB.out; simp only at e; omega⟩
            · exact fun q hq => ⟨by rw [World.size_setCell]; exact hlt q hq.1, hq.2⟩
          simp [LeavesX, Leaves, settle, results, Tryz.results78, go_sem, y4]
          exact hkp
end Go.Proofs.YtokflmiijdpchaaGreat
