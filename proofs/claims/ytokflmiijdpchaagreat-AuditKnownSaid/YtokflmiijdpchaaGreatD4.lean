/- Sums of bytes, weakly: some number comes back. -/
import Derived.Test.YtokflmiijdpchaaGreatD1
import Derived.Deep.Cut
namespace Go.Proofs.YtokflmiijdpchaaGreat
open Go.RowKit
def IsU32 (v : Value) : Prop := ∃ x : Int, 0 ≤ x ∧ x < 4294967296 ∧ v = .int .u32 x
/-- A block of sixteen numbers. -/
def Nib (w : World) (A : Nat) : Prop := ∃ c, w.heap[A]? = some (.cells c 336 (0, 0)) ∧ c.size = 16 ∧ ∀ v ∈ c, IsU32 v
theorem results_cell_mid {P : Program} {fn : Func} {p : Tmp} {ty : TypeId} (h : fn.results = #[.cell p ty]) (tmps : Array Value) (w : World) (b o : Nat) (cs : List Value) (d : TypeDesc) (hp : tmps.getD p undef = .pointer (some ⟨b, o, none⟩)) (hc : w.rangeAt b o cs)
    (hu : P.underlying ty = some d) (hd : d.isRow = true) (hi : (P.info? ty).map (·.size) = some cs.length) : (results fn tmps).run P w = .ok (.agg cs.toArray) w := by
  have hp' : tmps[p]?.getD undef = .pointer (some ⟨b, o, none⟩) := by simpa using hp
  simp [results, h, hp', asAddr, run_loadVar_mid w b o ty cs d hc hu hd hi]
theorem IsU32.one {v : Value} (h : IsU32 v) : v.oneCell' = true := by
  obtain ⟨x, _, _, rfl⟩ := h
  rfl
theorem set_grown (w : World) (a : Addr) (v : Value) : w.grownBy (w.setCell a v) (some a.block) :=
  ⟨rfl, rfl, rfl, by simp [World.setCell], fun k _ hne => by
    have : a.block ≠ k := fun e => hne (by rw [e])
    simp [World.setCell, Array.getElem?_modify, this]⟩
theorem nib_other {w : World} {A : Nat} (h : Nib w A) {a : Addr} (ha : A ≠ a.block) (v : Value) : Nib (w.setCell a v) A := by
  obtain ⟨c, hc, h1⟩ := h
  exact ⟨c, ((set_grown w a v).block A (Array.getElem?_eq_some_iff.1 hc).1 (fun e => ha (Option.some.inj e))).trans hc, h1⟩
theorem nib_set {w : World} {A : Nat} (h : Nib w A) {v : Value} (hv : IsU32 v) (i : Nat) : Nib (w.setCell ⟨A, i, none⟩ v) A := by
  obtain ⟨c, hc, hs, hu⟩ := h
  refine ⟨c.setIfInBounds i v, by simp [World.setCell, Array.getElem?_modify, hc], by simp [hs], fun u hu' => ?_⟩
  rcases Array.mem_or_eq_of_mem_setIfInBounds hu' with h | h
  · exact hu u h
  · rw [h]; exact hv
theorem range_whole {w : World} {A : Nat} {c : Array Value} {t : TypeId} (h : w.heap[A]? = some (.cells c t (0, 0))) : w.rangeAt A 0 c.toList := fun j v hv => by
  rw [(cellD h _).1, Nat.zero_add, ← Array.getElem?_toList]
  exact hv
theorem there_whole {w : World} {A n : Nat} {c : Array Value} {t : TypeId} (h : w.heap[A]? = some (.cells c t (0, 0))) (hn : n ≤ c.size) : w.there A 0 n := fun j hj => by
  obtain ⟨h1, h2⟩ := cellD h (0 + j)
  exact ⟨by rw [h1, Array.getElem?_eq_getElem (by omega)]; rfl, h2⟩
set_option maxRecDepth 100000 in
set_option maxHeartbeats 2000000 in
theorem nibbles_calls (w : World) : Calls Tryz.prog 251 #[] w fun e w' => ∃ cs : List Value, e = .returned (.agg cs.toArray) ∧ cs.length = 16 ∧ (∀ v ∈ cs, IsU32 v) ∧ Below w.heap.size w w' := by
  go_enter Tryz.func251, Tryz.ntmps251
  go_wp2
  have hn : ∀ v ∈ (#[.int .u32 0, .int .u32 0, .int .u32 0, .int .u32 0, .int .u32 0, .int .u32 0, .int .u32 0, .int .u32 0, .int .u32 0, .int .u32 0, .int .u32 0, .int .u32 0, .int .u32 0, .int .u32 0, .int .u32 0, .int .u32 0] : Array Value), IsU32 v := fun v hv => by
    simp at hv
    exact ⟨0, by omega, by omega, hv⟩
  go_loopw [4] (fun v wr => ∃ i : Nat, i ≤ 16 ∧ v = .int .u32 i ∧ Nib wr w.heap.size ∧ Nib wr (w.heap.size + 1) ∧ Below w.heap.size w wr) (fun v _ => 16 - (intOf v).toNat)
  case atStart => exact ⟨0, by omega, rfl, ⟨_, (heap_alloc_old _ _ (by simp)).trans (heap_alloc_new _ _), rfl, hn⟩, ⟨_, by have h := heap_alloc_new (w.alloc (.cells #[.int .u32 0, .int .u32 0, .int .u32 0, .int .u32 0, .int .u32 0, .int .u32 0, .int .u32 0, .int .u32 0, .int .u32 0, .int .u32 0, .int .u32 0, .int .u32 0, .int .u32 0, .int .u32 0, .int .u32 0, .int .u32 0] 336)) (.cells #[.int .u32 0, .int .u32 0, .int .u32 0, .int .u32 0, .int .u32 0, .int .u32 0, .int .u32 0, .int .u32 0, .int .u32 0, .int .u32 0, .int .u32 0, .int .u32 0, .int .u32 0, .int .u32 0, .int .u32 0, .int .u32 0] 336); simpa using h, rfl, hn⟩, ((Below.refl _ _).alloc (Nat.le_refl _) _).alloc (by simp) _⟩
  case round =>
    obtain ⟨i, hi, rfl, h0, h1, hb⟩ := hrel
    have HR := Lib.hid (show _ ∧ _ ∧ _ from ⟨h0, h1, hb⟩)
    clear h0 h1 hb hn
    by_cases hlt : i < 16
    · go_wp2
      go_loop [3, 8] (fun v j => ∃ x : Int, 0 ≤ x ∧ x < 4294967296 ∧ v = .int .u32 x ∧ ∃ q : Nat, q ≤ 4 ∧ j = .int .i64 q) (fun _ j => 4 - (intOf j).toNat)
      case atStart => exact ⟨i, by omega, by omega, rfl, 0, by omega, rfl⟩
      case round =>
        obtain ⟨x, hx0, hx1, rfl, q, hq, rfl⟩ := hrel
        by_cases hq4 : q < 4
        · go_wp2
          exact ⟨⟨_, bits_lo_u32 _ _ _, Int.lt_of_le_of_lt (bits_hi_u32 _ _ _) (by decide), rfl, q + 1, by omega, by go_num⟩, by simp [intOf]; omega⟩
        · obtain rfl : q = 4 := by omega
          obtain ⟨c, hc, hsz, hu⟩ := HR.out.2.1
          obtain ⟨u, gc⟩ : ∃ u, wr.cell? ⟨w.heap.size + 1, i, none⟩ = some u := ⟨c[i]'(by omega), by rw [(cellD hc i).1, Array.getElem?_eq_getElem (by omega)]⟩
          have gf : wr.frozen? ⟨w.heap.size + 1, i, none⟩ = false := (cellD hc i).2
          have HX := Lib.hid (show 0 ≤ x ∧ x < 4294967296 from ⟨hx0, hx1⟩)
          clear hc hsz hu
          go_wp2
          exact ⟨⟨i + 1, by omega, by go_num, nib_other HR.out.1 (a := ⟨w.heap.size + 1, i, none⟩) (show w.heap.size ≠ w.heap.size + 1 by omega) _, nib_set HR.out.2.1 ⟨x, HX.out.1, HX.out.2, rfl⟩ i, HR.out.2.2.grown (set_grown _ _ _) HR.out.2.2.size (fun q hq => by cases hq; exact Nat.le_succ _)⟩, by simp [intOf]; omega⟩
    · obtain rfl : i = 16 := by omega
      obtain ⟨c, hc, hsz, hu⟩ := HR.out.2.1
      obtain ⟨c0, hc0, hsz0, hu0⟩ := HR.out.1
      have HC := Lib.hid (show _ ∧ _ ∧ _ from ⟨hc, hsz, hu⟩)
      have HC0 := Lib.hid (show _ ∧ _ ∧ _ from ⟨hc0, hsz0, hu0⟩)
      clear hc hsz hu hc0 hsz0 hu0
      go_wp2_with (first
        | (refine wpList_load_mid rfl 336 (.tmp 1) rfl (w.heap.size + 1) 0 rfl c.toList _ (range_whole HC.out.1) Tryz.underlying336 rfl (by rw [Array.length_toList, HC.out.2.1]; kernel_rfl) ?_)
        | (refine store_over _ rfl rfl 336 (.tmp 0) (.tmp 21) rfl w.heap.size 0 c.toList rfl rfl (there_whole HC0.out.1 (by rw [Array.length_toList, HC.out.2.1, HC0.out.2.1]; exact Nat.le_refl _)) (by rw [Array.length_toList, HC.out.2.1]; kernel_rfl) (all_oneCell_toArray fun v hv => (HC.out.2.2 v (Array.mem_toList_iff.1 hv)).one) ?_; intro w4 hg4 hs4 hr4 ht4; have H4 := Lib.hid (show _ ∧ _ ∧ _ from ⟨hg4, hs4, hr4⟩); clear hg4 hs4 hr4 ht4))
      refine bodyPost_ret (results_cell_mid Tryz.results251 _ _ w.heap.size 0 c.toList _ rfl H4.out.2.2 Tryz.underlying336 rfl (by rw [Array.length_toList, HC.out.2.1]; kernel_rfl)) rfl ?_
      exact ⟨c.toList, rfl, by rw [Array.length_toList]; exact HC.out.2.1, fun v hv => HC.out.2.2 v (Array.mem_toList_iff.1 hv), HR.out.2.2.grown H4.out.1 HR.out.2.2.size (fun q hq => by cases hq; exact Nat.le_refl _)⟩
theorem nib_at {w : World} {A : Nat} {ts : List Value} (hl : ts.length = 16) (hu : ∀ v ∈ ts, IsU32 v) (hr : w.rangeAt A 0 ts) (i : Nat) (hi : i < 16) : ∃ t, w.cell? ⟨A, i, none⟩ = some (.int .u32 t) := by
  obtain ⟨t, _, _, ht⟩ := hu _ (List.getElem_mem (show i < ts.length by omega))
  have h1 := hr i _ (List.getElem?_eq_getElem (show i < ts.length by omega))
  rw [Nat.zero_add, ht] at h1
  exact ⟨t, h1⟩
theorem and15 (z : Int) : ∃ q : Nat, q < 16 ∧ bits .and .u32 z 15 = (q : Int) := by
  have hle : (BitVec.ofInt 32 z).toNat &&& 15 ≤ 15 := Nat.and_le_right
  refine ⟨(BitVec.ofInt 32 z).toNat &&& 15, by omega, ?_⟩
  show IntKind.u32.wrap ((BitVec.ofInt 32 z &&& BitVec.ofInt 32 15).toNat : Int) = _
  rw [BitVec.toNat_and, show (BitVec.ofInt 32 15).toNat = 15 from rfl, IntKind.wrap_u32]
  omega
set_option maxRecDepth 100000 in
set_option maxHeartbeats 2000000 in
theorem taken_calls (w : World) (v : Int) (hv0 : 0 ≤ v) (hv1 : v < 4294967296) (b o n c : Nat) (hn : n ≤ 1073741824) (hb : ∀ j, j < n → ∃ x : Int, 0 ≤ x ∧ x < 256 ∧ w.cell? ⟨b, o + j, none⟩ = some (.int .u8 x)) (hlt : b < w.heap.size) :
    Calls Tryz.prog 226 #[.int .u32 v, .slice (some ⟨b, o, none⟩) n c] w fun e w' => ∃ x : Int, e = .returned (.int .u32 x) ∧ 0 ≤ x ∧ x < 4294967296 ∧ Below w.heap.size w w' := by
  have HB := Lib.hid (show _ ∧ _ from ⟨hb, hlt⟩)
  clear hb hlt
  go_enter Tryz.func226, Tryz.ntmps226
  go_wp2_with (first
    | (go_at_call 251; refine (nibbles_calls _).mono ?_; rintro e w1 ⟨ts, rfl, hl, hu, hb1⟩; have HN := Lib.hid (show _ ∧ _ ∧ _ from ⟨hl, hu, hb1⟩); clear hl hu hb1)
    | (refine store_fresh _ _ rfl rfl 336 (.tmp 5) (.tmp 8) rfl ts rfl rfl (by rw [HN.out.1]; decide) (by rw [HN.out.1]; kernel_rfl) (all_oneCell_toArray fun v hv => (HN.out.2.1 v hv).one) ?_; intro w2 hb2 hs2 hr2 ht2; have H2 := Lib.hid (show _ ∧ _ ∧ _ from ⟨hb2, hs2, hr2⟩); clear hb2 hs2 hr2 ht2))
  go_loop [0, 11] (fun v j => ∃ x : Int, 0 ≤ x ∧ x < 4294967296 ∧ v = .int .u32 x ∧ ∃ q : Nat, q ≤ n ∧ j = .int .i64 q) (fun _ j => n - (intOf j).toNat)
  case atStart => exact ⟨v, hv0, hv1, rfl, 0, by omega, rfl⟩
  case round =>
    obtain ⟨x, hx0, hx1, rfl, q, hq, rfl⟩ := hrel
    by_cases hlq : q < n
    · obtain ⟨y, hy0, hy1, hc⟩ := HB.out.1 q hlq
      have hc2 : w2.cell? ⟨b, o + q, none⟩ = some (.int .u8 y) := (World.cell?_of_block (a := ⟨b, o + q, none⟩) ((H2.out.1.block b (Nat.lt_of_lt_of_le HB.out.2 HN.out.2.2.size)).trans (HN.out.2.2.block b HB.out.2))).trans hc
      clear hc
      go_upto_region 6 with (fail)
      obtain ⟨i1, hi1, e1⟩ := and15 (bits .xor .u32 x y)
      obtain ⟨t1, ht1⟩ : ∃ t1, w2.cell? ⟨w1.heap.size, i1, none⟩ = some (.int .u32 t1) := nib_at HN.out.1 HN.out.2.1 H2.out.2.2 i1 hi1
      go_upto_region 7 with (fail)
      obtain ⟨i2, hi2, e2⟩ := and15 (bits .xor .u32 (bits .xor .u32 x y / 16) t1)
      obtain ⟨t2, ht2⟩ : ∃ t2, w2.cell? ⟨w1.heap.size, i2, none⟩ = some (.int .u32 t2) := nib_at HN.out.1 HN.out.2.1 H2.out.2.2 i2 hi2
      go_wp2
      exact ⟨⟨_, bits_lo_u32 _ _ _, Int.lt_of_le_of_lt (bits_hi_u32 _ _ _) (by decide), rfl, q + 1, by omega, by go_num⟩, by simp [intOf]; omega⟩
    · obtain rfl : q = n := by omega
      go_wp2
      go_ret
      exact ⟨x, rfl, hx0, hx1, HN.out.2.2.trans (H2.out.1.mono HN.out.2.2.size)⟩
theorem crc_calls (w : World) (b o n c : Nat) (hn : n ≤ 1073741824) (hb : ∀ j, j < n → ∃ x : Int, 0 ≤ x ∧ x < 256 ∧ w.cell? ⟨b, o + j, none⟩ = some (.int .u8 x)) (hlt : b < w.heap.size) :
    Calls Tryz.prog 169 #[.slice (some ⟨b, o, none⟩) n c] w fun e w' => ∃ x : Int, e = .returned (.int .u32 x) ∧ 0 ≤ x ∧ x < 4294967296 ∧ Below w.heap.size w w' := by
  go_enter Tryz.func169, Tryz.ntmps169
  go_wp2_with (first
    | (go_at_call 226; refine (taken_calls _ 4294967295 (by decide) (by decide) b o n c hn hb hlt).mono ?_; rintro e w1 ⟨x, rfl, h0, h1, hb1⟩))
  go_ret
  exact ⟨_, rfl, bits_lo_u32 _ _ _, Int.lt_of_le_of_lt (bits_hi_u32 _ _ _) (by decide), hb1⟩
end Go.Proofs.YtokflmiijdpchaaGreat
