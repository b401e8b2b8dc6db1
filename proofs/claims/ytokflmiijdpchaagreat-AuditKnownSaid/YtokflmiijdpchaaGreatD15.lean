/- A log's sectors are wiped. -/
import Derived.Test.YtokflmiijdpchaaGreatD13
import Derived.Stop.BytesEq
namespace Go.Proofs.YtokflmiijdpchaaGreat
open Go.RowKit
theorem u8_cells : ∀ (cs : List Value), (∀ v ∈ cs, IsU8 v) → ∃ xs : List UInt8, cs = xs.map Extern.Stop.cell ∧ xs.length = cs.length
  | [], _ => ⟨[], rfl, rfl⟩
  | v :: r, h => by
    obtain ⟨xs, h1, h2⟩ := u8_cells r fun u hu => h u (List.mem_cons_of_mem _ hu)
    obtain ⟨x, h3, h4, rfl⟩ := h v List.mem_cons_self
    refine ⟨UInt8.ofNat x.toNat :: xs, ?_, by simp [h2]⟩
    rw [List.map_cons, h1]
    congr 1
    simp [Extern.Stop.cell]
    omega
set_option maxRecDepth 100000 in
theorem sec_neq {a b : List Value} (ha : Sec a) (hb : Sec b) : ∃ c : Bool, ∀ W : World, (binOp .neq 277 (.agg a.toArray) (.agg b.toArray)).run Tryz.prog W = .ok (.bool c) W ∧ ∀ x y, (eqGuard .neq 277 x y (.agg a.toArray) (.agg b.toArray)).run Tryz.prog W = .ok () W := by
  obtain ⟨xs, rfl, hx⟩ := u8_cells a ha.2
  obtain ⟨ys, rfl, hy⟩ := u8_cells b hb.2
  refine ⟨!(xs == ys), fun W => ⟨?_, fun x y => run_eqGuard_agg W _ _ _ _ _ _ (by kernel_rfl)⟩⟩
  rw [run_neq_struct, run_equalIn_bytes W 9998 277 _ 64 Tryz.underlying277 Tryz.underlying5 (fun _ => by rfl) xs ys (by rw [hx]; exact ha.1) (by rw [hy]; exact hb.1)]
  rfl
set_option maxRecDepth 100000 in
theorem sneq {a b : List Value} (ha : Sec a) (hb : Sec b) : ∃ c : Bool, ∀ W : World, (binOp .neq 196 (.agg a.toArray) (.agg b.toArray)).run Tryz.prog W = .ok (.bool c) W ∧ ∀ x y, (eqGuard .neq 196 x y (.agg a.toArray) (.agg b.toArray)).run Tryz.prog W = .ok () W := by
  obtain ⟨xs, rfl, hx⟩ := u8_cells a ha.2
  obtain ⟨ys, rfl, hy⟩ := u8_cells b hb.2
  refine ⟨!(xs == ys), fun W => ⟨?_, fun x y => run_eqGuard_agg W _ _ _ _ _ _ (by kernel_rfl)⟩⟩
  rw [run_neq_struct, run_equalIn_bytes W 9998 196 _ 64 Tryz.underlying196 Tryz.underlying5 (fun _ => by rfl) xs ys (by rw [hx]; exact ha.1) (by rw [hy]; exact hb.1)]
  rfl
theorem Lg.kp {w w' : World} {l d fr n : Nat} {g1 g2 g3 g4 : Int} {U : Nat → Prop} (h : Lg w l d fr n g1 g2 g3 g4) (hk : Kp U w w') (hu : U l) : Lg w' l d fr n g1 g2 g3 g4 := (hk.block l hu).trans h
theorem Sht.kp {w w' : World} {s d : Nat} {f z g : Int} {dead : Bool} {U : Nat → Prop} (h : Sht w s d f z g dead) (hk : Kp U w w') (hu : U s) : Sht w' s d f z g dead := (hk.block s hu).trans h
attribute [-go_sem] Instr.build
set_option maxRecDepth 100000 in
set_option maxHeartbeats 2000000 in
theorem wipe_calls (w : World) (l d fr n : Nat) (g1 g2 g3 g4 : Int) (h : Lg w l d fr n g1 g2 g3 g4) (N sb k : Nat) (U : Nat → Prop) (hd : DU w d N sb k U) (hl : U l) (a b : Nat) (hab : a ≤ b) (hk : k + (b - a) < 1048576) (hb : fr + b ≤ N) :
    Calls Tryz.prog 118 #[.pointer (some ⟨l, 0, none⟩), .int .i64 a, .int .i64 b] w fun e w' => e = .returned (.tuple #[]) ∧ (∃ k', k' ≤ k + (b - a) ∧ DU w' d N sb k' U) ∧ Kp U w w' := by
  obtain ⟨BV, hB, hBV⟩ : ∃ BV : Value, (∀ W : World, (Instr.build 277 #[]).run Tryz.prog W = .ok BV W) ∧ BV = .agg z64.toArray := ⟨_, fun W => by rfl, rfl⟩
  have hroom := hd.room
  have HD := Lib.hid (show _ ∧ _ ∧ _ from ⟨h, hd, hBV⟩)
  clear h hd hBV
  go_enter Tryz.func118, Tryz.ntmps118
  go_wp2
  go_loopw [6] (fun v wr => ∃ j k' : Nat, a ≤ j ∧ j ≤ b ∧ v = .int .i64 j ∧ k' ≤ k + (j - a) ∧ DU wr d N sb k' U ∧ Kp U w wr) (fun v _ => b - (intOf v).toNat)
  case atStart => exact ⟨a, k, Nat.le_refl _, hab, rfl, by omega, HD.out.2.1, Kp.refl _ _⟩
  case round =>
    obtain ⟨j, k', h1, h2, rfl, h3, h4, h5⟩ := hrel
    have HR := Lib.hid (show _ ∧ _ from ⟨h4, h5⟩)
    clear h4 h5
    by_cases hjb : j < b
    · go_wp2_with (first
        | (go_at_call 177; refine (lread_calls _ l d fr n g1 g2 g3 g4 (HD.out.1.kp HR.out.2 hl) N sb k' U HR.out.1 j (by omega)).mono ?_; rintro e w2 ⟨zs, rfl, hs2, hb2⟩; obtain ⟨c, hc, hcg⟩ : ∃ c : Bool, (∀ W : World, (binOp .neq 277 (.agg zs.toArray) BV).run Tryz.prog W = .ok (.bool c) W) ∧ ∀ W x y, (eqGuard .neq 277 x y (.agg zs.toArray) BV).run Tryz.prog W = .ok () W := HD.out.2.2 ▸ (let ⟨c, h⟩ := sec_neq hs2 z64_sec; ⟨c, fun W => (h W).1, fun W => (h W).2⟩); have H2 := Lib.hid (show _ ∧ _ from ⟨HR.out.1.below hb2, HR.out.2.trans (Kp.of_below hb2 fun b hb => HR.out.1.lt hb)⟩); clear hs2 hb2)
        | (go_at_call 182; rw [HD.out.2.2]; refine (lwrite_calls _ l d fr n g1 g2 g3 g4 (HD.out.1.kp H2.out.2 hl) N sb k' U H2.out.1 hl (by omega) j (by omega) z64 z64_sec).mono ?_; rintro e w3 ⟨rfl, hd3, kp3⟩; have H3 := Lib.hid (show _ ∧ _ from ⟨hd3, kp3⟩); clear hd3 kp3))
      all_goals first
        | exact ⟨⟨j + 1, k', by omega, by omega, by go_num, by omega, H2.out.1, H2.out.2⟩, by simp [intOf]; omega⟩
        | exact ⟨⟨j + 1, k' + 1, by omega, by omega, by go_num, by omega, H3.out.1, H2.out.2.trans H3.out.2⟩, by simp [intOf]; omega⟩
    · obtain rfl : j = b := by omega
      go_wp2
      first | go_end0 | refine bodyPost_ret (results_none rfl _ _ _) rfl ?_
      exact ⟨rfl, ⟨k', h3, HR.out.1⟩, HR.out.2⟩
end Go.Proofs.YtokflmiijdpchaaGreat
