/- merkle.Diff of trees with the same digests. -/
import Derived.Test.YtokflmiijdpchaaGreatD56
namespace Go.Proofs.YtokflmiijdpchaaGreat
open Go.RowKit
attribute [local go_sem] Oper.semAt_some
theorem equalIn_u64 (w : World) (d : Nat) (t e : TypeId) (n : Nat) (ht : Tryz.prog.underlying t = some (.array n e)) (he : Tryz.prog.underlying e = some (.int .u64)) (hsz : ∀ w, (sizeOf e).run Tryz.prog w = .ok 1 w)
    (xs : List Int) (hx : xs.length = n) : (Op.equalIn (d + 2) t (.agg (xs.map (Value.int .u64)).toArray) (.agg (xs.map (Value.int .u64)).toArray)).run Tryz.prog w = .ok true w := by
  rw [Op.equalIn]
  simp only [Sem.run_bind, run_underlying ht, Result.andThen_ok, hsz, Std.Legacy.Range.forIn_eq_forIn_range', Std.Legacy.Range.size, Nat.sub_zero, Nat.add_sub_cancel, Nat.div_one]
  have hl : ∀ i ∈ List.range' 0 n 1, i < n := fun i hi => by simpa using (List.mem_range'_1.1 hi).2
  generalize List.range' 0 n 1 = l at hl ⊢
  induction l with
  | nil => simp
  | cons i l ih =>
    have hi : i < n := hl i (by simp)
    have px : (part e (xs.map (Value.int .u64)).toArray (i * 1)).run Tryz.prog w = .ok (Value.int .u64 (xs.getD i 0)) w := by
      simp [part, isAgg, run_underlying he, List.getD, List.getElem?_eq_getElem (show i < xs.length by omega)]
    have pe : (Op.equalIn (d + 1) e (Value.int .u64 (xs.getD i 0)) (Value.int .u64 (xs.getD i 0))).run Tryz.prog w = .ok true w := by
      rw [run_equalIn_int w d e .u64 _ _ _ he]
      simp
    simp only [List.forIn_cons, Sem.run_bind, px, pe, Result.andThen_ok]
    simp only [Bool.not_true, Bool.false_eq_true, if_false, Sem.run_pure, Result.andThen_ok]
    exact ih fun j hj => hl j (by simp [hj])
def dgs (n : Nat) (a : Nat → Nat) : List Value := (List.range n).map fun q => .int .u64 (a q)
theorem dgs_map (n : Nat) (a : Nat → Nat) : dgs n a = ((List.range n).map fun q => ((a q : Nat) : Int)).map (Value.int .u64) := by simp [dgs]
theorem dgs_len (n : Nat) (a : Nat → Nat) : (dgs n a).length = n := by simp [dgs]
theorem dgs_same {n : Nat} {a b : Nat → Nat} (h : ∀ q, q < n → a q = b q) : dgs n a = dgs n b := List.map_congr_left fun q hq => by rw [h q (by simpa using hq)]
theorem Tr.range {w : World} {T : Nat} {a : Nat → Nat} (h : Tr w T a) : w.rangeAt T 1 (dgs 512 a) := fun j u hu => by
  have hj : j < 512 := by have := (List.getElem?_eq_some_iff.1 hu).1; rwa [dgs_len] at this
  rw [(h.dig j hj).1, ← hu, dgs, List.getElem?_map, List.getElem?_range hj]
  rfl
theorem Tr.bits {w : World} {T : Nat} {a : Nat → Nat} (h : Tr w T a) : w.cell? ⟨T, 0, none⟩ = some (.int .i64 64) := (cellD h 0).1.trans (by rw [List.getElem?_toArray]; rfl)
/-- The digests are what New makes them: there is one such list. -/
def Dg (a : Nat → Nat) : Prop := a 0 = 0 ∧ (∀ q, 256 ≤ q → q < 512 → a q = dig0N) ∧ ∀ q, 1 ≤ q → q < 256 → a q = pairN (a (2 * q)) (a (2 * q + 1))
theorem Dg.same {a b : Nat → Nat} (ha : Dg a) (hb : Dg b) : ∀ q, q < 512 → a q = b q := by
  have h : ∀ k q, q < 512 → 512 - q ≤ k → a q = b q := by
    intro k
    induction k with
    | zero => omega
    | succ k ih =>
      intro q hq hk
      rcases Nat.lt_or_ge q 256 with h1 | h1
      · rcases Nat.lt_or_ge q 1 with h2 | h2
        · obtain rfl : q = 0 := by omega
          rw [ha.1, hb.1]
        · rw [ha.2.2 q h2 h1, hb.2.2 q h2 h1, ih (2 * q) (by omega) (by omega), ih (2 * q + 1) (by omega) (by omega)]
      · rw [ha.2.1 q h1 hq, hb.2.1 q h1 hq]
  exact fun q hq => h 512 q hq (by omega)
set_option maxRecDepth 100000 in
set_option maxHeartbeats 2000000 in
theorem mdiff_calls (w : World) (x y : Nat) (a b : Nat → Nat) (hx : Tr w x a) (hy : Tr w y b) (ha : Dg a) (hb : Dg b) : Calls Tryz.prog 25 #[.pointer (some ⟨x, 0, none⟩), .pointer (some ⟨y, 0, none⟩)] w fun e w' => e = .returned (.tuple #[.slice none 0 0, .int .i64 1, .int .i64 0]) ∧ Below w.heap.size w w' := by
  have hry := hy.range
  rw [← dgs_same (ha.same hb)] at hry
  have hrx := hx.range
  have cx := hx.bits
  have cy := hy.bits
  have hcmp : ∀ W : World, (binOp .eql 111 (.agg (dgs 512 a).toArray) (.agg (dgs 512 a).toArray)).run Tryz.prog W = .ok (.bool true) W := fun W => by
    rw [run_eql_struct, dgs_map, equalIn_u64 W 9998 111 30 512 Tryz.underlying111 Tryz.underlying30 (fun _ => by rfl) _ (by simp)]
    rfl
  have hgd : ∀ (W : World) (x y : Operand), (eqGuard .eql 111 x y (.agg (dgs 512 a).toArray) (.agg (dgs 512 a).toArray)).run Tryz.prog W = .ok () W := fun W x y => run_eqGuard_agg W _ _ _ _ _ _ (by kernel_rfl)
  have hun := Tryz.underlying111
  have hsz : (Tryz.prog.info? 111).map (·.size) = some (dgs 512 a).length := by rw [dgs_len]; kernel_rfl
  clear hx hy ha hb
  generalize dgs 512 a = ds at *
  go_enter Tryz.func25, Tryz.ntmps25
  go_upto_region 3 with (fail)
  go_region_held3 (fun W => W.cell? ⟨x, 0, none⟩ = some (.int .i64 64) ∧ W.cell? ⟨y, 0, none⟩ = some (.int .i64 64)) (first | go_keep | exact ⟨cx, cy⟩) (fail)
  go_upto_region 5 with (fail)
  have k1 : w.drew.rangeAt x 1 ds := (World.rangeAt_drew _ _ _ _).2 hrx
  have k2 : w.drew.rangeAt y 1 ds := (World.rangeAt_drew _ _ _ _).2 hry
  refine wp_region_held_drew (S := (fun W => W.rangeAt x 1 ds ∧ W.rangeAt y 1 ds)) (by kernel_rfl) ⟨k1, k2⟩ (fun hHeld => ?_)
  refine wpAnyH_take (i := 0) (oi := { dst := some 29, op := Op.move (Operand.tmp 0), type := 71, pos := "merkle.go:280", after := #[], guard := none }) (v := .pointer (some ⟨x, 0, none⟩)) rfl (by kernel_rfl) (by kernel_rfl) (by kernel_rfl) (fun _ _ _ h => h) (Or.inl ⟨by rfl, fun w hSw => by (try dsimp only at hSw); go_simp⟩) (by assumption) ?_
  try simp only [Act.put, List.setIfInBounds_toArray, List.set_cons_zero, List.set_cons_succ]
  refine wpAnyH_take (i := 1) (oi := { dst := some 30, op := Op.nilCheck (Operand.tmp 29), type := 0, pos := "merkle.go:280", after := #[{ on := 0, ground := Ground.data }], guard := none }) (v := .pointer (some ⟨x, 0, none⟩)) rfl (by kernel_rfl) (by kernel_rfl) (by kernel_rfl) (fun _ _ _ h => h) (Or.inl ⟨by rfl, fun w hSw => by (try dsimp only at hSw); go_simp⟩) (by assumption) ?_
  try simp only [Act.put, List.setIfInBounds_toArray, List.set_cons_zero, List.set_cons_succ]
  refine wpAnyH_take (i := 2) (oi := { dst := some 31, op := Op.fieldAddr 114 (Operand.tmp 30) 1, type := 0, pos := "merkle.go:280", after := #[{ on := 1, ground := Ground.data }], guard := none }) (v := .pointer (some ⟨x, 1, none⟩)) rfl (by kernel_rfl) (by kernel_rfl) (by kernel_rfl) (fun _ _ _ h => h) (Or.inl ⟨by rfl, fun w hSw => by (try dsimp only at hSw); go_simp⟩) (by assumption) ?_
  try simp only [Act.put, List.setIfInBounds_toArray, List.set_cons_zero, List.set_cons_succ]
  refine wpAnyH_take (i := 3) (oi := { dst := some 32, op := Op.load 111 (Operand.tmp 31), type := 111, pos := "merkle.go:280", after := #[{ on := 2, ground := Ground.data }], guard := none }) (v := .agg ds.toArray) rfl (by kernel_rfl) (by kernel_rfl) (by kernel_rfl) (fun _ _ _ h => h) (yieldsIf_load_mid (by rfl) _ _ rfl _ _ rfl _ _ (fun _ hSw => hSw.1) hun rfl hsz) (by assumption) ?_
  try simp only [Act.put, List.setIfInBounds_toArray, List.set_cons_zero, List.set_cons_succ]
  refine wpAnyH_take (i := 4) (oi := { dst := some 33, op := Op.move (Operand.tmp 1), type := 71, pos := "merkle.go:280", after := #[], guard := none }) (v := .pointer (some ⟨y, 0, none⟩)) rfl (by kernel_rfl) (by kernel_rfl) (by kernel_rfl) (fun _ _ _ h => h) (Or.inl ⟨by rfl, fun w hSw => by (try dsimp only at hSw); go_simp⟩) (by assumption) ?_
  try simp only [Act.put, List.setIfInBounds_toArray, List.set_cons_zero, List.set_cons_succ]
  refine wpAnyH_take (i := 5) (oi := { dst := some 34, op := Op.nilCheck (Operand.tmp 33), type := 0, pos := "merkle.go:280", after := #[{ on := 4, ground := Ground.data }], guard := none }) (v := .pointer (some ⟨y, 0, none⟩)) rfl (by kernel_rfl) (by kernel_rfl) (by kernel_rfl) (fun _ _ _ h => h) (Or.inl ⟨by rfl, fun w hSw => by (try dsimp only at hSw); go_simp⟩) (by assumption) ?_
  try simp only [Act.put, List.setIfInBounds_toArray, List.set_cons_zero, List.set_cons_succ]
  refine wpAnyH_take (i := 6) (oi := { dst := some 35, op := Op.fieldAddr 114 (Operand.tmp 34) 1, type := 0, pos := "merkle.go:280", after := #[{ on := 5, ground := Ground.data }], guard := none }) (v := .pointer (some ⟨y, 1, none⟩)) rfl (by kernel_rfl) (by kernel_rfl) (by kernel_rfl) (fun _ _ _ h => h) (Or.inl ⟨by rfl, fun w hSw => by (try dsimp only at hSw); go_simp⟩) (by assumption) ?_
  try simp only [Act.put, List.setIfInBounds_toArray, List.set_cons_zero, List.set_cons_succ]
  refine wpAnyH_take (i := 7) (oi := { dst := some 36, op := Op.load 111 (Operand.tmp 35), type := 111, pos := "merkle.go:280", after := #[{ on := 6, ground := Ground.data }], guard := none }) (v := .agg ds.toArray) rfl (by kernel_rfl) (by kernel_rfl) (by kernel_rfl) (fun _ _ _ h => h) (yieldsIf_load_mid (by rfl) _ _ rfl _ _ rfl _ _ (fun _ hSw => hSw.2) hun rfl hsz) (by assumption) ?_
  try simp only [Act.put, List.setIfInBounds_toArray, List.set_cons_zero, List.set_cons_succ]
  refine wpAnyH_take (i := 8) (oi := { dst := some 37, op := Op.binOp BinOp.eql 111 (Operand.tmp 32) (Operand.tmp 36) 111, type := 4, pos := "merkle.go:280", after := #[{ on := 3, ground := Ground.data }, { on := 7, ground := Ground.data }], guard := none }) (v := .bool true) rfl (by kernel_rfl) (by kernel_rfl) (by kernel_rfl) (fun _ _ _ h => h) (Or.inl ⟨by rfl, fun w hSw => by (try dsimp only at hSw); go_simp⟩) (by assumption) ?_
  try simp only [Act.put, List.setIfInBounds_toArray, List.set_cons_zero, List.set_cons_succ]
  refine wpAnyH_take (i := 9) (oi := { dst := some 28, op := Op.assign (Operand.tmp 37), type := 4, pos := "merkle.go:280", after := #[{ on := 8, ground := Ground.data }], guard := none }) (v := .bool true) rfl (by kernel_rfl) (by kernel_rfl) (by kernel_rfl) (fun _ _ _ h => h) (Or.inl ⟨by rfl, fun w hSw => by (try dsimp only at hSw); go_simp⟩) (by assumption) ?_
  try simp only [Act.put, List.setIfInBounds_toArray, List.set_cons_zero, List.set_cons_succ]
  refine wpAnyH_done (by kernel_rfl) ?_ _
  go_wp2
  go_ret3
  exact ⟨rfl, (Below.refl _ _).drew.drew⟩
end Go.Proofs.YtokflmiijdpchaaGreat
