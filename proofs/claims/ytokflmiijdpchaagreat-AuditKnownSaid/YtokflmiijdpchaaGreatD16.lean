/- Bytes of one's own; a log's number. -/
import Derived.Test.YtokflmiijdpchaaGreatD15
namespace Go.Proofs.YtokflmiijdpchaaGreat
open Go.RowKit
/-- Bytes in a block of one's own, none of U. -/
def Ou (w : World) (v : Value) (xs : List Value) (U : Nat → Prop) : Prop := w.ownsRow 0 5 1 v xs.length xs ∧ ∀ b, U b → b < w.heap.size ∧ v.ownBlock ≠ some b
theorem Ou.nil {w : World} {U : Nat → Prop} (hU : ∀ b, U b → b < w.heap.size) : Ou w (.slice none 0 0) [] U := ⟨⟨rfl, .inl ⟨rfl, rfl⟩⟩, fun b hb => ⟨hU b hb, by simp [Value.ownBlock]⟩⟩
theorem Ou.below {w w' : World} {v : Value} {xs : List Value} {U : Nat → Prop} (h : Ou w v xs U) (hb : Below w.heap.size w w') : Ou w' v xs U := ⟨h.1.kept (row := none) ⟨hb.os, hb.tape, hb.output, hb.size, fun k hk _ => hb.block k hk⟩ (Classical.em _), fun b hu => ⟨Nat.lt_of_lt_of_le (h.2 b hu).1 hb.size, (h.2 b hu).2⟩⟩
theorem Ou.alloc {w : World} {v : Value} {xs : List Value} {U : Nat → Prop} (h : Ou w v xs U) (o : Obj) : Ou (w.alloc o) v xs U := h.below ((Below.refl _ _).alloc (Nat.le_refl _) _)
theorem Ou.mono {w : World} {v : Value} {xs : List Value} {U V : Nat → Prop} (h : Ou w v xs U) (hv : ∀ b, V b → U b) : Ou w v xs V := ⟨h.1, fun b hb => h.2 b (hv b hb)⟩
/-- What is new since is none of it. -/
theorem Ou.more {w w' : World} {v : Value} {xs : List Value} {U : Nat → Prop} (h : Ou w v xs U) (hb : Below w.heap.size w w') : Ou w' v xs (fun b => U b ∨ (w.heap.size ≤ b ∧ b < w'.heap.size)) := by
  refine ⟨(h.below hb).1, fun b hu => ?_⟩
  rcases hu with hu | hu
  · exact (h.below hb).2 b hu
  · refine ⟨hu.2, fun e => ?_⟩
    have := (h.1.lt b e).2
    omega
theorem Ou.form {w : World} {v : Value} {xs : List Value} {U : Nat → Prop} (h : Ou w v xs U) : ∃ a c, v = .slice a xs.length c ∧ xs.length ≤ c ∧ (xs ≠ [] → ∃ g, a = some ⟨g, 0, none⟩ ∧ g < w.heap.size ∧ ¬ U g ∧ w.rangeAt g 0 xs) := by
  have h0 := h
  obtain ⟨⟨-, h1 | ⟨g, cap, cur, rfl, -, hg, hc, -, hs, ht⟩⟩, h2⟩ := h
  · obtain ⟨rfl, hn⟩ := h1
    exact ⟨none, 0, by rw [hn], by omega, fun hne => absurd (List.length_eq_zero_iff.1 hn) hne⟩
  · refine ⟨_, cap, rfl, hc, fun _ => ⟨g, rfl, (Array.getElem?_eq_some_iff.1 hg).1, fun hu => (h2 g hu).2 rfl, fun j v hv => ?_⟩⟩
    have hj := (List.getElem?_eq_some_iff.1 hv).1
    rw [Nat.zero_add, h0.1.cellAt j (by omega)]
    exact hv
set_option maxRecDepth 100000 in
theorem run_app {W : World} {v : Value} {xs : List Value} {U : Nat → Prop} (h : Ou W v xs U) (ty : TypeId) (a : Addr) (m c : Nat) (news : List Value) (hl : news.length = m) (hn : ∀ j u, news[j]? = some u → W.cell? (a.add j) = some u) (h1 : ∀ u ∈ news, u.oneCell' = true) (hm : xs.length + m ≤ 1099511627776) :
    ∃ v' w', (Builtin.append_ #[23, 23] ty #[v, .slice (some a) m c]).run Tryz.prog W = .ok v' w' ∧ Ou w' v' (xs ++ news) U ∧ Kp U W w' := by
  obtain ⟨ie, z, hie, hze, hisz, hib, hzs⟩ : ∃ ie z, Tryz.prog.info? 5 = some ie ∧ ie.zero = some z ∧ ie.size = 1 ∧ ie.bytes = 1 ∧ z.cells.size = 1 := ⟨_, _, rfl, rfl, rfl, rfl, rfl⟩
  obtain ⟨v', w', hr, h2, h3, -, h5⟩ := run_append_own_at (P := Tryz.prog) W 0 23 ty 5 ie z 1 1 Tryz.underlying23 hie hze hisz hib hzs (by decide) v xs.length xs h.1 a m c news (by omega) hn h1 (by simp [maxLen]; omega) (by omega) (Nat.zero_le _)
  refine ⟨v', w', hr, ⟨by rw [List.length_append, hl]; exact h2, fun b hb => ⟨Nat.lt_of_lt_of_le (h.2 b hb).1 h3.size, fun e => ?_⟩⟩, ⟨h3.os, h3.tape, h3.output, h3.size, fun b hb => h3.block b (h.2 b hb).1 (fun e => (h.2 b hb).2 e.symm)⟩⟩
  rcases h5 with h5 | h5
  · exact (h.2 b hb).2 (h5 ▸ e)
  · rw [h5] at e
    have := (h.2 b hb).1
    cases e
    omega
theorem wp_app {W : World} {ops : Array Oper} {rest : List Oper} {o : Oper} {a : Act} {Q : Exit → Act → World → Prop} (hgd : o.guard = none) (s x : Operand) (ho : o.op = .call { callee := .builtin .append, args := #[s, x], argTypes := #[23, 23] })
    (v : Value) (xs : List Value) (U : Nat → Prop) (hs : a.eval s = v) (h : Ou W v xs U) (ad : Addr) (m c : Nat) (news : List Value) (hx : a.eval x = .slice (some ad) m c) (hl : news.length = m) (hn : ∀ j u, news[j]? = some u → W.cell? (ad.add j) = some u) (h1 : ∀ u ∈ news, u.oneCell' = true) (hm : xs.length + m ≤ 1099511627776)
    (hK : ∀ v' w', Ou w' v' (xs ++ news) U → Kp U W w' → wpList Tryz.prog ops Q rest (a.put o.dst v') w') : wpList Tryz.prog ops Q (o :: rest) a W :=
  wpList_plain hgd fun _ hk => by
    obtain ⟨v', w', hr, h2, h3⟩ := run_app h o.type ad m c news hl hn h1 hm
    unfold Oper.wp execOp
    simp only [ho, resolve, invoke, builtin, Sem.run_bind, Sem.run_pure, Result.andThen_ok, List.map_toArray, List.map_cons, List.map_nil, hs, hx, hr]
    exact hk _ _ (hK v' w' h2 h3)
/-- append(v, x) of one byte, laid into a block of its own. -/
theorem wp_app1 {W : World} {ops : Array Oper} {rest : List Oper} {o : Oper} {a : Act} {Q : Exit → Act → World → Prop} (hgd : o.guard = none) (s x : Operand) (ho : o.op = .call { callee := .builtin .append, args := #[s, x], argTypes := #[23, 23] })
    (v : Value) (xs : List Value) (U : Nat → Prop) (hs : a.eval s = v) (h : Ou W v xs U) (N : Nat) (hx : a.eval x = .slice (some ⟨N, 0, none⟩) 1 1) (hN : N = W.heap.size) (y : Value) (hy : y.oneCell' = true) (hm : xs.length + 1 ≤ 1099511627776)
    (hK : ∀ v' w', Ou w' v' (xs ++ [y]) U → Kp U W w' → wpList Tryz.prog ops Q rest (a.put o.dst v') w') : wpList Tryz.prog ops Q (o :: rest) a (W.alloc (.cells #[y] 5)) := by
  subst hN
  have hb : Below W.heap.size W (W.alloc (.cells #[y] 5)) := (Below.refl _ _).alloc (Nat.le_refl _) _
  refine wp_app hgd s x ho v xs U hs (h.alloc _) _ 1 1 [y] hx rfl (World.news_of_block (heap_alloc_new W (.cells #[y] 5))) (by simpa using hy) hm fun v' w' h2 h3 => hK v' w' h2 ((Kp.of_below hb fun b hu => (h.2 b hu).1).trans h3)
set_option maxRecDepth 100000 in
set_option maxHeartbeats 2000000 in
theorem wnumber_calls (w : World) (x : Int) (n : Nat) (hn : n ≤ 8) : Calls Tryz.prog 200 #[.int .u64 x, .int .i64 n] w fun e w' => ∃ v xs, e = .returned v ∧ Ou w' v xs (· < w.heap.size) ∧ xs.length = n ∧ (∀ u ∈ xs, IsU8 u) ∧ Below w.heap.size w w' := by
  go_enter Tryz.func200, Tryz.ntmps200
  go_wp2
  go_loopw [1, 5] (fun v p wr => ∃ (j : Nat) (xs : List Value), j ≤ n ∧ v = .int .i64 j ∧ Ou wr p xs (· < w.heap.size) ∧ xs.length = n - j ∧ (∀ u ∈ xs, IsU8 u) ∧ Kp (· < w.heap.size) w wr) (fun v _ _ => (intOf v).toNat)
  case atStart => exact ⟨n, [], Nat.le_refl _, rfl, Ou.nil fun _ h => h, by simp, by simp, Kp.refl _ _⟩
  case round =>
    obtain ⟨j, xs, h1, rfl, h2, h3, h4, h5⟩ := hrel
    have HR := Lib.hid (show _ ∧ _ ∧ _ from ⟨h2, h4, h5⟩)
    clear h2 h4 h5
    by_cases hj : 0 < j
    · go_wp2_with (first
        | (refine wp_app1 rfl (.tmp 10) (.tmp 16) rfl _ xs _ rfl HR.out.1 _ rfl rfl _ rfl (by omega) ?_; intro v2 w2 ho2 hk2; have H2 := Lib.hid (show _ ∧ _ from ⟨ho2, hk2⟩); clear ho2 hk2))
      exact ⟨⟨j - 1, _, by omega, by go_num, H2.out.1, by simp; omega, fun u hu => (List.mem_append.1 hu).elim (HR.out.2.1 u) (fun hu => by obtain rfl := List.mem_singleton.1 hu; exact ⟨_, Int.emod_nonneg _ (by decide), Int.emod_lt_of_pos _ (by decide), rfl⟩), HR.out.2.2.trans H2.out.2⟩, by simp [intOf]; omega⟩
    · obtain rfl : j = 0 := by omega
      go_wp2
      go_ret
      exact ⟨_, rfl, xs, HR.out.1, by omega, HR.out.2.1, HR.out.2.2.to_below⟩
end Go.Proofs.YtokflmiijdpchaaGreat
