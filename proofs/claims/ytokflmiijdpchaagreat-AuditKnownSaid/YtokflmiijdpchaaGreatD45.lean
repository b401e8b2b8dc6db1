/- Rows of one's own of any element; the audit's Row. -/
import Derived.Test.YtokflmiijdpchaaGreatD43
import Derived.Test.YtokflmiijdpchaaGreatD50
namespace Go.Proofs.YtokflmiijdpchaaGreat
open Go.RowKit
attribute [local go_sem] Oper.semAt_some
/-- A row in a block of one's own, none of U. -/
def Oe (e : TypeId) (s : Nat) (w : World) (v : Value) (k : Nat) (xs : List Value) (U : Nat → Prop) : Prop := w.ownsRow 0 e s v k xs ∧ ∀ b, U b → b < w.heap.size ∧ v.ownBlock ≠ some b
theorem Oe.nil {e : TypeId} {s : Nat} {w : World} {U : Nat → Prop} (hU : ∀ b, U b → b < w.heap.size) : Oe e s w (.slice none 0 0) 0 [] U := ⟨⟨by simp, .inl ⟨rfl, rfl⟩⟩, fun b hb => ⟨hU b hb, by simp [Value.ownBlock]⟩⟩
theorem Oe.below {e : TypeId} {s k : Nat} {w w' : World} {v : Value} {xs : List Value} {U : Nat → Prop} (h : Oe e s w v k xs U) (hb : Below w.heap.size w w') : Oe e s w' v k xs U := ⟨h.1.kept (row := none) ⟨hb.os, hb.tape, hb.output, hb.size, fun k hk _ => hb.block k hk⟩ (Classical.em _), fun b hu => ⟨Nat.lt_of_lt_of_le (h.2 b hu).1 hb.size, (h.2 b hu).2⟩⟩
theorem run_appE {W : World} {v : Value} {k : Nat} {xs : List Value} {U : Nat → Prop} (t e : TypeId) (size bytes : Nat) (ht : Tryz.prog.underlying t = some (.slice e)) (hi : ∃ ie z, Tryz.prog.info? e = some ie ∧ ie.zero = some z ∧ ie.size = size ∧ ie.bytes = bytes ∧ z.cells.size = size) (h0 : 0 < size) (hby : bytes ≤ 4096)
    (h : Oe e size W v k xs U) (ty : TypeId) (a : Addr) (m c : Nat) (news : List Value) (hl : news.length = m * size) (hn : ∀ j u, news[j]? = some u → W.cell? (a.add j) = some u) (h1 : ∀ u ∈ news, u.oneCell' = true) (hm : k + m ≤ 1073741824) :
    ∃ v' w', (Builtin.append_ #[t, t] ty #[v, .slice (some a) m c]).run Tryz.prog W = .ok v' w' ∧ Oe e size w' v' (k + m) (xs ++ news) U ∧ Kp U W w' := by
  obtain ⟨ie, z, hie, hze, hisz, hib, hzs⟩ := hi
  have hmb : (k + m) * bytes ≤ 140737488355328 := Nat.le_trans (Nat.mul_le_mul hm hby) (by decide)
  obtain ⟨v', w', hr, h2, h3, -, h5⟩ := run_append_own_at (P := Tryz.prog) W 0 t ty e ie z size bytes ht hie hze hisz hib hzs h0 v k xs h.1 a m c news hl hn h1 (by simp [maxLen]; omega) hmb (Nat.zero_le _)
  refine ⟨v', w', hr, ⟨h2, fun b hb => ⟨Nat.lt_of_lt_of_le (h.2 b hb).1 h3.size, fun e => ?_⟩⟩, ⟨h3.os, h3.tape, h3.output, h3.size, fun b hb => h3.block b (h.2 b hb).1 (fun e => (h.2 b hb).2 e.symm)⟩⟩
  rcases h5 with h5 | h5
  · exact (h.2 b hb).2 (h5 ▸ e)
  · rw [h5] at e
    have := (h.2 b hb).1
    cases e
    omega
theorem wp_appE {W : World} {ops : Array Oper} {rest : List Oper} {o : Oper} {a : Act} {Q : Exit → Act → World → Prop} (hgd : o.guard = none) (t e : TypeId) (size bytes : Nat) (ht : Tryz.prog.underlying t = some (.slice e)) (hi : ∃ ie z, Tryz.prog.info? e = some ie ∧ ie.zero = some z ∧ ie.size = size ∧ ie.bytes = bytes ∧ z.cells.size = size) (h0 : 0 < size) (hby : bytes ≤ 4096)
    (s x : Operand) (ho : o.op = .call { callee := .builtin .append, args := #[s, x], argTypes := #[t, t] })
    (v : Value) (k : Nat) (xs : List Value) (U : Nat → Prop) (hs : a.eval s = v) (h : Oe e size W v k xs U) (ad : Addr) (m c : Nat) (news : List Value) (hx : a.eval x = .slice (some ad) m c) (hl : news.length = m * size) (hn : ∀ j u, news[j]? = some u → W.cell? (ad.add j) = some u) (h1 : ∀ u ∈ news, u.oneCell' = true) (hm : k + m ≤ 1073741824)
    (hK : ∀ v' w', Oe e size w' v' (k + m) (xs ++ news) U → Kp U W w' → wpList Tryz.prog ops Q rest (a.put o.dst v') w') : wpList Tryz.prog ops Q (o :: rest) a W :=
  wpList_plain hgd fun _ hk => by
    obtain ⟨v', w', hr, h2, h3⟩ := run_appE t e size bytes ht hi h0 hby h o.type ad m c news hl hn h1 hm
    unfold Oper.wp execOp
    simp only [ho, resolve, invoke, builtin, Sem.run_bind, Sem.run_pure, Result.andThen_ok, List.map_toArray, List.map_cons, List.map_nil, hs, hx, hr]
    exact hk _ _ (hK v' w' h2 h3)
/-- append(v, x) of one element that has just been laid into a block of its own. -/
theorem wp_appE1 {W : World} {ops : Array Oper} {rest : List Oper} {o : Oper} {a : Act} {Q : Exit → Act → World → Prop} (hgd : o.guard = none) (t e : TypeId) (size bytes : Nat) (ht : Tryz.prog.underlying t = some (.slice e)) (hi : ∃ ie z, Tryz.prog.info? e = some ie ∧ ie.zero = some z ∧ ie.size = size ∧ ie.bytes = bytes ∧ z.cells.size = size) (h0 : 0 < size) (hby : bytes ≤ 4096)
    (s x : Operand) (ho : o.op = .call { callee := .builtin .append, args := #[s, x], argTypes := #[t, t] })
    (v : Value) (k : Nat) (xs : List Value) (U : Nat → Prop) (hs : a.eval s = v) (h : Oe e size W v k xs U) (N : Nat) (news : List Value) (hx : a.eval x = .slice (some ⟨N, 0, none⟩) 1 1) (hN : N = W.heap.size) (hl : news.length = size) (h1 : ∀ u ∈ news, u.oneCell' = true) (hm : k + 1 ≤ 1073741824)
    (hK : ∀ v' w', Oe e size w' v' (k + 1) (xs ++ news) U → Kp U W w' → wpList Tryz.prog ops Q rest (a.put o.dst v') w') : wpList Tryz.prog ops Q (o :: rest) a (W.alloc (.cells news.toArray e)) := by
  subst hN
  have hb : Below W.heap.size W (W.alloc (.cells news.toArray e)) := (Below.refl _ _).alloc (Nat.le_refl _) _
  refine wp_appE hgd t e size bytes ht hi h0 hby s x ho v k xs U hs (h.below hb) _ 1 1 news hx (by omega) (World.news_of_block (heap_alloc_new W _)) h1 hm fun v' w' h2 h3 => hK v' w' h2 ((Kp.of_below hb fun b hu => (h.2 b hu).1).trans h3)
/-- A ledger's cells. -/
def lcs (sv h : Nat) : List Value := [.int .i64 (if sv = h then 1 else 0), .int .i64 0, .int .i64 h]
theorem lcs_flat (h j : Nat) : (List.range (j + 1)).flatMap (fun i => lcs i h) = (List.range j).flatMap (fun i => lcs i h) ++ lcs j h := by
  rw [List.range_succ, List.flatMap_append]
  simp
theorem lcs_len (h n : Nat) : ((List.range n).flatMap (fun i => lcs i h)).length = n * 3 := by
  induction n with
  | zero => rfl
  | succ n ih => rw [lcs_flat, List.length_append, ih]; simp [lcs]; omega
theorem lcs_get (h n i q : Nat) (hi : i < n) (hq : q < 3) : ((List.range n).flatMap (fun i => lcs i h))[i * 3 + q]? = (lcs i h)[q]? := by
  induction n with
  | zero => omega
  | succ n ih =>
    rw [lcs_flat]
    by_cases hin : i < n
    · rw [List.getElem?_append_left (by rw [lcs_len]; omega)]
      exact ih hin
    · obtain rfl : i = n := by omega
      rw [List.getElem?_append_right (by rw [lcs_len]; omega), lcs_len]
      congr 1
      omega
theorem lr_of {w : World} {v : Value} {n h : Nat} {U : Nat → Prop} (ho : Oe 41 3 w v n ((List.range n).flatMap fun i => lcs i h) U) (hn : 0 < n) : ∃ g cap, v = .slice (some ⟨g, 0, none⟩) n cap ∧ LR w g n h ∧ ¬ U g := by
  have h0 := ho.1
  obtain ⟨hl, h1 | ⟨g, cap, cur, rfl, -, hg, hc, -, -, -⟩⟩ := ho.1
  · omega
  · refine ⟨g, cap, rfl, ⟨(Array.getElem?_eq_some_iff.1 hg).1, fun i hi => ⟨?_, ?_, ?_⟩⟩, fun hu => (ho.2 g hu).2 rfl⟩
    · exact (h0.cellAt (i * 3) (by omega)).trans (lcs_get h n i 0 hi (by omega))
    · exact (h0.cellAt (i * 3 + 1) (by omega)).trans (lcs_get h n i 1 hi (by omega))
    · exact (h0.cellAt (i * 3 + 2) (by omega)).trans (lcs_get h n i 2 hi (by omega))
set_option maxRecDepth 100000 in
theorem eachl_calls (w : World) (a n m : Nat) (H : Nat → Nat) (h : Aud w a n m H) (x : Nat) (hx : x < m) (hm : m ≤ 64) (hn0 : 1 ≤ n) (hn : n ≤ 8) : Calls Tryz.prog 31 #[.pointer (some ⟨a, 0, none⟩), .int .i64 x, .func (.func 9) #[.pointer (some ⟨a, 0, none⟩)] #[]] w fun r w' => ∃ g cap, r = .returned (.slice (some ⟨g, 0, none⟩) n cap) ∧ LR w' g n (H x) ∧ w.heap.size ≤ g ∧ Below w.heap.size w w' := by
  obtain ⟨c0, -⟩ := h.two
  have HA := Lib.hid h
  clear h
  go_enter Tryz.func31, Tryz.ntmps31
  go_wp2_with (first
    | (go_at_call 21; refine (ashard_true w a n m H HA.out x hx).mono ?_; rintro y w' ⟨rfl, hw⟩; obtain rfl := hw.symm))
  go_loopw [7, 20] (fun v i wr => ∃ j : Nat, j ≤ n ∧ i = .int .i64 j ∧ Oe 41 3 wr v j ((List.range j).flatMap fun i => lcs i (H x)) (· < w.heap.size) ∧ Below w.heap.size w wr) (fun _ i _ => n - (intOf i).toNat)
  case atStart => exact ⟨0, by omega, rfl, Oe.nil fun _ h => h, Below.refl _ _⟩
  case round =>
    obtain ⟨j, hj, rfl, ho, hb⟩ := hrel
    by_cases hjn : j < n
    · obtain ⟨ph, hph⟩ : ∃ ph : Int, ph = (if j = H x then 1 else 0) := ⟨_, rfl⟩
      have hL : led j (H x) = .agg #[.int .i64 ph, .int .i64 0, .int .i64 (H x)] := by rw [hph]; rfl
      have hC : lcs j (H x) = [.int .i64 ph, .int .i64 0, .int .i64 (H x)] := by rw [hph]; rfl
      have HLD := aledger_calls wr a n m H (HA.out.below hb) j x hjn hx hm
      rw [hL] at HLD
      have HR := Lib.hid (show _ ∧ _ ∧ _ ∧ _ from ⟨ho, hb, HLD, hC⟩)
      clear ho hb HLD hph hL hC
      go_wp2_with (first
        | (go_at_call 9; refine HR.out.2.2.1.mono ?_; rintro y w1 ⟨rfl, hb1⟩; have H1 := Lib.hid hb1; clear hb1)
        | (refine wp_appE1 rfl 55 41 3 24 Tryz.underlying55 ⟨_, _, rfl, rfl, rfl, rfl, rfl⟩ (by decide) (by decide) (.tmp 32) (.tmp 34) rfl _ j _ _ rfl ((HR.out.1.below H1.out).below ((Below.refl _ _).alloc (Nat.le_refl _) _)) _ [.int .i64 ph, .int .i64 0, .int .i64 (H x)] rfl (by simp) rfl (by simp [Value.oneCell']) (by omega) ?_; intro v2 w2 ho2 hk2; have H2 := Lib.hid (show _ ∧ _ from ⟨ho2, hk2⟩); clear ho2 hk2))
      exact ⟨⟨j + 1, by omega, by go_num, by rw [lcs_flat, HR.out.2.2.2]; exact H2.out.1, HR.out.2.1.trans (((H1.out.mono HR.out.2.1.size).trans (((Below.refl _ _).alloc (by have := HR.out.2.1.size; have := H1.out.size; omega) _).trans H2.out.2.to_below)))⟩, by simp [intOf]; omega⟩
    · obtain rfl : j = n := by omega
      obtain ⟨g, cap, rfl, hlr, hg⟩ := lr_of ho hn0
      go_wp2
      go_ret
      exact ⟨g, cap, rfl, hlr, by omega, hb⟩
theorem arow_calls (w : World) (a n m : Nat) (H : Nat → Nat) (h : Aud w a n m H) (x : Nat) (hx : x < m) (hm : m ≤ 64) (hn0 : 1 ≤ n) (hn : n ≤ 8) : Calls Tryz.prog 16 #[.pointer (some ⟨a, 0, none⟩), .int .i64 x] w fun r w' => ∃ g cap, r = .returned (.slice (some ⟨g, 0, none⟩) n cap) ∧ LR w' g n (H x) ∧ w.heap.size ≤ g ∧ Below w.heap.size w w' := by
  have HA := Lib.hid h
  clear h
  go_enter Tryz.func16, Tryz.ntmps16
  go_wp2_with (first
    | (go_at_call 31; refine (eachl_calls w a n m H HA.out x hx hm hn0 hn).mono ?_; rintro y w1 ⟨g, cap, rfl, h1, h2, h3⟩; have H1 := Lib.hid (show _ ∧ _ ∧ _ from ⟨h1, h2, h3⟩); clear h1 h2 h3))
  go_ret
  exact ⟨g, cap, rfl, H1.out⟩
theorem arow_nil (w : World) (x : Int) : Calls Tryz.prog 16 #[.pointer none, .int .i64 x] w fun r w' => r = .returned (.slice none 0 0) ∧ w' = w := by
  have he : Calls Tryz.prog 31 #[.pointer none, .int .i64 x, .func (.func 9) #[.pointer none] #[]] w fun r w' => r = .returned (.slice none 0 0) ∧ w' = w := by
    go_enter Tryz.func31, Tryz.ntmps31
    go_wp2_with (first
      | (go_at_call 21; refine (ashard_nil w x).mono ?_; rintro y w' ⟨rfl, hw⟩; obtain rfl := hw.symm))
    go_ret
    exact ⟨rfl, rfl⟩
  have HE := Lib.hid he
  clear he
  go_enter Tryz.func16, Tryz.ntmps16
  go_wp2_with (first
    | (go_at_call 31; refine HE.out.mono ?_; rintro y w1 ⟨rfl, hw⟩; obtain rfl := hw.symm))
  go_ret
  exact ⟨rfl, rfl⟩
end Go.Proofs.YtokflmiijdpchaaGreat
