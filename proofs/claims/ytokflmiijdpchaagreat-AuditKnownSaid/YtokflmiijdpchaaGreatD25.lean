/- A writer of bytes. A writer's texts, fixed numbers, and what it hands over. -/
import Derived.Test.YtokflmiijdpchaaGreatD24
import Derived.Lib.AppendZeros
namespace Go.Proofs.YtokflmiijdpchaaGreat
open Go.RowKit
/-- A writer with these bytes; U stays. -/
def Wr (w : World) (b room : Nat) (bs : List Value) (U : Nat → Prop) : Prop := (∃ v, w.heap[b]? = some (.cells #[.int .i64 room, v, .slice none 0 0, .int .i64 0] 297 (0, 0)) ∧ Ou w v bs (fun q => U q ∨ q = b)) ∧ ¬ U b
theorem Wr.lt {w : World} {b room : Nat} {bs : List Value} {U : Nat → Prop} (h : Wr w b room bs U) {q : Nat} (hq : U q) : q < w.heap.size := let ⟨⟨_, _, h2⟩, _⟩ := h; (h2.2 q (.inl hq)).1
theorem Wr.below {w w' : World} {b room : Nat} {bs : List Value} {U : Nat → Prop} (h : Wr w b room bs U) (hb : Below w.heap.size w w') : Wr w' b room bs U := by
  obtain ⟨⟨v, h1, h2⟩, h3⟩ := h
  exact ⟨⟨v, (hb.block b (Array.getElem?_eq_some_iff.1 h1).1).trans h1, h2.below hb⟩, h3⟩
theorem Wr.mono {w : World} {b room : Nat} {bs : List Value} {U V : Nat → Prop} (h : Wr w b room bs U) (hv : ∀ q, V q → U q) : Wr w b room bs V := by
  obtain ⟨⟨v, h1, h2⟩, h3⟩ := h
  exact ⟨⟨v, h1, h2.mono fun q hq => hq.imp (hv q) id⟩, fun e => h3 (hv _ e)⟩
/-- What is new since stays, too. -/
theorem Wr.more {w w' : World} {b room : Nat} {bs : List Value} {U : Nat → Prop} (h : Wr w b room bs U) (hb : Below w.heap.size w w') : Wr w' b room bs (fun q => U q ∨ (w.heap.size ≤ q ∧ q < w'.heap.size)) := by
  obtain ⟨⟨v, h1, h2⟩, h3⟩ := h
  have hlt := (Array.getElem?_eq_some_iff.1 h1).1
  refine ⟨⟨v, (hb.block b hlt).trans h1, (h2.more hb).mono fun q hq => ?_⟩, fun e => e.elim h3 (by omega)⟩
  rcases hq with (hq | hq) | hq
  · exact .inl (.inl hq)
  · exact .inr hq
  · exact .inl (.inr hq)
theorem pnew_calls (w : World) (room : Nat) : Calls Tryz.prog 137 #[.int .i64 room] w fun e w' => e = .returned (.pointer (some ⟨w.heap.size, 0, none⟩)) ∧ Wr w' w.heap.size room [] (· < w.heap.size) ∧ Below w.heap.size w w' := by
  have h0 : (0 : Int) ≤ room := by omega
  go_enter Tryz.func137, Tryz.ntmps137
  go_wp2
  go_ret
  refine ⟨rfl, ⟨⟨_, heap_alloc_new w _, Ou.nil fun b hb => ?_⟩, fun h => absurd h (by simp)⟩, (Below.refl _ _).alloc (Nat.le_refl _) _⟩
  simp
  omega
theorem Ou.grown {w w' : World} {v : Value} {xs : List Value} {U : Nat → Prop} {b : Nat} (h : Ou w v xs U) (hg : w.grownBy w' (some b)) (hb : U b) : Ou w' v xs U := ⟨h.1.kept hg (.inr (h.2 b hb).2), fun q hq => ⟨Nat.lt_of_lt_of_le (h.2 q hq).1 hg.size, (h.2 q hq).2⟩⟩
theorem wr_set {w : World} {b room : Nat} {bs : List Value} {U : Nat → Prop} {v u : Value} (hb : w.heap[b]? = some (.cells #[.int .i64 room, u, .slice none 0 0, .int .i64 0] 297 (0, 0))) (ho : Ou w v bs (fun q => U q ∨ q = b)) (hu : ¬ U b) : Wr (w.setCell ⟨b, 1, none⟩ v) b room bs U := by
  refine ⟨⟨v, ?_, ho.grown (set_grown w _ v) (.inr rfl)⟩, hu⟩
  simp only [World.setCell, Array.getElem?_modify, if_true, hb]
  rfl
theorem whole_calls (w : World) (b room : Nat) (bs : List Value) (U : Nat → Prop) (h : Wr w b room bs U) : Calls Tryz.prog 244 #[.pointer (some ⟨b, 0, none⟩)] w fun e w' => e = .returned (.bool true) ∧ w' = w := by
  obtain ⟨⟨v, h1, -⟩, -⟩ := h
  have c3 := (cellD h1 3).1
  clear h1
  go_enter Tryz.func244, Tryz.ntmps244
  go_wp2
  go_ret
  exact ⟨rfl, rfl⟩
set_option maxRecDepth 100000 in
set_option maxHeartbeats 2000000 in
theorem lay_calls (w : World) (b room : Nat) (bs : List Value) (U : Nat → Prop) (h : Wr w b room bs U) (hroom : room ≤ 1099511627776) (g o n c : Nat) (ps : List Value) (hl : ps.length = n) (hr : w.rangeAt g o ps) (h1 : ∀ u ∈ ps, u.oneCell' = true) (hfit : bs.length + n ≤ room) :
    Calls Tryz.prog 204 #[.pointer (some ⟨b, 0, none⟩), .slice (some ⟨g, o, none⟩) n c] w fun e w' => e = .returned (.tuple #[]) ∧ Wr w' b room (bs ++ ps) U ∧ Kp U w w' := by
  have HW := Lib.hid h
  obtain ⟨⟨v, hb, ho⟩, hub⟩ := h
  obtain ⟨aa, cc, rfl, -, -⟩ := ho.form
  have c0 := (cellD hb 0).1
  have c1 := (cellD hb 1).1
  have HO := Lib.hid (show _ ∧ _ ∧ _ ∧ _ from ⟨hb, ho, hr, h1⟩)
  clear hb ho hr h1
  have hw1 : wrap64 ((room : Int) - bs.length) = room - bs.length := by simp only [wrap64]; omega
  go_enter Tryz.func204, Tryz.ntmps204
  go_wp2_with (first
    | (go_at_call 244; refine (whole_calls _ b room bs U HW.out).mono ?_; rintro e w' ⟨rfl, hw⟩; obtain rfl := hw.symm))
  go_region
  all_goals go_wp2_with (first
    | (refine wp_app rfl (.tmp 8) (.tmp 9) rfl _ bs _ rfl HO.out.2.1 ⟨g, o, none⟩ n c ps rfl hl (fun j u hu => by have := HO.out.2.2.1 j u hu; unfold Addr.add; split <;> simp_all) HO.out.2.2.2 (by omega) ?_; intro v2 w2 ho2 hk2; obtain ⟨a2, c2, rfl, -, -⟩ := ho2.form; have hb2 := (hk2.block b (.inr rfl)).trans HO.out.1; have m1 := (cellD hb2 1).1; have m1f := (cellD hb2 1).2; have H2 := Lib.hid (show _ ∧ _ ∧ _ from ⟨ho2, hk2, hb2⟩); clear ho2 hk2 hb2))
  first | go_end0 | refine bodyPost_ret (results_none rfl _ _ _) rfl ?_
  refine ⟨rfl, wr_set H2.out.2.2 (by have := H2.out.1; rwa [List.length_append, hl] at this) hub, ?_⟩
  have hk : Kp (fun q => U q ∨ q = b) w w2 := ⟨H2.out.2.1.os, H2.out.2.1.tape, H2.out.2.1.output, H2.out.2.1.size, H2.out.2.1.block⟩
  exact (hk.mono fun q hq => .inl hq).set _ _ fun q hq => ⟨Nat.lt_of_lt_of_le (HW.out.lt hq) hk.size, fun e => hub (by rw [show q = b from e] at hq; exact hq)⟩
theorem byte_calls (w : World) (b room : Nat) (bs : List Value) (U : Nat → Prop) (h : Wr w b room bs U) (hroom : room ≤ 1099511627776) (x : Nat) (hx : x < 256) (hfit : bs.length + 1 ≤ room) :
    Calls Tryz.prog 138 #[.pointer (some ⟨b, 0, none⟩), .int .i64 x] w fun e w' => e = .returned (.tuple #[]) ∧ Wr w' b room (bs ++ [.int .u8 x]) U ∧ Kp U w w' := by
  have HW := Lib.hid h
  clear h
  have hb1 : ∀ o : Obj, Below w.heap.size w (w.alloc o) := fun o => (Below.refl _ _).alloc (Nat.le_refl _) _
  have HR := Lib.hid (show (w.alloc (.cells #[.int .u8 x] 5)).rangeAt w.heap.size 0 [.int .u8 x] from by simpa using range_whole (heap_alloc_new w (.cells #[.int .u8 x] 5)))
  go_enter Tryz.func138, Tryz.ntmps138
  go_wp2_with (first
    | (go_at_call 204; refine (lay_calls _ b room bs U (HW.out.below (hb1 _)) hroom w.heap.size 0 1 1 [.int .u8 x] rfl HR.out (by simp [Value.oneCell']) hfit).mono ?_; rintro e w2 ⟨rfl, hw2, hk2⟩; have H2 := Lib.hid (show _ ∧ _ from ⟨hw2, hk2⟩); clear hw2 hk2))
  first | go_end0 | refine bodyPost_ret (results_none rfl _ _ _) rfl ?_
  exact ⟨rfl, H2.out.1, (Kp.of_below (hb1 _) fun q hq => HW.out.lt hq).trans H2.out.2⟩
theorem made_ou {w : World} {g cap : Nat} {c : Array Value} (hg : w.heap[g]? = some (.cells c 5 (0, 0))) (hs : c.size = cap) (hc : cap ≤ maxLen) {U : Nat → Prop} (hu : ∀ b, U b → b < w.heap.size ∧ b ≠ g) : Ou w (.slice (some ⟨g, 0, none⟩) 0 cap) [] U := ⟨⟨rfl, .inr ⟨g, cap, c, rfl, Nat.zero_le _, hg, Nat.zero_le _, hc, by omega, by simp⟩⟩, fun b hb => ⟨(hu b hb).1, fun e => (hu b hb).2 (Option.some.inj e).symm⟩⟩
set_option maxRecDepth 100000 in
set_option maxHeartbeats 2000000 in
theorem form_calls (w : World) (x : Nat) (hx : x < 128) : Calls Tryz.prog 210 #[.int .u64 x] w fun e w' => ∃ g c, e = .returned (.slice (some ⟨g, 0, none⟩) 1 c) ∧ w'.rangeAt g 0 [.int .u8 x] ∧ Below w.heap.size w w' ∧ w.heap.size ≤ g ∧ g < w'.heap.size := by
  go_enter Tryz.func210, Tryz.ntmps210
  obtain ⟨ie, z, hie, hze, hisz, hib, hzs⟩ : ∃ ie z, Tryz.prog.info? 5 = some ie ∧ ie.zero = some z ∧ ie.size = 1 ∧ ie.bytes = 1 ∧ z.cells.size = 1 := ⟨_, _, rfl, rfl, rfl, rfl, rfl⟩
  go_wp2_with (first
    | (at_make; refine wpList_make_own _ rfl _ _ 23 rfl 0 5 ie z 1 Tryz.underlying23 hie hze hisz .i64 .i64 10 10 rfl rfl rfl (by rw [hib]; decide) (by unfold maxLen; omega) (Nat.zero_le _) ?_; intro w1 hown hg1; have H1 := Lib.hid (show Ou w1 (.slice (some ⟨w.heap.size, 0, none⟩) 0 10) [] (· < w.heap.size) ∧ Below w.heap.size w w1 from ⟨⟨hown, fun b hb => ⟨Nat.lt_of_lt_of_le hb hg1.size, by simp [Value.ownBlock]; omega⟩⟩, Below.of_grown hg1⟩); clear hown hg1))
  go_loopw [0, 3] (fun v p wr => v = .int .u64 x ∧ p = .slice (some ⟨w.heap.size, 0, none⟩) 0 10 ∧ wr = w1) (fun _ _ _ => 0)
  case atStart => exact ⟨rfl, rfl, rfl⟩
  case round =>
    obtain ⟨rfl, rfl, hw⟩ := hrel
    obtain rfl := hw.symm
    go_wp2_with (first
      | (refine wp_app1 rfl (.tmp 15) (.tmp 18) rfl _ [] (· < w.heap.size) rfl H1.out.1 _ rfl rfl _ rfl (by decide) ?_; intro v2 w2 ho2 hk2; have H2 := Lib.hid (show _ ∧ _ from ⟨ho2, hk2⟩); clear ho2 hk2))
    obtain ⟨a2, c2, rfl, -, hf⟩ := H2.out.1.form
    obtain ⟨g, rfl, hgl, hgu, hgr⟩ := hf (by simp)
    go_ret
    exact ⟨g, ⟨c2, rfl⟩, hgr, H1.out.2.trans ((H2.out.2.to_below)), by omega, hgl⟩
theorem num_calls (w : World) (b room : Nat) (bs : List Value) (U : Nat → Prop) (h : Wr w b room bs U) (hroom : room ≤ 1099511627776) (x : Nat) (hx : x < 128) (hfit : bs.length + 1 ≤ room) :
    Calls Tryz.prog 219 #[.pointer (some ⟨b, 0, none⟩), .int .u64 x] w fun e w' => e = .returned (.tuple #[]) ∧ Wr w' b room (bs ++ [.int .u8 x]) U ∧ Kp U w w' := by
  have HW := Lib.hid h
  clear h
  go_enter Tryz.func219, Tryz.ntmps219
  go_wp2_with (first
    | (go_at_call 210; refine (form_calls _ x hx).mono ?_; rintro e w1 ⟨g, c, rfl, hr1, hb1, hg1, hg1'⟩; have H1 := Lib.hid (show _ ∧ _ from ⟨hr1, hb1⟩); clear hr1 hb1)
    | (go_at_call 204; refine (lay_calls _ b room bs U (HW.out.below H1.out.2) hroom g 0 1 c [.int .u8 x] rfl H1.out.1 (by simp [Value.oneCell']) hfit).mono ?_; rintro e w2 ⟨rfl, hw2, hk2⟩; have H2 := Lib.hid (show _ ∧ _ from ⟨hw2, hk2⟩); clear hw2 hk2))
  first | go_end0 | refine bodyPost_ret (results_none rfl _ _ _) rfl ?_
  exact ⟨rfl, H2.out.1, (Kp.of_below H1.out.2 fun q hq => HW.out.lt hq).trans H2.out.2⟩
end Go.Proofs.YtokflmiijdpchaaGreat
namespace Go.Proofs.YtokflmiijdpchaaGreat
open Go.RowKit
theorem own_cells {w : World} {g n : Nat} {xs : List Value} (h : w.ownsRow 0 5 1 (.slice (some ⟨g, 0, none⟩) n n) n xs) : ∃ c, w.heap[g]? = some (.cells c 5 (0, 0)) ∧ c.size = n := by
  rcases h.2 with ⟨h0, -⟩ | ⟨g', cap, cur, hv, -, hg, -, -, hs, -⟩
  · cases h0
  · cases hv
    exact ⟨cur, hg, by omega⟩
set_option maxRecDepth 100000 in
theorem wp_appz {W : World} {ops : Array Oper} {rest : List Oper} {o : Oper} {a : Act} {Q : Exit → Act → World → Prop} (hgd : o.guard = none) (s x : Operand) (ho : o.op = .call { callee := .builtin .append, args := #[s, x], argTypes := #[23, 3] })
    (hs : a.eval s = .slice none 0 0) (n : Nat) (hx : a.eval x = .int .i64 n) (h0 : 0 < n) (h1 : n ≤ 1099511627776)
    (hK : ∀ cap w', n ≤ cap → cap ≤ maxLen → (∃ c, w'.heap[W.heap.size]? = some (.cells c 5 (0, 0)) ∧ c.size = cap) → Below W.heap.size W w' → wpList Tryz.prog ops Q rest (a.put o.dst (.slice (some ⟨W.heap.size, 0, none⟩) n cap)) w') : wpList Tryz.prog ops Q (o :: rest) a W :=
  wpList_plain hgd fun _ hk => by
    obtain ⟨ie, z, hie, hze, hisz, hib, hzs⟩ : ∃ ie z, Tryz.prog.info? 5 = some ie ∧ ie.zero = some z ∧ ie.size = 1 ∧ ie.bytes = 1 ∧ z.cells.size = 1 := ⟨_, _, rfl, rfl, rfl, rfl, rfl⟩
    have hr := Lib.run_append_nil_zeros W 23 3 o.type 5 ie z .i64 .i64 Tryz.underlying23 Tryz.underlying3 hie hze n h0 (by omega) (by omega) (by rw [hib]; omega)
    have hG := grownCap_ge W n 0 5
    have hG2 := grownCap_le_maxLen W n 0 5 (by unfold maxLen; omega)
    unfold Oper.wp execOp
    simp only [ho, resolve, invoke, builtin, Sem.run_bind, Sem.run_pure, Result.andThen_ok, List.map_toArray, List.map_cons, List.map_nil, hs, hx, hr]
    refine hk _ _ (hK _ _ hG hG2 ⟨_, heap_alloc_new W.drew _, ?_⟩ ((Below.refl _ _).drew.alloc (by simp) _))
    simp [Builtin.zeroCells, hzs]
    omega
set_option maxRecDepth 100000 in
set_option maxHeartbeats 2000000 in
theorem grow_calls (w : World) (n : Nat) (h0 : 0 < n) (h1 : n ≤ 1099511627776) : Calls Tryz.prog 245 #[.slice none 0 0, .int .i64 n] w fun e w' => ∃ v, e = .returned v ∧ Ou w' v [] (· < w.heap.size) ∧ Below w.heap.size w w' := by
  have hw1 : wrap64 (n : Int) = n := by simp only [wrap64]; omega
  go_enter Tryz.func245, Tryz.ntmps245
  go_wp2_with (first
    | (refine wp_appz rfl (.tmp 20) (.tmp 21) rfl rfl n rfl h0 h1 ?_; intro cap w1 hc0 hc1 hc2 hb1; have hc3 : cap ≤ 9223372036854775807 := (by unfold maxLen at hc1; omega); have H1 := Lib.hid (show _ ∧ _ from ⟨hc2, hb1⟩); clear hc2 hb1))
  go_ret
  obtain ⟨⟨c, hc, hs⟩, hb⟩ := H1.out
  exact ⟨_, rfl, made_ou hc hs hc1 (fun b hq => ⟨Nat.lt_of_lt_of_le hq hb.size, by omega⟩), hb⟩
set_option maxRecDepth 100000 in
set_option maxHeartbeats 2000000 in
theorem concat_calls (w : World) (N g1 g2 n1 n2 k1 k2 : Nat) (xs ys : List Value) (hN : N < w.heap.size) (hg1 : g1 < w.heap.size) (hg2 : g2 < w.heap.size) (hc1 : w.cell? ⟨N, 0, none⟩ = some (.slice (some ⟨g1, 0, none⟩) n1 k1)) (hc2 : w.cell? ⟨N, 1, none⟩ = some (.slice (some ⟨g2, 0, none⟩) n2 k2)) (h1 : xs.length = n1) (h2 : ys.length = n2) (hn1 : 0 < n1) (hm1 : n1 ≤ 1073741824) (hm2 : n2 ≤ 1073741824) (hr1 : w.rangeAt g1 0 xs) (hr2 : w.rangeAt g2 0 ys) (ho1 : ∀ u ∈ xs, u.oneCell' = true) (ho2 : ∀ u ∈ ys, u.oneCell' = true) :
    Calls Tryz.prog 209 #[.slice (some ⟨N, 0, none⟩) 2 2] w fun e w' => ∃ g c, e = .returned (.slice (some ⟨g, 0, none⟩) (n1 + n2) c) ∧ w'.rangeAt g 0 (xs ++ ys) ∧ Below w.heap.size w w' ∧ w.heap.size ≤ g ∧ g < w'.heap.size := by
  have HX := Lib.hid (show _ ∧ _ ∧ _ ∧ _ ∧ _ ∧ _ from ⟨hr1, hr2, ho1, ho2, hc1, hc2⟩)
  clear hr1 hr2 ho1 ho2
  have hw1 : wrap64 (n1 : Int) = n1 := by simp only [wrap64]; omega
  have hw2 : wrap64 ((n1 : Int) + n2) = n1 + n2 := by simp only [wrap64]; omega
  go_enter Tryz.func209, Tryz.ntmps209
  go_wp2
  go_loopw [3, 11] (fun s j wr => wr = w ∧ ((j = .int .i64 0 ∧ s = .int .i64 0) ∨ (j = .int .i64 1 ∧ s = .int .i64 n1) ∨ (j = .int .i64 2 ∧ s = .int .i64 (n1 + n2)))) (fun _ j _ => 2 - (intOf j).toNat)
  case atStart => exact ⟨rfl, .inl ⟨rfl, rfl⟩⟩
  case round =>
    obtain ⟨hw, hcase⟩ := hrel
    obtain rfl := hw.symm
    rcases hcase with ⟨rfl, rfl⟩ | ⟨rfl, rfl⟩ | ⟨rfl, rfl⟩
    · go_wp2
      exact ⟨⟨trivial, .inr (.inl ⟨rfl, rfl⟩)⟩, by simp [intOf]⟩
    · go_wp2
      exact ⟨⟨trivial, .inr (.inr ⟨rfl, rfl⟩)⟩, by simp [intOf]⟩
    · clear hc1 hc2
      go_wp2_with (first
        | (go_at_call 245; refine (grow_calls _ (n1 + n2) (by omega) (by omega)).mono ?_; rintro e w1 ⟨v1, rfl, hO1, hb1⟩; have H1 := Lib.hid (show _ ∧ _ from ⟨hO1, hb1⟩); clear hO1 hb1))
      go_loopw [6, 27] (fun v j wr2 => ∃ zs, Ou wr2 v zs (· < w.heap.size) ∧ Kp (· < w.heap.size) w wr2 ∧ ((j = .int .i64 0 ∧ zs = []) ∨ (j = .int .i64 1 ∧ zs = xs) ∨ (j = .int .i64 2 ∧ zs = xs ++ ys))) (fun _ j _ => 2 - (intOf j).toNat)
      case atStart => exact ⟨[], H1.out.1, Kp.of_below H1.out.2 fun _ h => h, .inl ⟨rfl, rfl⟩⟩
      case round =>
        obtain ⟨zs, hO, hk, hcase⟩ := hrel
        have d1 := (World.cell?_of_block (a := ⟨N, 0, none⟩) (hk.block N hN)).trans HX.out.2.2.2.2.1
        have d2 := (World.cell?_of_block (a := ⟨N, 1, none⟩) (hk.block N hN)).trans HX.out.2.2.2.2.2
        have HR := Lib.hid (show _ ∧ _ from ⟨hO, hk⟩)
        have hq1 : wr.rangeAt g1 0 xs := fun j v hv => (World.cell?_of_block (a := ⟨g1, 0 + j, none⟩) (hk.block g1 hg1)).trans (HX.out.1 j v hv)
        have hq2 : wr.rangeAt g2 0 ys := fun j v hv => (World.cell?_of_block (a := ⟨g2, 0 + j, none⟩) (hk.block g2 hg2)).trans (HX.out.2.1 j v hv)
        have HQ := Lib.hid (show _ ∧ _ from ⟨hq1, hq2⟩)
        clear hO hk hq1 hq2
        rcases hcase with ⟨rfl, rfl⟩ | ⟨rfl, rfl⟩ | ⟨rfl, rfl⟩
        · go_wp2_with (first
            | (refine wp_app rfl (.tmp 31) (.tmp 32) rfl _ [] _ rfl HR.out.1 ⟨g1, 0, none⟩ n1 k1 xs rfl h1 (fun j u hu => by have := HQ.out.1 j u hu; unfold Addr.add; split <;> simp_all) HX.out.2.2.1 (by simp; omega) ?_; intro v2 w2 ho2 hk2; have H2 := Lib.hid (show _ ∧ _ from ⟨ho2, hk2⟩); clear ho2 hk2))
          exact ⟨⟨_, H2.out.1, HR.out.2.trans H2.out.2, .inr (.inl ⟨rfl, by simp⟩)⟩, by simp [intOf]⟩
        · go_wp2_with (first
            | (refine wp_app rfl (.tmp 31) (.tmp 32) rfl _ zs _ rfl HR.out.1 ⟨g2, 0, none⟩ n2 k2 ys rfl h2 (fun j u hu => by have := HQ.out.2 j u hu; unfold Addr.add; split <;> simp_all) HX.out.2.2.2.1 (by omega) ?_; intro v2 w2 ho2 hk2; have H2 := Lib.hid (show _ ∧ _ from ⟨ho2, hk2⟩); clear ho2 hk2))
          exact ⟨⟨_, H2.out.1, HR.out.2.trans H2.out.2, .inr (.inr ⟨rfl, rfl⟩)⟩, by simp [intOf]⟩
        · obtain ⟨a2, c2, rfl, -, hf⟩ := HR.out.1.form
          obtain ⟨g, rfl, hgl, hgu, hgr⟩ := hf (by intro e; simp at e; rw [e.1] at h1; simp at h1; omega)
          go_wp2
          go_ret
          exact ⟨g, ⟨c2, rfl⟩, hgr, HR.out.2.to_below, by omega, hgl⟩
set_option maxRecDepth 100000 in
set_option maxHeartbeats 2000000 in
theorem text_calls (w : World) (b room : Nat) (bs : List Value) (U : Nat → Prop) (h : Wr w b room bs U) (hroom : room ≤ 1099511627776) (g n c : Nat) (hg : g < w.heap.size) (ps : List Value) (hl : ps.length = n) (hn : n < 128) (hr : w.rangeAt g 0 ps) (h1 : ∀ u ∈ ps, u.oneCell' = true) (hfit : bs.length + (1 + n) ≤ room) :
    Calls Tryz.prog 140 #[.pointer (some ⟨b, 0, none⟩), .slice (some ⟨g, 0, none⟩) n c] w fun e w' => e = .returned (.tuple #[]) ∧ Wr w' b room (bs ++ .int .u8 n :: ps) U ∧ Kp U w w' := by
  have HW := Lib.hid (show _ ∧ _ ∧ _ from ⟨h, hr, h1⟩)
  clear h hr h1
  go_enter Tryz.func140, Tryz.ntmps140
  go_wp2_with (first
    | (go_at_call 210; refine (form_calls _ n hn).mono ?_; rintro e w1 ⟨g1, c1, rfl, hr1, hb1, hg1, hg1'⟩; have H1 := Lib.hid (show _ ∧ _ from ⟨hr1, hb1⟩); have hs1 := hb1.size; clear hr1 hb1)
    | (go_at_call 209; refine (concat_calls _ w1.heap.size g1 g 1 n c1 c [.int .u8 n] ps (by simp) (by simp; omega) (by simp; omega) (cellD (heap_alloc_new w1 _) 0).1 (cellD (heap_alloc_new w1 _) 1).1 rfl hl (by omega) (by omega) (by omega) (range_below H1.out.1 ((Below.refl _ _).alloc (Nat.le_refl _) _) hg1') (range_below (range_below HW.out.2.1 H1.out.2 hg) ((Below.refl _ _).alloc (Nat.le_refl _) _) (by omega)) (by simp [Value.oneCell']) HW.out.2.2).mono ?_; rintro e w2 ⟨g2, c2, rfl, hr2, hb2, hg2, hg2'⟩; have H2 := Lib.hid (show _ ∧ _ from ⟨hr2, (((Below.refl w1.heap.size w1).alloc (Nat.le_refl _) _).trans (hb2.mono (by simp)))⟩); clear hr2 hb2)
    | (go_at_call 204; refine (lay_calls _ b room bs U ((HW.out.1.below H1.out.2).below H2.out.2) hroom g2 0 (1 + n) c2 (.int .u8 n :: ps) (by simp [hl]; omega) H2.out.1 (List.forall_mem_cons.2 ⟨rfl, HW.out.2.2⟩) hfit).mono ?_; rintro e w3 ⟨rfl, hw3, hk3⟩; have H3 := Lib.hid (show _ ∧ _ from ⟨hw3, hk3⟩); clear hw3 hk3))
  first | go_end0 | refine bodyPost_ret (results_none rfl _ _ _) rfl ?_
  exact ⟨rfl, H3.out.1, ((Kp.of_below H1.out.2 fun q hq => HW.out.1.lt hq).trans (Kp.of_below H2.out.2 fun q hq => (HW.out.1.below H1.out.2).lt hq)).trans H3.out.2⟩
theorem wp_copy_all {W : World} {ops : Array Oper} {rest : List Oper} {o : Oper} {a : Act} {Q : Exit → Act → World → Prop} (hgd : o.guard = none) (d s : Operand) (ho : o.op = .call { callee := .builtin .copy, args := #[d, s], argTypes := #[23, 23] })
    (b n dCap : Nat) (cur : Array Value) (hb : W.heap[b]? = some (.cells cur 5 (0, 0))) (hcs : cur.size = n) (hd : a.eval d = .slice (some ⟨b, 0, none⟩) n dCap) (A o1 c : Nat) (cs : List Value) (hs : a.eval s = .slice (some ⟨A, o1, none⟩) n c) (hr : W.rangeAt A o1 cs) (hl : cs.length = n) (hu : ∀ u ∈ cs, u.oneCell' = true)
    (hK : ∀ w', w'.heap[b]? = some (.cells cs.toArray 5 (0, 0)) → W.grownBy w' (some b) → wpList Tryz.prog ops Q rest (a.put o.dst (goInt n)) w') : wpList Tryz.prog ops Q (o :: rest) a W := by
  refine wpList_copy_own hgd d s 23 23 ho 5 Tryz.underlying23 u8_size b 0 n dCap ⟨A, o1, none⟩ n c hd hs cur 5 hb cs (by rw [hl]; exact (Nat.min_self n).symm) (fun j v hv => by have := hr j v hv; unfold Addr.add; split <;> simp_all) (by omega) hu ?_
  rw [hl]
  refine hK _ ?_ ⟨rfl, rfl, rfl, by simp, fun k hk hne => setRow_other W b k _ (fun e => hne (by rw [e]))⟩
  rw [setRow_heap W b cur _ _ _ hb]
  have : cur.toList.take 0 ++ (cs ++ cur.toList.drop (0 + n)) = cs := by
    rw [List.take_zero, List.nil_append, Nat.zero_add, List.drop_of_length_le (by simp [hcs]), List.append_nil]
  rw [this]
set_option maxRecDepth 100000 in
set_option maxHeartbeats 2000000 in
theorem done_calls (w : World) (b room : Nat) (bs : List Value) (U : Nat → Prop) (h : Wr w b room bs U) (hne : bs ≠ []) (hm : bs.length ≤ 1073741824) (h1 : ∀ u ∈ bs, u.oneCell' = true) :
    Calls Tryz.prog 141 #[.pointer (some ⟨b, 0, none⟩)] w fun e w' => ∃ g, e = .returned (.tuple #[.slice (some ⟨g, 0, none⟩) bs.length bs.length, .int .i64 0]) ∧ w'.rangeAt g 0 bs ∧ Below w.heap.size w w' ∧ w.heap.size ≤ g ∧ g < w'.heap.size := by
  obtain ⟨ie, z, hie, hze, hisz, hib, hzs⟩ : ∃ ie z, Tryz.prog.info? 5 = some ie ∧ ie.zero = some z ∧ ie.size = 1 ∧ ie.bytes = 1 ∧ z.cells.size = 1 := ⟨_, _, rfl, rfl, rfl, rfl, rfl⟩
  obtain ⟨⟨v, hb, ho⟩, hub⟩ := h
  obtain ⟨aa, cc, rfl, -, hf⟩ := ho.form
  obtain ⟨g0, rfl, hg0, hgu, hr0⟩ := hf hne
  have hbl := (Array.getElem?_eq_some_iff.1 hb).1
  have c1 := (cellD hb 1).1
  have c2 := (cellD hb 2).1
  have c3 := (cellD hb 3).1
  have HO := Lib.hid (show _ ∧ _ ∧ _ ∧ _ from ⟨hb, ho, hr0, h1⟩)
  clear hb ho hr0 h1 hf hgu
  go_enter Tryz.func141, Tryz.ntmps141
  go_wp2_with (first
    | (at_make; refine wpList_make_full _ rfl _ _ 23 rfl 0 5 ie z 1 Tryz.underlying23 hie hze hisz .i64 .i64 bs.length bs.length bs.length rfl rfl rfl rfl (by rw [hib]; omega) (by unfold maxLen; omega) (Nat.zero_le _) ?_; intro w1 hown hg1; have hb1 := Below.of_grown hg1; have m1 := (World.cell?_of_block (a := ⟨b, 1, none⟩) (hb1.block b hbl)).trans c1; have H1 := Lib.hid (show _ ∧ _ from ⟨hown, hb1⟩); clear hown hg1 hb1)
    | (refine wp_copy_all rfl (.tmp 31) (.tmp 35) rfl w.heap.size bs.length bs.length (Classical.choose (own_cells H1.out.1)) (Classical.choose_spec (own_cells H1.out.1)).1 (Classical.choose_spec (own_cells H1.out.1)).2 rfl g0 0 cc bs rfl (range_below HO.out.2.2.1 H1.out.2 hg0) rfl HO.out.2.2.2 ?_; intro w2 hc2 hg2; have H2 := Lib.hid (show _ ∧ _ from ⟨hc2, hg2⟩); clear hc2 hg2))
  go_ret2
  exact ⟨w.heap.size, rfl, by simpa using range_whole H2.out.1, H1.out.2.grown H2.out.2 H1.out.2.size (fun q hq => by cases hq; exact Nat.le_refl _), Nat.le_refl _, (Array.getElem?_eq_some_iff.1 H2.out.1).1⟩
end Go.Proofs.YtokflmiijdpchaaGreat
