/- The walk of apart. -/
import Derived.Test.YtplfmpcoojkjlaaDoorK72
namespace Go.Proofs.YtplfmpcoojkjlaaDoor
open Go.RowKit Go.Proofs.YtplfmpcoojkjlaaDoorW.PrintWords
theorem OwnB.far {w w1 : World} {base : Nat} {v : Value} {xs : List Int} (h : OwnB w base v xs) (hb : ∀ g, v.ownBlock = some g → w1.heap[g]? = w.heap[g]?) : OwnB w1 base v xs := by
  obtain ⟨h1, h2⟩ := h
  refine ⟨h1, ?_⟩
  rcases h2 with h2 | ⟨g, cap, cur, rfl, hg, hh, r⟩
  · exact .inl h2
  · exact .inr ⟨g, cap, cur, rfl, hg, (hb g rfl).trans hh, r⟩
/-- Texts of one's own, f what they say. -/
def TxInv (w : World) (base : Nat) (vs : List SlH) (f : Nat → List Int) : Prop := ∀ (j : Nat) (s : SlH), vs[j]? = some s → OwnB w base s.v (f j) ∧ (f j).length = s.n
/-- Their blocks are unlike each other, and unlike g. -/
def Unlike (vs : List SlH) (g : Nat) : Prop := (∀ (j : Nat) (s : SlH), vs[j]? = some s → s.v.ownBlock ≠ some g) ∧ ∀ (j k : Nat) (s t : SlH) (b : Nat), vs[j]? = some s → vs[k]? = some t → s.v.ownBlock = some b → t.v.ownBlock = some b → j = k
/-- The first marks. -/
def mkA (i k : Nat) : Int := (37 * (i : Int) + 5 * (k : Int) + 11) % 256
/-- The second marks. -/
def mkB (i k : Nat) : Int := (101 * (i : Int) + 3 * (k : Int) + 60) % 256
def Mkt (m : Nat → Nat → Int) (xs : List Int) (i n : Nat) : Prop := ∀ q, q < n → xs[q]? = some (m i q)
theorem TxInv.store {w : World} {base : Nat} {vs : List SlH} {f : Nat → List Int} (h : TxInv w base vs f) (hu : ∀ (j k : Nat) (s t : SlH) (b : Nat), vs[j]? = some s → vs[k]? = some t → s.v.ownBlock = some b → t.v.ownBlock = some b → j = k) {i g n c : Nat} (hs : vs[i]? = some ⟨some ⟨g, 0, none⟩, n, c⟩) (k : Nat) (x : Int) :
    TxInv (w.setCell ⟨g, k, none⟩ (.int .u8 x)) base vs (fun j => if j = i then (f i).set k x else f j) := by
  intro j s hj
  by_cases hji : j = i
  · subst hji
    rw [hs] at hj
    cases hj
    obtain ⟨h1, h2⟩ := h _ _ hs
    simp only [if_true]
    refine ⟨?_, by rw [List.length_set]; exact h2⟩
    have h3 : w.ownsRow base 5 1 (.slice (some ⟨g, 0, none⟩) n c) n (nums .u8 (f j)) := by
      have h4 := h1
      unfold OwnB at h4
      rw [h2] at h4
      exact h4
    have h5 := (own_store h3 (k : Int) x).1
    rw [Int.toNat_natCast] at h5
    unfold OwnB
    rw [List.length_set, h2]
    exact h5
  · simp only [if_neg hji]
    obtain ⟨h1, h2⟩ := h _ _ hj
    refine ⟨h1.far fun b hb => Below.heap_setCell _ _ _ _ fun e => hji ?_, h2⟩
    have e' : b = g := e
    subst e'
    exact hu j i s _ b hj hs hb rfl
theorem own_blk (A : Option Addr) (n c : Nat) : (Value.slice A n c).ownBlock = A.map (·.block) := by cases A <;> rfl
/-- A row of one's own begins at its block's first place. -/
theorem OwnB.first {w : World} {base n c : Nat} {A : Option Addr} {xs : List Int} (h : OwnB w base (.slice A n c) xs) : A = none ∨ ∃ g, A = some ⟨g, 0, none⟩ ∧ g < w.heap.size ∧ base ≤ g := by
  rcases h.2 with ⟨h, _⟩ | ⟨g, cap, cur, he, hg, hh, _⟩
  · injection h with h
    exact .inl h
  · injection he with he
    exact .inr ⟨g, he, (Array.getElem?_eq_some_iff.1 hh).1, hg⟩
theorem OwnS.first {w : World} {base n c : Nat} {t : TypeId} {A : Option Addr} {xs : List SlH} (h : OwnS t w base (.slice A n c) xs) : A = none ∨ ∃ g, A = some ⟨g, 0, none⟩ ∧ g < w.heap.size ∧ base ≤ g := by
  rcases h.2 with ⟨h, _⟩ | ⟨g, cap, cur, he, hg, hh, _⟩
  · injection h with h
    exact .inl h
  · injection he with he
    exact .inr ⟨g, he, (Array.getElem?_eq_some_iff.1 hh).1, hg⟩
theorem OwnS.far {t : TypeId} {w w1 : World} {base n c : Nat} {A : Option Addr} {xs : List SlH} (h : OwnS t w base (.slice A n c) xs) (hb : ∀ g, A.map (·.block) = some g → w1.heap[g]? = w.heap[g]?) : OwnS t w1 base (.slice A n c) xs := by
  obtain ⟨h1, h2⟩ := h
  refine ⟨h1, ?_⟩
  rcases h2 with h2 | ⟨g, cap, cur, he, hg, hh, r⟩
  · exact .inl h2
  · refine .inr ⟨g, cap, cur, he, hg, (hb g ?_).trans hh, r⟩
    injection he with he
    rw [he]
    rfl
theorem OwnB.view {w : World} {base n c : Nat} {A : Option Addr} {xs : List Int} (h : OwnB w base (.slice A n c) xs) : Row w A (nums8 xs) ∧ n = xs.length := by
  have hn : n = xs.length := by
    rcases h.2 with ⟨h1, h2⟩ | ⟨g, cap, cur, he, _⟩
    · injection h1 with _ h1
      omega
    · injection he
  subst hn
  exact ⟨(own_row h).2.1, rfl⟩
/-- What grew out of a text, the text itself still read. -/
theorem OwnB.prefix_row {w : World} {base n c : Nat} {A B : Option Addr} {xs zs : List Int} (h : OwnB w base (.slice A n c) (xs ++ zs)) (hB : B = none ∨ ∃ g, B = some ⟨g, 0, none⟩) (hAB : A.map (·.block) = B.map (·.block)) (hne : B = none → xs = []) : Row w B (nums8 xs) := by
  rcases hB with rfl | ⟨g, rfl⟩
  · rw [hne rfl]
    exact .inl rfl
  · rcases h.first with rfl | ⟨g', rfl, _, _⟩
    · simp at hAB
    · simp only [Option.map_some, Option.some.injEq] at hAB
      subst hAB
      have := h.view.1.take xs.length
      rwa [← nums8_take, List.take_left] at this
/-- Text j, and what grew out of it. -/
def Grown (w : World) (N : Nat) (bo : Option Nat) (s G : SlH) (j : Nat) (xs : List Int) : Prop :=
  G.n = s.n + 80 ∧ Row w s.A (nums8 xs) ∧ ∃ ys, ys.length = 80 ∧ Mkt mkB ys j 80 ∧ Row w G.A (nums8 (xs ++ ys)) ∧ ∀ b o, G.A = some ⟨b, o, none⟩ → b < w.heap.size ∧ (s.v.ownBlock = some b ∨ N ≤ b) ∧ bo ≠ some b
theorem Grown.move {w w' : World} {N : Nat} {bo bo' : Option Nat} {s G : SlH} {j : Nat} {xs : List Int} (h : Grown w N bo s G j xs) (hs : w.heap.size ≤ w'.heap.size) (h1 : ∀ b, s.v.ownBlock = some b → w'.heap[b]? = w.heap[b]?) (h2 : ∀ b, N ≤ b → b < w.heap.size → bo ≠ some b → w'.heap[b]? = w.heap[b]?) (hb : ∀ b, b < w.heap.size → bo ≠ some b → bo' ≠ some b) : Grown w' N bo' s G j xs := by
  obtain ⟨a1, a2, ys, a3, a4, a5, a6⟩ := h
  refine ⟨a1, row_move a2 fun b o e => h1 b (by rw [SlH.v, own_blk, e]; rfl), ys, a3, a4, row_move a5 fun b o e => ?_, fun b o e => ?_⟩
  · obtain ⟨c1, c2, c3⟩ := a6 b o e
    rcases c2 with c2 | c2
    · exact h1 b c2
    · exact h2 b c2 c1 c3
  · obtain ⟨c1, c2, c3⟩ := a6 b o e
    exact ⟨Nat.lt_of_lt_of_le c1 hs, c2, hb b c1 c3⟩
/-- What is none of theirs is as it was. -/
def Others (w w' : World) (vs : List SlH) : Prop := ∀ q, q < w.heap.size → (∀ (j : Nat) (s : SlH), vs[j]? = some s → s.v.ownBlock ≠ some q) → w'.heap[q]? = w.heap[q]?
set_option maxRecDepth 100000 in
set_option maxHeartbeats 4000000 in
theorem apart_calls (w : World) (gA c : Nat) (vs : List SlH) (base : Nat) (f : Nat → List Int) (hrow : Row w (some ⟨gA, 0, none⟩) (encs SlH.v vs)) (hlen : vs.length ≤ 1099511627776) (ht : TxInv w base vs f) (hu : Unlike vs gA) (hn : ∀ (j : Nat) (s : SlH), vs[j]? = some s → s.n ≤ 1099511627776) (hb : base ≤ w.heap.size) (hga : base ≤ gA) :
    Calls Tryd.prog 30 #[.slice (some ⟨gA, 0, none⟩) vs.length c] w fun e w' => e = .returned (.bool true) ∧ Below base w w' ∧ Others w w' vs := by
  have H0 := Lib.hid (show _ ∧ _ ∧ _ ∧ _ ∧ _ ∧ _ ∧ _ from ⟨hrow, hlen, ht, hu, hn, hb, hga⟩)
  clear hrow hlen ht hu hn hb hga
  go_enter Tryd.func30, Tryd.ntmps30
  go_wp2
  go_loopw [3] (fun vi wr => ∃ (i : Nat) (f : Nat → List Int), i ≤ vs.length ∧ vi = .int .i64 i ∧ TxInv wr base vs f ∧ (wr.heap[gA]? = w.heap[gA]? ∧ Others w wr vs) ∧ Below base w wr ∧ ∀ (j : Nat) (s : SlH), j < i → vs[j]? = some s → Mkt mkA (f j) j s.n) (fun vi _ => vs.length - (intOf vi).toNat)
  case atStart => exact ⟨0, f, by omega, rfl, H0.out.2.2.1, ⟨rfl, fun _ _ _ => rfl⟩, Below.refl _ _, fun j s hj => by omega⟩
  case round =>
    obtain ⟨i, f, hi, rfl, ht, hg, hb, hm⟩ := hrel
    have HW := Lib.hid (show _ ∧ _ ∧ _ ∧ _ from ⟨ht, hg, hb, hm⟩)
    clear ht hg hb hm
    by_cases hlt : i < vs.length
    · have hil : (i : Int) < (vs.length : Int) := by omega
      have hil2 : i ≤ 1099511627776 := by have := H0.out.2.1; omega
      obtain ⟨s, hs⟩ : ∃ s, vs[i]? = some s := ⟨_, List.getElem?_eq_getElem hlt⟩
      have hcell : ∀ w' : World, w'.heap[gA]? = w.heap[gA]? → w'.cell? ⟨gA, i, none⟩ = some (.slice s.A s.n s.c) := by
        intro w' he
        have := (row_move (w' := w') H0.out.1 (fun b o e => by cases e; exact he))
        rcases this with h | ⟨b, o, e, _, hc⟩
        · simp [encs] at h; rw [h] at hlt; simp at hlt
        · cases e
          have := hc i s.v (by simp [encs, hs])
          rw [Nat.zero_add] at this
          exact this
      have HC := Lib.hid hcell
      clear hcell
      go_wp2
      go_loopw [4] (fun vk wk => ∃ (k : Nat) (f : Nat → List Int), k ≤ s.n ∧ vk = .int .i64 k ∧ TxInv wk base vs f ∧ (wk.heap[gA]? = w.heap[gA]? ∧ Others w wk vs) ∧ Below base w wk ∧ (∀ (j : Nat) (s : SlH), j < i → vs[j]? = some s → Mkt mkA (f j) j s.n) ∧ Mkt mkA (f i) i k) (fun vk _ => s.n - (intOf vk).toNat)
      case atStart => exact ⟨0, f, by omega, rfl, HW.out.1, HW.out.2.1, HW.out.2.2.1, HW.out.2.2.2, fun q hq => by omega⟩
      case round =>
        obtain ⟨k, f, hk, rfl, ht, hg, hb, hm, hmk⟩ := hrel
        have HK := Lib.hid (show _ ∧ _ ∧ _ ∧ _ ∧ _ from ⟨ht, hg, hb, hm, hmk⟩)
        clear ht hg hb hm hmk
        have a1 := HC.out _ HK.out.2.1.1
        by_cases hkl : k < s.n
        · have hil3 : (k : Int) < (s.n : Int) := by omega
          have hkl2 : k ≤ 1099511627776 := by have := H0.out.2.2.2.2.1 i s hs; omega
          obtain ⟨hown, hfl⟩ := HK.out.1 i s hs
          obtain ⟨sA, sn, sc⟩ := s
          simp only at hfl hkl hk hil3 a1
          subst hfl
          obtain ⟨g, cap, he, hgb, hgl⟩ := hown.form (by omega)
          simp only [SlH.v, Value.slice.injEq] at he
          obtain ⟨rfl, _, rfl⟩ := he
          have hat := own_at hown k (by omega) (by omega)
          rw [Int.toNat_natCast] at hat
          obtain ⟨b1, b2⟩ := hat
          generalize rd (f i) k = x at *
          have hgA : g ≠ gA := fun e => H0.out.2.2.2.1.1 i _ hs (by rw [← e]; rfl)
          have HS := Lib.hid (show _ ∧ _ ∧ _ ∧ _ from ⟨hs, hgb, hgA, hkl⟩)
          go_wp2_with fail
          go_roundw
          case rel =>
            refine ⟨k + 1, fun j => if j = i then (f i).set k (mkA i k) else f j, by omega, by go_num, HK.out.1.store H0.out.2.2.2.1.2 HS.out.1 k (mkA i k), ⟨(Below.heap_setCell _ _ _ _ (fun e => HS.out.2.2.1 e.symm)).trans HK.out.2.1.1, fun q h1 h2 => (Below.heap_setCell _ _ _ _ (fun e => h2 i _ HS.out.1 (by rw [show q = _ from e]; rfl))).trans (HK.out.2.1.2 q h1 h2)⟩, HK.out.2.2.1.setCell (p := ⟨g, k, none⟩) HS.out.2.1 _, fun j s hj hsj => ?_, fun q hq => ?_⟩
            · simp only [if_neg (show ¬ j = i by omega)]
              exact HK.out.2.2.2.1 j s hj hsj
            · simp only [if_true]
              by_cases hqk : q = k
              · subst hqk
                rw [List.getElem?_set_self HS.out.2.2.2]
              · rw [List.getElem?_set_ne (fun e => hqk e.symm)]
                exact HK.out.2.2.2.2 q (by omega)
          case measure => simp [intOf]; omega
        · obtain rfl : k = s.n := by omega
          go_wp2_with fail
          go_roundw
          case rel =>
            refine ⟨i + 1, f, by omega, by go_num, HK.out.1, HK.out.2.1, HK.out.2.2.1, fun j t hj ht => ?_⟩
            by_cases hji : j = i
            · subst hji
              rw [hs] at ht
              cases ht
              exact HK.out.2.2.2.2
            · exact HK.out.2.2.2.1 j t (by omega) ht
          case measure => simp [intOf]; omega
    · obtain rfl : i = vs.length := by omega
      obtain ⟨w1, hw1⟩ : ∃ w1, w1 = wr := ⟨_, rfl⟩
      subst hw1
      have H1 := HW
      clear HW hlt hi
      go_wp2
      go_loopw [5, 6] (fun vo vi wr => ∃ (i : Nat) (gs : List SlH) (A' : Option Addr) (c' : Nat), i ≤ vs.length ∧ gs.length = i ∧ vi = .int .i64 i ∧ vo = .slice A' i c' ∧ OwnS 24 wr w1.heap.size (.slice A' i c') gs ∧ (wr.heap[gA]? = w.heap[gA]? ∧ Others w wr vs) ∧ Below base w1 wr ∧ w1.heap.size ≤ wr.heap.size ∧ (∀ (j : Nat) (s : SlH), i ≤ j → vs[j]? = some s → OwnB wr base s.v (f j)) ∧ (∀ (j : Nat) (s : SlH), j < i → vs[j]? = some s → ∃ G, gs[j]? = some G ∧ Grown wr w1.heap.size (A'.map (·.block)) s G j (f j))) (fun _ vi _ => vs.length - (intOf vi).toNat)
      case atStart => exact ⟨0, [], none, 0, by omega, rfl, rfl, rfl, OwnS.nil _ _ _, H1.out.2.1, Below.refl _ _, Nat.le_refl _, fun j s _ hj => (H1.out.1 j s hj).1, fun j s hj => by omega⟩
      case round =>
        obtain ⟨i, gs, A', c', hi, hgl, rfl, rfl, ho, hg, hb, hsz, hj1, hj2⟩ := hrel
        have HW := Lib.hid (show _ ∧ _ ∧ _ ∧ _ ∧ _ ∧ _ ∧ _ from ⟨ho, hg, hb, hsz, hj1, hj2, hgl⟩)
        clear ho hg hb hsz hj1 hj2 hgl
        by_cases hlt : i < vs.length
        · have hil : (i : Int) < (vs.length : Int) := by omega
          have hil2 : i ≤ 1099511627776 := by have := H0.out.2.1; omega
          obtain ⟨s, hs⟩ : ∃ s, vs[i]? = some s := ⟨_, List.getElem?_eq_getElem hlt⟩
          have hcell : ∀ w' : World, w'.heap[gA]? = w.heap[gA]? → w'.cell? ⟨gA, i, none⟩ = some (.slice s.A s.n s.c) := by
            intro w' he
            have := (row_move (w' := w') H0.out.1 (fun b o e => by cases e; exact he))
            rcases this with h | ⟨b, o, e, _, hc⟩
            · simp [encs] at h; rw [h] at hlt; simp at hlt
            · cases e
              have := hc i s.v (by simp [encs, hs])
              rw [Nat.zero_add] at this
              exact this
          have a1 := hcell _ HW.out.2.1.1
          have hfl := (H1.out.1 i s hs).2
          have hown0 := HW.out.2.2.2.2.1 i s (Nat.le_refl _) hs
          have HS := Lib.hid (show _ ∧ _ ∧ _ from ⟨hcell, hfl, hown0⟩)
          clear hcell hfl hown0
          obtain ⟨w2, hw2⟩ : ∃ w2, w2 = wr := ⟨_, rfl⟩
          subst hw2
          go_wp2
          go_loopw [7, 8] (fun vg vk wr => ∃ (k : Nat) (ys : List Int) (Ag : Option Addr) (cg : Nat), k ≤ 80 ∧ vk = .int .i64 k ∧ vg = .slice Ag (s.n + k) cg ∧ ys.length = k ∧ Mkt mkB ys i k ∧ OwnB wr base (.slice Ag (s.n + k) cg) (f i ++ ys) ∧ Row wr s.A (nums8 (f i)) ∧ (Ag.map (·.block) = s.A.map (·.block) ∨ ∃ b, Ag.map (·.block) = some b ∧ w2.heap.size ≤ b) ∧ Below base w2 wr ∧ w2.heap.size ≤ wr.heap.size ∧ ∀ q, q < w2.heap.size → some q ≠ s.A.map (·.block) → wr.heap[q]? = w2.heap[q]?) (fun _ vk _ => 80 - (intOf vk).toNat)
          case atStart => exact ⟨0, [], s.A, s.c, by omega, rfl, rfl, rfl, fun q hq => by omega, by rw [List.append_nil]; exact HS.out.2.2, (OwnB.view HS.out.2.2).1, .inl rfl, Below.refl _ _, Nat.le_refl _, fun _ _ _ => rfl⟩
          case round =>
            obtain ⟨k, ys, Ag, cg, hk, rfl, rfl, hyl, hmy, hog, hrs, hblk, hbw, hsz, hq⟩ := hrel
            have HK := Lib.hid (show _ ∧ _ ∧ _ ∧ _ ∧ _ ∧ _ ∧ _ ∧ _ from ⟨hyl, hmy, hog, hrs, hblk, hbw, hsz, hq⟩)
            clear hyl hmy hog hrs hblk hbw hsz hq
            by_cases hkl : k < 80
            · have hkd : decide ((k : Int) < 80) = true := by simp; omega
              have hfl := HS.out.2.1
              go_wp2_with (((with_reducible refine gate_dst (N := 64) rfl ?_); go_loud (refine app_byteL rfl (.tmp 55) (.tmp 63) rfl base (.slice Ag (s.n + k) cg) (f i ++ ys) (mkB i k) rfl rfl HK.out.2.2.1 (by have h1 := HK.out.1; have h2 := HS.out.2.1; have h3 := H0.out.2.2.2.2.1 i s hs; rw [List.length_append]; omega) (Nat.le_trans H0.out.2.2.2.2.2.1 (Nat.le_trans H1.out.2.2.1.size (Nat.le_trans HW.out.2.2.2.1 HK.out.2.2.2.2.2.2.1))) ?_); intro v1 w3 ho3 hb3 hq3 hat3; obtain ⟨A3, c3, hv3⟩ : ∃ A3 c3, v1 = .slice A3 (s.n + (k + 1)) c3 := by { obtain ⟨A3, c3, h⟩ := own_slice ho3; exact ⟨A3, c3, by rw [h, List.length_append, List.length_append, HS.out.2.1, HK.out.1]; rfl⟩ }; subst hv3; have H3 := Lib.hid (show _ ∧ _ ∧ _ ∧ _ from ⟨ho3, hb3, hq3, hat3⟩); clear ho3 hb3 hq3 hat3))
              go_roundw
              case rel =>
                have hog := HK.out.2.2.1
                have ho3 := H3.out.1
                rw [List.append_assoc] at ho3
                have hag : ∀ b, Ag.map (·.block) = some b → b < wr.heap.size := by
                  intro b hb
                  rcases hog.first with rfl | ⟨g, rfl, hg, _⟩
                  · cases hb
                  · cases hb
                    exact hg
                have hsg : ∀ b, s.A.map (·.block) = some b → b < w2.heap.size := by
                  intro b hb
                  rcases (show OwnB w2 base (.slice s.A s.n s.c) (f i) from HS.out.2.2).first with h | ⟨g, h, hg, _⟩
                  · rw [h] at hb
                    cases hb
                  · rw [h] at hb
                    cases hb
                    exact hg
                have hnone : s.A = none → f i = [] := by
                  intro h
                  have h2 := (show OwnB w2 base (.slice s.A s.n s.c) (f i) from HS.out.2.2).view.1
                  rw [h] at h2
                  rcases h2 with h2 | ⟨b, o, e, _⟩
                  · exact List.length_eq_zero_iff.1 (by have := congrArg List.length h2; rwa [nums8_length] at this)
                  · cases e
                have hfirst : s.A = none ∨ ∃ g, s.A = some ⟨g, 0, none⟩ := by
                  rcases (show OwnB w2 base (.slice s.A s.n s.c) (f i) from HS.out.2.2).first with h | ⟨g, h, _⟩
                  · exact .inl h
                  · exact .inr ⟨g, h⟩
                have hat := H3.out.2.2.2
                rw [own_blk, own_blk] at hat
                have hq3 := H3.out.2.2.1
                rw [own_blk, own_blk] at hq3
                have hsz := HK.out.2.2.2.2.2.2.1
                refine ⟨k + 1, ys ++ [mkB i k], A3, c3, by omega, by go_num, by first | rfl | (congr 1; omega), by rw [List.length_append, HK.out.1]; rfl, fun q hq => ?_, ho3, ?_, ?_, HK.out.2.2.2.2.2.1.trans H3.out.2.1, Nat.le_trans hsz H3.out.2.1.size, fun q hq hne => ?_⟩
                · by_cases hqk : q < k
                  · rw [List.getElem?_append_left (by have := HK.out.1; omega)]
                    exact HK.out.2.1 q hqk
                  · obtain rfl : q = k := by omega
                    rw [List.getElem?_append_right (by have := HK.out.1; omega), HK.out.1]
                    simp
                · rcases HK.out.2.2.2.2.1 with hsame | ⟨b, hb, hbge⟩
                  · rcases hat with h | ⟨b', hb', hge⟩
                    · exact ho3.prefix_row hfirst (h.trans hsame) hnone
                    · refine row_move HK.out.2.2.2.1 fun b o e => hq3 b (Nat.lt_of_lt_of_le (hsg b (by rw [e]; rfl)) hsz) (.inr fun h => ?_)
                      have := hag b' (by rw [← h]; exact hb')
                      omega
                  · refine row_move HK.out.2.2.2.1 fun b0 o e => hq3 b0 (Nat.lt_of_lt_of_le (hsg b0 (by rw [e]; rfl)) hsz) (.inl fun h => ?_)
                    have h1 := hsg b0 (by rw [e]; rfl)
                    rw [hb] at h
                    cases h
                    omega
                · rcases hat with h | ⟨b', hb', hge⟩
                  · rw [h]
                    exact HK.out.2.2.2.2.1
                  · exact .inr ⟨b', hb', Nat.le_trans hsz hge⟩
                · refine (hq3 q (Nat.lt_of_lt_of_le hq hsz) (.inl fun h => ?_)).trans (HK.out.2.2.2.2.2.2.2 q hq hne)
                  rcases HK.out.2.2.2.2.1 with hsame | ⟨b, hb, hbge⟩
                  · exact hne (h.trans hsame)
                  · rw [hb] at h
                    cases h
                    omega
              case measure => simp [intOf]; omega
            · obtain rfl : k = 80 := by omega
              have hsb : ∀ b, s.A.map (·.block) = some b → b < w1.heap.size := by
                intro b hb
                rcases (show OwnB w1 base (.slice s.A s.n s.c) (f i) from (H1.out.1 i s hs).1).first with h | ⟨g, h, hg, _⟩
                · rw [h] at hb
                  cases hb
                · rw [h] at hb
                  cases hb
                  exact hg
              have hA' : ∀ b, A'.map (·.block) = some b → w1.heap.size ≤ b ∧ b < w2.heap.size := by
                intro b hb
                rcases HW.out.1.first with h | ⟨g, h, hg, hg2⟩
                · rw [h] at hb
                  cases hb
                · rw [h] at hb
                  cases hb
                  exact ⟨hg2, hg⟩
              have hog : OwnS 24 wr w1.heap.size (.slice A' i c') gs := HW.out.1.far fun g hg => HK.out.2.2.2.2.2.2.2 g (hA' g hg).2 fun h => by
                have h1 := hsb g h.symm
                have h2 := (hA' g hg).1
                omega
              have HB := Lib.hid (show _ ∧ _ ∧ _ from ⟨hsb, hA', hog⟩)
              clear hsb hA' hog
              go_wp2_with (((with_reducible refine gate_dst (N := 68) rfl ?_); go_loud (refine print_append_of (w0 := wr) SlH.v w1.heap.size rfl (.tmp 65) (.tmp 67) 58 24 _ 24 rfl Tryd.underlying58 info24 rfl (by decide) (.slice A' i c') gs (SlH.mk Ag (s.n + 80) cg) rfl rfl rfl HB.out.2.2 (Below.refl _ _) (Nat.le_trans HW.out.2.2.2.1 HK.out.2.2.2.2.2.2.1) (by have := HW.out.2.2.2.2.2.2; omega) ?_); intro v4 w4 ho4 hb4 hx4 hy4; obtain ⟨A4, c4, hv4⟩ : ∃ A4 c4, v4 = .slice A4 (i + 1) c4 := by { obtain ⟨A4, c4, h⟩ := own_slice ho4; exact ⟨A4, c4, by rw [h, List.length_append, HW.out.2.2.2.2.2.2]; rfl⟩ }; subst hv4; have H4 := Lib.hid (show _ ∧ _ ∧ _ ∧ _ from ⟨ho4, hb4, hx4, hy4⟩); clear ho4 hb4 hx4 hy4))
              go_roundw
              case rel =>
                have hx4 := H4.out.2.2.1
                have hy4 := H4.out.2.2.2
                rw [own_blk] at hx4 hy4
                rw [own_blk] at hy4
                have hsz2 := HK.out.2.2.2.2.2.2.1
                have hN := HW.out.2.2.2.1
                have hmv : ∀ q, q < w2.heap.size → some q ≠ s.A.map (·.block) → some q ≠ A'.map (·.block) → w4.heap[q]? = w2.heap[q]? := fun q hq h1 h2 => (hx4.block q (by omega) h2).trans (HK.out.2.2.2.2.2.2.2 q hq h1)
                have hgl := HW.out.2.2.2.2.2.2
                have hga : gA < w.heap.size := by
                  rcases H0.out.1 with h | ⟨b, o, e, hlt2, _⟩
                  · have := congrArg List.length h
                    simp [encs] at this
                    rw [this] at hlt
                    simp at hlt
                  · cases e
                    exact hlt2
                have hga1 : gA < w1.heap.size := Nat.lt_of_lt_of_le hga H1.out.2.2.1.size
                have hsA : s.v.ownBlock = s.A.map (·.block) := own_blk _ _ _
                refine ⟨i + 1, gs ++ [SlH.mk Ag (s.n + 80) cg], A4, c4, by omega, by rw [List.length_append, hgl]; rfl, by go_num, rfl, ?_, ?_, ?_, ?_, fun j t hj ht => ?_, fun j t hj ht => ?_⟩
                · have h := H4.out.1
                  exact h
                · refine ⟨?_, fun q h1 h2 => ?_⟩
                  · refine (hmv gA (by omega) (fun h => H0.out.2.2.2.1.1 i s hs (hsA.trans h.symm)) (fun h => ?_)).trans HW.out.2.1.1
                    have := (HB.out.2.1 gA h.symm).1
                    omega
                  · have hs1 : w.heap.size ≤ w1.heap.size := H1.out.2.2.1.size
                    refine (hmv q (by omega) (fun h => h2 i s hs (hsA.trans h.symm)) (fun h => ?_)).trans (HW.out.2.1.2 q h1 h2)
                    have := (HB.out.2.1 q h.symm).1
                    omega
                · exact (HW.out.2.2.1.trans HK.out.2.2.2.2.2.1).trans (H4.out.2.1.mono (Nat.le_trans H0.out.2.2.2.2.2.1 H1.out.2.2.1.size))
                · have := H4.out.2.1.size
                  omega
                · refine (HW.out.2.2.2.2.1 j t (by omega) ht).far fun b hb => ?_
                  have hb1 : b < w1.heap.size := by
                    rcases (show OwnB w1 base (.slice t.A t.n t.c) (f j) from (H1.out.1 j t ht).1).first with h | ⟨g, h, hg, _⟩
                    · rw [SlH.v, own_blk, h] at hb
                      cases hb
                    · rw [SlH.v, own_blk, h] at hb
                      cases hb
                      exact hg
                  refine hmv b (by omega) (fun h => ?_) (fun h => ?_)
                  · have := H0.out.2.2.2.1.2 j i t s b ht hs hb (hsA.trans h.symm)
                    omega
                  · have := (HB.out.2.1 b h.symm).1
                    omega
                · by_cases hji : j = i
                  · subst hji
                    rw [hs] at ht
                    cases ht
                    refine ⟨SlH.mk Ag (s.n + 80) cg, by rw [List.getElem?_append_right (by omega), hgl]; simp, rfl, ?_, ?_⟩
                    · refine row_move HK.out.2.2.2.1 fun b o e => hx4.block b ?_ ?_
                      · have := HB.out.1 b (by rw [e]; rfl)
                        omega
                      · intro h
                        have h1 := (HB.out.2.1 b h.symm).1
                        have h2 := HB.out.1 b (by rw [e]; rfl)
                        omega
                    · have hag : ∀ b, Ag.map (·.block) = some b → b < wr.heap.size ∧ (s.A.map (·.block) = some b ∨ w2.heap.size ≤ b) ∧ A'.map (·.block) ≠ some b := by
                        intro b hb
                        have h0 : b < wr.heap.size := by
                          rcases HK.out.2.2.1.first with h | ⟨g, h, hg, _⟩
                          · rw [h] at hb
                            cases hb
                          · rw [h] at hb
                            cases hb
                            exact hg
                        rcases HK.out.2.2.2.2.1 with h | ⟨b', h, hge⟩
                        · refine ⟨h0, .inl (h.symm.trans hb), fun h' => ?_⟩
                          have h1 := (HB.out.2.1 b h').1
                          have h2 := HB.out.1 b (h.symm.trans hb)
                          omega
                        · rw [h] at hb
                          cases hb
                          exact ⟨h0, .inr hge, fun h' => by have := (HB.out.2.1 _ h').2; omega⟩
                      refine ⟨ys, HK.out.1, HK.out.2.1, ?_, fun b o e => ?_⟩
                      · exact row_move HK.out.2.2.1.view.1 fun b o e => hx4.block b (hag b (by rw [show Ag = _ from e]; rfl)).1 fun h => (hag b (by rw [show Ag = _ from e]; rfl)).2.2 h.symm
                      · obtain ⟨k1, k2, k3⟩ := hag b (by rw [show Ag = _ from e]; rfl)
                        refine ⟨Nat.lt_of_lt_of_le k1 H4.out.2.1.size, ?_, fun h => ?_⟩
                        · rcases k2 with k2 | k2
                          · exact .inl (hsA.trans k2)
                          · exact .inr (by omega)
                        · rcases hy4 with h' | ⟨b', h', hge⟩
                          · exact k3 (h'.symm.trans h)
                          · rw [h'] at h
                            cases h
                            omega
                  · obtain ⟨G, hG, hgr⟩ := HW.out.2.2.2.2.2.1 j t (by omega) ht
                    refine ⟨G, by rw [List.getElem?_append_left (by omega)]; exact hG, hgr.move (by have := H4.out.2.1.size; omega) (fun b hb => ?_) (fun b h1 h2 h3 => ?_) (fun b h2 h3 h => ?_)⟩
                    · have hb1 : b < w1.heap.size := by
                        rcases (show OwnB w1 base (.slice t.A t.n t.c) (f j) from (H1.out.1 j t ht).1).first with h | ⟨g, h, hg, _⟩
                        · rw [SlH.v, own_blk, h] at hb
                          cases hb
                        · rw [SlH.v, own_blk, h] at hb
                          cases hb
                          exact hg
                      refine hmv b (by omega) (fun h => ?_) (fun h => ?_)
                      · exact hji (H0.out.2.2.2.1.2 j i t s b ht hs hb (hsA.trans h.symm))
                      · have := (HB.out.2.1 b h.symm).1
                        omega
                    · exact hmv b h2 (fun h => by have := HB.out.1 b h.symm; omega) (fun h => h3 h.symm)
                    · rcases hy4 with h' | ⟨b', h', hge⟩
                      · exact h3 (h'.symm.trans h)
                      · rw [h'] at h
                        cases h
                        omega
              case measure => simp [intOf]; omega
        · obtain rfl : i = vs.length := by omega
          obtain ⟨w2, hw2⟩ : ∃ w2, w2 = wr := ⟨_, rfl⟩
          subst hw2
          have H2 := HW
          clear HW hlt hi
          have HBB := Lib.hid (show Below base w w2 from H1.out.2.2.1.trans H2.out.2.2.1)
          go_wp2
          go_loopw [9] (fun vi wr => ∃ i : Nat, i ≤ vs.length ∧ vi = .int .i64 i ∧ Below w2.heap.size w2 wr) (fun vi _ => vs.length - (intOf vi).toNat)
          case atStart => exact ⟨0, by omega, rfl, Below.refl _ _⟩
          case round =>
            obtain ⟨i, hi, rfl, hb⟩ := hrel
            have HW := Lib.hid hb
            clear hb
            by_cases hlt : i < vs.length
            · have hil : (i : Int) < (vs.length : Int) := by omega
              have hil2 : i ≤ 1099511627776 := by have := H0.out.2.1; omega
              obtain ⟨s, hs⟩ : ∃ s, vs[i]? = some s := ⟨_, List.getElem?_eq_getElem hlt⟩
              obtain ⟨G, hG, hgr⟩ := H2.out.2.2.2.2.2.1 i s hlt hs
              have hga : gA < w.heap.size ∧ ∀ w' : World, w'.heap[gA]? = w.heap[gA]? → w'.cell? ⟨gA, i, none⟩ = some (.slice s.A s.n s.c) := by
                rcases H0.out.1 with h | ⟨b, o, e, hlt2, _⟩
                · have := congrArg List.length h
                  simp [encs] at this
                  rw [this] at hlt
                  simp at hlt
                · cases e
                  refine ⟨hlt2, fun w' he => ?_⟩
                  have := (row_move (w' := w') H0.out.1 (fun b o e => by cases e; exact he))
                  rcases this with h | ⟨b, o, e, _, hc⟩
                  · simp [encs] at h; rw [h] at hlt; simp at hlt
                  · cases e
                    have := hc i s.v (by simp [encs, hs])
                    rw [Nat.zero_add] at this
                    exact this
              have hrA : Row w2 A' (encs SlH.v gs) := H2.out.1.row H2.out.2.2.2.2.2.2.symm
              obtain ⟨bA, oA, rfl, hbA, hcA⟩ : ∃ b o, A' = some ⟨b, o, none⟩ ∧ b < w2.heap.size ∧ ∀ w', Below w2.heap.size w2 w' → w'.cell? ⟨b, o + i, none⟩ = some (.slice G.A G.n G.c) := by
                rcases hrA with h | ⟨b, o, e, hb, hc⟩
                · have := congrArg List.length h
                  simp [encs, H2.out.2.2.2.2.2.2] at this
                  rw [this] at hlt
                  simp at hlt
                · exact ⟨b, o, e, hb, fun w' hw => (hw.cell (p := ⟨b, _, none⟩) hb).trans (hc i G.v (by simp [encs, hG]))⟩
              have hall : ∀ w', Below w2.heap.size w2 w' → w'.cell? ⟨gA, i, none⟩ = some (.slice s.A s.n s.c) := fun w' hw => hga.2 w' ((hw.block gA (Nat.lt_of_lt_of_le hga.1 (by have := HBB.out.size; exact this))).trans H2.out.2.1.1)
              have HC := Lib.hid (show _ ∧ _ ∧ _ from ⟨hall, hcA, hgr⟩)
              clear hall hcA hgr hga hrA hG
              have a1 := HC.out.1 _ HW.out
              go_wp2
              go_loopw [11] (fun vk wr => ∃ k : Nat, k ≤ s.n ∧ vk = .int .i64 k ∧ Below w2.heap.size w2 wr) (fun vk _ => s.n - (intOf vk).toNat)
              case atStart => exact ⟨0, by omega, rfl, HW.out⟩
              case round =>
                obtain ⟨k, hk, rfl, hb⟩ := hrel
                have HK := Lib.hid hb
                clear hb
                by_cases hkl : k < s.n
                · have hil3 : (k : Int) < (s.n : Int) := by omega
                  have hkl2 : k ≤ 1099511627776 := by have := H0.out.2.2.2.2.1 i s hs; omega
                  have a1 := HC.out.1 _ HK.out
                  have hmk := H1.out.2.2.2 i s hlt hs k hkl
                  obtain ⟨b, o, hA, hc⟩ : ∃ b o, s.A = some ⟨b, o, none⟩ ∧ wr.cell? ⟨b, o + k, none⟩ = some (.int .u8 ((37 * (i : Int) + 5 * (k : Int) + 11) % 256)) := by
                    rcases HC.out.2.2.2.1 with h | ⟨b, o, e, hb, hc⟩
                    · have h2 := congrArg List.length h
                      rw [nums8_length] at h2
                      have h3 := (List.getElem?_eq_some_iff.1 hmk).1
                      simp at h2
                      rw [h2] at h3
                      simp at h3
                    · refine ⟨b, o, e, (HK.out.cell (p := ⟨b, _, none⟩) hb).trans (hc k _ ?_)⟩
                      obtain ⟨h3, h4⟩ := List.getElem?_eq_some_iff.1 hmk
                      rw [nums8_get _ _ h3, h4]
                      rfl
                  rw [hA] at a1
                  clear hmk
                  go_wp2_with fail
                  go_roundw
                  case rel => exact ⟨k + 1, by omega, by go_num, HK.out⟩
                  case measure => simp [intOf]; omega
                · obtain rfl : k = s.n := by omega
                  go_wp2
                  go_loopw [12] (fun vk wr => ∃ k : Nat, k ≤ 80 ∧ vk = .int .i64 k ∧ Below w2.heap.size w2 wr) (fun vk _ => 80 - (intOf vk).toNat)
                  case atStart => exact ⟨0, by omega, rfl, HK.out⟩
                  case round =>
                    obtain ⟨k, hk, rfl, hb⟩ := hrel
                    have HK := Lib.hid hb
                    clear hb
                    by_cases hkl : k < 80
                    · have hsn : s.n ≤ 1099511627776 := H0.out.2.2.2.2.1 i s hs
                      have a1 := HC.out.2.1 _ HK.out
                      have hfl := (H1.out.1 i s hs).2
                      obtain ⟨b, o, hA, hc⟩ : ∃ b o, G.A = some ⟨b, o, none⟩ ∧ wr.cell? ⟨b, o + (s.n + k), none⟩ = some (.int .u8 ((101 * (i : Int) + 3 * (k : Int) + 60) % 256)) := by
                        obtain ⟨ys, hy1, hy2, hy3, _⟩ := HC.out.2.2.2.2
                        have hmk := hy2 k hkl
                        rcases hy3 with h | ⟨b, o, e, hb, hc⟩
                        · have h2 := congrArg List.length h
                          rw [nums8_length, List.length_append, List.length_nil] at h2
                          omega
                        · refine ⟨b, o, e, (HK.out.cell (p := ⟨b, _, none⟩) hb).trans (hc (s.n + k) _ ?_)⟩
                          rw [nums8_get _ _ (by rw [List.length_append]; omega), List.getElem_append_right (by omega)]
                          obtain ⟨h3, h4⟩ := List.getElem?_eq_some_iff.1 hmk
                          simp only [hfl, Nat.add_sub_cancel_left]
                          rw [h4]
                          rfl
                      have hn := HC.out.2.2.1
                      rw [hA, hn] at a1
                      have hkk : decide ((k : Int) < 80) = true := by simp; omega
                      clear hn hfl
                      go_wp2_with fail
                      go_roundw
                      case rel => exact ⟨k + 1, by omega, by go_num, HK.out⟩
                      case measure => simp [intOf]; omega
                    · obtain rfl : k = 80 := by omega
                      go_wp2
                      go_roundw
                      case rel => exact ⟨i + 1, by omega, by go_num, HK.out⟩
                      case measure => simp [intOf]; omega
            · go_wp2
              go_ret
              exact ⟨rfl, HBB.out.trans (HW.out.mono (Nat.le_trans H0.out.2.2.2.2.2.1 HBB.out.size)), fun q h1 h2 => (HW.out.block q (Nat.lt_of_lt_of_le h1 HBB.out.size)).trans (H2.out.2.1.2 q h1 h2)⟩
end Go.Proofs.YtplfmpcoojkjlaaDoor
