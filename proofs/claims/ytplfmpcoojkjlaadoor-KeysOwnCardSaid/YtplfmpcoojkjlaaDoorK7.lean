/- The program's reading of rows: take at every byte, tuple, Decode. -/
import Derived.Test.YtplfmpcoojkjlaaDoorK5
import Derived.Test.YtplfmpcoojkjlaaDoorK6
namespace Go.Proofs.YtplfmpcoojkjlaaDoor
open Go.RowKit Go.Proofs.YtplfmpcoojkjlaaDoorW.PrintWords
def TakeAt (f : Nat) : Prop := ∀ (w : World) (b o : Nat) (xs : List Int) (c : Nat) (deep : Nat), At w b o (nums8 xs) → Byt xs → xs.length ≤ c → xs.length ≤ 1099511627776 → 0 < xs.length → 2 * xs.length ≤ f → deep ≤ 16 → Calls Tryd.prog 42 #[.slice (some ⟨b, o, none⟩) xs.length c, .int .i64 (deep : Int)] w (TakePost w b f xs deep)
theorem take_of (f : Nat) (HTup : TupAt f) : TakeAt (f + 1) := by
  intro w b o xs c deep hat hx hcap hm hpos hf hd
  cases xs with
  | nil => simp at hpos
  | cons k q =>
    simp only [List.length_cons] at hcap hm hf
    have hcap' : q.length + 1 ≤ c := hcap
    have hm' : q.length ≤ 1099511627776 := by omega
    show Calls _ _ #[.slice (some ⟨b, o, none⟩) (q.length + 1) c, _] _ _
    by_cases hk : k < 1 ∨ 7 < k
    · exact take_bad k f w b o q c deep hat hx hcap' hm' hk
    have hkk : k = 1 ∨ k = 2 ∨ k = 3 ∨ k = 4 ∨ k = 5 ∨ k = 6 ∨ k = 7 := by omega
    rcases hkk with rfl | rfl | rfl | rfl | rfl | rfl | rfl
    · exact take_none f w b o q c deep hat hx hcap' hm'
    · cases q with
      | nil => exact take_bool_none f w b o [] c deep hat hx hcap' hm' rfl
      | cons x r =>
        by_cases h2 : x < 2
        · exact take_bool f w b o _ c deep hat hx hcap' hm' x r rfl h2
        · exact take_bool_bad f w b o _ c deep hat hx hcap' hm' x r rfl (by omega)
    · by_cases h8 : q.length < 8
      · exact take_int_bad f w b o q c deep hat hx hcap' hm' h8
      · exact take_int f w b o q c deep hat hx hcap' hm' (by omega)
    · by_cases h8 : q.length < 8
      · exact take_real_short f w b o q c deep hat hx hcap' hm' h8
      · by_cases hn : cleanB (unrankB (be8 (q.take 8))) = unrankB (be8 (q.take 8))
        · exact take_real f w b o q c deep hat hx hcap' hm' (by omega) hn
        · exact take_real_bad f w b o q c deep hat hx hcap' hm' (by omega) hn
    · by_cases h8 : q.length < 8
      · exact take_point_short f w b o q c deep hat hx hcap' hm' h8
      · by_cases hn1 : cleanB (unrankB (be8 (q.take 8))) = unrankB (be8 (q.take 8))
        · by_cases h16 : q.length < 16
          · exact take_point_mid_tt f w b o q c deep hat hx hcap' hm' (by omega) h16 (decide_eq_true hn1)
          · by_cases hn2 : cleanB (unrankB (be8 ((q.drop 8).take 8))) = unrankB (be8 ((q.drop 8).take 8))
            · exact take_point f w b o q c deep hat hx hcap' hm' (by omega) (by omega) hn1 hn2
            · exact take_point_bad_tf f w b o q c deep hat hx hcap' hm' (by omega) (by omega) (fun h => hn2 h.2) (decide_eq_true hn1) (decide_eq_false hn2)
        · by_cases h16 : q.length < 16
          · exact take_point_mid_ff f w b o q c deep hat hx hcap' hm' (by omega) h16 (decide_eq_false hn1)
          · by_cases hn2 : cleanB (unrankB (be8 ((q.drop 8).take 8))) = unrankB (be8 ((q.drop 8).take 8))
            · exact take_point_bad_ft f w b o q c deep hat hx hcap' hm' (by omega) (by omega) (fun h => hn1 h.1) (decide_eq_false hn1) (decide_eq_true hn2)
            · exact take_point_bad_ff f w b o q c deep hat hx hcap' hm' (by omega) (by omega) (fun h => hn1 h.1) (decide_eq_false hn1) (decide_eq_false hn2)
    · cases ht : textS q with
      | none => exact take_text_none f w b o q c deep hat hx hcap' hm' ht
      | some tr => obtain ⟨t, r⟩ := tr; exact take_text f w b o q c deep hat hx hcap' hm' t r ht
    · by_cases h16 : deep = 16
      · exact take_deep f w b o q c deep h16 hat hx hcap' hm'
      · cases hs : tupS f q (deep + 1) with
        | err er => exact take_tuple_err f w b o q c deep hat hx hcap' hm' (by omega) (by omega) HTup er hs
        | ok pr => obtain ⟨ps, r⟩ := pr; exact take_tuple f w b o q c deep hat hx hcap' hm' (by omega) (by omega) HTup ps r hs
theorem infoV : (Tryd.prog.info? 46).map (fun i => (i.zero, i.size, i.bytes)) = some (some (.agg #[.int .i64 0, .bool false, .int .i64 0, .float .f64 0, .complex .f64 0 0, .slice none 0 0, .slice none 0 0]), 7, 96) := by kernel_rfl
theorem LT.cells_one (l : LT VS) : ∀ u ∈ l.cells VS.enc, u.oneCell' = true := by
  intro u hu
  simp only [LT.cells, VS.enc, List.cons_append, List.nil_append, List.mem_cons, List.not_mem_nil, or_false] at hu
  rcases hu with rfl | rfl | rfl | rfl | rfl | rfl | rfl <;> rfl
/-- append(row, v): the row of the call's own, v made. -/
theorem app_node {ops : Array Oper} {rest : List Oper} {o : Oper} {a : Act} {Q : Exit → Act → World → Prop} {W : World} (hgd : o.guard = none) (s x : Operand)
    (ho : o.op = .call { callee := .builtin .append, args := #[s, x], argTypes := #[28, 28] }) (B : Nat) (h : Hdr) (ls : List (LT VS)) (l : LT VS) (cs : Array Value) (hcs : cs = (l.cells VS.enc).toArray)
    (hs : a.eval s = .slice h.A ls.length h.cap) (N : Nat) (hx : a.eval x = .slice (some ⟨N, 0, none⟩) 1 1) (hN : N = W.heap.size) (own : OwnL VS.enc 5 46 W h ls) (lown : l.Own VS.enc 5 46 W)
    (hnd : ((h.ids ++ LT.idss ls) ++ l.ids).Nodup) (hge : ∀ k ∈ (h.ids ++ LT.idss ls) ++ l.ids, B ≤ k) (hl : ls.length < 1099511627777) (hB : B ≤ W.heap.size)
    (hk : ∀ (h1 : Hdr) w1, OwnL VS.enc 5 46 w1 h1 (ls ++ [l]) → (h1.ids ++ LT.idss (ls ++ [l])).Nodup → (∀ k ∈ h1.ids ++ LT.idss (ls ++ [l]), B ≤ k) → Below B W w1 → wpList Tryd.prog ops Q rest (a.put o.dst (.slice h1.A (ls.length + 1) h1.cap)) w1) :
    wpList Tryd.prog ops Q (o :: rest) a (W.alloc (.cells cs 46)) := by
  subst hcs
  subst hN
  refine print_append_cells (w0 := W) 0 hgd s x 28 46 _ 7 96 ho Tryd.underlying28 infoV rfl (by decide) (by decide) (.slice h.A ls.length h.cap) ls.length (rowCells VS.enc ls) (l.cells VS.enc) hs hx (LT.cells_length VS.enc5 l) l.cells_one own.row (Below.refl 0 W) (Nat.zero_le _) (by omega) ?_
  intro v1 w1 hown _ hg hat
  obtain ⟨A1, c1, rfl⟩ := own_slice hown
  have hrow : w1.ownsRow 0 46 7 (.slice A1 (ls ++ [l]).length c1) (ls ++ [l]).length (rowCells VS.enc (ls ++ [l])) := by
    rw [rowCells_append, rowCells_one, List.length_append]; exact hown
  have hown1 : (Value.slice A1 (ls.length + 1) c1).ownBlock = A1.map (·.block) := by cases A1 <;> rfl
  have hownh : (Value.slice h.A ls.length h.cap).ownBlock = h.A.map (·.block) := by cases h.A <;> rfl
  have hids : ∀ k ∈ (Hdr.mk A1 c1).ids, (k ∈ h.ids) ∨ W.heap.size ≤ k := by
    intro k hk
    have hk' : A1.map (·.block) = some k := by cases A1 <;> simp [Hdr.ids] at hk; simp [hk]
    rcases hat with e | ⟨b, e, hle⟩
    · left
      rw [hown1, hownh, hk'] at e
      cases hA : h.A with
      | none => simp [hA] at e
      | some a => simp [hA] at e; simp [Hdr.ids, hA, e]
    · right
      rw [hown1, hk'] at e
      injection e with e
      omega
  have hin : ∀ k ∈ LT.idss ls ++ l.ids, k < W.heap.size ∧ k ∉ h.ids := by
    intro k hk
    constructor
    · rcases List.mem_append.1 hk with hk | hk
      · exact own.lt k (List.mem_append_right _ hk)
      · exact lown.lt k hk
    · intro hh
      rw [List.append_assoc] at hnd
      exact (List.nodup_append.1 hnd).2.2 k hh k hk rfl
  have hmove : ∀ k ∈ LT.idss ls ++ l.ids, w1.heap[k]? = W.heap[k]? := by
    intro k hk
    refine hg.block k (hin k hk).1 (fun e => (hin k hk).2 ?_)
    rw [hownh] at e
    cases hA : h.A with
    | none => simp [hA] at e
    | some a => simp [hA] at e; simp [Hdr.ids, hA, e]
  have hidl : LT.idss (ls ++ [l]) = LT.idss ls ++ l.ids := by simp [LT.idss_flat]
  refine hk ⟨A1, c1⟩ w1 ⟨hrow, fun p hp => ?_⟩ ?_ ?_ ?_
  · rcases List.mem_append.1 hp with hp | hp
    · exact (own.all p hp).move fun i hi => hmove i (List.mem_append_left _ (LT.ids_mem hp hi))
    · rw [List.mem_singleton.1 hp]
      exact lown.move fun i hi => hmove i (List.mem_append_right _ hi)
  · rw [hidl]
    have h2 : (LT.idss ls ++ l.ids).Nodup := by rw [List.append_assoc] at hnd; exact (List.nodup_append.1 hnd).2.1
    refine List.nodup_append.2 ⟨by cases A1 <;> simp [Hdr.ids], h2, ?_⟩
    intro k hk k' hk' e
    subst e
    rcases hids k hk with h3 | h3
    · exact (hin k hk').2 h3
    · have := (hin k hk').1; omega
  · rw [hidl]
    intro k hk
    rcases List.mem_append.1 hk with hk | hk
    · rcases hids k hk with h3 | h3
      · exact hge k (List.mem_append_left _ (List.mem_append_left _ h3))
      · omega
    · exact hge k (by rw [List.append_assoc]; exact List.mem_append_right _ hk)
  · exact ⟨hg.os, hg.tape, hg.output, hg.size, fun k hk => hg.block k (by omega) (fun e => by
      rw [hownh] at e
      cases hA : h.A with
      | none => simp [hA] at e
      | some a =>
        simp [hA] at e
        have := hge k (List.mem_append_left _ (List.mem_append_left _ (by simp [Hdr.ids, hA, e])))
        omega)⟩
theorem LT.Own.below' {enc : VS → List Value} {t8 tn : TypeId} {w w' : World} {l : LT VS} (k : l.Own enc t8 tn w) (hb : Below w.heap.size w w') : l.Own enc t8 tn w' := k.move fun i hi => hb.block i (k.lt i hi)
theorem OwnL.below' {enc : VS → List Value} {t8 tn : TypeId} {w w' : World} {h : Hdr} {ls : List (LT VS)} (k : OwnL enc t8 tn w h ls) (hb : Below w.heap.size w w') : OwnL enc t8 tn w' h ls := k.move fun i hi => hb.block i (k.lt i (List.mem_append.2 hi))
def prepT (acc : List P) : Res (List P × List Int) → Res (List P × List Int)
  | .err e => .err e
  | .ok (ps, r) => .ok (acc ++ ps, r)
theorem At.belowB {w w' : World} {B b o : Nat} {cs : List Value} (h : At w b o cs) (hb : Below B w w') (hlt : b < B) : At w' b o cs :=
  ⟨Nat.lt_of_lt_of_le h.1 hb.size, fun i u hu => (hb.cell (p := ⟨b, o + i, none⟩) hlt).trans (h.2 i u hu)⟩
theorem tupS_cons {g : Nat} {k : Int} {q : List Int} {deep : Nat} {p : P} {rest : List Int} (hk : ¬ k = 0) (h : takeS g (k :: q) deep = .ok (p, rest)) : tupS (g + 1) (k :: q) deep = prepT [p] (tupS g rest deep) := by
  rw [tupS, if_neg hk, h]
  dsimp only
  cases tupS g rest deep <;> rfl
theorem prepT_prepT (a b : List P) (r : Res (List P × List Int)) : prepT a (prepT b r) = prepT (a ++ b) r := by cases r <;> simp [prepT]
structure TupJ (w : World) (b f : Nat) (xs : List Int) (deep : Nat) (wr : World) (g : Nat) (ys : List Int) (o c : Nat) (acc : List P) (h : Hdr) (ls : List (LT VS)) : Prop where
  at_ : At wr b o (nums8 ys)
  byt : Byt ys
  cap : ys.length ≤ c
  fuel : 2 * ys.length + 1 ≤ g ∧ g ≤ f
  eq : tupS f xs deep = prepT acc (tupS g ys deep)
  pu : LT.pures ls = TT.maps PS.ans acc
  own : OwnL VS.enc 5 46 wr h ls
  nd : (h.ids ++ LT.idss ls).Nodup
  ge : ∀ k ∈ h.ids ++ LT.idss ls, w.heap.size ≤ k
  below : Below w.heap.size w wr
  len : ls.length + ys.length ≤ xs.length
  blt : b < w.heap.size
def lenV : Value → Nat | .slice _ n _ => n | _ => 0
set_option maxRecDepth 100000 in
set_option maxHeartbeats 2000000 in
theorem tup_of (f : Nat) (HT : ∀ g, g < f → TakeAt g) : TupAt f := by
  intro w b o xs c deep hat hx hcap hm hf hd1 hd16
  obtain ⟨i0, hi, hz0, hsz, hby⟩ := info_parts info5
  have HI := Lib.hid (show xs.length ≤ 1099511627776 ∧ Tryd.prog.info? 5 = some i0 ∧ i0.size = 1 from ⟨hm, hi, hsz⟩)
  have J0 : TupJ w b f xs deep w f xs o c [] ⟨none, 0⟩ [] := ⟨hat, hx, hcap, ⟨hf, Nat.le_refl _⟩, by cases tupS f xs deep <;> rfl, rfl, ⟨⟨rfl, .inl ⟨rfl, rfl⟩⟩, fun p hp => by cases hp⟩, by simp [Hdr.ids, LT.idss], by simp [Hdr.ids, LT.idss], Below.refl _ _, by simp, hat.1⟩
  have HTK := Lib.hid HT
  clear hat hx hcap hf hi hz0 hsz hby hm HT
  go_enter Tryd.func55, Tryd.ntmps55
  go_wp2
  go_loopw [0, 7] (fun vp vr wr => ∃ (g : Nat) (ys : List Int) (o c : Nat) (acc : List P) (h : Hdr) (ls : List (LT VS)), vp = .slice (some ⟨b, o, none⟩) ys.length c ∧ vr = .slice h.A ls.length h.cap ∧ TupJ w b f xs deep wr g ys o c acc h ls) (fun vp _ _ => lenV vp)
  case atStart => exact ⟨f, xs, o, c, [], ⟨none, 0⟩, [], rfl, rfl, J0⟩
  case round =>
    obtain ⟨g, ys, o1, c1, acc, h, ls, rfl, rfl, HJ⟩ := hrel
    clear J0
    have HJ := Lib.hid HJ
    rcases ys with _ | ⟨k, q⟩
    · go_wp2
      go_ret3
      have hg : ∃ g', g = g' + 1 := ⟨g - 1, by have := HJ.out.fuel; omega⟩
      obtain ⟨g', rfl⟩ := hg
      refine ⟨HJ.out.below, ?_⟩
      rw [HJ.out.eq]
      exact ⟨by decide, rfl⟩
    · have hpos : 0 < (k :: q).length := by simp
      have hcell := HJ.out.at_.2 0 _ (nums8_get (k :: q) 0 hpos)
      simp only [List.getElem_cons_zero, Nat.add_zero] at hcell
      have hc2 := cutFrom 24 5 Tryd.underlying24 HI.out.2.1 HI.out.2.2 (some ⟨b, o1, none⟩) (q.length + 1) c1 1 1 rfl (by omega)
      rw [cutA_some, Nat.add_sub_cancel] at hc2
      by_cases hk0 : k = 0
      · subst hk0
        go_wp2
        go_region
        go_wp2
        go_ret3
        obtain ⟨g', rfl⟩ : ∃ g', g = g' + 1 := ⟨g - 1, by have := HJ.out.fuel; omega⟩
        refine ⟨HJ.out.below.drew, ?_⟩
        rw [HJ.out.eq, show tupS (g' + 1) (0 :: q) deep = .ok ([], q) by simp [tupS]]
        refine ⟨h, ls, _, _, rfl, by simpa using HJ.out.pu, HJ.out.own.drew, HJ.out.nd, HJ.out.ge, ?_, ?_⟩
        · have := HJ.out.at_.drop c1 1 (by rw [nums8_length]; exact HJ.out.cap)
          exact this
        · have := HJ.out.cap; simp at this; omega
      · have hkb : (k == 0) = false := by simpa using hk0
        obtain ⟨g', hg'⟩ : ∃ g', g = g' + 1 := ⟨g - 1, by have := HJ.out.fuel; omega⟩
        subst hg'
        have HK := Lib.hid hk0
        clear hk0
        go_wp2_with fail
        show Calls _ _ #[.slice (some ⟨b, o1, none⟩) (k :: q).length c1, _] _ _
        refine (HTK.out g' (by have := HJ.out.fuel; omega) wr b o1 (k :: q) c1 deep HJ.out.at_ HJ.out.byt HJ.out.cap (by have := HJ.out.len; have := HI.out.1; omega) hpos (by have := HJ.out.fuel; omega) hd16).mono ?_
        rintro e w2 ⟨hb2, l, rv, er, rfl, hr2⟩
        obtain ⟨⟨kd, bb, nn, rl, pre, pim⟩, th, tx, ph, ps⟩ := l
        have hcs : ((LT.mk (VS.mk kd bb nn rl pre pim) th tx ph ps).cells VS.enc).toArray = #[.int .i64 kd, .bool bb, .int .i64 nn, .float .f64 rl, .complex .f64 pre pim, .slice th.A tx.length th.cap, .slice ph.A ps.length ph.cap] := rfl
        rw [hcs]
        have HCS := Lib.hid hcs
        have HB2 := Lib.hid hb2
        clear hcs hb2
        cases hts : takeS g' (k :: q) deep with
        | err er' =>
          rw [hts] at hr2
          obtain ⟨rfl, her⟩ := hr2
          have heb : (er != 0) = true := by simpa using her
          have HTS := Lib.hid hts
          have HER := Lib.hid her
          clear hts her
          go_wp2
          go_ret3
          refine ⟨(HJ.out.below.trans (HB2.out.mono HJ.out.below.size)).alloc (by have := HJ.out.below.size; have := HB2.out.size; omega) _, ?_⟩
          rw [HJ.out.eq, show tupS (g' + 1) (k :: q) deep = .err er by unfold tupS; rw [if_neg HK.out, HTS.out]]
          exact ⟨HER.out, rfl⟩
        | ok pr =>
          obtain ⟨p, rest⟩ := pr
          rw [hts] at hr2
          obtain ⟨rfl, hpu, hown, hnd, hge, o3, c3, rfl, hat3, hc3⟩ := hr2
          have HTS := Lib.hid hts
          have HR := Lib.hid (show _ ∧ _ ∧ _ ∧ _ ∧ _ from ⟨hpu, hown, hnd, hge, hat3⟩)
          have HC3 := Lib.hid hc3
          clear hts hpu hown hnd hge hat3 hc3
          have hown2 : ∀ O, OwnL VS.enc 5 46 (w2.alloc O) h ls := fun O => (HJ.out.own.below' HB2.out).below' ((Below.refl _ _).alloc (Nat.le_refl _) O)
          have hlown2 : ∀ O, (LT.mk (VS.mk kd bb nn rl pre pim) th tx ph ps).Own VS.enc 5 46 (w2.alloc O) := fun O => HR.out.2.1.below' ((Below.refl _ _).alloc (Nat.le_refl _) O)
          have hnd2 : ((h.ids ++ LT.idss ls) ++ (LT.mk (VS.mk kd bb nn rl pre pim) th tx ph ps).ids).Nodup := List.nodup_append.2 ⟨HJ.out.nd, HR.out.2.2.1, fun x hx y hy e => by
            have h1 := HJ.out.own.lt x hx
            have h2 := HR.out.2.2.2.1 y hy
            omega⟩
          have hge2 : ∀ k ∈ (h.ids ++ LT.idss ls) ++ (LT.mk (VS.mk kd bb nn rl pre pim) th tx ph ps).ids, w.heap.size ≤ k := fun x hx => by
            rcases List.mem_append.1 hx with hx | hx
            · exact HJ.out.ge x hx
            · have h2 := HR.out.2.2.2.1 x hx; have := HJ.out.below.size; omega
          have HO2 := Lib.hid (show _ ∧ _ ∧ _ ∧ _ from ⟨hown2, hlown2, hnd2, hge2⟩)
          clear hown2 hlown2 hnd2 hge2
          go_wp2_with (((with_reducible refine gate_dst (N := 34) rfl ?_); go_loud (refine app_node rfl (.tmp 31) (.tmp 33) rfl w.heap.size h ls (LT.mk (VS.mk kd bb nn rl pre pim) th tx ph ps) _ HCS.out.symm rfl (w2.heap.size + 1) rfl (by simp) (HO2.out.1 _) (HO2.out.2.1 _) HO2.out.2.2.1 HO2.out.2.2.2 (by have := HJ.out.len; have := HI.out.1; omega) (by have := HJ.out.below.size; have := HB2.out.size; simp; omega) ?_); intro h1 w3 own3 nd3 ge3 hb3; have H3 := Lib.hid (show _ ∧ _ ∧ _ ∧ _ from ⟨own3, nd3, ge3, hb3⟩); clear own3 nd3 ge3 hb3))
          go_roundw
          case rel =>
            obtain ⟨hrl, j, hrj⟩ := (rest_len g').1 _ _ _ _ HTS.out
            obtain ⟨hpu, hown, hnd, hge, hat3⟩ := HR.out
            obtain ⟨own3, nd3, ge3, hb3⟩ := H3.out
            have hb : Below w.heap.size w w3 := ((HJ.out.below.trans (HB2.out.mono HJ.out.below.size)).alloc (by have := HJ.out.below.size; have := HB2.out.size; omega) _).trans hb3
            refine ⟨g', rest, o3, c3, acc ++ [p], h1, ls ++ [LT.mk (VS.mk kd bb nn rl pre pim) th tx ph ps], rfl, by simp, ?_⟩
            refine ⟨(hat3.alloc _).belowB hb3 HJ.out.blt, ?_, HC3.out, ?_, ?_, ?_, own3, nd3, ge3, hb, ?_, HJ.out.blt⟩
            · rw [hrj]; exact HJ.out.byt.drop j
            · have := HJ.out.fuel; simp at this hrl; omega
            · rw [HJ.out.eq, tupS_cons HK.out HTS.out, prepT_prepT]
            · rw [LT.pures_map, List.map_append, ← LT.pures_map, HJ.out.pu, TT.maps_append]
              simp [TT.maps, hpu]
            · have := HJ.out.len; simp at this hrl ⊢; omega
          case measure =>
            have hrl := ((rest_len g').1 _ _ _ _ HTS.out).1
            simp [lenV] at hrl ⊢
            omega
theorem take_tup_all (f : Nat) : TakeAt f ∧ TupAt f := by
  induction f using Nat.strongRecOn with
  | _ f ih =>
    refine ⟨?_, tup_of f fun g hg => (ih g hg).1⟩
    cases f with
    | zero =>
      intro w b o xs c deep _ _ _ _ hpos hf _
      omega
    | succ f => exact take_of f (ih f (by omega)).2
end Go.Proofs.YtplfmpcoojkjlaaDoor
