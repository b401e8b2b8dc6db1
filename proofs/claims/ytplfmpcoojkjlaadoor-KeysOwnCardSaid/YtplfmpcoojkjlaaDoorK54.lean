/- Short contracts for the laws without the document: rows lent, codes, orders; ahead; awake. -/
import Derived.Test.YtplfmpcoojkjlaaDoorK52
import Derived.Test.YtplfmpcoojkjlaaDoorK8
import Derived.Test.YtplfmpcoojkjlaaDoorK13
import Derived.BigQuiet
import Derived.Deep.QuietTactic
namespace Go.Proofs.YtplfmpcoojkjlaaDoor
open Go.RowKit Go.Proofs.YtplfmpcoojkjlaaDoorW.PrintWords
/-- A row of values stands there that is, in the document's words, ps. -/
structure Good (w : World) (A : Option Addr) (ls : List (LT VS)) (ps : List (TT PS)) : Prop where
  rd : RdL VS.enc w A ls
  eq : TT.maps VS.ps (LT.pures ls) = ps
  fit : TT.alls VS.fit (LT.pures ls)
theorem Good.below {w w' : World} {A : Option Addr} {ls : List (LT VS)} {ps : List (TT PS)} (h : Good w A ls ps) (hb : Below w.heap.size w w') : Good w' A ls ps := ⟨h.rd.below hb, h.eq, h.fit⟩
def ValP (w : World) (ps : List (TT PS)) (e : Ending) (w' : World) : Prop := ∃ (A : Option Addr) (ls : List (LT VS)) (c : Nat), e = .returned (.slice A ls.length c) ∧ Good w' A ls ps ∧ Below w.heap.size w w'
theorem val_any (w : World) (A : Option Addr) (c : Nat) (ms : List (LT PS)) (hA : RdL PS.enc w A ms) (hf : TT.alls PS.fits (LT.pures ms)) (hw : TT.wts (LT.pures ms) ≤ 1048576) (w' : World) (hb : Below w.heap.size w w') :
    Calls Tryd.prog 14 #[.slice A ms.length c] w' (ValP w' (LT.pures ms)) :=
  (val_all (LT.cnts ms) w' A c ms (Nat.le_refl _) (hA.below hb) hw).mono fun e w'' ⟨h, ls, he, hp, ho, _, _, _, hb'⟩ =>
    ⟨h.A, ls, h.cap, he, ⟨ho.rd.1, by rw [hp, maps_ps_all], by rw [hp]; exact TT.maps_all _ PS.all_fit _ hf⟩, hb'⟩
theorem enc_any {w : World} {A : Option Addr} {ls : List (LT VS)} {ps : List (TT PS)} (h : Good w A ls ps) (hw : (codL ps).length ≤ 1099511627775) (c : Nat) (w' : World) (hb : Below w.heap.size w w') :
    Calls Tryd.prog 16 #[.slice A ls.length c] w' (EncPost w' ps) := by
  have := encode_calls w' A c ls (h.rd.below hb) h.fit (by rw [h.eq]; omega)
  rwa [h.eq] at this
theorem span_any {w : World} {A : Option Addr} {ls : List (LT VS)} {ps : List (TT PS)} (h : Good w A ls ps) (hw : (codL ps).length ≤ 1099511627775) (c : Nat) (w' : World) (hb : Below w.heap.size w w') :
    Calls Tryd.prog 20 #[.slice A ls.length c] w' (SpanPost w' ps) := by
  have := span_calls w' A c ls (h.rd.below hb) h.fit (by rw [h.eq]; exact hw)
  rwa [h.eq] at this
def CmpP (w : World) (ps qs : List (TT PS)) (e : Ending) (w' : World) : Prop := e = .returned (.tuple #[.int .i64 (cmpS ps qs).1, .int .i64 (cmpS ps qs).2]) ∧ Below w.heap.size w w'
theorem cmp_any {w1 w2 : World} {A B : Option Addr} {ls ts : List (LT VS)} {ps qs : List (TT PS)} (h : Good w1 A ls ps) (k : Good w2 B ts qs) (c d : Nat) (w' : World) (hb : Below w1.heap.size w1 w') (hc : Below w2.heap.size w2 w') :
    Calls Tryd.prog 22 #[.slice A ls.length c, .slice B ts.length d] w' (CmpP w' ps qs) := by
  have := compare_calls w' A B c d ls ts (h.rd.below hb) (k.rd.below hc) h.fit k.fit
  rwa [h.eq, k.eq] at this
/-! ### ahead -/
theorem cmpX_drop (xs ys : List Int) (k : Nat) (h1 : k < xs.length) (h2 : k < ys.length) : cmpX (xs.drop k) (ys.drop k) = if xs[k] = ys[k] then cmpX (xs.drop (k + 1)) (ys.drop (k + 1)) else sgn xs[k] ys[k] := by
  rw [List.drop_eq_getElem_cons h1, List.drop_eq_getElem_cons h2]
  rfl
set_option maxRecDepth 100000 in
set_option maxHeartbeats 1000000 in
theorem ahead_calls (w : World) (A B : Option Addr) (xs ys : List Int) (c d : Nat) (hr : Row w A (nums8 xs)) (hs : Row w B (nums8 ys)) (hx : Byt xs) (hy : Byt ys) (hm : xs.length ≤ 9223372036854775807) (hn : ys.length ≤ 9223372036854775807) :
    Calls Tryd.prog 23 #[.slice A xs.length c, .slice B ys.length d] w fun e w' => e = .returned (.int .i64 (cmpX xs ys)) ∧ Below w.heap.size w w' := by
  have H0 := Lib.hid (show _ ∧ _ ∧ _ ∧ _ from ⟨hr, hs, hx, hy⟩)
  clear hr hs hx hy
  go_enter Tryd.func23, Tryd.ntmps23
  go_wp2
  go_loopw [5] (fun vi wr => ∃ k : Nat, k ≤ xs.length ∧ k ≤ ys.length ∧ vi = .int .i64 k ∧ Below w.heap.size w wr ∧ cmpX xs ys = cmpX (xs.drop k) (ys.drop k)) (fun vi _ => xs.length - (intOf vi).toNat)
  case atStart => exact ⟨0, by omega, by omega, rfl, Below.refl _ _, rfl⟩
  case round =>
    obtain ⟨k, hk, hk2, rfl, hbw, heq⟩ := hrel
    have HW := Lib.hid (show _ ∧ _ from ⟨hbw, heq⟩)
    clear hbw heq
    by_cases h1 : k < xs.length
    · by_cases h2 : k < ys.length
      · have hd1 : decide ((k : Int) < xs.length) = true := by simp; omega
        have hd2 : decide ((k : Int) < ys.length) = true := by simp; omega
        obtain ⟨b, o, rfl, _, hc⟩ := (H0.out.1.below HW.out.1).get (by intro h; have := congrArg List.length h; simp only [nums8_length, List.length_nil] at this; omega)
        obtain ⟨b2, o2, rfl, _, hc2⟩ := (H0.out.2.1.below HW.out.1).get (by intro h; have := congrArg List.length h; simp only [nums8_length, List.length_nil] at this; omega)
        have c1 := hc k _ (nums8_get xs k h1)
        have c2 := hc2 k _ (nums8_get ys k h2)
        have hst := cmpX_drop xs ys k h1 h2
        rw [← HW.out.2] at hst
        generalize xs[k] = x at *
        generalize ys[k] = y at *
        have HS := Lib.hid hst
        clear hst hc hc2 hd1 hd2
        rcases Int.lt_trichotomy x y with hlt | heq | hgt
        · have hxy : decide (x < y) = true := decide_eq_true hlt
          have HE := Lib.hid (show cmpX xs ys = -1 by rw [HS.out, if_neg (by omega)]; simp [sgn, hlt])
          clear hlt
          go_wp2
          go_quiet (fail)
          go_wp2
          go_ret
          exact ⟨by rw [HE.out]; rfl, pw_below_drewN HW.out.1 _⟩
        · subst heq
          have HE := Lib.hid (HS.out.trans (if_pos rfl))
          go_wp2
          go_quiet (fail)
          go_wp2
          go_quiet (fail)
          go_wp2
          go_roundw
          case rel => exact ⟨k + 1, by omega, by omega, by go_num, pw_below_drewN HW.out.1 _, HE.out⟩
          case measure => simp [intOf]; omega
        · have hxy : decide (x < y) = false := decide_eq_false (by omega)
          have hyx : decide (y < x) = true := decide_eq_true hgt
          have HE := Lib.hid (show cmpX xs ys = 1 by rw [HS.out, if_neg (by omega)]; simp [sgn, hgt, show ¬ x < y by omega])
          clear hgt
          go_wp2
          go_quiet (fail)
          go_wp2
          go_quiet (fail)
          go_wp2
          go_ret
          exact ⟨by rw [HE.out]; rfl, (by first | exact pw_below_drewN HW.out.1 _ | exact pw_below_drewN (pw_below_drewN HW.out.1 _) _)⟩
      · have hE : cmpX xs ys = sgn (xs.length : Int) (ys.length : Int) := by
          rw [HW.out.2, cmpX_nil _ _ (Or.inr (List.drop_eq_nil_of_le (by omega))), List.length_drop, List.length_drop]
          unfold sgn
          split <;> split <;> (try split) <;> (try split) <;> omega
        have HE := Lib.hid (hE.trans (show sgn (xs.length : Int) (ys.length : Int) = 1 by simp [sgn]; omega))
        clear hE
        have hl1 : decide (xs.length < ys.length) = false := by simp; omega
        have hl2 : decide (ys.length < xs.length) = true := by simp; omega
        go_wp2
        go_ret
        exact ⟨by rw [HE.out]; rfl, HW.out.1⟩
    · have hE : cmpX xs ys = sgn (xs.length : Int) (ys.length : Int) := by
        rw [HW.out.2, cmpX_nil _ _ (Or.inl (List.drop_eq_nil_of_le (by omega))), List.length_drop, List.length_drop]
        unfold sgn
        split <;> split <;> (try split) <;> (try split) <;> omega
      by_cases h2 : ys.length = xs.length
      · have HE := Lib.hid (hE.trans (show sgn (xs.length : Int) (ys.length : Int) = 0 by simp [sgn]; omega))
        clear hE
        have hl1 : decide (xs.length < ys.length) = false := by simp; omega
        have hl2 : decide (ys.length < xs.length) = false := by simp; omega
        have HL2 := Lib.hid h2
        clear h2
        go_wp2
        go_ret
        exact ⟨by rw [HE.out]; rfl, HW.out.1⟩
      · have HE := Lib.hid (hE.trans (show sgn (xs.length : Int) (ys.length : Int) = -1 by simp [sgn]; omega))
        clear hE
        have hl1 : decide (xs.length < ys.length) = true := by simp; omega
        go_wp2
        go_ret
        exact ⟨by rw [HE.out]; rfl, HW.out.1⟩
/-! ### awake -/
def awkL (N : Nat) : List (LT VS) := [.mk ⟨3, false, -1, 0, 0, 0⟩ ⟨none, 0⟩ [] ⟨none, 0⟩ [], .mk ⟨6, false, 0, 0, 0, 0⟩ ⟨some ⟨N, 0, none⟩, 2⟩ [7, 0] ⟨none, 0⟩ []]
def awkP : List (TT PS) := [.mk ⟨3, false, -1, 0, 0⟩ [] [], .mk ⟨6, false, 0, 0, 0⟩ [7, 0] []]
def oneL (n : Int) : List (LT VS) := [.mk ⟨3, false, n, 0, 0, 0⟩ ⟨none, 0⟩ [] ⟨none, 0⟩ []]
def oneP (n : Int) : List (TT PS) := [.mk ⟨3, false, n, 0, 0⟩ [] []]
def awkC : List Int := [3, 127, 255, 255, 255, 255, 255, 255, 255, 6, 7, 0, 255, 0]
theorem awk_flt : TT.flts PS.kind awkP 0 = 0 := by decide +kernel
theorem awk_enc : encS awkP = awkC := by decide +kernel
theorem awk_cod : codL awkP = awkC := by decide +kernel
theorem awk_cln : clnL awkP = awkP := by rfl
theorem awk_fits : TT.alls PS.fits awkP := by
  refine ⟨⟨⟨⟨by decide, by decide, Byt.nil⟩, by decide, by decide⟩, trivial⟩, ⟨⟨⟨by decide, by decide, ?_⟩, by decide, by decide⟩, trivial⟩, trivial⟩
  intro x hx
  simp at hx
  omega
theorem awk_byt : Byt awkC := by
  intro x hx
  simp [awkC] at hx
  omega
theorem awk_dec : decS 29 awkC = .ok awkP := by
  have := dec_cod awkP 29 awk_flt awk_fits (by rw [awk_cod]; decide)
  rwa [awk_cod, awk_cln] at this
theorem awk_cmp : cmpS awkP (oneP 1) = (-1, 0) := by decide +kernel
/-- A row of values that a literal lays. -/
theorem lit_good (w : World) (ls : List (LT VS)) (ps : List (TT PS)) (t : TypeId) (hall : ∀ p ∈ ls, p.Rd VS.enc w) (hlen : ls.length ≤ 9223372036854775807) (heq : TT.maps VS.ps (LT.pures ls) = ps) (hfit : TT.alls VS.fit (LT.pures ls)) :
    Good (w.alloc (.cells (rowCells VS.enc ls).toArray t)) (some ⟨w.heap.size, 0, none⟩) ls ps :=
  ⟨⟨(at_new w (rowCells VS.enc ls) t).row, fun p hp => (hall p hp).keep ((Below.refl _ _).alloc (Nat.le_refl _) _), hlen⟩, heq, hfit⟩
theorem rd_plain (w : World) (s : VS) : (LT.mk s ⟨none, 0⟩ [] ⟨none, 0⟩ []).Rd VS.enc w := .mk (Nat.le_refl _) (.inl rfl) (Nat.le_refl _) (.inl rfl) ⟨by simp [LT.text], by simp [LT.parts]⟩ (fun p hp => by cases hp)
theorem one_fit (n : Int) (h0 : -9223372036854775808 ≤ n) (h1 : n ≤ 9223372036854775807) : TT.alls VS.fit (LT.pures (oneL n)) := ⟨⟨⟨(by decide : 0 < 18446744073709551616), (by decide : 0 < 18446744073709551616), (by decide : 0 < 18446744073709551616), Byt.nil, h0, h1⟩, trivial⟩, trivial⟩
theorem one_good (w : World) (n : Int) (t : TypeId) (h0 : -9223372036854775808 ≤ n) (h1 : n ≤ 9223372036854775807) : Good (w.alloc (.cells (rowCells VS.enc (oneL n)).toArray t)) (some ⟨w.heap.size, 0, none⟩) (oneL n) (oneP n) :=
  lit_good w (oneL n) (oneP n) t (fun p hp => by rw [List.mem_singleton.1 hp]; exact rd_plain _ _) (by simp [oneL]) rfl (one_fit n h0 h1)
theorem awk_good (w : World) (t1 t2 : TypeId) : Good ((w.alloc (.cells #[.int .u8 7, .int .u8 0] t1)).alloc (.cells (rowCells VS.enc (awkL w.heap.size)).toArray t2)) (some ⟨w.heap.size + 1, 0, none⟩) (awkL w.heap.size) awkP := by
  have h := lit_good (w.alloc (.cells #[.int .u8 7, .int .u8 0] t1)) (awkL w.heap.size) awkP t2 (fun p hp => ?_) (by simp [awkL]) rfl ?_
  · have e : (w.alloc (.cells #[.int .u8 7, .int .u8 0] t1)).heap.size = w.heap.size + 1 := by simp
    rwa [e] at h
  · simp only [awkL, List.mem_cons, List.not_mem_nil, or_false] at hp
    rcases hp with rfl | rfl
    · exact rd_plain _ _
    · exact .mk (Nat.le_refl _) (at_new w [.int .u8 7, .int .u8 0] t1).row (Nat.le_refl _) (.inl rfl) ⟨by simp [LT.text], by simp [LT.parts]⟩ (fun p hp => by cases hp)
  · refine ⟨⟨⟨by decide, by decide, by decide, Byt.nil, by decide, by decide⟩, trivial⟩, ⟨⟨by decide, by decide, by decide, ?_, by decide, by decide⟩, trivial⟩, trivial⟩
    intro x hx
    simp at hx
    omega
set_option maxRecDepth 100000 in
set_option maxHeartbeats 4000000 in
theorem awake_calls (w : World) : Calls Tryd.prog 21 #[] w fun e w' => e = .returned (.bool true) ∧ Below w.heap.size w w' := by
  go_enter Tryd.func21, Tryd.ntmps21
  go_wp2_with fail
  have hg := awk_good w 5 46
  have hbA : Below w.heap.size w ((w.alloc (.cells #[.int .u8 7, .int .u8 0] 5)).alloc (.cells (rowCells VS.enc (awkL w.heap.size)).toArray 46)) := ((Below.refl _ _).alloc (Nat.le_refl _) _).alloc (by simp) _
  change Calls _ _ _ ((w.alloc (.cells #[.int .u8 7, .int .u8 0] 5)).alloc (.cells (rowCells VS.enc (awkL w.heap.size)).toArray 46)) _
  generalize (w.alloc (.cells #[.int .u8 7, .int .u8 0] 5)).alloc (.cells (rowCells VS.enc (awkL w.heap.size)).toArray 46) = wA at *
  have hen : Calls Tryd.prog 16 #[.slice (some ⟨w.heap.size + 1, 0, none⟩) 2 2] wA (EncPost wA awkP) := enc_any hg (by rw [awk_cod]; decide) 2 wA (Below.refl _ _)
  unfold EncPost at hen
  rw [awk_enc, awk_flt] at hen
  have HG := Lib.hid (show _ ∧ _ from ⟨hg, hbA⟩)
  have HEN := Lib.hid hen
  clear hg hbA hen
  refine HEN.out.mono ?_
  rintro e w1 ⟨A1, c1, rfl, ho1, hb1⟩
  have hde := decode_calls 29 w1 A1 awkC c1 (own_row ho1).2.1 awk_byt (own_row ho1).1 (by decide) (by decide)
  unfold DecPost at hde
  rw [awk_dec] at hde
  have H1 := Lib.hid (show _ ∧ _ ∧ _ from ⟨ho1, hb1, HG.out.2.trans (hb1.mono HG.out.2.size)⟩)
  have HDE := Lib.hid hde
  clear ho1 hb1 hde HEN
  go_wp2_with fail
  refine HDE.out.mono ?_
  rintro e w2 ⟨hb2, h, ls, rfl, hp, ho2, _, _⟩
  have hl2 : ls.length = 2 := by
    have := congrArg List.length hp
    rwa [LT.pures_length, TT.maps_length] at this
  obtain ⟨b, o, hA, hblt, hc0, _⟩ := (ho2.rd.1).get VS.enc5 0 (by omega)
  obtain ⟨b', o', hA', _, hc1, hr1⟩ := (ho2.rd.1).get VS.enc5 1 (by omega)
  have hbo : b = b' ∧ o = o' := by
    rw [hA] at hA'
    injection hA' with h1
    injection h1 with h1 h2
    exact ⟨h1, h2⟩
  obtain ⟨rfl, rfl⟩ := hbo
  obtain ⟨l0, l1, rfl⟩ : ∃ l0 l1, ls = [l0, l1] := by
    match ls, hl2 with
    | [l0, l1], _ => exact ⟨l0, l1, rfl⟩
  obtain ⟨⟨kd, bb, nn, rl, re, im⟩, th, tx, ph, ps⟩ := l0
  obtain ⟨⟨kd1, bb1, nn1, rl1, re1, im1⟩, th1, tx1, ph1, ps1⟩ := l1
  simp only [LT.pures, LT.pure, awkP, TT.maps, TT.map, PS.ans, List.cons.injEq, TT.mk.injEq, VS.mk.injEq, and_true] at hp
  obtain ⟨⟨⟨_, _, rfl, _⟩, _⟩, _, rfl, _⟩ := hp
  obtain ⟨hh, hcap⟩ := h
  simp only at hA
  subst hA
  have d2 : w2.cell? ⟨b, o + 2, none⟩ = some (.int .i64 (-1)) := by
    have := hc0 2 (.int .i64 (-1)) (by omega) rfl
    simpa using this
  have d5 : w2.cell? ⟨b, o + 12, none⟩ = some (.slice th1.A 2 th1.cap) := by
    have := hc1 5 (.slice th1.A 2 th1.cap) (by omega) rfl
    simpa using this
  have hrt : Row w2 th1.A (nums8 [7, 0]) := hr1.textRow
  have H2 := Lib.hid (show _ ∧ _ ∧ _ ∧ _ ∧ _ ∧ _ from ⟨hb2, hblt, d2, d5, hrt, H1.out.2.2.trans (hb2.mono H1.out.2.2.size)⟩)
  clear hb2 hblt d2 d5 hrt ho2 hc0 hc1 hr1 HDE
  go_wp2_with fail
  have hg1 := one_good w2 1 46 (by decide) (by decide)
  change Calls _ _ _ (w2.alloc (.cells (rowCells VS.enc (oneL 1)).toArray 46)) _
  have hb3 : Below w2.heap.size w2 (w2.alloc (.cells (rowCells VS.enc (oneL 1)).toArray 46)) := (Below.refl _ _).alloc (Nat.le_refl _) _
  generalize w2.alloc (.cells (rowCells VS.enc (oneL 1)).toArray 46) = w3 at *
  have hcm : Calls Tryd.prog 22 #[.slice (some ⟨w.heap.size + 1, 0, none⟩) 2 2, .slice (some ⟨w2.heap.size, 0, none⟩) 1 1] w3 (CmpP w3 awkP (oneP 1)) := cmp_any HG.out.1 hg1 2 1 w3 ((H1.out.2.1.trans (H2.out.1.mono H1.out.2.1.size)).trans (hb3.mono (Nat.le_trans H1.out.2.1.size H2.out.1.size))) (Below.refl _ _)
  unfold CmpP at hcm
  rw [awk_cmp] at hcm
  have HCM := Lib.hid hcm
  have HB3 := Lib.hid hb3
  clear hcm hb3 hg1
  refine HCM.out.mono ?_
  rintro e w4 ⟨rfl, hb4⟩
  have h24 : Below w2.heap.size w2 w4 := HB3.out.trans (hb4.mono HB3.out.size)
  have d2 : w4.cell? ⟨b, o + 2, none⟩ = some (.int .i64 (-1)) := (h24.cell (p := ⟨b, o + 2, none⟩) H2.out.2.1).trans H2.out.2.2.1
  have d5 : w4.cell? ⟨b, o + 12, none⟩ = some (.slice th1.A 2 th1.cap) := (h24.cell (p := ⟨b, o + 12, none⟩) H2.out.2.1).trans H2.out.2.2.2.1
  have H4 := Lib.hid (show _ ∧ _ from ⟨h24, H2.out.2.2.2.2.2.trans (h24.mono H2.out.2.2.2.2.2.size)⟩)
  clear hb4 h24 HCM
  go_wp2_with fail
  have hb5 : Below w4.heap.size w4 (w4.alloc (.cells (nums8 awkC).toArray 5)) := (Below.refl _ _).alloc (Nat.le_refl _) _
  have hlit := (at_new w4 (nums8 awkC) 5).row
  change Calls _ _ #[.slice A1 awkC.length c1, .slice (some ⟨w4.heap.size, 0, none⟩) 14 14] (w4.alloc (.cells (nums8 awkC).toArray 5)) _
  generalize w4.alloc (.cells (nums8 awkC).toArray 5) = w5 at *
  have hsm : Calls Tryd.prog 18 #[.slice A1 awkC.length c1, .slice (some ⟨w4.heap.size, 0, none⟩) 14 14] w5 fun e w' => e = .returned (.bool true) ∧ Drawn0 w5 w' := by
    have := same_calls w5 A1 (some ⟨w4.heap.size, 0, none⟩) awkC awkC c1 14 ((((own_row H1.out.1).2.1.below H2.out.1).below H4.out.1).below hb5) hlit (by decide)
    rwa [decide_eq_true rfl] at this
  have d2 : w5.cell? ⟨b, o + 2, none⟩ = some (.int .i64 (-1)) := (hb5.cell (p := ⟨b, o + 2, none⟩) (Nat.lt_of_lt_of_le H2.out.2.1 H4.out.1.size)).trans d2
  have d5 : w5.cell? ⟨b, o + 12, none⟩ = some (.slice th1.A 2 th1.cap) := (hb5.cell (p := ⟨b, o + 12, none⟩) (Nat.lt_of_lt_of_le H2.out.2.1 H4.out.1.size)).trans d5
  have H5 := Lib.hid (show _ ∧ _ from ⟨hb5, H4.out.2.trans (hb5.mono H4.out.2.size)⟩)
  have HSM := Lib.hid hsm
  clear hb5 hlit hsm
  refine HSM.out.mono ?_
  rintro e w6 ⟨rfl, ⟨nd, rfl⟩⟩
  have hw6 : Below w5.heap.size w5 (w5.drewN nd) := pw_below_drewN (Below.refl _ _) _
  have d2 : (w5.drewN nd).cell? ⟨b, o + 2, none⟩ = some (.int .i64 (-1)) := (hw6.cell (p := ⟨b, o + 2, none⟩) (World.block_lt_of_cell? _ _ d2)).trans d2
  have d5 : (w5.drewN nd).cell? ⟨b, o + 12, none⟩ = some (.slice th1.A 2 th1.cap) := (hw6.cell (p := ⟨b, o + 12, none⟩) (World.block_lt_of_cell? _ _ d5)).trans d5
  generalize w5.drewN nd = w6 at *
  have H6 := Lib.hid hw6
  clear hw6 HSM
  go_wp2_with fail
  have hb7 : Below w6.heap.size w6 (w6.alloc (.cells (nums8 [7, 0]).toArray 5)) := (Below.refl _ _).alloc (Nat.le_refl _) _
  have hlit := (at_new w6 (nums8 [7, 0]) 5).row
  change Calls _ _ #[.slice th1.A 2 th1.cap, .slice (some ⟨w6.heap.size, 0, none⟩) 2 2] (w6.alloc (.cells (nums8 [7, 0]).toArray 5)) _
  generalize w6.alloc (.cells (nums8 [7, 0]).toArray 5) = w7 at *
  have hsm : Calls Tryd.prog 18 #[.slice th1.A 2 th1.cap, .slice (some ⟨w6.heap.size, 0, none⟩) 2 2] w7 fun e w' => e = .returned (.bool true) ∧ Drawn0 w7 w' := by
    have := same_calls w7 th1.A (some ⟨w6.heap.size, 0, none⟩) [7, 0] [7, 0] th1.cap 2 ((((H2.out.2.2.2.2.1.below H4.out.1).below H5.out.1).below H6.out).below hb7) hlit (by decide)
    rwa [decide_eq_true rfl] at this
  have H7 := Lib.hid (show _ ∧ _ from ⟨hsm, (H5.out.2.trans (H6.out.mono H5.out.2.size)).trans (hb7.mono (Nat.le_trans H5.out.2.size H6.out.size))⟩)
  clear hb7 hlit hsm d2 d5
  refine H7.out.1.mono ?_
  rintro e w8 ⟨rfl, ⟨nd2, rfl⟩⟩
  go_wp2
  go_ret
  exact ⟨rfl, pw_below_drewN H7.out.2 _⟩
end Go.Proofs.YtplfmpcoojkjlaaDoor
