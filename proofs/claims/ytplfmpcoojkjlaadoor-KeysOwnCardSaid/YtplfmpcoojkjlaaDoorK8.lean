/- The program's Decode: it answers what decS says, in new memory. -/
import Derived.Test.YtplfmpcoojkjlaaDoorK7
namespace Go.Proofs.YtplfmpcoojkjlaaDoor
open Go.RowKit Go.Proofs.YtplfmpcoojkjlaaDoorW.PrintWords
def prepD (acc : List P) : Res (List P) → Res (List P)
  | .err e => .err e
  | .ok ps => .ok (acc ++ ps)
theorem decS_cons {g : Nat} {k : Int} {q : List Int} {p : P} {rest : List Int} (h : takeS g (k :: q) 0 = .ok (p, rest)) : decS (g + 1) (k :: q) = prepD [p] (decS g rest) := by
  rw [decS, h]
  dsimp only
  cases decS g rest <;> rfl
theorem prepD_prepD (a b : List P) (r : Res (List P)) : prepD a (prepD b r) = prepD (a ++ b) r := by cases r <;> simp [prepD]
structure DecJ (w : World) (A0 : Option Addr) (f : Nat) (xs : List Int) (wr : World) (g : Nat) (ys : List Int) (A : Option Addr) (c : Nat) (acc : List P) (h : Hdr) (ls : List (LT VS)) : Prop where
  at_ : ys ≠ [] → ∃ b o, A = some ⟨b, o, none⟩ ∧ At wr b o (nums8 ys) ∧ b < w.heap.size
  byt : Byt ys
  cap : ys.length ≤ c
  fuel : 2 * ys.length + 1 ≤ g ∧ g ≤ f
  eq : decS f xs = prepD acc (decS g ys)
  pu : LT.pures ls = TT.maps PS.ans acc
  own : OwnL VS.enc 5 46 wr h ls
  nd : (h.ids ++ LT.idss ls).Nodup
  ge : ∀ k ∈ h.ids ++ LT.idss ls, w.heap.size ≤ k
  below : Below w.heap.size w wr
  len : ls.length + ys.length ≤ xs.length
def DecPost (w : World) (f : Nat) (xs : List Int) (e : Ending) (w' : World) : Prop :=
  Below w.heap.size w w' ∧ match decS f xs with
    | .err er => er ≠ 0 ∧ e = .returned (.tuple #[.slice none 0 0, .int .i64 er])
    | .ok ps => ∃ (h : Hdr) (ls : List (LT VS)), e = .returned (.tuple #[.slice h.A ls.length h.cap, .int .i64 0]) ∧ LT.pures ls = TT.maps PS.ans ps ∧ OwnL VS.enc 5 46 w' h ls ∧ (h.ids ++ LT.idss ls).Nodup ∧ (∀ k ∈ h.ids ++ LT.idss ls, w.heap.size ≤ k)
set_option maxRecDepth 100000 in
set_option maxHeartbeats 2000000 in
theorem decode_calls (f : Nat) (w : World) (A : Option Addr) (xs : List Int) (c : Nat) (hat : Row w A (nums8 xs)) (hx : Byt xs) (hcap : xs.length ≤ c) (hm : xs.length ≤ 1099511627776) (hf : 2 * xs.length + 1 ≤ f) :
    Calls Tryd.prog 25 #[.slice A xs.length c] w (DecPost w f xs) := by
  obtain ⟨i0, hi, hz0, hsz, hby⟩ := info_parts info5
  have HI := Lib.hid (show xs.length ≤ 1099511627776 ∧ Tryd.prog.info? 5 = some i0 ∧ i0.size = 1 from ⟨hm, hi, hsz⟩)
  have J0 : DecJ w A f xs w f xs A c [] ⟨none, 0⟩ [] := ⟨fun hne => by
    obtain ⟨b, o, h1, h2, h3⟩ := hat.get (by simpa [nums8] using hne)
    exact ⟨b, o, h1, ⟨h2, h3⟩, h2⟩, hx, hcap, ⟨hf, Nat.le_refl _⟩, by cases decS f xs <;> rfl, rfl, ⟨⟨rfl, .inl ⟨rfl, rfl⟩⟩, fun p hp => by cases hp⟩, by simp [Hdr.ids, LT.idss], by simp [Hdr.ids, LT.idss], Below.refl _ _, by simp⟩
  clear hat hx hcap hf hi hz0 hsz hby hm
  go_enter Tryd.func25, Tryd.ntmps25
  go_wp2
  go_loopw [0, 4] (fun vp vr wr => ∃ (g : Nat) (ys : List Int) (A1 : Option Addr) (c : Nat) (acc : List P) (h : Hdr) (ls : List (LT VS)), vp = .slice A1 ys.length c ∧ vr = .slice h.A ls.length h.cap ∧ DecJ w A f xs wr g ys A1 c acc h ls) (fun vp _ _ => lenV vp)
  case atStart => exact ⟨f, xs, A, c, [], ⟨none, 0⟩, [], rfl, rfl, J0⟩
  case round =>
    obtain ⟨g, ys, A1, c1, acc, h, ls, rfl, rfl, HJ⟩ := hrel
    clear J0
    have HJ := Lib.hid HJ
    rcases ys with _ | ⟨k, q⟩
    · go_wp2
      go_ret2
      have hg : ∃ g', g = g' + 1 := ⟨g - 1, by have := HJ.out.fuel; omega⟩
      obtain ⟨g', rfl⟩ := hg
      refine ⟨HJ.out.below, ?_⟩
      rw [HJ.out.eq]
      exact ⟨h, ls, rfl, by simpa using HJ.out.pu, HJ.out.own, HJ.out.nd, HJ.out.ge⟩
    · have hpos : 0 < (k :: q).length := by simp
      obtain ⟨b, o1, rfl, hat1, hblt⟩ := HJ.out.at_ (by simp)
      have HAT := Lib.hid (show _ ∧ _ from ⟨hat1, hblt⟩)
      clear hat1 hblt
      obtain ⟨g', hg'⟩ : ∃ g', g = g' + 1 := ⟨g - 1, by have := HJ.out.fuel; omega⟩
      subst hg'
      go_wp2_with fail
      show Calls _ _ #[.slice (some ⟨b, o1, none⟩) (k :: q).length c1, _] _ _
      refine ((take_tup_all g').1 wr b o1 (k :: q) c1 0 HAT.out.1 HJ.out.byt HJ.out.cap (by have := HJ.out.len; have := HI.out.1; omega) hpos (by have := HJ.out.fuel; omega) (by omega)).mono ?_
      rintro e w2 ⟨hb2, l, rv, er, rfl, hr2⟩
      obtain ⟨⟨kd, bb, nn, rl, pre, pim⟩, th, tx, ph, ps⟩ := l
      have hcs : ((LT.mk (VS.mk kd bb nn rl pre pim) th tx ph ps).cells VS.enc).toArray = #[.int .i64 kd, .bool bb, .int .i64 nn, .float .f64 rl, .complex .f64 pre pim, .slice th.A tx.length th.cap, .slice ph.A ps.length ph.cap] := rfl
      rw [hcs]
      have HCS := Lib.hid hcs
      have HB2 := Lib.hid hb2
      clear hcs hb2
      cases hts : takeS g' (k :: q) 0 with
      | err er' =>
        rw [hts] at hr2
        obtain ⟨rfl, her⟩ := hr2
        have heb : (er != 0) = true := by simpa using her
        have HTS := Lib.hid hts
        have HER := Lib.hid her
        clear hts her
        go_wp2
        go_ret2
        refine ⟨(HJ.out.below.trans (HB2.out.mono HJ.out.below.size)).alloc (by have := HJ.out.below.size; have := HB2.out.size; omega) _, ?_⟩
        rw [HJ.out.eq, show decS (g' + 1) (k :: q) = .err er by rw [decS, HTS.out]]
        exact ⟨HER.out, rfl⟩
      | ok pr =>
        obtain ⟨p, rest⟩ := pr
        rw [hts] at hr2
        obtain ⟨rfl, hpu, hown, hnd, hge, o3, c3, rfl, hat3, hc3⟩ := hr2
        have HTS := Lib.hid hts
        have HR := Lib.hid (show _ ∧ _ ∧ _ ∧ _ ∧ _ from ⟨hpu, hown, hnd, hge, hat3⟩)
        have HC3 := Lib.hid hc3
        clear hts hpu hown hnd hge hat3 hc3
        have hown2 : ∀ O, OwnL VS.enc 5 46 (w2.alloc O) h ls := fun O => (HJ.out.own.below' HB2.out).below' ((Below.refl _ _).alloc (Nat.le_refl _) O)
        have hlown2 : ∀ O, (LT.mk (VS.mk kd bb nn rl pre pim) th tx ph ps).Own VS.enc 5 46 (w2.alloc O) := fun O => HR.out.2.1.below' ((Below.refl _ _).alloc (Nat.le_refl _) O)
        have hnd2 : ((h.ids ++ LT.idss ls) ++ (LT.mk (VS.mk kd bb nn rl pre pim) th tx ph ps).ids).Nodup := List.nodup_append.2 ⟨HJ.out.nd, HR.out.2.2.1, fun x hx y hy e => by
          have h1 := HJ.out.own.lt x hx
          have h2 := HR.out.2.2.2.1 y hy
          omega⟩
        have hge2 : ∀ k ∈ (h.ids ++ LT.idss ls) ++ (LT.mk (VS.mk kd bb nn rl pre pim) th tx ph ps).ids, w.heap.size ≤ k := fun x hx => by
          rcases List.mem_append.1 hx with hx | hx
          · exact HJ.out.ge x hx
          · have h2 := HR.out.2.2.2.1 x hx; have := HJ.out.below.size; omega
        have HO2 := Lib.hid (show _ ∧ _ ∧ _ ∧ _ from ⟨hown2, hlown2, hnd2, hge2⟩)
        clear hown2 hlown2 hnd2 hge2
        go_wp2_with (((with_reducible refine gate_dst (N := 23) rfl ?_); go_loud (refine app_node rfl (.tmp 20) (.tmp 22) rfl w.heap.size h ls (LT.mk (VS.mk kd bb nn rl pre pim) th tx ph ps) _ HCS.out.symm rfl (w2.heap.size + 1) rfl (by simp) (HO2.out.1 _) (HO2.out.2.1 _) HO2.out.2.2.1 HO2.out.2.2.2 (by have := HJ.out.len; have := HI.out.1; omega) (by have := HJ.out.below.size; have := HB2.out.size; simp; omega) ?_); intro h1 w3 own3 nd3 ge3 hb3; have H3 := Lib.hid (show _ ∧ _ ∧ _ ∧ _ from ⟨own3, nd3, ge3, hb3⟩); clear own3 nd3 ge3 hb3))
        go_roundw
        case rel =>
          obtain ⟨hrl, j, hrj⟩ := (rest_len g').1 _ _ _ _ HTS.out
          obtain ⟨hpu, hown, hnd, hge, hat3⟩ := HR.out
          obtain ⟨own3, nd3, ge3, hb3⟩ := H3.out
          have hb : Below w.heap.size w w3 := ((HJ.out.below.trans (HB2.out.mono HJ.out.below.size)).alloc (by have := HJ.out.below.size; have := HB2.out.size; omega) _).trans hb3
          refine ⟨g', rest, _, c3, acc ++ [p], h1, ls ++ [LT.mk (VS.mk kd bb nn rl pre pim) th tx ph ps], rfl, by simp, ?_⟩
          refine ⟨fun _ => ⟨b, o3, rfl, (hat3.alloc _).belowB hb3 HAT.out.2, HAT.out.2⟩, ?_, HC3.out, ?_, ?_, ?_, own3, nd3, ge3, hb, ?_⟩
          · rw [hrj]; exact HJ.out.byt.drop j
          · have := HJ.out.fuel; simp at this hrl; omega
          · rw [HJ.out.eq, decS_cons HTS.out, prepD_prepD]
          · rw [LT.pures_map, List.map_append, ← LT.pures_map, HJ.out.pu, TT.maps_append]
            simp [TT.maps, hpu]
          · have := HJ.out.len; simp at this hrl ⊢; omega
        case measure =>
          have hrl := ((rest_len g').1 _ _ _ _ HTS.out).1
          simp [lenV] at hrl ⊢
          omega
end Go.Proofs.YtplfmpcoojkjlaaDoor
