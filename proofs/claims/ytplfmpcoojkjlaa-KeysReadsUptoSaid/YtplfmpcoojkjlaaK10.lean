/- The document's reading: text. -/
import Derived.Test.YtplfmpcoojkjlaaK9
import Derived.Deep.LoopGhost
import Derived.BigQuiet
import Derived.Deep.QuietTactic
namespace Go.Proofs.Ytplfmpcoojkjlaa
open Go.RowKit Go.Proofs.YtplfmpcoojkjlaaW.PrintWords
theorem But.grown {a w w' : World} {g : Nat} {row : Option Nat} (h : But a w g) (hg : w.grownBy w' row) (hr : ∀ k, row = some k → a.heap.size ≤ k) : But a w' g :=
  ⟨hg.os.trans h.os, hg.tape.trans h.tape, hg.output.trans h.output, Nat.le_trans h.size hg.size, fun k hk hne => (hg.block k (Nat.lt_of_lt_of_le hk h.size) (fun e => by have := hr k e.symm; omega)).trans (h.block k hk hne)⟩
theorem RSt.grown {w w' : World} {g : Nat} {A : Option Addr} {n c p : Nat} {f : Int} {row : Option Nat} (h : RSt w g A n c p f) (hg : w.grownBy w' row) (hr : some g ≠ row) : RSt w' g A n c p f := (hg.block g (blk_lt h) hr).trans h
theorem RSt.alloc {w : World} {g : Nat} {A : Option Addr} {n c p : Nat} {f : Int} (h : RSt w g A n c p f) (O : Obj) : RSt (w.alloc O) g A n c p f := blk_alloc h O
theorem But.drewN {a w : World} {g : Nat} (h : But a w g) (n : Nat) : But a (w.drewN n) g := ⟨h.os, h.tape, h.output, h.size, h.block⟩
/-- append(v, x), x one byte. -/
theorem app_byte {ops : Array Oper} {rest : List Oper} {o : Oper} {a : Act} {Q : Exit → Act → World → Prop} {W : World} (hgd : o.guard = none) (s x : Operand)
    (ho : o.op = .call { callee := .builtin .append, args := #[s, x], argTypes := #[22, 22] }) (base : Nat) (v : Value) (acc : List Int) (y : Int) (N : Nat)
    (hs : a.eval s = v) (hx : a.eval x = .slice (some ⟨N, 0, none⟩) 1 1) (hN : N = W.heap.size) (own : W.ownsRow base 5 1 v acc.length (nums8 acc)) (hl : acc.length + 1 ≤ 140737488355328) (hbase : base ≤ W.heap.size)
    (h : ∀ v1 w1, w1.ownsRow base 5 1 v1 (acc ++ [y]).length (nums8 (acc ++ [y])) → (W.alloc (.cells #[.int .u8 y] 5)).grownBy w1 v.ownBlock → wpList Try.prog ops Q rest (a.put o.dst v1) w1) :
    wpList Try.prog ops Q (o :: rest) a (W.alloc (.cells #[.int .u8 y] 5)) := by
  subst hN
  exact app_bytes hgd s x ho base v acc [y] W.heap.size 0 1 1 hs hx rfl (own.alloc _) (at_new W [.int .u8 y] _) hl (by simp; omega) fun v1 w1 h1 _ h3 _ => h v1 w1 h1 h3
/-- What such an append leaves of the reading. -/
theorem app_state {w W w1 : World} {g : Nat} {A : Option Addr} {n c p : Nat} {f : Int} {v : Value} {k : Nat} {xs : List Value} {e e' : TypeId} {cs : Array Value} (hst : RSt W g A n c p f) (hb : But w W g) (own : W.ownsRow w.heap.size e 1 v k xs) (hg : (W.alloc (.cells cs e')).grownBy w1 v.ownBlock) (hlt : g < w.heap.size) :
    RSt w1 g A n c p f ∧ But w w1 g :=
  ⟨(hst.alloc _).grown hg fun e => by have := own_base own g e.symm; omega, (hb.alloc _).grown hg fun k hk => own_base own k hk⟩
theorem own_far {W : World} {B : Nat} {e : TypeId} {v : Value} {k : Nat} {xs : List Value} (own : W.ownsRow B e 1 v k xs) {g : Nat} (hg : g < B) (j : Nat) (u : Value) : (W.setCell ⟨g, j, none⟩ u).ownsRow B e 1 v k xs :=
  ownsRow_move own fun i hi => by
    have := own_base own i hi
    exact Below.heap_setCell W ⟨g, j, none⟩ u i (by show i ≠ g; omega)
theorem textS_cons {c : Int} {r : List Int} (h : ¬ c = 0) : textS (c :: r) = (textS r).map (fun x => (c :: x.1, x.2)) := by rw [textS.eq_def]; simp [h]
def TxtR (xs : List Int) (p : Nat) (t : List Int) (p' : Nat) (f' : Int) : Prop :=
  (f' = 0 ∧ textS (xs.drop p) = some (t, xs.drop p') ∨ f' = 40 ∧ textS (xs.drop p) = none) ∧ p' ≤ xs.length ∧ t.length ≤ xs.length ∧ p ≤ p'
def TxtPost (w : World) (g : Nat) (A : Option Addr) (xs : List Int) (c p : Nat) (e : Ending) (w' : World) : Prop :=
  ∃ (v : Value) (t : List Int) (p' : Nat) (f' : Int), e = .returned v ∧ w'.ownsRow w.heap.size 5 1 v t.length (nums8 t) ∧ RSt w' g A xs.length c p' f' ∧ But w w' g ∧ TxtR xs p t p' f'
structure TxtJ (w : World) (g : Nat) (A : Option Addr) (xs : List Int) (c p : Nat) (wr : World) (k : Nat) (v : Value) (acc : List Int) (p' : Nat) : Prop where
  st : RSt wr g A xs.length c p' 0
  but : But w wr g
  own : wr.ownsRow w.heap.size 5 1 v acc.length (nums8 acc)
  eq : textS (xs.drop p) = (textS (xs.drop p')).map (fun x => (acc ++ x.1, x.2))
  le : p' ≤ xs.length ∧ k = xs.length - p'
  len : acc.length ≤ p'
  ge : p ≤ p'
  glt : g < w.heap.size
set_option maxRecDepth 100000 in
set_option maxHeartbeats 1000000 in
theorem rtext_any (w : World) (g : Nat) (A : Option Addr) (xs : List Int) (c p : Nat) (hs : RSt w g A xs.length c p 0) (hr : Row w A (nums8 xs)) (hx : Byt xs) (hm : xs.length ≤ 140737488355326) (hg : nums8 xs ≠ [] → ∀ b o, A = some ⟨b, o, none⟩ → b ≠ g) (hp : p ≤ xs.length) :
    Calls Try.prog 28 #[.pointer (some ⟨g, 0, none⟩)] w (TxtPost w g A xs c p) := by
  have J0 : TxtJ w g A xs c p w (xs.length - p) (.slice none 0 0) [] p := ⟨hs, But.refl _ _, ⟨rfl, .inl ⟨rfl, rfl⟩⟩, by cases textS (xs.drop p) <;> simp, ⟨hp, rfl⟩, by simp, Nat.le_refl _, blk_lt hs⟩
  have HR := Lib.hid hr
  have HX := Lib.hid hx
  have HG := Lib.hid hg
  clear hs hr hx hg
  go_enter Try.func28, Try.ntmps28
  go_wp2
  go_loopg [3] (xs.length - p) (fun k vs wr => ∃ (acc : List Int) (p' : Nat) (vo : Value), vo = vs ∧ TxtJ w g A xs c p wr k vo acc p')
  case atStart => exact ⟨[], p, _, rfl, J0⟩
  case round =>
    clear J0
    obtain ⟨acc, p', vo, rfl, HJ⟩ := hrel
    have HJ := Lib.hid HJ
    go_wp2_with fail
    have hp' := HJ.out.le.1
    refine (next_any wr g A xs c p' 0 HJ.out.st (HR.out.but HJ.out.but HG.out) HX.out (by omega) HG.out).mono ?_
    rintro e w2 ⟨u, p2, f2, rfl, hu0, hu1, hst, hbut, hnr⟩
    have hc0 : w2.cell? ⟨g, 0, none⟩ = _ := (blk_cell hst 0).trans rfl
    have hc1 : w2.cell? ⟨g, 1, none⟩ = _ := (blk_cell hst 1).trans rfl
    have hc2 : w2.cell? ⟨g, 2, none⟩ = _ := (blk_cell hst 2).trans rfl
    have hfz := fun j => blk_frozen hst j
    have HN := Lib.hid (show _ ∧ _ from ⟨hst, hbut⟩)
    clear hst hbut
    rcases hnr with ⟨h, _⟩ | ⟨_, hle, rfl, hpe, rfl⟩ | ⟨_, rfl, rfl, hlt, rfl⟩
    · exact absurd rfl h
    · subst hpe
      have HLE := Lib.hid hle
      clear hle
      go_wp2
      go_ret
      refine ⟨_, [], p2, 40, rfl, ⟨rfl, .inl ⟨rfl, rfl⟩⟩, HN.out.1, HJ.out.but.trans HN.out.2, .inr ⟨rfl, ?_⟩, HJ.out.le.1, by simp, HJ.out.ge⟩
      rw [HJ.out.eq, List.drop_eq_nil_of_le HLE.out]
      rfl
    · have hown2 : w2.ownsRow w.heap.size 5 1 vo acc.length (nums8 acc) := ownsRow_move HJ.out.own fun k hk => HN.out.2.block k (own_lt HJ.out.own k hk) (fun e => by have := own_base HJ.out.own k hk; have := HJ.out.glt; omega)
      have HO2 := Lib.hid hown2
      have hdr := List.drop_eq_getElem_cons hlt
      have HB := Lib.hid (HX.out.at p' hlt)
      generalize hxe : xs[p'] = x at *
      have HD := Lib.hid hdr
      clear hown2 hdr hxe
      have HLT := Lib.hid hlt
      clear hlt
      have hbut2 : But w w2 g := HJ.out.but.trans HN.out.2
      have HB2 := Lib.hid hbut2
      clear hbut2
      have hp'' : p' < xs.length := HLT.out
      have hacc := HJ.out.len
      by_cases hx0 : x = 0
      · subst hx0
        by_cases hend : p' + 1 = xs.length
        · have hcmp : (((p' + 1 : Nat) : Int) == (xs.length : Int)) = true := by rw [hend]; simp
          have hcmp2 : ((p' : Int) + 1 == (xs.length : Int)) = true := by rw [← hend]; simp
          have HE := Lib.hid hend
          clear hend
          go_wp2
          go_quiet (fail)
          go_wp2
          go_ret
          refine ⟨_, acc, p' + 1, 0, rfl, HO2.out, HN.out.1, HB2.out.drewN _, .inl ⟨rfl, ?_⟩, by have := HE.out; omega, by omega, by have := HJ.out.ge; omega⟩
          rw [HJ.out.eq, HD.out, List.drop_eq_nil_of_le (show xs.length ≤ p' + 1 by have := HE.out; omega)]
          simp [textS]
        · have hlt2 : p' + 1 < xs.length := by omega
          have hcmp2 : ((p' : Int) + 1 == (xs.length : Int)) = false := by simp; omega
          obtain ⟨b, o, hA, hblt, hcs⟩ := (HR.out.but HB2.out HG.out).get (by intro h; have h2 := congrArg List.length h; rw [nums8_length] at h2; have h3 : xs.length = 0 := h2; omega)
          subst hA
          have hcell : w2.cell? ⟨b, o + (p' + 1), none⟩ = some (.int .u8 xs[p' + 1]) := hcs (p' + 1) _ (nums8_get xs (p' + 1) hlt2)
          have hdr2 := List.drop_eq_getElem_cons hlt2
          generalize hye : xs[p' + 1] = y at *
          have HD2 := Lib.hid hdr2
          clear hdr2 hye hcs hend
          by_cases hy : y = 255
          · subst hy
            go_wp2
            go_quiet (fail)
            go_wp2_with (((with_reducible refine gate_dst (N := 48) rfl ?_); go_loud (refine app_byte rfl (.tmp 45) (.tmp 47) rfl w.heap.size vo acc 0 w2.heap.size rfl rfl (by simp) (own_far (W := w2.drewN nq) HO2.out HJ.out.glt 1 _) (by omega) (by have := HB2.out.size; simp; omega) ?_); intro v1 w3 hown3 hg3; have H3 := Lib.hid (show _ ∧ _ from ⟨hown3, hg3⟩); clear hown3 hg3))
            go_roundg (xs.length - (p' + 2))
            case rel =>
              have hs2 : RSt ((w2.drewN nq).setCell ⟨g, 1, none⟩ (.int .i64 ((p' + 2 : Nat) : Int))) g (some ⟨b, o, none⟩) xs.length c (p' + 2) 0 := RSt.at (w := w2.drewN nq) HN.out.1 (p' + 2)
              have h4 := app_state hs2 ((HB2.out.drewN nq).setCell 1 _) (own_far (W := w2.drewN nq) HO2.out HJ.out.glt 1 _) H3.out.2 HJ.out.glt
              refine ⟨acc ++ [0], p' + 2, _, rfl, h4.1, h4.2, H3.out.1, ?_, ⟨by omega, rfl⟩, by simp; omega, by have := HJ.out.ge; omega, HJ.out.glt⟩
              rw [HJ.out.eq, HD.out, HD2.out]
              simp only [textS, if_true, Option.map_map]
              congr 1
              funext z
              simp
            case measure => have := HJ.out.le.2; omega
          · have hyb : (y != 255) = true := by simpa using hy
            have HY := Lib.hid hy
            clear hy
            go_wp2
            go_quiet (fail)
            go_wp2
            go_ret
            refine ⟨_, acc, p' + 1, 0, rfl, HO2.out, HN.out.1, HB2.out.drewN _, .inl ⟨rfl, ?_⟩, by omega, by omega, by have := HJ.out.ge; omega⟩
            rw [HJ.out.eq, HD.out, HD2.out]
            simp [textS, HY.out]
      · have hxb : (x == 0) = false := by simpa using hx0
        have HX0 := Lib.hid hx0
        clear hx0
        go_wp2_with (((with_reducible refine gate_dst (N := 48) rfl ?_); go_loud (refine app_byte rfl (.tmp 45) (.tmp 47) rfl w.heap.size vo acc x w2.heap.size rfl rfl rfl HO2.out (by omega) HB2.out.size ?_); intro v1 w3 hown3 hg3; have H3 := Lib.hid (show _ ∧ _ from ⟨hown3, hg3⟩); clear hown3 hg3))
        go_roundg (xs.length - (p' + 1))
        case rel =>
          have h4 := app_state HN.out.1 HB2.out HO2.out H3.out.2 HJ.out.glt
          refine ⟨acc ++ [x], p' + 1, _, rfl, h4.1, h4.2, H3.out.1, ?_, ⟨by omega, rfl⟩, by simp; omega, by have := HJ.out.ge; omega, HJ.out.glt⟩
          rw [HJ.out.eq, HD.out, textS_cons HX0.out, Option.map_map]
          congr 1
          funext z
          simp
        case measure => have := HJ.out.le.2; omega
end Go.Proofs.Ytplfmpcoojkjlaa
