/- The walks of Encode and Span, the document's and the program's. -/
import Derived.Test.YtplfmpcoojkjlaaDoorK50
import Derived.Test.YtplfmpcoojkjlaaDoorK23
namespace Go.Proofs.YtplfmpcoojkjlaaDoor
open Go.RowKit Go.Proofs.YtplfmpcoojkjlaaDoorW.PrintWords
theorem code_all (n : Nat) : CodeAt n := by
  induction n using Nat.strongRecOn with
  | ind n ih => exact code_of n ih
/-- What Encode answers. -/
def EncPost (w : World) (ps : List (TT PS)) (e : Ending) (w' : World) : Prop := ∃ A c, e = .returned (.tuple #[.slice A (encS ps).length c, .int .i64 (TT.flts PS.kind ps 0)]) ∧ OwnB w' w.heap.size (.slice A (encS ps).length c) (encS ps) ∧ Below w.heap.size w w'
theorem encS_ok {ps : List (TT PS)} (h : TT.flts PS.kind ps 0 = 0) : encS ps = codL ps := if_pos h
theorem encS_no {ps : List (TT PS)} (h : TT.flts PS.kind ps 0 ≠ 0) : encS ps = [] := if_neg h
set_option maxRecDepth 100000 in
theorem rencode_calls (w : World) (A : Option Addr) (c : Nat) (ms : List (LT PS)) (hA : RdL PS.enc w A ms) (hp : TT.alls PS.fits (LT.pures ms)) (hl : (codL (LT.pures ms)).length ≤ 1099511627776) :
    Calls Tryd.prog 13 #[.slice A ms.length c] w (EncPost w (LT.pures ms)) := by
  have h1 := flt_all (LT.cnts ms) w A c ms 0 (Nat.le_refl _) hA (by omega)
  have h2 := fun h0 nd => code_all (LT.cnts ms) (w.drewN nd) A c 0 ms (Nat.le_refl _) (hA.below (pw_below_drewN (Below.refl _ _) _)) h0 hp hl
  have HE := Lib.hid (show _ ∧ _ from ⟨@encS_ok (LT.pures ms), @encS_no (LT.pures ms)⟩)
  generalize hf : TT.flts PS.kind (LT.pures ms) 0 = f at *
  have HF := Lib.hid hf
  have H := Lib.hid (show _ ∧ _ from ⟨h1, h2⟩)
  clear h1 h2 hA hp hl hf
  by_cases he : f = 0
  · subst he
    go_enter Tryd.func13, Tryd.ntmps13
    go_wp2_with fail
    refine H.out.1.mono ?_
    rintro e w' ⟨rfl, ⟨nd, rfl⟩⟩
    go_wp2_with fail
    refine (H.out.2 (by trivial) nd).mono ?_
    rintro e w' ⟨v, rfl, ho, hb⟩
    obtain ⟨A3, c3, rfl, hr3, _⟩ := ho.row
    have HO := Lib.hid (show _ ∧ _ from ⟨ho, hb⟩)
    clear ho hb hr3
    go_wp2
    refine bodyPost_ret (v := .tuple #[.slice A3 (codL (LT.pures ms)).length c3, .int .i64 0]) (by simp [results, Tryd.results13, go_sem]) rfl ?_
    refine ⟨A3, c3, by rw [HE.out.1 (by trivial), HF.out], ?_, ?_⟩
    · rw [HE.out.1 (by trivial)]; exact HO.out.1
    · exact (pw_below_drewN (Below.refl _ _) _).trans HO.out.2
  · have hb1 : (f != 0) = true := by simpa using he
    have HN := Lib.hid he
    clear he
    go_enter Tryd.func13, Tryd.ntmps13
    go_wp2_with fail
    refine H.out.1.mono ?_
    rintro e w' ⟨rfl, ⟨nd, rfl⟩⟩
    go_wp2
    refine bodyPost_ret (v := .tuple #[.slice none 0 0, .int .i64 f]) (by simp [results, Tryd.results13, go_sem]) rfl ?_
    have hn : encS (LT.pures ms) = [] := HE.out.2 HN.out
    refine ⟨none, 0, by rw [hn, HF.out]; rfl, ?_, pw_below_drewN (Below.refl _ _) _⟩
    rw [hn]
    exact OwnB.nil _ _
set_option maxRecDepth 100000 in
theorem encode_calls (w : World) (A : Option Addr) (c : Nat) (ls : List (LT VS)) (hA : RdL VS.enc w A ls) (hp : TT.alls VS.fit (LT.pures ls)) (hl : (codL (TT.maps VS.ps (LT.pures ls))).length ≤ 1099511627776) :
    Calls Tryd.prog 16 #[.slice A ls.length c] w (EncPost w (TT.maps VS.ps (LT.pures ls))) := by
  have hk : TT.flts PS.kind (TT.maps VS.ps (LT.pures ls)) 0 = TT.flts VS.kind (LT.pures ls) 0 := TT.flts_map _ _ _ _
  have h1 := whl_all (LT.cnts ls) w A c ls 0 (Nat.le_refl _) hA (by omega)
  have h2 := fun h0 nd => lay_all (LT.cnts ls) (w.drewN nd) (w.drewN nd) (.slice none 0 0) [] A c 0 ls (Nat.le_refl _) (hA.below (pw_below_drewN (Below.refl _ _) _)) (Below.refl _ _) (OwnB.nil _ _) h0 hp (by simpa using hl)
  have HE := Lib.hid (show _ ∧ _ from ⟨@encS_ok (TT.maps VS.ps (LT.pures ls)), @encS_no (TT.maps VS.ps (LT.pures ls))⟩)
  rw [← hk] at h1 h2
  clear hk
  generalize TT.maps VS.ps (LT.pures ls) = ps at *
  generalize hf : TT.flts PS.kind ps 0 = f at *
  have HF := Lib.hid hf
  have H := Lib.hid (show _ ∧ _ from ⟨h1, h2⟩)
  clear h1 h2 hA hp hl hf
  by_cases he : f = 0
  · subst he
    go_enter Tryd.func16, Tryd.ntmps16
    go_wp2_with fail
    refine H.out.1.mono ?_
    rintro e w' ⟨rfl, ⟨nd, rfl⟩⟩
    go_wp2_with fail
    refine (H.out.2 (by trivial) nd).mono ?_
    rintro e w' ⟨v, rfl, ho, hb⟩
    rw [List.nil_append] at ho
    obtain ⟨A3, c3, rfl, hr3, _⟩ := ho.row
    have HO := Lib.hid (show _ ∧ _ from ⟨ho, hb⟩)
    clear ho hb hr3
    go_wp2
    refine bodyPost_ret (v := .tuple #[.slice A3 (codL ps).length c3, .int .i64 0]) (by simp [results, Tryd.results16, go_sem]) rfl ?_
    refine ⟨A3, c3, by rw [HE.out.1 (by trivial), HF.out], ?_, ?_⟩
    · rw [HE.out.1 (by trivial)]; exact HO.out.1
    · exact (pw_below_drewN (Below.refl _ _) _).trans HO.out.2
  · have hb1 : (f != 0) = true := by simpa using he
    have HN := Lib.hid he
    clear he
    go_enter Tryd.func16, Tryd.ntmps16
    go_wp2_with fail
    refine H.out.1.mono ?_
    rintro e w' ⟨rfl, ⟨nd, rfl⟩⟩
    go_wp2
    refine bodyPost_ret (v := .tuple #[.slice none 0 0, .int .i64 f]) (by simp [results, Tryd.results16, go_sem]) rfl ?_
    have hn : encS ps = [] := HE.out.2 HN.out
    refine ⟨none, 0, by rw [hn, HF.out]; rfl, ?_, pw_below_drewN (Below.refl _ _) _⟩
    rw [hn]
    exact OwnB.nil _ _
/-! ### spans -/
def spanS (ps : List (TT PS)) : List Int := if TT.flts PS.kind ps 0 = 0 then codL ps ++ [8] else []
theorem spanS_ok {ps : List (TT PS)} (h : TT.flts PS.kind ps 0 = 0) : spanS ps = encS ps ++ [8] := by unfold spanS; rw [if_pos h, encS_ok h]
theorem spanS_no {ps : List (TT PS)} (h : TT.flts PS.kind ps 0 ≠ 0) : spanS ps = [] := if_neg h
def SpanPost (w : World) (ps : List (TT PS)) (e : Ending) (w' : World) : Prop := ∃ A c B d, e = .returned (.tuple #[.slice A (encS ps).length c, .slice B (spanS ps).length d, .int .i64 (TT.flts PS.kind ps 0)]) ∧
  OwnB w' w.heap.size (.slice A (encS ps).length c) (encS ps) ∧ OwnB w' w.heap.size (.slice B (spanS ps).length d) (spanS ps) ∧ (∀ a b, A = some a → B = some b → a.block ≠ b.block) ∧ Below w.heap.size w w'
theorem OwnB.base {w : World} {b1 b0 : Nat} {v : Value} {xs : List Int} (h : OwnB w b1 v xs) (hb : b0 ≤ b1) : OwnB w b0 v xs := by
  obtain ⟨h1, h2⟩ := h
  refine ⟨h1, ?_⟩
  rcases h2 with h2 | ⟨g, cap, cur, rfl, hg, r⟩
  · exact .inl h2
  · exact .inr ⟨g, cap, cur, rfl, Nat.le_trans hb hg, r⟩
theorem OwnB.ge {w : World} {b1 : Nat} {A : Option Addr} {n c : Nat} {xs : List Int} (h : OwnB w b1 (.slice A n c) xs) : ∀ a, A = some a → b1 ≤ a.block ∧ a.block < w.heap.size := by
  rintro a rfl
  exact ⟨own_base h _ rfl, own_lt h _ rfl⟩
set_option maxRecDepth 100000 in
theorem rspan_calls (w : World) (A : Option Addr) (c : Nat) (ms : List (LT PS)) (hA : RdL PS.enc w A ms) (hp : TT.alls PS.fits (LT.pures ms)) (hl : (codL (LT.pures ms)).length ≤ 1099511627775) :
    Calls Tryd.prog 19 #[.slice A ms.length c] w (SpanPost w (LT.pures ms)) := by
  have h1 := rencode_calls w A c ms hA hp (by omega)
  have HE := Lib.hid (show _ ∧ _ ∧ _ from ⟨@spanS_ok (LT.pures ms), @spanS_no (LT.pures ms), @encS_no (LT.pures ms)⟩)
  have hel : (encS (LT.pures ms)).length ≤ 1099511627775 := by
    unfold encS
    split
    · omega
    · simp
  generalize hps : LT.pures ms = ps at *
  unfold EncPost at h1
  generalize hen : encS ps = en at *
  generalize hf : TT.flts PS.kind ps 0 = f at *
  have HF := Lib.hid (show _ ∧ _ from ⟨hf, hen⟩)
  have H := Lib.hid h1
  clear h1 hA hp hl hf hen hps
  by_cases he : f = 0
  · subst he
    go_enter Tryd.func19, Tryd.ntmps19
    go_wp2_with fail
    refine H.out.mono ?_
    rintro e w1 ⟨A1, c1, rfl, ho, hb⟩
    obtain ⟨A2, c2, he2, hr2, _⟩ := ho.row
    injection he2 with he2 _ he3
    subst he2 he3
    have H1 := Lib.hid (show _ ∧ _ ∧ _ from ⟨ho, hb, hr2⟩)
    clear ho hb hr2
    go_upto_region 6 with (((with_reducible refine gate_dst (N := 18) rfl ?_); go_loud (refine app_text rfl (.tmp 16) (.tmp 17) rfl w1.heap.size (.slice none 0 0) [] en A1 en.length c1 rfl rfl rfl (OwnB.nil _ _) H1.out.2.2 (by simp; omega) (Nat.le_refl _) ?_); intro v3 w3 ho3 hb3 _; rw [List.nil_append] at ho3; have H3 := Lib.hid (show _ ∧ _ from ⟨ho3, hb3⟩); clear ho3 hb3))
    go_wp2_with (((with_reducible refine gate_dst (N := 22) rfl ?_); go_loud (refine app_byte rfl (.tmp 20) (.tmp 21) rfl w1.heap.size v3 en 8 w3.heap.size rfl rfl rfl H3.out.1 (by omega) H3.out.2.size ?_); intro v4 w4 ho4 hb4 _; obtain ⟨A4, c4, rfl, _, _⟩ := ho4.row; have H4 := Lib.hid (show _ ∧ _ from ⟨ho4, H3.out.2.trans hb4⟩); clear ho4 hb4))
    refine bodyPost_ret (v := .tuple #[.slice A1 en.length c1, .slice A4 (en ++ [8]).length c4, .int .i64 0]) (by simp [results, Tryd.results19, go_sem]) rfl ?_
    have hsp : spanS ps = en ++ [8] := by rw [HE.out.1 (by trivial)]
    refine ⟨A1, c1, A4, c4, by rw [HF.out.1, HF.out.2, hsp], by rw [HF.out.2]; exact H1.out.1.keep H4.out.2, by rw [hsp]; exact H4.out.1.base H1.out.2.1.size, fun a b ha hb => ?_, H1.out.2.1.trans (H4.out.2.mono H1.out.2.1.size)⟩
    have g1 := H1.out.1.ge a ha
    have g2 := H4.out.1.ge b hb
    omega
  · have hb1 : (f != 0) = true := by simpa using he
    have HN := Lib.hid he
    clear he
    go_enter Tryd.func19, Tryd.ntmps19
    go_wp2_with fail
    refine H.out.mono ?_
    rintro e w1 ⟨A1, c1, rfl, ho, hb⟩
    have H1 := Lib.hid (show _ ∧ _ from ⟨ho, hb⟩)
    clear ho hb
    go_wp2
    refine bodyPost_ret (v := .tuple #[.slice none 0 0, .slice none 0 0, .int .i64 f]) (by simp [results, Tryd.results19, go_sem]) rfl ?_
    have hn : encS ps = [] := by rw [HF.out.2]; exact HE.out.2.2 HN.out
    have hs : spanS ps = [] := HE.out.2.1 HN.out
    refine ⟨none, 0, none, 0, by rw [hn, hs, HF.out.1]; rfl, ?_, ?_, fun a b ha => (by cases ha), H1.out.2⟩
    · rw [hn]; exact OwnB.nil _ _
    · rw [hs]; exact OwnB.nil _ _
set_option maxRecDepth 100000 in
theorem span_calls (w : World) (A : Option Addr) (c : Nat) (ls : List (LT VS)) (hA : RdL VS.enc w A ls) (hp : TT.alls VS.fit (LT.pures ls)) (hl : (codL (TT.maps VS.ps (LT.pures ls))).length ≤ 1099511627775) :
    Calls Tryd.prog 20 #[.slice A ls.length c] w (SpanPost w (TT.maps VS.ps (LT.pures ls))) := by
  have hk : TT.flts PS.kind (TT.maps VS.ps (LT.pures ls)) 0 = TT.flts VS.kind (LT.pures ls) 0 := TT.flts_map _ _ _ _
  have h1 := encode_calls w A c ls hA hp (by omega)
  have h2 := fun h0 w' (hb : Below w.heap.size w w') => lay_all (LT.cnts ls) w' w' (.slice none 0 0) [] A c 0 ls (Nat.le_refl _) (hA.below hb) (Below.refl _ _) (OwnB.nil _ _) h0 hp (by rw [List.length_nil]; omega)
  have HE := Lib.hid (show _ ∧ _ ∧ _ ∧ _ from ⟨@spanS_ok (TT.maps VS.ps (LT.pures ls)), @spanS_no (TT.maps VS.ps (LT.pures ls)), @encS_no (TT.maps VS.ps (LT.pures ls)), @encS_ok (TT.maps VS.ps (LT.pures ls))⟩)
  rw [← hk] at h2
  clear hk
  have hel : (encS (TT.maps VS.ps (LT.pures ls))).length ≤ 1099511627775 := by
    unfold encS
    split
    · omega
    · simp
  generalize hps : TT.maps VS.ps (LT.pures ls) = ps at *
  unfold EncPost at h1
  generalize hen : encS ps = en at *
  generalize hf : TT.flts PS.kind ps 0 = f at *
  have HF := Lib.hid (show _ ∧ _ from ⟨hf, hen⟩)
  have H := Lib.hid (show _ ∧ _ from ⟨h1, h2⟩)
  clear h1 h2 hA hp hl hf hen hps
  by_cases he : f = 0
  · subst he
    go_enter Tryd.func20, Tryd.ntmps20
    go_wp2_with fail
    refine H.out.1.mono ?_
    rintro e w1 ⟨A1, c1, rfl, ho, hb⟩
    have H1 := Lib.hid (show _ ∧ _ from ⟨ho, hb⟩)
    clear ho hb
    go_wp2_with fail
    refine (H.out.2 (by trivial) w1 H1.out.2).mono ?_
    rintro e w3 ⟨v3, rfl, ho3, hb3⟩
    rw [List.nil_append, ← HE.out.2.2.2 (by trivial)] at ho3
    have H3 := Lib.hid (show _ ∧ _ from ⟨ho3, hb3⟩)
    clear ho3 hb3
    go_wp2_with (((with_reducible refine gate_dst (N := 19) rfl ?_); go_loud (refine app_byte rfl (.tmp 17) (.tmp 18) rfl w1.heap.size v3 en 8 w3.heap.size rfl rfl rfl H3.out.1 (by omega) H3.out.2.size ?_); intro v4 w4 ho4 hb4 _; obtain ⟨A4, c4, rfl, _, _⟩ := ho4.row; have H4 := Lib.hid (show _ ∧ _ from ⟨ho4, H3.out.2.trans hb4⟩); clear ho4 hb4))
    refine bodyPost_ret (v := .tuple #[.slice A1 en.length c1, .slice A4 (en ++ [8]).length c4, .int .i64 0]) (by simp [results, Tryd.results20, go_sem]) rfl ?_
    have hsp : spanS ps = en ++ [8] := by rw [HE.out.1 (by trivial)]
    refine ⟨A1, c1, A4, c4, by rw [HF.out.1, HF.out.2, hsp], by rw [HF.out.2]; exact H1.out.1.keep H4.out.2, by rw [hsp]; exact H4.out.1.base H1.out.2.size, fun a b ha hb => ?_, H1.out.2.trans (H4.out.2.mono H1.out.2.size)⟩
    have g1 := H1.out.1.ge a ha
    have g2 := H4.out.1.ge b hb
    omega
  · have hb1 : (f != 0) = true := by simpa using he
    have HN := Lib.hid he
    clear he
    go_enter Tryd.func20, Tryd.ntmps20
    go_wp2_with fail
    refine H.out.1.mono ?_
    rintro e w1 ⟨A1, c1, rfl, ho, hb⟩
    have H1 := Lib.hid (show _ ∧ _ from ⟨ho, hb⟩)
    clear ho hb
    go_wp2
    refine bodyPost_ret (v := .tuple #[.slice none 0 0, .slice none 0 0, .int .i64 f]) (by simp [results, Tryd.results20, go_sem]) rfl ?_
    have hn : encS ps = [] := by rw [HF.out.2]; exact HE.out.2.2.1 HN.out
    have hs : spanS ps = [] := HE.out.2.1 HN.out
    refine ⟨none, 0, none, 0, by rw [hn, hs, HF.out.1]; rfl, ?_, ?_, fun a b ha => (by cases ha), H1.out.2⟩
    · rw [hn]; exact OwnB.nil _ _
    · rw [hs]; exact OwnB.nil _ _
end Go.Proofs.YtplfmpcoojkjlaaDoor
