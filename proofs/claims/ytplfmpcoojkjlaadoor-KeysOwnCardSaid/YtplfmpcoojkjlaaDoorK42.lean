/- The walk of the program's Compare. -/
import Derived.Test.YtplfmpcoojkjlaaDoorK29
import Derived.Test.YtplfmpcoojkjlaaDoorK24
namespace Go.Proofs.YtplfmpcoojkjlaaDoor
open Go.RowKit Go.Proofs.YtplfmpcoojkjlaaDoorW.PrintWords
set_option maxRecDepth 100000 in
theorem compare_calls (w : World) (A B : Option Addr) (c d : Nat) (ls ts : List (LT VS)) (hA : RdL VS.enc w A ls) (hB : RdL VS.enc w B ts) (hfm : TT.alls VS.fit (LT.pures ls)) (hfq : TT.alls VS.fit (LT.pures ts)) :
    Calls Tryd.prog 22 #[.slice A ls.length c, .slice B ts.length d] w fun e w' => e = .returned (.tuple #[.int .i64 (cmpS (TT.maps VS.ps (LT.pures ls)) (TT.maps VS.ps (LT.pures ts))).1, .int .i64 (cmpS (TT.maps VS.ps (LT.pures ls)) (TT.maps VS.ps (LT.pures ts))).2]) ∧ Below w.heap.size w w' := by
  have hk1 : TT.flts PS.kind (TT.maps VS.ps (LT.pures ls)) 0 = TT.flts VS.kind (LT.pures ls) 0 := TT.flts_map _ _ _ _
  have hk2 : TT.flts PS.kind (TT.maps VS.ps (LT.pures ts)) 0 = TT.flts VS.kind (LT.pures ts) 0 := TT.flts_map _ _ _ _
  have h1 := fun w' (hb : Below w.heap.size w w') => whl_all (LT.cnts ls) w' A c ls 0 (Nat.le_refl _) (hA.below hb) (by omega)
  have h2 := fun w' (hb : Below w.heap.size w w') => whl_all (LT.cnts ts) w' B d ts 0 (Nat.le_refl _) (hB.below hb) (by omega)
  have h3 := fun w' (hb : Below w.heap.size w w') => prows_all (LT.cnts ls) w' A B c d ls ts (Nat.le_refl _) (hA.below hb) (hB.below hb) hfm hfq
  unfold cmpS
  rw [hk1, hk2]
  clear hk1 hk2 hA hB hfm hfq
  generalize TT.flts VS.kind (LT.pures ls) 0 = e1 at *
  generalize TT.flts VS.kind (LT.pures ts) 0 = e2 at *
  generalize cmpL (TT.maps VS.ps (LT.pures ls)) (TT.maps VS.ps (LT.pures ts)) = r at *
  have H := Lib.hid (show _ ∧ _ ∧ _ from ⟨h1, h2, h3⟩)
  clear h1 h2 h3
  have i0 : ∀ w, (Instr.index 74 (.agg #[Value.slice A ls.length c, Value.slice B ts.length d]) (.int .i64 0)).run Tryd.prog w = .ok (Value.slice A ls.length c) w := fun _ => by kernel_rfl
  have i1 : ∀ w, (Instr.index 74 (.agg #[Value.slice A ls.length c, Value.slice B ts.length d]) (.int .i64 1)).run Tryd.prog w = .ok (Value.slice B ts.length d) w := fun _ => by kernel_rfl
  go_enter Tryd.func22, Tryd.ntmps22
  go_wp2
  go_loopw [12] (fun vi wr => ∃ k : Nat, k ≤ 2 ∧ vi = .int .i64 k ∧ (1 ≤ k → e1 = 0) ∧ (2 ≤ k → e2 = 0) ∧ Below w.heap.size w wr) (fun vi _ => 2 - (intOf vi).toNat)
  case atStart => exact ⟨0, by omega, rfl, by omega, by omega, Below.refl _ _⟩
  case round =>
    obtain ⟨k, hk, rfl, g1, g2, hb⟩ := hrel
    have HG := Lib.hid (show _ ∧ _ ∧ _ from ⟨g1, g2, hb⟩)
    clear g1 g2 hb
    have hkk : k = 0 ∨ k = 1 ∨ k = 2 := by omega
    rcases hkk with rfl | rfl | rfl
    · go_wp2_with fail
      refine (H.out.1 _ HG.out.2.2).mono ?_
      rintro e w' ⟨rfl, ⟨nd, rfl⟩⟩
      by_cases he : e1 = 0
      · have HE := Lib.hid he
        subst he
        go_wp2
        go_roundw
        case rel => exact ⟨1, by omega, rfl, (by intros; trivial), by omega, pw_below_drewN HG.out.2.2 _⟩
        case measure => simp [intOf]
      · have hb1 : (e1 != 0) = true := by simpa using he
        have HE := Lib.hid (show errOf e1 e2 r = (0, e1) by simp [errOf, he])
        clear he
        go_wp2
        refine bodyPost_ret (v := .tuple #[.int .i64 0, .int .i64 e1]) (by simp [results, Tryd.results22, go_sem]) rfl ?_
        exact ⟨by rw [HE.out], pw_below_drewN HG.out.2.2 _⟩
    · go_wp2_with fail
      refine (H.out.2.1 _ HG.out.2.2).mono ?_
      rintro e w' ⟨rfl, ⟨nd, rfl⟩⟩
      by_cases he : e2 = 0
      · have HE := Lib.hid he
        subst he
        go_wp2
        go_roundw
        case rel => exact ⟨2, by omega, rfl, fun _ => HG.out.1 (by omega), (by intros; trivial), pw_below_drewN HG.out.2.2 _⟩
        case measure => simp [intOf]
      · have hb1 : (e2 != 0) = true := by simpa using he
        have HE := Lib.hid (show errOf e1 e2 r = (0, e2) by simp [errOf, HG.out.1 (by omega), he])
        clear he
        go_wp2
        refine bodyPost_ret (v := .tuple #[.int .i64 0, .int .i64 e2]) (by simp [results, Tryd.results22, go_sem]) rfl ?_
        exact ⟨by rw [HE.out], pw_below_drewN HG.out.2.2 _⟩
    · have HE := Lib.hid (show errOf e1 e2 r = (r, 0) by simp [errOf, HG.out.1 (by omega), HG.out.2.1 (by omega)])
      go_wp2_with fail
      refine (H.out.2.2 _ HG.out.2.2).mono ?_
      rintro e w' ⟨rfl, hb'⟩
      have HB := Lib.hid hb'
      clear hb'
      go_wp2
      refine bodyPost_ret (v := .tuple #[.int .i64 r, .int .i64 0]) (by simp [results, Tryd.results22, go_sem]) rfl ?_
      exact ⟨by rw [HE.out], HG.out.2.2.trans (HB.out.mono HG.out.2.2.size)⟩
end Go.Proofs.YtplfmpcoojkjlaaDoor
