/- The walk of the document's Compare. -/
import Derived.Test.YtplfmpcoojkjlaaK26
import Derived.Test.YtplfmpcoojkjlaaK23
namespace Go.Proofs.Ytplfmpcoojkjlaa
open Go.RowKit Go.Proofs.YtplfmpcoojkjlaaW.PrintWords
set_option maxRecDepth 100000 in
theorem rcompare_calls (w : World) (A B : Option Addr) (c d : Nat) (ms qs : List (LT PS)) (hA : RdL PS.enc w A ms) (hB : RdL PS.enc w B qs) (hfm : TT.alls PS.fit (LT.pures ms)) (hfq : TT.alls PS.fit (LT.pures qs)) :
    Calls Try.prog 11 #[.slice A ms.length c, .slice B qs.length d] w fun e w' => e = .returned (.tuple #[.int .i64 (cmpS (LT.pures ms) (LT.pures qs)).1, .int .i64 (cmpS (LT.pures ms) (LT.pures qs)).2]) ∧ Below w.heap.size w w' := by
  have h1 := flt_all (LT.cnts ms) w A c ms 0 (Nat.le_refl _) hA (by omega)
  have h2 := fun nd => flt_all (LT.cnts qs) (w.drewN nd) B d qs 0 (Nat.le_refl _) (hB.below (pw_below_drewN (Below.refl _ _) _)) (by omega)
  have h3 := fun nd => rows_all (LT.cnts ms) (w.drewN nd) A B c d ms qs (Nat.le_refl _) (hA.below (pw_below_drewN (Below.refl _ _) _)) (hB.below (pw_below_drewN (Below.refl _ _) _)) hfm hfq
  unfold cmpS
  generalize TT.flts PS.kind (LT.pures ms) 0 = e1 at *
  generalize TT.flts PS.kind (LT.pures qs) 0 = e2 at *
  generalize cmpL (LT.pures ms) (LT.pures qs) = r at *
  have H := Lib.hid (show _ ∧ _ ∧ _ from ⟨h1, h2, h3⟩)
  clear h1 h2 h3 hA hB hfm hfq
  by_cases he1 : e1 = 0
  case neg =>
    have hb1 : (e1 != 0) = true := by simpa using he1
    have HE := Lib.hid (show errOf e1 e2 r = (0, e1) by simp [errOf, he1])
    clear he1
    go_enter Try.func11, Try.ntmps11
    go_wp2_with fail
    refine H.out.1.mono ?_
    rintro e w' ⟨rfl, ⟨nd, rfl⟩⟩
    go_wp2
    refine bodyPost_ret (v := .tuple #[.int .i64 0, .int .i64 e1]) (by simp [results, Try.results11, go_sem]) rfl ?_
    exact ⟨by rw [HE.out], pw_below_drewN (Below.refl _ _) _⟩
  subst he1
  by_cases he2 : e2 = 0
  case neg =>
    have hb2 : (e2 != 0) = true := by simpa using he2
    have HE := Lib.hid (show errOf 0 e2 r = (0, e2) by simp [errOf, he2])
    clear he2
    go_enter Try.func11, Try.ntmps11
    go_wp2_with fail
    refine H.out.1.mono ?_
    rintro e w' ⟨rfl, ⟨nd, rfl⟩⟩
    go_wp2_with fail
    refine (H.out.2.1 nd).mono ?_
    rintro e w' ⟨rfl, ⟨nd2, rfl⟩⟩
    go_wp2
    refine bodyPost_ret (v := .tuple #[.int .i64 0, .int .i64 e2]) (by simp [results, Try.results11, go_sem]) rfl ?_
    exact ⟨by rw [HE.out], pw_below_drewN (Below.refl _ _) _⟩
  subst he2
  have HE := Lib.hid (show errOf 0 0 r = (r, 0) by simp [errOf])
  go_enter Try.func11, Try.ntmps11
  go_wp2_with fail
  refine H.out.1.mono ?_
  rintro e w' ⟨rfl, ⟨nd, rfl⟩⟩
  go_wp2_with fail
  refine (H.out.2.1 nd).mono ?_
  rintro e w' ⟨rfl, ⟨nd2, rfl⟩⟩
  rw [World.drewN_drewN]
  go_wp2_with fail
  refine (H.out.2.2 _).mono ?_
  rintro e w' ⟨rfl, hb⟩
  have HB := Lib.hid hb
  clear hb
  go_wp2
  refine bodyPost_ret (v := .tuple #[.int .i64 r, .int .i64 0]) (by simp [results, Try.results11, go_sem]) rfl ?_
  exact ⟨by rw [HE.out], (pw_below_drewN (Below.refl _ _) _).trans HB.out⟩
end Go.Proofs.Ytplfmpcoojkjlaa
