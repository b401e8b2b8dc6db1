/- The commands' map: what the first region leaves in the frame. -/
import Derived.Test.YtndpldhglnblfaaGreatDoorS5
namespace Go.Proofs.YtndpldhglnblfaaGreatDoor
open Go.RowKit Go.Maps
theorem frame_of {a : Act} {n : Nat} (h : a.tmps.size = n) : a.tmps = ((List.range n).map fun i => a.eval (.tmp i)).toArray := by
  refine Array.ext (by simp [h]) fun i h1 h2 => ?_
  simp [Act.eval, h1]
def F0 (S : Nat) : Act := ⟨#[.pointer (some ⟨S, 0, none⟩), undef, .map none, undef, undef, undef, undef, undef, undef, undef, undef, undef, undef, undef, undef, undef, undef, undef, undef, undef, undef, undef, undef, undef, undef, undef, undef, undef, undef, undef, undef, undef, undef, undef, undef, undef, undef, undef, undef, undef, undef, undef, undef, undef, undef, undef, undef, undef, undef, undef, undef, undef, undef, undef, undef, undef, undef, undef, undef, undef, undef, undef, undef, undef, undef, undef, undef, undef, undef, undef, undef, undef, undef, undef, undef, undef, undef, undef, undef, undef, undef, undef, undef, undef, undef, undef, undef, undef, undef, undef, undef, undef, undef, undef, undef, undef, undef, undef, undef, undef, undef, undef, undef, undef, undef, undef, undef, undef, undef, undef, undef, undef, undef, undef, undef, undef, undef, undef, undef, undef, undef, undef, undef, undef, undef, undef, undef, undef, undef, undef, undef, undef, undef], []⟩
def F1 (S M : Nat) (u : Nat → Value) : Act := ⟨#[.pointer (some ⟨S, 0, none⟩), undef, .map none, .map (some M), undef, undef, undef, undef, u 8, u 9, u 10, u 11, u 12, u 13, u 14, u 15, u 16, u 17, u 18, u 19, u 20, u 21, u 22, u 23, u 24, u 25, u 26, u 27, u 28, u 29, u 30, u 31, u 32, u 33, u 34, u 35, u 36, u 37, u 38, u 39, u 40, u 41, u 42, u 43, u 44, u 45, u 46, u 47, u 48, u 49, u 50, u 51, u 52, u 53, u 54, u 55, u 56, u 57, u 58, u 59, u 60, u 61, u 62, u 63, u 64, u 65, u 66, u 67, u 68, u 69, u 70, u 71, u 72, u 73, u 74, u 75, u 76, u 77, u 78, u 79, u 80, u 81, u 82, u 83, u 84, u 85, u 86, u 87, u 88, u 89, u 90, undef, undef, undef, undef, undef, undef, undef, undef, undef, undef, undef, undef, undef, undef, undef, undef, undef, undef, undef, undef, undef, undef, undef, undef, undef, undef, undef, undef, undef, undef, undef, undef, undef, undef, undef, undef, undef, undef, undef, undef, undef, undef], []⟩
set_option maxRecDepth 100000 in
theorem f1_of {S M : Nat} {a : Act} (h : a.tmps.size = 133) (hd : a.defers = []) (ho : ∀ j, (∀ p ∈ TB, p.1 ≠ some j) → a.eval (.tmp j) = (F0 S).eval (.tmp j)) (h3 : a.eval (.tmp 3) = .map (some M)) : a = F1 S M fun j => a.eval (.tmp j) := by
  have hf := frame_of h
  cases a with
  | mk t d =>
    have hd' : d = [] := hd
    subst hd'
    generalize hev : (fun j => (⟨t, []⟩ : Act).eval (.tmp j)) = u at *
    have hu : ∀ j, (⟨t, []⟩ : Act).eval (.tmp j) = u j := fun j => by rw [← hev]
    unfold F1
    have h3' : u 3 = .map (some M) := (hu 3).symm.trans h3
    have hn : ∀ j ∈ [0, 1, 2, 4, 5, 6, 7, 91, 92, 93, 94, 95, 96, 97, 98, 99, 100, 101, 102, 103, 104, 105, 106, 107, 108, 109, 110, 111, 112, 113, 114, 115, 116, 117, 118, 119, 120, 121, 122, 123, 124, 125, 126, 127, 128, 129, 130, 131, 132], u j = (F0 S).eval (.tmp j) := fun j hj => (hu j).symm.trans (ho j (by revert j; decide))
    have ht : t = ((List.range 133).map u).toArray := hf
    rw [ht]
    rw [← h3']
    have e0 : u 0 = .pointer (some ⟨S, 0, none⟩) := hn 0 (by decide)
    have e1 : u 1 = undef := hn 1 (by decide)
    have e2 : u 2 = .map none := hn 2 (by decide)
    have e4 : u 4 = undef := hn 4 (by decide)
    have e5 : u 5 = undef := hn 5 (by decide)
    have e6 : u 6 = undef := hn 6 (by decide)
    have e7 : u 7 = undef := hn 7 (by decide)
    have e91 : u 91 = undef := hn 91 (by decide)
    have e92 : u 92 = undef := hn 92 (by decide)
    have e93 : u 93 = undef := hn 93 (by decide)
    have e94 : u 94 = undef := hn 94 (by decide)
    have e95 : u 95 = undef := hn 95 (by decide)
    have e96 : u 96 = undef := hn 96 (by decide)
    have e97 : u 97 = undef := hn 97 (by decide)
    have e98 : u 98 = undef := hn 98 (by decide)
    have e99 : u 99 = undef := hn 99 (by decide)
    have e100 : u 100 = undef := hn 100 (by decide)
    have e101 : u 101 = undef := hn 101 (by decide)
    have e102 : u 102 = undef := hn 102 (by decide)
    have e103 : u 103 = undef := hn 103 (by decide)
    have e104 : u 104 = undef := hn 104 (by decide)
    have e105 : u 105 = undef := hn 105 (by decide)
    have e106 : u 106 = undef := hn 106 (by decide)
    have e107 : u 107 = undef := hn 107 (by decide)
    have e108 : u 108 = undef := hn 108 (by decide)
    have e109 : u 109 = undef := hn 109 (by decide)
    have e110 : u 110 = undef := hn 110 (by decide)
    have e111 : u 111 = undef := hn 111 (by decide)
    have e112 : u 112 = undef := hn 112 (by decide)
    have e113 : u 113 = undef := hn 113 (by decide)
    have e114 : u 114 = undef := hn 114 (by decide)
    have e115 : u 115 = undef := hn 115 (by decide)
    have e116 : u 116 = undef := hn 116 (by decide)
    have e117 : u 117 = undef := hn 117 (by decide)
    have e118 : u 118 = undef := hn 118 (by decide)
    have e119 : u 119 = undef := hn 119 (by decide)
    have e120 : u 120 = undef := hn 120 (by decide)
    have e121 : u 121 = undef := hn 121 (by decide)
    have e122 : u 122 = undef := hn 122 (by decide)
    have e123 : u 123 = undef := hn 123 (by decide)
    have e124 : u 124 = undef := hn 124 (by decide)
    have e125 : u 125 = undef := hn 125 (by decide)
    have e126 : u 126 = undef := hn 126 (by decide)
    have e127 : u 127 = undef := hn 127 (by decide)
    have e128 : u 128 = undef := hn 128 (by decide)
    have e129 : u 129 = undef := hn 129 (by decide)
    have e130 : u 130 = undef := hn 130 (by decide)
    have e131 : u 131 = undef := hn 131 (by decide)
    have e132 : u 132 = undef := hn 132 (by decide)
    show (⟨#[u 0, u 1, u 2, u 3, u 4, u 5, u 6, u 7, u 8, u 9, u 10, u 11, u 12, u 13, u 14, u 15, u 16, u 17, u 18, u 19, u 20, u 21, u 22, u 23, u 24, u 25, u 26, u 27, u 28, u 29, u 30, u 31, u 32, u 33, u 34, u 35, u 36, u 37, u 38, u 39, u 40, u 41, u 42, u 43, u 44, u 45, u 46, u 47, u 48, u 49, u 50, u 51, u 52, u 53, u 54, u 55, u 56, u 57, u 58, u 59, u 60, u 61, u 62, u 63, u 64, u 65, u 66, u 67, u 68, u 69, u 70, u 71, u 72, u 73, u 74, u 75, u 76, u 77, u 78, u 79, u 80, u 81, u 82, u 83, u 84, u 85, u 86, u 87, u 88, u 89, u 90, u 91, u 92, u 93, u 94, u 95, u 96, u 97, u 98, u 99, u 100, u 101, u 102, u 103, u 104, u 105, u 106, u 107, u 108, u 109, u 110, u 111, u 112, u 113, u 114, u 115, u 116, u 117, u 118, u 119, u 120, u 121, u 122, u 123, u 124, u 125, u 126, u 127, u 128, u 129, u 130, u 131, u 132], []⟩ : Act) = _
    rw [e0, e1, e2, e4, e5, e6, e7, e91, e92, e93, e94, e95, e96, e97, e98, e99, e100, e101, e102, e103, e104, e105, e106, e107, e108, e109, e110, e111, e112, e113, e114, e115, e116, e117, e118, e119, e120, e121, e122, e123, e124, e125, e126, e127, e128, e129, e130, e131, e132]
set_option maxRecDepth 100000 in
theorem region1F {K : Exit → Act → World → Prop} {w0 : World} {S : Nat} (hK : ∀ u w M n D, Kmds w0 w S M n D → K .normal (F1 S M u) w) :
    (Code.region 1 R1 true).wp Tryz.prog K (F0 S) w0 :=
  region1 rfl rfl fun a w M n D h1 h2 h3 h4 hk => by
    rw [f1_of h1 h2 h3 h4]
    exact hK _ w M n D hk
end Go.Proofs.YtndpldhglnblfaaGreatDoor
