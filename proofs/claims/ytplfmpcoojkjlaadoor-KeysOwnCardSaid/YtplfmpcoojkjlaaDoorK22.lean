/- A row's first fault; which of two rows comes first. No program here. -/
import Derived.Test.YtplfmpcoojkjlaaDoorK16
import Derived.Test.YtplfmpcoojkjlaaDoorK1
namespace Go.Proofs.YtplfmpcoojkjlaaDoor
open Go.RowKit
section
variable {σ τ : Type}
mutual
def TT.flt (κ : σ → Int) : TT σ → Nat → Int
  | .mk s _ ps, deep => if κ s < 1 ∨ 7 < κ s then 40 else if κ s = 7 then (if deep = 16 then 41 else TT.flts κ ps (deep + 1)) else 0
def TT.flts (κ : σ → Int) : List (TT σ) → Nat → Int
  | [], _ => 0
  | p :: ps, deep => if p.flt κ deep = 0 then TT.flts κ ps deep else p.flt κ deep
end
mutual
theorem TT.flt_map (κ : τ → Int) (f : σ → τ) : ∀ (p : TT σ) (deep : Nat), (p.map f).flt κ deep = p.flt (fun s => κ (f s)) deep
  | .mk s t ps, deep => by simp only [TT.map, TT.flt, TT.flts_map κ f ps]
theorem TT.flts_map (κ : τ → Int) (f : σ → τ) : ∀ (ps : List (TT σ)) (deep : Nat), TT.flts κ (TT.maps f ps) deep = TT.flts (fun s => κ (f s)) ps deep
  | [], deep => rfl
  | p :: ps, deep => by simp only [TT.maps, TT.flts, TT.flt_map κ f p, TT.flts_map κ f ps]
end
end
section
variable {σ : Type}
mutual
def TT.all (P : σ → List Int → Prop) : TT σ → Prop
  | .mk s t ps => P s t ∧ TT.alls P ps
def TT.alls (P : σ → List Int → Prop) : List (TT σ) → Prop
  | [] => True
  | p :: ps => p.all P ∧ TT.alls P ps
end
theorem TT.alls_mem {P : σ → List Int → Prop} {p : TT σ} {ps : List (TT σ)} (h : TT.alls P ps) (hp : p ∈ ps) : p.all P := by
  induction ps with
  | nil => cases hp
  | cons q ps ih =>
    rcases List.mem_cons.1 hp with rfl | hp
    · exact h.1
    · exact ih h.2 hp
end
/-- A payload whose real numbers are of 64 bits, a text of bytes. -/
def PS.fit (s : PS) (t : List Int) : Prop := s.re < 18446744073709551616 ∧ s.im < 18446744073709551616 ∧ Byt t
/-- Of two numbers, by their order. -/
def sgn (a b : Int) : Int := if a < b then -1 else if b < a then 1 else 0
def b2i (b : Bool) : Int := if b then 1 else 0
def cmpX : List Int → List Int → Int
  | [], [] => 0
  | [], _ :: _ => -1
  | _ :: _, [] => 1
  | x :: xs, y :: ys => if x = y then cmpX xs ys else sgn x y
mutual
def cmpT : TT PS → TT PS → Int
  | .mk s t ps, q => if s.kind ≠ q.s.kind then sgn s.kind q.s.kind
    else if s.kind = 2 then sgn (b2i s.b) (b2i q.s.b)
    else if s.kind = 3 then sgn s.n q.s.n
    else if s.kind = 4 then sgn (rankB s.re) (rankB q.s.re)
    else if s.kind = 5 then (if sgn (rankB s.re) (rankB q.s.re) = 0 then sgn (rankB s.im) (rankB q.s.im) else sgn (rankB s.re) (rankB q.s.re))
    else if s.kind = 6 then cmpX t q.text
    else if s.kind = 7 then cmpL ps q.parts else 0
def cmpL : List (TT PS) → List (TT PS) → Int
  | [], [] => 0
  | [], _ :: _ => -1
  | _ :: _, [] => 1
  | p :: ps, q :: qs => if cmpT p q = 0 then cmpL ps qs else cmpT p q
end
theorem sgn_zero (a b : Int) : sgn a b = 0 ↔ a = b := by unfold sgn; split <;> (try split) <;> omega
theorem cmpX_nil (xs ys : List Int) (h : xs = [] ∨ ys = []) : cmpX xs ys = sgn xs.length ys.length := by
  cases xs <;> cases ys <;> simp_all [cmpX, sgn] <;> omega
theorem cmpL_nil (xs ys : List (TT PS)) (h : xs = [] ∨ ys = []) : cmpL xs ys = sgn xs.length ys.length := by
  cases xs <;> cases ys <;> simp_all [cmpL, sgn] <;> omega
def errOf (e : Int) (e2 : Int) (r : Int) : Int × Int := if e ≠ 0 then (0, e) else if e2 ≠ 0 then (0, e2) else (r, 0)
/-- The answer of Compare: the order and the fault. -/
def cmpS (ms qs : List (TT PS)) : Int × Int := errOf (TT.flts PS.kind ms 0) (TT.flts PS.kind qs 0) (cmpL ms qs)
end Go.Proofs.YtplfmpcoojkjlaaDoor
