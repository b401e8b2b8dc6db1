/- The commands' map: its 101 operations. -/
import Derived.Test.YtndpldhglnblfaaGreatDoorS3
namespace Go.Proofs.YtndpldhglnblfaaGreatDoor
open Go.RowKit Go.Maps
section
variable {Q : Exit → Act → World → Prop} {w0 w : World} {S : Nat} {a0 a : Act} {listed : Array Bool} {o : Oper}
theorem op0 : OpIs 0 (.makeMap 42 none) (some 8) := by unfold OpIs; kernel_rfl
theorem step0 (T : Tn w0 S a0 listed a w 0 o) : wpOp Tryz.prog R1 Q 0 (fun a' w' => RI w0 S a0 (listed.setIfInBounds 0 true) a' w') a w :=
  T.mapc op0
theorem op1 : OpIs 1 (.move (.tmp 0)) (some 9) := by unfold OpIs; kernel_rfl
theorem step1 (T : Tn w0 S a0 listed a w 1 o) : wpOp Tryz.prog R1 Q 1 (fun a' w' => RI w0 S a0 (listed.setIfInBounds 1 true) a' w') a w :=
  T.move op1 rfl (by decide) (by decide)
theorem op2 : OpIs 2 (.move (.tmp 0)) (some 10) := by unfold OpIs; kernel_rfl
theorem step2 (T : Tn w0 S a0 listed a w 2 o) : wpOp Tryz.prog R1 Q 2 (fun a' w' => RI w0 S a0 (listed.setIfInBounds 2 true) a' w') a w :=
  T.move op2 rfl (by decide) (by decide)
theorem op3 : OpIs 3 (.nilCheck (.tmp 10)) (some 11) := by unfold OpIs; kernel_rfl
theorem step3 (T : Tn w0 S a0 listed a w 3 o) : wpOp Tryz.prog R1 Q 3 (fun a' w' => RI w0 S a0 (listed.setIfInBounds 3 true) a' w') a w :=
  T.nil (j := 2) op3 rfl (by decide) (by decide) (by kernel_rfl) rfl
theorem op4 : OpIs 4 (.fieldAddr 44 (.tmp 11) 0) (some 12) := by unfold OpIs; kernel_rfl
theorem step4 (T : Tn w0 S a0 listed a w 4 o) : wpOp Tryz.prog R1 Q 4 (fun a' w' => RI w0 S a0 (listed.setIfInBounds 4 true) a' w') a w :=
  T.fld (j := 3) op4 rfl (by decide) (by decide) (by kernel_rfl) rfl (by kernel_rfl)
theorem op5 : OpIs 5 (.fieldAddr 40 (.tmp 12) 0) (some 13) := by unfold OpIs; kernel_rfl
theorem step5 (T : Tn w0 S a0 listed a w 5 o) : wpOp Tryz.prog R1 Q 5 (fun a' w' => RI w0 S a0 (listed.setIfInBounds 5 true) a' w') a w :=
  T.fld (j := 4) op5 rfl (by decide) (by decide) (by kernel_rfl) rfl (by kernel_rfl)
theorem op6 : OpIs 6 (.call { callee := .value (.func 16), args := #[.tmp 13], argTypes := #[57] }) (some 14) := by unfold OpIs; kernel_rfl
theorem step6 (T : Tn w0 S a0 listed a w 6 o) : wpOp Tryz.prog R1 Q 6 (fun a' w' => RI w0 S a0 (listed.setIfInBounds 6 true) a' w') a w :=
  T.cn (j := 5) op6 rfl (by decide) (by decide) (by kernel_rfl) rfl
theorem op7 : OpIs 7 (.call { callee := .value (.func 15), args := #[.tmp 9, .tmp 14], argTypes := #[22, 34] }) (some 15) := by unfold OpIs; kernel_rfl
theorem step7 (T : Tn w0 S a0 listed a w 7 o) : wpOp Tryz.prog R1 Q 7 (fun a' w' => RI w0 S a0 (listed.setIfInBounds 7 true) a' w') a w :=
  T.ca (j := 1) (l := 6) op7 rfl (by decide) (by decide) (by kernel_rfl) rfl (by kernel_rfl) rfl
theorem op8 : OpIs 8 (.insert 42 (.tmp 8) (.const (.string ⟨([115, 101, 114, 118, 101, 114, 115] : List UInt8).toArray⟩)) (.tmp 15)) none := by unfold OpIs; kernel_rfl
theorem step8 (T : Tn w0 S a0 listed a w 8 o) : wpOp Tryz.prog R1 Q 8 (fun a' w' => RI w0 S a0 (listed.setIfInBounds 8 true) a' w') a w :=
  T.ins (k := 0) (l := 7) op8 rfl rfl (by kernel_rfl) (by kernel_rfl) rfl
theorem op9 : OpIs 9 (.move (.tmp 0)) (some 16) := by unfold OpIs; kernel_rfl
theorem step9 (T : Tn w0 S a0 listed a w 9 o) : wpOp Tryz.prog R1 Q 9 (fun a' w' => RI w0 S a0 (listed.setIfInBounds 9 true) a' w') a w :=
  T.move op9 rfl (by decide) (by decide)
theorem op10 : OpIs 10 (.move (.tmp 0)) (some 17) := by unfold OpIs; kernel_rfl
theorem step10 (T : Tn w0 S a0 listed a w 10 o) : wpOp Tryz.prog R1 Q 10 (fun a' w' => RI w0 S a0 (listed.setIfInBounds 10 true) a' w') a w :=
  T.move op10 rfl (by decide) (by decide)
theorem op11 : OpIs 11 (.nilCheck (.tmp 17)) (some 18) := by unfold OpIs; kernel_rfl
theorem step11 (T : Tn w0 S a0 listed a w 11 o) : wpOp Tryz.prog R1 Q 11 (fun a' w' => RI w0 S a0 (listed.setIfInBounds 11 true) a' w') a w :=
  T.nil (j := 10) op11 rfl (by decide) (by decide) (by kernel_rfl) rfl
theorem op12 : OpIs 12 (.fieldAddr 44 (.tmp 18) 0) (some 19) := by unfold OpIs; kernel_rfl
theorem step12 (T : Tn w0 S a0 listed a w 12 o) : wpOp Tryz.prog R1 Q 12 (fun a' w' => RI w0 S a0 (listed.setIfInBounds 12 true) a' w') a w :=
  T.fld (j := 11) op12 rfl (by decide) (by decide) (by kernel_rfl) rfl (by kernel_rfl)
theorem op13 : OpIs 13 (.fieldAddr 40 (.tmp 19) 1) (some 20) := by unfold OpIs; kernel_rfl
theorem step13 (T : Tn w0 S a0 listed a w 13 o) : wpOp Tryz.prog R1 Q 13 (fun a' w' => RI w0 S a0 (listed.setIfInBounds 13 true) a' w') a w :=
  T.fld (j := 12) op13 rfl (by decide) (by decide) (by kernel_rfl) rfl (by kernel_rfl)
theorem op14 : OpIs 14 (.call { callee := .value (.func 16), args := #[.tmp 20], argTypes := #[57] }) (some 21) := by unfold OpIs; kernel_rfl
theorem step14 (T : Tn w0 S a0 listed a w 14 o) : wpOp Tryz.prog R1 Q 14 (fun a' w' => RI w0 S a0 (listed.setIfInBounds 14 true) a' w') a w :=
  T.cn (j := 13) op14 rfl (by decide) (by decide) (by kernel_rfl) rfl
theorem op15 : OpIs 15 (.call { callee := .value (.func 15), args := #[.tmp 16, .tmp 21], argTypes := #[22, 34] }) (some 22) := by unfold OpIs; kernel_rfl
theorem step15 (T : Tn w0 S a0 listed a w 15 o) : wpOp Tryz.prog R1 Q 15 (fun a' w' => RI w0 S a0 (listed.setIfInBounds 15 true) a' w') a w :=
  T.ca (j := 9) (l := 14) op15 rfl (by decide) (by decide) (by kernel_rfl) rfl (by kernel_rfl) rfl
theorem op16 : OpIs 16 (.insert 42 (.tmp 8) (.const (.string ⟨([115, 104, 97, 114, 100, 115] : List UInt8).toArray⟩)) (.tmp 22)) none := by unfold OpIs; kernel_rfl
theorem step16 (T : Tn w0 S a0 listed a w 16 o) : wpOp Tryz.prog R1 Q 16 (fun a' w' => RI w0 S a0 (listed.setIfInBounds 16 true) a' w') a w :=
  T.ins (k := 1) (l := 15) op16 rfl rfl (by kernel_rfl) (by kernel_rfl) rfl
theorem op17 : OpIs 17 (.move (.tmp 0)) (some 23) := by unfold OpIs; kernel_rfl
theorem step17 (T : Tn w0 S a0 listed a w 17 o) : wpOp Tryz.prog R1 Q 17 (fun a' w' => RI w0 S a0 (listed.setIfInBounds 17 true) a' w') a w :=
  T.move op17 rfl (by decide) (by decide)
theorem op18 : OpIs 18 (.move (.tmp 0)) (some 24) := by unfold OpIs; kernel_rfl
theorem step18 (T : Tn w0 S a0 listed a w 18 o) : wpOp Tryz.prog R1 Q 18 (fun a' w' => RI w0 S a0 (listed.setIfInBounds 18 true) a' w') a w :=
  T.move op18 rfl (by decide) (by decide)
theorem op19 : OpIs 19 (.nilCheck (.tmp 24)) (some 25) := by unfold OpIs; kernel_rfl
theorem step19 (T : Tn w0 S a0 listed a w 19 o) : wpOp Tryz.prog R1 Q 19 (fun a' w' => RI w0 S a0 (listed.setIfInBounds 19 true) a' w') a w :=
  T.nil (j := 18) op19 rfl (by decide) (by decide) (by kernel_rfl) rfl
theorem op20 : OpIs 20 (.fieldAddr 44 (.tmp 25) 0) (some 26) := by unfold OpIs; kernel_rfl
theorem step20 (T : Tn w0 S a0 listed a w 20 o) : wpOp Tryz.prog R1 Q 20 (fun a' w' => RI w0 S a0 (listed.setIfInBounds 20 true) a' w') a w :=
  T.fld (j := 19) op20 rfl (by decide) (by decide) (by kernel_rfl) rfl (by kernel_rfl)
theorem op21 : OpIs 21 (.fieldAddr 40 (.tmp 26) 2) (some 27) := by unfold OpIs; kernel_rfl
theorem step21 (T : Tn w0 S a0 listed a w 21 o) : wpOp Tryz.prog R1 Q 21 (fun a' w' => RI w0 S a0 (listed.setIfInBounds 21 true) a' w') a w :=
  T.fld (j := 20) op21 rfl (by decide) (by decide) (by kernel_rfl) rfl (by kernel_rfl)
theorem op22 : OpIs 22 (.call { callee := .value (.func 16), args := #[.tmp 27], argTypes := #[57] }) (some 28) := by unfold OpIs; kernel_rfl
theorem step22 (T : Tn w0 S a0 listed a w 22 o) : wpOp Tryz.prog R1 Q 22 (fun a' w' => RI w0 S a0 (listed.setIfInBounds 22 true) a' w') a w :=
  T.cn (j := 21) op22 rfl (by decide) (by decide) (by kernel_rfl) rfl
theorem op23 : OpIs 23 (.call { callee := .value (.func 15), args := #[.tmp 23, .tmp 28], argTypes := #[22, 34] }) (some 29) := by unfold OpIs; kernel_rfl
theorem step23 (T : Tn w0 S a0 listed a w 23 o) : wpOp Tryz.prog R1 Q 23 (fun a' w' => RI w0 S a0 (listed.setIfInBounds 23 true) a' w') a w :=
  T.ca (j := 17) (l := 22) op23 rfl (by decide) (by decide) (by kernel_rfl) rfl (by kernel_rfl) rfl
theorem op24 : OpIs 24 (.insert 42 (.tmp 8) (.const (.string ⟨([99, 108, 105, 101, 110, 116, 115] : List UInt8).toArray⟩)) (.tmp 29)) none := by unfold OpIs; kernel_rfl
theorem step24 (T : Tn w0 S a0 listed a w 24 o) : wpOp Tryz.prog R1 Q 24 (fun a' w' => RI w0 S a0 (listed.setIfInBounds 24 true) a' w') a w :=
  T.ins (k := 2) (l := 23) op24 rfl rfl (by kernel_rfl) (by kernel_rfl) rfl
theorem op25 : OpIs 25 (.move (.tmp 0)) (some 30) := by unfold OpIs; kernel_rfl
theorem step25 (T : Tn w0 S a0 listed a w 25 o) : wpOp Tryz.prog R1 Q 25 (fun a' w' => RI w0 S a0 (listed.setIfInBounds 25 true) a' w') a w :=
  T.move op25 rfl (by decide) (by decide)
theorem op26 : OpIs 26 (.move (.tmp 0)) (some 31) := by unfold OpIs; kernel_rfl
theorem step26 (T : Tn w0 S a0 listed a w 26 o) : wpOp Tryz.prog R1 Q 26 (fun a' w' => RI w0 S a0 (listed.setIfInBounds 26 true) a' w') a w :=
  T.move op26 rfl (by decide) (by decide)
theorem op27 : OpIs 27 (.nilCheck (.tmp 31)) (some 32) := by unfold OpIs; kernel_rfl
theorem step27 (T : Tn w0 S a0 listed a w 27 o) : wpOp Tryz.prog R1 Q 27 (fun a' w' => RI w0 S a0 (listed.setIfInBounds 27 true) a' w') a w :=
  T.nil (j := 26) op27 rfl (by decide) (by decide) (by kernel_rfl) rfl
theorem op28 : OpIs 28 (.fieldAddr 44 (.tmp 32) 0) (some 33) := by unfold OpIs; kernel_rfl
theorem step28 (T : Tn w0 S a0 listed a w 28 o) : wpOp Tryz.prog R1 Q 28 (fun a' w' => RI w0 S a0 (listed.setIfInBounds 28 true) a' w') a w :=
  T.fld (j := 27) op28 rfl (by decide) (by decide) (by kernel_rfl) rfl (by kernel_rfl)
theorem op29 : OpIs 29 (.fieldAddr 40 (.tmp 33) 3) (some 34) := by unfold OpIs; kernel_rfl
theorem step29 (T : Tn w0 S a0 listed a w 29 o) : wpOp Tryz.prog R1 Q 29 (fun a' w' => RI w0 S a0 (listed.setIfInBounds 29 true) a' w') a w :=
  T.fld (j := 28) op29 rfl (by decide) (by decide) (by kernel_rfl) rfl (by kernel_rfl)
theorem op30 : OpIs 30 (.fieldAddr 37 (.tmp 34) 0) (some 35) := by unfold OpIs; kernel_rfl
theorem step30 (T : Tn w0 S a0 listed a w 30 o) : wpOp Tryz.prog R1 Q 30 (fun a' w' => RI w0 S a0 (listed.setIfInBounds 30 true) a' w') a w :=
  T.fld (j := 29) op30 rfl (by decide) (by decide) (by kernel_rfl) rfl (by kernel_rfl)
theorem op31 : OpIs 31 (.call { callee := .value (.func 16), args := #[.tmp 35], argTypes := #[57] }) (some 36) := by unfold OpIs; kernel_rfl
theorem step31 (T : Tn w0 S a0 listed a w 31 o) : wpOp Tryz.prog R1 Q 31 (fun a' w' => RI w0 S a0 (listed.setIfInBounds 31 true) a' w') a w :=
  T.cn (j := 30) op31 rfl (by decide) (by decide) (by kernel_rfl) rfl
theorem op32 : OpIs 32 (.call { callee := .value (.func 15), args := #[.tmp 30, .tmp 36], argTypes := #[22, 34] }) (some 37) := by unfold OpIs; kernel_rfl
theorem step32 (T : Tn w0 S a0 listed a w 32 o) : wpOp Tryz.prog R1 Q 32 (fun a' w' => RI w0 S a0 (listed.setIfInBounds 32 true) a' w') a w :=
  T.ca (j := 25) (l := 31) op32 rfl (by decide) (by decide) (by kernel_rfl) rfl (by kernel_rfl) rfl
theorem op33 : OpIs 33 (.insert 42 (.tmp 8) (.const (.string ⟨([108, 111, 103] : List UInt8).toArray⟩)) (.tmp 37)) none := by unfold OpIs; kernel_rfl
theorem step33 (T : Tn w0 S a0 listed a w 33 o) : wpOp Tryz.prog R1 Q 33 (fun a' w' => RI w0 S a0 (listed.setIfInBounds 33 true) a' w') a w :=
  T.ins (k := 3) (l := 32) op33 rfl rfl (by kernel_rfl) (by kernel_rfl) rfl
theorem op34 : OpIs 34 (.move (.tmp 0)) (some 38) := by unfold OpIs; kernel_rfl
theorem step34 (T : Tn w0 S a0 listed a w 34 o) : wpOp Tryz.prog R1 Q 34 (fun a' w' => RI w0 S a0 (listed.setIfInBounds 34 true) a' w') a w :=
  T.move op34 rfl (by decide) (by decide)
theorem op35 : OpIs 35 (.move (.tmp 0)) (some 39) := by unfold OpIs; kernel_rfl
theorem step35 (T : Tn w0 S a0 listed a w 35 o) : wpOp Tryz.prog R1 Q 35 (fun a' w' => RI w0 S a0 (listed.setIfInBounds 35 true) a' w') a w :=
  T.move op35 rfl (by decide) (by decide)
theorem op36 : OpIs 36 (.nilCheck (.tmp 39)) (some 40) := by unfold OpIs; kernel_rfl
theorem step36 (T : Tn w0 S a0 listed a w 36 o) : wpOp Tryz.prog R1 Q 36 (fun a' w' => RI w0 S a0 (listed.setIfInBounds 36 true) a' w') a w :=
  T.nil (j := 35) op36 rfl (by decide) (by decide) (by kernel_rfl) rfl
theorem op37 : OpIs 37 (.fieldAddr 44 (.tmp 40) 0) (some 41) := by unfold OpIs; kernel_rfl
theorem step37 (T : Tn w0 S a0 listed a w 37 o) : wpOp Tryz.prog R1 Q 37 (fun a' w' => RI w0 S a0 (listed.setIfInBounds 37 true) a' w') a w :=
  T.fld (j := 36) op37 rfl (by decide) (by decide) (by kernel_rfl) rfl (by kernel_rfl)
theorem op38 : OpIs 38 (.fieldAddr 40 (.tmp 41) 3) (some 42) := by unfold OpIs; kernel_rfl
theorem step38 (T : Tn w0 S a0 listed a w 38 o) : wpOp Tryz.prog R1 Q 38 (fun a' w' => RI w0 S a0 (listed.setIfInBounds 38 true) a' w') a w :=
  T.fld (j := 37) op38 rfl (by decide) (by decide) (by kernel_rfl) rfl (by kernel_rfl)
theorem op39 : OpIs 39 (.fieldAddr 37 (.tmp 42) 1) (some 43) := by unfold OpIs; kernel_rfl
theorem step39 (T : Tn w0 S a0 listed a w 39 o) : wpOp Tryz.prog R1 Q 39 (fun a' w' => RI w0 S a0 (listed.setIfInBounds 39 true) a' w') a w :=
  T.fld (j := 38) op39 rfl (by decide) (by decide) (by kernel_rfl) rfl (by kernel_rfl)
theorem op40 : OpIs 40 (.call { callee := .value (.func 16), args := #[.tmp 43], argTypes := #[57] }) (some 44) := by unfold OpIs; kernel_rfl
theorem step40 (T : Tn w0 S a0 listed a w 40 o) : wpOp Tryz.prog R1 Q 40 (fun a' w' => RI w0 S a0 (listed.setIfInBounds 40 true) a' w') a w :=
  T.cn (j := 39) op40 rfl (by decide) (by decide) (by kernel_rfl) rfl
theorem op41 : OpIs 41 (.call { callee := .value (.func 15), args := #[.tmp 38, .tmp 44], argTypes := #[22, 34] }) (some 45) := by unfold OpIs; kernel_rfl
theorem step41 (T : Tn w0 S a0 listed a w 41 o) : wpOp Tryz.prog R1 Q 41 (fun a' w' => RI w0 S a0 (listed.setIfInBounds 41 true) a' w') a w :=
  T.ca (j := 34) (l := 40) op41 rfl (by decide) (by decide) (by kernel_rfl) rfl (by kernel_rfl) rfl
theorem op42 : OpIs 42 (.insert 42 (.tmp 8) (.const (.string ⟨([115, 104, 111, 116] : List UInt8).toArray⟩)) (.tmp 45)) none := by unfold OpIs; kernel_rfl
theorem step42 (T : Tn w0 S a0 listed a w 42 o) : wpOp Tryz.prog R1 Q 42 (fun a' w' => RI w0 S a0 (listed.setIfInBounds 42 true) a' w') a w :=
  T.ins (k := 4) (l := 41) op42 rfl rfl (by kernel_rfl) (by kernel_rfl) rfl
theorem op43 : OpIs 43 (.move (.tmp 0)) (some 46) := by unfold OpIs; kernel_rfl
theorem step43 (T : Tn w0 S a0 listed a w 43 o) : wpOp Tryz.prog R1 Q 43 (fun a' w' => RI w0 S a0 (listed.setIfInBounds 43 true) a' w') a w :=
  T.move op43 rfl (by decide) (by decide)
theorem op44 : OpIs 44 (.move (.tmp 0)) (some 47) := by unfold OpIs; kernel_rfl
theorem step44 (T : Tn w0 S a0 listed a w 44 o) : wpOp Tryz.prog R1 Q 44 (fun a' w' => RI w0 S a0 (listed.setIfInBounds 44 true) a' w') a w :=
  T.move op44 rfl (by decide) (by decide)
theorem op45 : OpIs 45 (.makeFunc (.func 17) #[.tmp 47] #[]) (some 48) := by unfold OpIs; kernel_rfl
theorem step45 (T : Tn w0 S a0 listed a w 45 o) : wpOp Tryz.prog R1 Q 45 (fun a' w' => RI w0 S a0 (listed.setIfInBounds 45 true) a' w') a w :=
  T.mkf (j := 44) op45 rfl (by decide) (by decide) (by kernel_rfl) rfl
theorem op46 : OpIs 46 (.call { callee := .value (.func 15), args := #[.tmp 46, .tmp 48], argTypes := #[22, 34] }) (some 49) := by unfold OpIs; kernel_rfl
theorem step46 (T : Tn w0 S a0 listed a w 46 o) : wpOp Tryz.prog R1 Q 46 (fun a' w' => RI w0 S a0 (listed.setIfInBounds 46 true) a' w') a w :=
  T.ca (j := 43) (l := 45) op46 rfl (by decide) (by decide) (by kernel_rfl) rfl (by kernel_rfl) rfl
theorem op47 : OpIs 47 (.insert 42 (.tmp 8) (.const (.string ⟨([115, 101, 101, 100] : List UInt8).toArray⟩)) (.tmp 49)) none := by unfold OpIs; kernel_rfl
theorem step47 (T : Tn w0 S a0 listed a w 47 o) : wpOp Tryz.prog R1 Q 47 (fun a' w' => RI w0 S a0 (listed.setIfInBounds 47 true) a' w') a w :=
  T.ins (k := 5) (l := 46) op47 rfl rfl (by kernel_rfl) (by kernel_rfl) rfl
theorem op48 : OpIs 48 (.move (.tmp 0)) (some 50) := by unfold OpIs; kernel_rfl
theorem step48 (T : Tn w0 S a0 listed a w 48 o) : wpOp Tryz.prog R1 Q 48 (fun a' w' => RI w0 S a0 (listed.setIfInBounds 48 true) a' w') a w :=
  T.move op48 rfl (by decide) (by decide)
theorem op49 : OpIs 49 (.move (.tmp 0)) (some 51) := by unfold OpIs; kernel_rfl
theorem step49 (T : Tn w0 S a0 listed a w 49 o) : wpOp Tryz.prog R1 Q 49 (fun a' w' => RI w0 S a0 (listed.setIfInBounds 49 true) a' w') a w :=
  T.move op49 rfl (by decide) (by decide)
theorem op50 : OpIs 50 (.makeFunc (.func 18) #[.tmp 51] #[]) (some 52) := by unfold OpIs; kernel_rfl
theorem step50 (T : Tn w0 S a0 listed a w 50 o) : wpOp Tryz.prog R1 Q 50 (fun a' w' => RI w0 S a0 (listed.setIfInBounds 50 true) a' w') a w :=
  T.mkf (j := 49) op50 rfl (by decide) (by decide) (by kernel_rfl) rfl
theorem op51 : OpIs 51 (.call { callee := .value (.func 15), args := #[.tmp 50, .tmp 52], argTypes := #[22, 34] }) (some 53) := by unfold OpIs; kernel_rfl
theorem step51 (T : Tn w0 S a0 listed a w 51 o) : wpOp Tryz.prog R1 Q 51 (fun a' w' => RI w0 S a0 (listed.setIfInBounds 51 true) a' w') a w :=
  T.ca (j := 48) (l := 50) op51 rfl (by decide) (by decide) (by kernel_rfl) rfl (by kernel_rfl) rfl
theorem op52 : OpIs 52 (.insert 42 (.tmp 8) (.const (.string ⟨([98, 101, 103, 105, 110] : List UInt8).toArray⟩)) (.tmp 53)) none := by unfold OpIs; kernel_rfl
theorem step52 (T : Tn w0 S a0 listed a w 52 o) : wpOp Tryz.prog R1 Q 52 (fun a' w' => RI w0 S a0 (listed.setIfInBounds 52 true) a' w') a w :=
  T.ins (k := 6) (l := 51) op52 rfl rfl (by kernel_rfl) (by kernel_rfl) rfl
theorem op53 : OpIs 53 (.move (.tmp 0)) (some 54) := by unfold OpIs; kernel_rfl
theorem step53 (T : Tn w0 S a0 listed a w 53 o) : wpOp Tryz.prog R1 Q 53 (fun a' w' => RI w0 S a0 (listed.setIfInBounds 53 true) a' w') a w :=
  T.move op53 rfl (by decide) (by decide)
theorem op54 : OpIs 54 (.move (.tmp 0)) (some 55) := by unfold OpIs; kernel_rfl
theorem step54 (T : Tn w0 S a0 listed a w 54 o) : wpOp Tryz.prog R1 Q 54 (fun a' w' => RI w0 S a0 (listed.setIfInBounds 54 true) a' w') a w :=
  T.move op54 rfl (by decide) (by decide)
theorem op55 : OpIs 55 (.makeFunc (.func 19) #[.tmp 55] #[]) (some 56) := by unfold OpIs; kernel_rfl
theorem step55 (T : Tn w0 S a0 listed a w 55 o) : wpOp Tryz.prog R1 Q 55 (fun a' w' => RI w0 S a0 (listed.setIfInBounds 55 true) a' w') a w :=
  T.mkf (j := 54) op55 rfl (by decide) (by decide) (by kernel_rfl) rfl
theorem op56 : OpIs 56 (.call { callee := .value (.func 15), args := #[.tmp 54, .tmp 56], argTypes := #[22, 34] }) (some 57) := by unfold OpIs; kernel_rfl
theorem step56 (T : Tn w0 S a0 listed a w 56 o) : wpOp Tryz.prog R1 Q 56 (fun a' w' => RI w0 S a0 (listed.setIfInBounds 56 true) a' w') a w :=
  T.ca (j := 53) (l := 55) op56 rfl (by decide) (by decide) (by kernel_rfl) rfl (by kernel_rfl) rfl
theorem op57 : OpIs 57 (.insert 42 (.tmp 8) (.const (.string ⟨([110, 101, 109, 101, 115, 105, 115] : List UInt8).toArray⟩)) (.tmp 57)) none := by unfold OpIs; kernel_rfl
theorem step57 (T : Tn w0 S a0 listed a w 57 o) : wpOp Tryz.prog R1 Q 57 (fun a' w' => RI w0 S a0 (listed.setIfInBounds 57 true) a' w') a w :=
  T.ins (k := 7) (l := 56) op57 rfl rfl (by kernel_rfl) (by kernel_rfl) rfl
theorem op58 : OpIs 58 (.move (.tmp 0)) (some 58) := by unfold OpIs; kernel_rfl
theorem step58 (T : Tn w0 S a0 listed a w 58 o) : wpOp Tryz.prog R1 Q 58 (fun a' w' => RI w0 S a0 (listed.setIfInBounds 58 true) a' w') a w :=
  T.move op58 rfl (by decide) (by decide)
theorem op59 : OpIs 59 (.makeFunc (.func 20) #[.tmp 58] #[]) (some 59) := by unfold OpIs; kernel_rfl
theorem step59 (T : Tn w0 S a0 listed a w 59 o) : wpOp Tryz.prog R1 Q 59 (fun a' w' => RI w0 S a0 (listed.setIfInBounds 59 true) a' w') a w :=
  T.mkf (j := 58) op59 rfl (by decide) (by decide) (by kernel_rfl) rfl
theorem op60 : OpIs 60 (.insert 42 (.tmp 8) (.const (.string ⟨([107, 101, 121] : List UInt8).toArray⟩)) (.tmp 59)) none := by unfold OpIs; kernel_rfl
theorem step60 (T : Tn w0 S a0 listed a w 60 o) : wpOp Tryz.prog R1 Q 60 (fun a' w' => RI w0 S a0 (listed.setIfInBounds 60 true) a' w') a w :=
  T.ins (k := 8) (l := 59) op60 rfl rfl (by kernel_rfl) (by kernel_rfl) rfl
theorem op61 : OpIs 61 (.move (.tmp 0)) (some 60) := by unfold OpIs; kernel_rfl
theorem step61 (T : Tn w0 S a0 listed a w 61 o) : wpOp Tryz.prog R1 Q 61 (fun a' w' => RI w0 S a0 (listed.setIfInBounds 61 true) a' w') a w :=
  T.move op61 rfl (by decide) (by decide)
theorem op62 : OpIs 62 (.makeFunc (.func 21) #[.tmp 60] #[]) (some 61) := by unfold OpIs; kernel_rfl
theorem step62 (T : Tn w0 S a0 listed a w 62 o) : wpOp Tryz.prog R1 Q 62 (fun a' w' => RI w0 S a0 (listed.setIfInBounds 62 true) a' w') a w :=
  T.mkf (j := 61) op62 rfl (by decide) (by decide) (by kernel_rfl) rfl
theorem op63 : OpIs 63 (.insert 42 (.tmp 8) (.const (.string ⟨([111, 114, 100, 101, 114] : List UInt8).toArray⟩)) (.tmp 61)) none := by unfold OpIs; kernel_rfl
theorem step63 (T : Tn w0 S a0 listed a w 63 o) : wpOp Tryz.prog R1 Q 63 (fun a' w' => RI w0 S a0 (listed.setIfInBounds 63 true) a' w') a w :=
  T.ins (k := 9) (l := 62) op63 rfl rfl (by kernel_rfl) (by kernel_rfl) rfl
theorem op64 : OpIs 64 (.move (.tmp 0)) (some 62) := by unfold OpIs; kernel_rfl
theorem step64 (T : Tn w0 S a0 listed a w 64 o) : wpOp Tryz.prog R1 Q 64 (fun a' w' => RI w0 S a0 (listed.setIfInBounds 64 true) a' w') a w :=
  T.move op64 rfl (by decide) (by decide)
theorem op65 : OpIs 65 (.move (.tmp 0)) (some 63) := by unfold OpIs; kernel_rfl
theorem step65 (T : Tn w0 S a0 listed a w 65 o) : wpOp Tryz.prog R1 Q 65 (fun a' w' => RI w0 S a0 (listed.setIfInBounds 65 true) a' w') a w :=
  T.move op65 rfl (by decide) (by decide)
theorem op66 : OpIs 66 (.makeFunc (.func 23) #[.tmp 63] #[]) (some 64) := by unfold OpIs; kernel_rfl
theorem step66 (T : Tn w0 S a0 listed a w 66 o) : wpOp Tryz.prog R1 Q 66 (fun a' w' => RI w0 S a0 (listed.setIfInBounds 66 true) a' w') a w :=
  T.mkf (j := 65) op66 rfl (by decide) (by decide) (by kernel_rfl) rfl
theorem op67 : OpIs 67 (.call { callee := .value (.func 22), args := #[.tmp 62, .tmp 64], argTypes := #[22, 34] }) (some 65) := by unfold OpIs; kernel_rfl
theorem step67 (T : Tn w0 S a0 listed a w 67 o) : wpOp Tryz.prog R1 Q 67 (fun a' w' => RI w0 S a0 (listed.setIfInBounds 67 true) a' w') a w :=
  T.cd (j := 64) (l := 66) op67 rfl (by decide) (by decide) (by kernel_rfl) rfl (by kernel_rfl) rfl
theorem op68 : OpIs 68 (.insert 42 (.tmp 8) (.const (.string ⟨([108, 101, 100, 103, 101, 114] : List UInt8).toArray⟩)) (.tmp 65)) none := by unfold OpIs; kernel_rfl
theorem step68 (T : Tn w0 S a0 listed a w 68 o) : wpOp Tryz.prog R1 Q 68 (fun a' w' => RI w0 S a0 (listed.setIfInBounds 68 true) a' w') a w :=
  T.ins (k := 10) (l := 67) op68 rfl rfl (by kernel_rfl) (by kernel_rfl) rfl
theorem op69 : OpIs 69 (.move (.tmp 0)) (some 66) := by unfold OpIs; kernel_rfl
theorem step69 (T : Tn w0 S a0 listed a w 69 o) : wpOp Tryz.prog R1 Q 69 (fun a' w' => RI w0 S a0 (listed.setIfInBounds 69 true) a' w') a w :=
  T.move op69 rfl (by decide) (by decide)
theorem op70 : OpIs 70 (.move (.tmp 0)) (some 67) := by unfold OpIs; kernel_rfl
theorem step70 (T : Tn w0 S a0 listed a w 70 o) : wpOp Tryz.prog R1 Q 70 (fun a' w' => RI w0 S a0 (listed.setIfInBounds 70 true) a' w') a w :=
  T.move op70 rfl (by decide) (by decide)
theorem op71 : OpIs 71 (.makeFunc (.func 24) #[.tmp 67] #[]) (some 68) := by unfold OpIs; kernel_rfl
theorem step71 (T : Tn w0 S a0 listed a w 71 o) : wpOp Tryz.prog R1 Q 71 (fun a' w' => RI w0 S a0 (listed.setIfInBounds 71 true) a' w') a w :=
  T.mkf (j := 70) op71 rfl (by decide) (by decide) (by kernel_rfl) rfl
theorem op72 : OpIs 72 (.call { callee := .value (.func 22), args := #[.tmp 66, .tmp 68], argTypes := #[22, 34] }) (some 69) := by unfold OpIs; kernel_rfl
theorem step72 (T : Tn w0 S a0 listed a w 72 o) : wpOp Tryz.prog R1 Q 72 (fun a' w' => RI w0 S a0 (listed.setIfInBounds 72 true) a' w') a w :=
  T.cd (j := 69) (l := 71) op72 rfl (by decide) (by decide) (by kernel_rfl) rfl (by kernel_rfl) rfl
theorem op73 : OpIs 73 (.insert 42 (.tmp 8) (.const (.string ⟨([99, 111, 112, 121] : List UInt8).toArray⟩)) (.tmp 69)) none := by unfold OpIs; kernel_rfl
theorem step73 (T : Tn w0 S a0 listed a w 73 o) : wpOp Tryz.prog R1 Q 73 (fun a' w' => RI w0 S a0 (listed.setIfInBounds 73 true) a' w') a w :=
  T.ins (k := 11) (l := 72) op73 rfl rfl (by kernel_rfl) (by kernel_rfl) rfl
theorem op74 : OpIs 74 (.move (.tmp 0)) (some 70) := by unfold OpIs; kernel_rfl
theorem step74 (T : Tn w0 S a0 listed a w 74 o) : wpOp Tryz.prog R1 Q 74 (fun a' w' => RI w0 S a0 (listed.setIfInBounds 74 true) a' w') a w :=
  T.move op74 rfl (by decide) (by decide)
theorem op75 : OpIs 75 (.move (.tmp 0)) (some 71) := by unfold OpIs; kernel_rfl
theorem step75 (T : Tn w0 S a0 listed a w 75 o) : wpOp Tryz.prog R1 Q 75 (fun a' w' => RI w0 S a0 (listed.setIfInBounds 75 true) a' w') a w :=
  T.move op75 rfl (by decide) (by decide)
theorem op76 : OpIs 76 (.makeFunc (.func 25) #[.tmp 71] #[]) (some 72) := by unfold OpIs; kernel_rfl
theorem step76 (T : Tn w0 S a0 listed a w 76 o) : wpOp Tryz.prog R1 Q 76 (fun a' w' => RI w0 S a0 (listed.setIfInBounds 76 true) a' w') a w :=
  T.mkf (j := 75) op76 rfl (by decide) (by decide) (by kernel_rfl) rfl
theorem op77 : OpIs 77 (.call { callee := .value (.func 22), args := #[.tmp 70, .tmp 72], argTypes := #[22, 34] }) (some 73) := by unfold OpIs; kernel_rfl
theorem step77 (T : Tn w0 S a0 listed a w 77 o) : wpOp Tryz.prog R1 Q 77 (fun a' w' => RI w0 S a0 (listed.setIfInBounds 77 true) a' w') a w :=
  T.cd (j := 74) (l := 76) op77 rfl (by decide) (by decide) (by kernel_rfl) rfl (by kernel_rfl) rfl
theorem op78 : OpIs 78 (.insert 42 (.tmp 8) (.const (.string ⟨([119, 97, 105, 116, 105, 110, 103] : List UInt8).toArray⟩)) (.tmp 73)) none := by unfold OpIs; kernel_rfl
theorem step78 (T : Tn w0 S a0 listed a w 78 o) : wpOp Tryz.prog R1 Q 78 (fun a' w' => RI w0 S a0 (listed.setIfInBounds 78 true) a' w') a w :=
  T.ins (k := 12) (l := 77) op78 rfl rfl (by kernel_rfl) (by kernel_rfl) rfl
theorem op79 : OpIs 79 (.move (.tmp 0)) (some 74) := by unfold OpIs; kernel_rfl
theorem step79 (T : Tn w0 S a0 listed a w 79 o) : wpOp Tryz.prog R1 Q 79 (fun a' w' => RI w0 S a0 (listed.setIfInBounds 79 true) a' w') a w :=
  T.move op79 rfl (by decide) (by decide)
theorem op80 : OpIs 80 (.move (.tmp 0)) (some 75) := by unfold OpIs; kernel_rfl
theorem step80 (T : Tn w0 S a0 listed a w 80 o) : wpOp Tryz.prog R1 Q 80 (fun a' w' => RI w0 S a0 (listed.setIfInBounds 80 true) a' w') a w :=
  T.move op80 rfl (by decide) (by decide)
theorem op81 : OpIs 81 (.makeFunc (.func 26) #[.tmp 75] #[]) (some 76) := by unfold OpIs; kernel_rfl
theorem step81 (T : Tn w0 S a0 listed a w 81 o) : wpOp Tryz.prog R1 Q 81 (fun a' w' => RI w0 S a0 (listed.setIfInBounds 81 true) a' w') a w :=
  T.mkf (j := 80) op81 rfl (by decide) (by decide) (by kernel_rfl) rfl
theorem op82 : OpIs 82 (.call { callee := .value (.func 22), args := #[.tmp 74, .tmp 76], argTypes := #[22, 34] }) (some 77) := by unfold OpIs; kernel_rfl
theorem step82 (T : Tn w0 S a0 listed a w 82 o) : wpOp Tryz.prog R1 Q 82 (fun a' w' => RI w0 S a0 (listed.setIfInBounds 82 true) a' w') a w :=
  T.cd (j := 79) (l := 81) op82 rfl (by decide) (by decide) (by kernel_rfl) rfl (by kernel_rfl) rfl
theorem op83 : OpIs 83 (.insert 42 (.tmp 8) (.const (.string ⟨([115, 116, 111, 114, 121] : List UInt8).toArray⟩)) (.tmp 77)) none := by unfold OpIs; kernel_rfl
theorem step83 (T : Tn w0 S a0 listed a w 83 o) : wpOp Tryz.prog R1 Q 83 (fun a' w' => RI w0 S a0 (listed.setIfInBounds 83 true) a' w') a w :=
  T.ins (k := 13) (l := 82) op83 rfl rfl (by kernel_rfl) (by kernel_rfl) rfl
theorem op84 : OpIs 84 (.move (.tmp 0)) (some 78) := by unfold OpIs; kernel_rfl
theorem step84 (T : Tn w0 S a0 listed a w 84 o) : wpOp Tryz.prog R1 Q 84 (fun a' w' => RI w0 S a0 (listed.setIfInBounds 84 true) a' w') a w :=
  T.move op84 rfl (by decide) (by decide)
theorem op85 : OpIs 85 (.move (.tmp 0)) (some 79) := by unfold OpIs; kernel_rfl
theorem step85 (T : Tn w0 S a0 listed a w 85 o) : wpOp Tryz.prog R1 Q 85 (fun a' w' => RI w0 S a0 (listed.setIfInBounds 85 true) a' w') a w :=
  T.move op85 rfl (by decide) (by decide)
theorem op86 : OpIs 86 (.makeFunc (.func 27) #[.tmp 79] #[]) (some 80) := by unfold OpIs; kernel_rfl
theorem step86 (T : Tn w0 S a0 listed a w 86 o) : wpOp Tryz.prog R1 Q 86 (fun a' w' => RI w0 S a0 (listed.setIfInBounds 86 true) a' w') a w :=
  T.mkf (j := 85) op86 rfl (by decide) (by decide) (by kernel_rfl) rfl
theorem op87 : OpIs 87 (.call { callee := .value (.func 22), args := #[.tmp 78, .tmp 80], argTypes := #[22, 34] }) (some 81) := by unfold OpIs; kernel_rfl
theorem step87 (T : Tn w0 S a0 listed a w 87 o) : wpOp Tryz.prog R1 Q 87 (fun a' w' => RI w0 S a0 (listed.setIfInBounds 87 true) a' w') a w :=
  T.cd (j := 84) (l := 86) op87 rfl (by decide) (by decide) (by kernel_rfl) rfl (by kernel_rfl) rfl
theorem op88 : OpIs 88 (.insert 42 (.tmp 8) (.const (.string ⟨([106, 117, 100, 103, 101] : List UInt8).toArray⟩)) (.tmp 81)) none := by unfold OpIs; kernel_rfl
theorem step88 (T : Tn w0 S a0 listed a w 88 o) : wpOp Tryz.prog R1 Q 88 (fun a' w' => RI w0 S a0 (listed.setIfInBounds 88 true) a' w') a w :=
  T.ins (k := 14) (l := 87) op88 rfl rfl (by kernel_rfl) (by kernel_rfl) rfl
theorem op89 : OpIs 89 (.move (.tmp 0)) (some 82) := by unfold OpIs; kernel_rfl
theorem step89 (T : Tn w0 S a0 listed a w 89 o) : wpOp Tryz.prog R1 Q 89 (fun a' w' => RI w0 S a0 (listed.setIfInBounds 89 true) a' w') a w :=
  T.move op89 rfl (by decide) (by decide)
theorem op90 : OpIs 90 (.move (.tmp 0)) (some 83) := by unfold OpIs; kernel_rfl
theorem step90 (T : Tn w0 S a0 listed a w 90 o) : wpOp Tryz.prog R1 Q 90 (fun a' w' => RI w0 S a0 (listed.setIfInBounds 90 true) a' w') a w :=
  T.move op90 rfl (by decide) (by decide)
theorem op91 : OpIs 91 (.makeFunc (.func 28) #[.tmp 83] #[]) (some 84) := by unfold OpIs; kernel_rfl
theorem step91 (T : Tn w0 S a0 listed a w 91 o) : wpOp Tryz.prog R1 Q 91 (fun a' w' => RI w0 S a0 (listed.setIfInBounds 91 true) a' w') a w :=
  T.mkf (j := 90) op91 rfl (by decide) (by decide) (by kernel_rfl) rfl
theorem op92 : OpIs 92 (.call { callee := .value (.func 22), args := #[.tmp 82, .tmp 84], argTypes := #[22, 34] }) (some 85) := by unfold OpIs; kernel_rfl
theorem step92 (T : Tn w0 S a0 listed a w 92 o) : wpOp Tryz.prog R1 Q 92 (fun a' w' => RI w0 S a0 (listed.setIfInBounds 92 true) a' w') a w :=
  T.cd (j := 89) (l := 91) op92 rfl (by decide) (by decide) (by kernel_rfl) rfl (by kernel_rfl) rfl
theorem op93 : OpIs 93 (.insert 42 (.tmp 8) (.const (.string ⟨([97, 117, 100, 105, 116] : List UInt8).toArray⟩)) (.tmp 85)) none := by unfold OpIs; kernel_rfl
theorem step93 (T : Tn w0 S a0 listed a w 93 o) : wpOp Tryz.prog R1 Q 93 (fun a' w' => RI w0 S a0 (listed.setIfInBounds 93 true) a' w') a w :=
  T.ins (k := 15) (l := 92) op93 rfl rfl (by kernel_rfl) (by kernel_rfl) rfl
theorem op94 : OpIs 94 (.move (.tmp 0)) (some 86) := by unfold OpIs; kernel_rfl
theorem step94 (T : Tn w0 S a0 listed a w 94 o) : wpOp Tryz.prog R1 Q 94 (fun a' w' => RI w0 S a0 (listed.setIfInBounds 94 true) a' w') a w :=
  T.move op94 rfl (by decide) (by decide)
theorem op95 : OpIs 95 (.move (.tmp 0)) (some 87) := by unfold OpIs; kernel_rfl
theorem step95 (T : Tn w0 S a0 listed a w 95 o) : wpOp Tryz.prog R1 Q 95 (fun a' w' => RI w0 S a0 (listed.setIfInBounds 95 true) a' w') a w :=
  T.move op95 rfl (by decide) (by decide)
theorem op96 : OpIs 96 (.makeFunc (.func 29) #[.tmp 87] #[]) (some 88) := by unfold OpIs; kernel_rfl
theorem step96 (T : Tn w0 S a0 listed a w 96 o) : wpOp Tryz.prog R1 Q 96 (fun a' w' => RI w0 S a0 (listed.setIfInBounds 96 true) a' w') a w :=
  T.mkf (j := 95) op96 rfl (by decide) (by decide) (by kernel_rfl) rfl
theorem op97 : OpIs 97 (.call { callee := .value (.func 22), args := #[.tmp 86, .tmp 88], argTypes := #[22, 34] }) (some 89) := by unfold OpIs; kernel_rfl
theorem step97 (T : Tn w0 S a0 listed a w 97 o) : wpOp Tryz.prog R1 Q 97 (fun a' w' => RI w0 S a0 (listed.setIfInBounds 97 true) a' w') a w :=
  T.cd (j := 94) (l := 96) op97 rfl (by decide) (by decide) (by kernel_rfl) rfl (by kernel_rfl) rfl
theorem op98 : OpIs 98 (.insert 42 (.tmp 8) (.const (.string ⟨([111, 118, 101, 114] : List UInt8).toArray⟩)) (.tmp 89)) none := by unfold OpIs; kernel_rfl
theorem step98 (T : Tn w0 S a0 listed a w 98 o) : wpOp Tryz.prog R1 Q 98 (fun a' w' => RI w0 S a0 (listed.setIfInBounds 98 true) a' w') a w :=
  T.ins (k := 16) (l := 97) op98 rfl rfl (by kernel_rfl) (by kernel_rfl) rfl
theorem op99 : OpIs 99 (.move (.tmp 8)) (some 90) := by unfold OpIs; kernel_rfl
theorem step99 (T : Tn w0 S a0 listed a w 99 o) : wpOp Tryz.prog R1 Q 99 (fun a' w' => RI w0 S a0 (listed.setIfInBounds 99 true) a' w') a w :=
  T.mv8 op99 rfl (by decide) (by decide) (by kernel_rfl)
theorem op100 : OpIs 100 (.assign (.tmp 90)) (some 3) := by unfold OpIs; kernel_rfl
theorem step100 (T : Tn w0 S a0 listed a w 100 o) : wpOp Tryz.prog R1 Q 100 (fun a' w' => RI w0 S a0 (listed.setIfInBounds 100 true) a' w') a w :=
  T.as8 (j := 99) op100 rfl (by decide) (by decide) (by kernel_rfl) rfl
theorem step : ∀ {i : Nat} (_ : i < 101), Tn w0 S a0 listed a w i o → wpOp Tryz.prog R1 Q i (fun a' w' => RI w0 S a0 (listed.setIfInBounds i true) a' w') a w
  | 0, _, T => step0 T
  | 1, _, T => step1 T
  | 2, _, T => step2 T
  | 3, _, T => step3 T
  | 4, _, T => step4 T
  | 5, _, T => step5 T
  | 6, _, T => step6 T
  | 7, _, T => step7 T
  | 8, _, T => step8 T
  | 9, _, T => step9 T
  | 10, _, T => step10 T
  | 11, _, T => step11 T
  | 12, _, T => step12 T
  | 13, _, T => step13 T
  | 14, _, T => step14 T
  | 15, _, T => step15 T
  | 16, _, T => step16 T
  | 17, _, T => step17 T
  | 18, _, T => step18 T
  | 19, _, T => step19 T
  | 20, _, T => step20 T
  | 21, _, T => step21 T
  | 22, _, T => step22 T
  | 23, _, T => step23 T
  | 24, _, T => step24 T
  | 25, _, T => step25 T
  | 26, _, T => step26 T
  | 27, _, T => step27 T
  | 28, _, T => step28 T
  | 29, _, T => step29 T
  | 30, _, T => step30 T
  | 31, _, T => step31 T
  | 32, _, T => step32 T
  | 33, _, T => step33 T
  | 34, _, T => step34 T
  | 35, _, T => step35 T
  | 36, _, T => step36 T
  | 37, _, T => step37 T
  | 38, _, T => step38 T
  | 39, _, T => step39 T
  | 40, _, T => step40 T
  | 41, _, T => step41 T
  | 42, _, T => step42 T
  | 43, _, T => step43 T
  | 44, _, T => step44 T
  | 45, _, T => step45 T
  | 46, _, T => step46 T
  | 47, _, T => step47 T
  | 48, _, T => step48 T
  | 49, _, T => step49 T
  | 50, _, T => step50 T
  | 51, _, T => step51 T
  | 52, _, T => step52 T
  | 53, _, T => step53 T
  | 54, _, T => step54 T
  | 55, _, T => step55 T
  | 56, _, T => step56 T
  | 57, _, T => step57 T
  | 58, _, T => step58 T
  | 59, _, T => step59 T
  | 60, _, T => step60 T
  | 61, _, T => step61 T
  | 62, _, T => step62 T
  | 63, _, T => step63 T
  | 64, _, T => step64 T
  | 65, _, T => step65 T
  | 66, _, T => step66 T
  | 67, _, T => step67 T
  | 68, _, T => step68 T
  | 69, _, T => step69 T
  | 70, _, T => step70 T
  | 71, _, T => step71 T
  | 72, _, T => step72 T
  | 73, _, T => step73 T
  | 74, _, T => step74 T
  | 75, _, T => step75 T
  | 76, _, T => step76 T
  | 77, _, T => step77 T
  | 78, _, T => step78 T
  | 79, _, T => step79 T
  | 80, _, T => step80 T
  | 81, _, T => step81 T
  | 82, _, T => step82 T
  | 83, _, T => step83 T
  | 84, _, T => step84 T
  | 85, _, T => step85 T
  | 86, _, T => step86 T
  | 87, _, T => step87 T
  | 88, _, T => step88 T
  | 89, _, T => step89 T
  | 90, _, T => step90 T
  | 91, _, T => step91 T
  | 92, _, T => step92 T
  | 93, _, T => step93 T
  | 94, _, T => step94 T
  | 95, _, T => step95 T
  | 96, _, T => step96 T
  | 97, _, T => step97 T
  | 98, _, T => step98 T
  | 99, _, T => step99 T
  | 100, _, T => step100 T
  | n + 101, h, _ => absurd h (by omega)
end
end Go.Proofs.YtndpldhglnblfaaGreatDoor
