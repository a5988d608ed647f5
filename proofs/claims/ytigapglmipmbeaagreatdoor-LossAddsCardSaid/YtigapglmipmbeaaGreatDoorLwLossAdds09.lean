/- Facts of the program that each card asks. -/
import Derived.Test.YtigapglmipmbeaaGreatDoorCards
import Derived.Test.YtigapglmipmbeaaGreatDoorTie
import Derived.KernelRfl
import Derived.SevenTiedAt
set_option maxRecDepth 100000
set_option maxHeartbeats 16000000
namespace Go.Proofs.YtigapglmipmbeaaGreatDoor
open Go
theorem enters {P : Program} {rest : List (List Char)} (h : behindMainWord (wordsSigns P.initOrder.toList) = "cut".toList :: rest) (h1 : P.laysLater = false) (h2 : P.bearsReflect = false) (h3 : P.doorFits [] = true) : P.mayEnter = true := by
 have e : stripLifts liftWords ("cut".toList :: rest) = ([], "cut".toList :: rest) := by kernel_rfl
 unfold Program.mayEnter
 rw [h]
 dsimp only
 rw [e]
 simp [h1,h2,h3]
theorem cons_of_head {α:Type} {l:List α} {x:α} (h:l.head?=some x):l=x::l.tail:=by
 cases l with
 | nil=>cases h
 | cons y t=>cases h;rfl
theorem doorFitsF:Tryz.prog.doorFits []=true:=by kernel_rfl
theorem headWordF : (behindMainWord (wordsSigns Tryz.prog.initOrder.toList)).head? = some "cut".toList := by kernel_rfl
theorem laysLaterF:Tryz.prog.laysLater=false:=by kernel_rfl
theorem bearsReflectF:Tryz.prog.bearsReflect=false:=by kernel_rfl
theorem mayEnterF:Tryz.prog.mayEnter=true:=enters (cons_of_head headWordF) laysLaterF bearsReflectF doorFitsF
theorem mainIsF : Tryz.prog.mainIs = some (true, "5395951699d0e7c088c16c506ed30de6925104505e2026abbc93d9abbfe2aced".toList) := by kernel_rfl
theorem looksF:true=Tryz.prog.looks []:=by kernel_rfl
end Go.Proofs.YtigapglmipmbeaaGreatDoor
