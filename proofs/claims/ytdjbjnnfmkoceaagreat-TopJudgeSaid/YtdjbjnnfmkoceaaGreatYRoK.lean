/-
TopJudge in pieces.
-/
import Derived.Test.YtdjbjnnfmkoceaaGreatY47
import Derived.Test.YtdjbjnnfmkoceaaGreatY14
set_option linter.unusedVariables false
set_option linter.unusedSimpArgs false
set_option maxRecDepth 100000
namespace Go.Eng
open Go
noncomputable def Ka:List Ll:=[⟨NC,ND,NF,NG⟩,⟨NH,NI,NJ,NK⟩,⟨NL,NM,NN,NO⟩,⟨NP,NQ,NR,NS⟩,⟨NT,NU,NV,NW⟩]
noncomputable def QV:Nat->Option Oc:=a8 11 (orF Ka (mW 11)) J1
noncomputable def AW:Rf:=rfN AF.fns.get QV (fun _=>eJ) 60
def tlA:AC->AC
 |.seq _ b=>b
 |_=>.no
def hdA:AC->AC
 |.seq a _=>a
 |_=>.no
def agU:AC->List cG
 |.seq (.EF l) _=>l.drop 2
 |_=>[]
def jA1:AC:=wY 3 AF.f3.body
def jN1:AC:=Gq 3 AF.f3.body
def jC1:AC:=tlA jN1
def jA2:AC:=wY 17 jC1
def jN2:AC:=Gq 17 jC1
def jI2:AC:=hdA jN2
def jB2:AC:=tlA jI2
def jC2:AC:=tlA jN2
noncomputable def jP1 (X Y:V):Rz:=Lo AW jA1 X Y
noncomputable def jP2 (r:Nat) (X Y:V):Rz:=Pj AW 21 22 X (.i .i64 (.ofNat r)) (agU jN1) jA2 (jP1 X Y)
noncomputable def BY (r s:Nat) (X Y:V):Rz:=jB (Pj AW 99 100 Y (.i .i64 (.ofNat s)) (agU jI2) jB2 (jP2 r X Y)) fun f m=>(bX eJ jC2).run AW f m
end Go.Eng
