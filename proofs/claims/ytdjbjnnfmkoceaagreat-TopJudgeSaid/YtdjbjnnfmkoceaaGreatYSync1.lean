/-
sync.Once, one goroutine: what Do does, over any function.
-/
import Derived.Test.YtdjbjnnfmkoceaaGreatY05
import Derived.Test.YtdjbjnnfmkoceaaGreatRows
import Derived.Tactics
import Derived.Tactics2
import Derived.Defers
import Derived.Laws.Pointers
import Derived.Laws.LoneSync
import Derived.RegionTactic
import Derived.RegionCalls
import Derived.ChangeAlike
set_option linter.unusedVariables false
set_option linter.unusedSimpArgs false
set_option maxHeartbeats 1600000
set_option maxRecDepth 100000
namespace Go.Proofs.YtdjbjnnfmkoceaaGreat
theorem disable (w:World):(callFunc 416 #[]).run Tryz.prog w=.ok (.value (.tuple #[])) w:=run_call_mark0 Tryz.func416 (by kernel_rfl) (by kernel_rfl) (by kernel_rfl) .disable (by kernel_rfl) w
theorem enable (w:World):(callFunc 418 #[]).run Tryz.prog w=.ok (.value (.tuple #[])) w:=run_call_mark0 Tryz.func418 (by kernel_rfl) (by kernel_rfl) (by kernel_rfl) .enable (by kernel_rfl) w
theorem acquire (a:Addr) (w:World):(callFunc 419 #[.pointer (some a)]).run Tryz.prog w=.ok (.value (.tuple #[])) w:=run_call_marked Tryz.func419 (by kernel_rfl) (by kernel_rfl) (by kernel_rfl) .acquire (by kernel_rfl) a w
theorem releaseMerge (a:Addr) (w:World):(callFunc 421 #[.pointer (some a)]).run Tryz.prog w=.ok (.value (.tuple #[])) w:=run_call_marked Tryz.func421 (by kernel_rfl) (by kernel_rfl) (by kernel_rfl) .releaseMerge (by kernel_rfl) a w
theorem D3 (a:Addr) (x:Value) (u:FrameMode) (w:World) (hc:w.cell? a=some x) (hz:w.frozen? a=false):
 CallsD Tryz.prog 350 #[.pointer (some a),.bool true] u w fun e u' w'=>u'=u/\(e=.returned (.tuple #[])/\w'=w.drew.setCell a (.int .u32 1)):=by
 have hc':w.drew.cell? a=some x:=by go_simp
 have C9:w.drew.frozen? a=false:=by go_simp
 have CA:=run_call_store (P:=Tryz.prog) Tryz.func390 (by kernel_rfl) (by kernel_rfl) (by kernel_rfl) (by kernel_rfl) (k:=.u32) (y:=1) hc' C9
 go_enter_d Tryz.func350,Tryz.ntmps350
 go_wp2
 go_region_calls
 all_goals (go_end0;exact ⟨rfl,rfl⟩)
theorem Cm (a:Addr) (u:FrameMode) (w:World) (hc:w.cell? a=some (.int .i32 1)) (hz:w.frozen? a=false):
 CallsD Tryz.prog 349 #[.pointer (some a)] u w fun e u' w'=>u'=u/\(e=.returned (.tuple #[])/\w'=w.setCell a (.int .i32 0)):=by
 have hd:=disable
 have he:=enable
 have hr:=releaseMerge
 have Je:=run_call_add (P:=Tryz.prog) Tryz.func422 (by kernel_rfl) (by kernel_rfl) (by kernel_rfl) .i32 (by kernel_rfl) (y:=-1) (s:=0) hc hz (by simp [go_sem];rfl)
 have hcv:=run_convert_to_unsafe (P:=Tryz.prog) (src:=498) (dst:=502) Tryz.underlying498 Tryz.underlying502 (by kernel_rfl) hc
 go_enter_d Tryz.func349,Tryz.ntmps349
 go_wp2
 go_end0
 go_wp2
 go_end0
 exact ⟨rfl,rfl⟩
theorem RS (a:Addr) (w:World) (hc:w.cell? a=some (.int .i32 0)) (hz:w.frozen? a=false):
 Calls Tryz.prog 348 #[.pointer (some a)] w fun e w'=>e=.returned (.tuple #[])/\w'=w.setCell a (.int .i32 1):=by
 have hd:=disable
 have he:=enable
 have ha:=acquire
 have aDN:=run_call_cas_hit (P:=Tryz.prog) Tryz.func417 (by kernel_rfl) (by kernel_rfl) (by kernel_rfl) .i32 (by kernel_rfl) (y:=1) hc hz
 have hc':(w.setCell a (.int .i32 1)).cell? a=some (.int .i32 1):=World.cell?_setCell_same w a _ hc
 have hcv:=run_convert_to_unsafe (P:=Tryz.prog) (src:=498) (dst:=502) Tryz.underlying498 Tryz.underlying502 (by kernel_rfl) hc'
 go_enter Tryz.func348,Tryz.ntmps348
 go_wp2
 first|go_end0|(simp only [Exit.inBlock,Exit.then];refine bodyPost_ret (results_none rfl _ _ _) rfl ?_)|refine bodyPost_ret (results_none rfl _ _ _) rfl ?_
 go_wp2
 go_end0
 exact ⟨rfl,rfl⟩
theorem WJ (b off g:Nat) (first cap:Array Value) (w:World) (R:Value->World->Prop)
 (h0:w.cell? ⟨b,off,none⟩=some (.int .u32 0)) (h1:w.cell? ⟨b,off+1,none⟩=some (.int .i32 0))
 (f1:w.frozen? ⟨b,off+1,none⟩=false) (hb:Go.Eng.lF Tryz.prog g=true)
 (hg:Calls Tryz.prog g (first++cap) (w.setCell ⟨b,off+1,none⟩ (.int .i32 1)) fun e w'=>∃ x,e=.returned x/\R x w')
 (hR:∀ x w',R x w'->(∃ y,w'.cell? ⟨b,off,none⟩=some y)/\w'.cell? ⟨b,off+1,none⟩=some (.int .i32 1)/\w'.frozen? ⟨b,off,none⟩=false/\w'.frozen? ⟨b,off+1,none⟩=false):
 Calls Tryz.prog 272 #[.pointer (some ⟨b,off,none⟩),.func (.func g) first cap] w fun e w'=>e=.returned (.tuple #[])/\
  ∃ x w1,R x w1/\w'=(w1.drew.setCell ⟨b,off,none⟩ (.int .u32 1)).setCell ⟨b,off+1,none⟩ (.int .i32 0):=by
 have hl:=run_call_load (P:=Tryz.prog) Tryz.func347 (by kernel_rfl) (by kernel_rfl) (by kernel_rfl) .u32 (by kernel_rfl) (w:=w.setCell ⟨b,off+1,none⟩ (.int .i32 1)) (a:=⟨b,off,none⟩) (x:=0) ((World.cell?_setCell_other _ ⟨b,off+1,none⟩ ⟨b,off,none⟩ _ (by simp)).trans h0)
 have aqL:∀ (x:Bool) (w:World),(Op.unary .not (.bool x)).run Tryz.prog w=.ok (.bool (!x)) w:=fun _ _=>rfl
 go_enter_defers Tryz.func272,Tryz.ntmps272
 go_wp2_with (go_at_call 348;refine (RS ⟨b,off+1,none⟩ _ (by go_simp) (by go_simp)).mono ?_;rintro e w' ⟨rfl,rfl⟩)
 go_wp2
 rw [Go.Eng.sM hb,Oper.upon_enter]
 refine hg.mono ?_
 rintro e w1 ⟨x,rfl,hx⟩
 obtain ⟨⟨y0,r0⟩,r1,r2,r3⟩:=hR x w1 hx
 go_wp2
 refine leaves_cons (f:=350) (args:=#[.pointer (some ⟨b,off,none⟩),.bool true]) (by simp) (by simp [go_sem]) ?_
 refine (D3 ⟨b,off,none⟩ y0 .returning _ r0 r2).mono ?_
 rintro e u' w'' ⟨rfl,rfl,rfl⟩
 refine leaves_cons (f:=349) (args:=#[.pointer (some ⟨b,off+1,none⟩)]) (by simp [settle]) (by simp [go_sem]) ?_
 refine (Cm ⟨b,off+1,none⟩ _ _ ?_ (by simp [r3])).mono ?_
 · refine (World.cell?_setCell_other _ ⟨b,off,none⟩ ⟨b,off+1,none⟩ _ (by simp)).trans ?_
   rw [World.cell?_drew]
   exact r1
 rintro e u' w'' ⟨rfl,rfl,rfl⟩
 simp [Leaves,settle,results,Tryz.results272]
 exact ⟨x,w1,hx,rfl⟩
theorem WK (b off g:Nat) (first cap:Array Value) (w:World) (R:Value->World->Prop)
 (h0:w.cell? ⟨b,off,none⟩=some (.int .u32 0)) (h1:w.cell? ⟨b,off+1,none⟩=some (.int .i32 0))
 (f1:w.frozen? ⟨b,off+1,none⟩=false) (hb:Go.Eng.lF Tryz.prog g=true)
 (hg:Calls Tryz.prog g (first++cap) (w.setCell ⟨b,off+1,none⟩ (.int .i32 1)) fun e w'=>∃ x,e=.returned x/\R x w')
 (hR:∀ x w',R x w'->(∃ y,w'.cell? ⟨b,off,none⟩=some y)/\w'.cell? ⟨b,off+1,none⟩=some (.int .i32 1)/\w'.frozen? ⟨b,off,none⟩=false/\w'.frozen? ⟨b,off+1,none⟩=false):
 Calls Tryz.prog 190 #[.pointer (some ⟨b,off,none⟩),.func (.func g) first cap] w fun e w'=>e=.returned (.tuple #[])/\
  ∃ x w1,R x w1/\w'=(w1.drew.setCell ⟨b,off,none⟩ (.int .u32 1)).setCell ⟨b,off+1,none⟩ (.int .i32 0):=by
 have hl:=run_call_load (P:=Tryz.prog) Tryz.func347 (by kernel_rfl) (by kernel_rfl) (by kernel_rfl) .u32 (by kernel_rfl) h0
 have aqL:∀ (x:Bool) (w:World),(Op.unary .not (.bool x)).run Tryz.prog w=.ok (.bool (!x)) w:=fun _ _=>rfl
 go_enter Tryz.func190,Tryz.ntmps190
 go_wp2_with (first|(go_at_call 272;refine (WJ b off g first cap _ R h0 h1 f1 hb hg hR).mono ?_;rintro e w' ⟨rfl,hw⟩)|(go_at_call 271;go_in))
 go_end0
 exact ⟨rfl,hw⟩
theorem af7 (a:Addr) (d:Int) (hd:¬d=0) (fv:Value) (w:World) (h0:w.cell? a=some (.int .u32 d)):
 Calls Tryz.prog 190 #[.pointer (some a),fv] w fun e w'=>e=.returned (.tuple #[])/\w'=w:=by
 have hl:=run_call_load (P:=Tryz.prog) Tryz.func347 (by kernel_rfl) (by kernel_rfl) (by kernel_rfl) .u32 (by kernel_rfl) h0
 have aqL:∀ (x:Bool) (w:World),(Op.unary .not (.bool x)).run Tryz.prog w=.ok (.bool (!x)) w:=fun _ _=>rfl
 have hd':(d !=0)=true:=by simp [hd]
 go_enter Tryz.func190,Tryz.ntmps190
 go_wp2
 go_end0
 exact ⟨rfl,rfl⟩
theorem wrap64 (n:Int):IntKind.i64.wrap n=(n+9223372036854775808)%18446744073709551616 - 9223372036854775808:=by
 have p:(2:Int) ^ 64=18446744073709551616:=by decide
 have q:(2:Int) ^ 63=9223372036854775808:=by decide
 simp only [IntKind.wrap,IntKind.bits,IntKind.signed,Bool.true_and,decide_eq_true_eq,Nat.reduceSub,p,q]
 split<;>omega
theorem aqM (a:Addr) (m n s:Int) (hs:s=IntKind.i64.wrap (m+n)) (w:World) (hc:w.cell? a=some (.int .i64 m)) (hz:w.frozen? a=false):
 Calls Tryz.prog 101 #[.pointer (some a),.int .i64 n] w fun e w'=>e=.returned (.int .i64 s)/\w'=w.setCell a (.int .i64 s):=by
 have Je:=run_call_add (P:=Tryz.prog) Tryz.func176 (by kernel_rfl) (by kernel_rfl) (by kernel_rfl) .i64 (by kernel_rfl) (y:=n) (s:=s) hc hz (by rw [hs];simp [go_sem])
 go_enter Tryz.func101,Tryz.ntmps101
 go_wp2
 go_ret
 have e:(m+n+9223372036854775808)%18446744073709551616 - 9223372036854775808=s:=by rw [hs,wrap64]
 rw [e]
 exact ⟨rfl,rfl⟩
end Go.Proofs.YtdjbjnnfmkoceaaGreat
