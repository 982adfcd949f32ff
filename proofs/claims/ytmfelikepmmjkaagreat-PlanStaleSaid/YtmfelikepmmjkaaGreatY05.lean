/-
Each operation of the model does what the abstract step says (part twelve: == of what is held in cells).
-/
import Derived.Test.YtmfelikepmmjkaaGreatY04
import Derived.Laws.StructEq
import Derived.ChangeKeysEq
set_option linter.unusedVariables false
set_option linter.unusedSimpArgs false
namespace Go.Eng
open Go
def Mf (row:Bool) (ks:List CK):Option Nat:=if row then some ks.length else none
def mU (P:Program) (lay:TypeId->Option (Bool×List CK)):List Field->Nat->Option (List CK)
 |[],_=>some []
 |f::fs,acc=>match lay f.type with
  | some (row, ks) => if f.name ≠ "_" ∧ f.offset = acc ∧ 0 < ks.length ∧ tU P f.type (Mf row ks) = true then
     (match mU P lay fs (acc+ks.length) with
     |some rest=>some (ks++rest)
     |none=>none)
    else none
  |none=>none
def Dk (P:Program):Nat->TypeId->Option (Bool×List CK)
 |0,_=>none
 |n+1,t=>match P.underlying t with
  |some .bool=>some (false,[.b])
  |some (.int _)=>some (false,[.i])
  |some .string=>some (false,[.s])
  |some (.struct fs)=>if P.stoodInHeld t=true then none else match mU P (Dk P n) fs.toList 0 with
   |some ks=>some (true,ks)
   |none=>none
  |some (.array len e)=>match Dk P n e with
   |some (row,ks)=>if (P.info? e).map (·.size)=some ks.length/\0<ks.length/\tU P e (Mf row ks)=true then some (true,(List.replicate len ks).flatten) else none
   |none=>none
  |_=>none
theorem oY:∀ {k1 k2:List CK} {cs ds:List V} {r:Bool},dP (k1++k2) cs ds=some r->
 k1.length<=cs.length/\k1.length<=ds.length/\∃ r1 r2,dP k1 (cs.take k1.length) (ds.take k1.length)=some r1/\dP k2 (cs.drop k1.length) (ds.drop k1.length)=some r2/\r=(r1&&r2)
 |[],k2,cs,ds,r,h=>⟨Nat.zero_le _,Nat.zero_le _,true,r,by simp [dP],by simpa using h,by simp⟩
 |k::k1,k2,cs,ds,r,h=>by
  cases cs with
  |nil=>simp [dP] at h
  |cons c cs=>
  cases ds with
  |nil=>simp [dP] at h
  |cons d ds=>
  simp only [List.cons_append,dP] at h
  split at h
  · rename_i a b ha hb
    simp only [Option.some.injEq] at h
    subst h
    obtain ⟨h1,h2,r1,r2,h3,h4,rfl⟩:=oY hb
    refine ⟨by simp [h1],by simp [h2],a&&r1,r2,by simp [dP,ha,h3],by simpa using h4,by simp [Bool.and_assoc]⟩
  · cases h
section
variable {P:Program} {o:Oper} {a:Act} {E:Env} {N:Nat} {st:St} {w:World} {fr:Fr} {next:Act->World->Prop} {Q:Exit->Act->World->Prop} {K:R->Prop}
def SX (P:Program) (E:Env) (d:Nat) (lay:TypeId->Option (Bool×List CK)):Prop:=
 ∀ (t:TypeId) (row:Bool) (ks:List CK),lay t=some (row,ks)->∀ (w:World) (v u:V) (x y:Value) (cs ds:List V) (r:Bool),Rel E v x->Rel E u y->v.row row=some cs->u.row row=some ds->dP ks cs ds=some r->
  (Op.equalIn d t x y).run P w=.ok r w
theorem Mg {d:Nat} {lay:TypeId->Option (Bool×List CK)} (IH:SX P E d lay) {t:TypeId} {row:Bool} {ks:List CK} (hl:lay t=some (row,ks)) (hz:tU P t (Mf row ks)=true) (VF:row=false->ks.length=1) (GR:0<ks.length)
 {cs ds:List V} {xs ys:Array Value} (hx:eI E cs xs) (hy:eI E ds ys) (Kh:∀ (j:Nat) (x:Value),xs[j]? =some x->x.oneCell'=true) (OU:∀ (j:Nat) (x:Value),ys[j]? =some x->x.oneCell'=true)
 {off:Nat} {r:Bool} (OV:ks.length<=(cs.drop off).length) (Yx:ks.length<=(ds.drop off).length) (hr:dP ks ((cs.drop off).take ks.length) ((ds.drop off).take ks.length)=some r) (w:World):
 ∃ x y,(part t xs off).run P w=.ok x w/\(part t ys off).run P w=.ok y w/\(Op.equalIn d t x y).run P w=.ok r w:=by
 cases row with
 |true=>
  have hz:tU P t (some ks.length)=true:=hz
  have ldc:∀ {l:List V},ks.length<=(l.drop off).length->off<=l.length->dL l off (some ks.length)=some (.agg ((l.drop off).take ks.length)):=by
   intro l h h'
   simp only [dL]
   rw [if_pos (by simp at h;omega)]
  have Kt:off<=cs.length:=by rw [List.length_drop] at OV;omega
  have SN:off<=ds.length:=by rw [List.length_drop] at Yx;omega
  obtain ⟨x,p1,q1⟩:=qV (w:=w) hz hx Kh (ldc OV Kt)
  obtain ⟨y,p2,q2⟩:=qV (w:=w) hz hy OU (ldc Yx SN)
  exact ⟨x,y,p1,p2,IH t true ks hl w _ _ x y _ _ r q1 q2 rfl rfl hr⟩
 |false=>
  have hz:tU P t none=true:=hz
  have h1:=VF rfl
  obtain ⟨k,rfl⟩:∃ k,ks=[k]:=by
   match ks,h1 with
   |[k],_=>exact ⟨k,rfl⟩
  simp only [List.length_singleton] at hr OV Yx
  have get:∀ {l:List V},1<=(l.drop off).length->∃ c,l[off]? =some c/\(l.drop off).take 1=[c]:=by
   intro l h
   simp only [List.length_drop] at h
   have cL:off<l.length:=by omega
   refine ⟨l[off],by simp [cL],?_⟩
   rw [List.drop_eq_getElem_cons cL]
   rfl
  obtain ⟨c,Mb,OW⟩:=get OV
  obtain ⟨d',EY,Fe⟩:=get Yx
  rw [OW,Fe] at hr
  obtain ⟨x,p1,q1⟩:=qV (w:=w) hz hx Kh Mb
  obtain ⟨y,p2,q2⟩:=qV (w:=w) hz hy OU EY
  refine ⟨x,y,p1,p2,IH t false [k] hl w c d' x y [c] [d'] r q1 q2 ?_ ?_ hr⟩
  · cases c<;>first|rfl|(cases k<;>simp [dP,tN] at hr)
  · cases d'<;>first|rfl|(cases k<;>cases c<;>simp [dP,tN] at hr)
theorem Mh {n:Nat} {t:TypeId} {ks:List CK} (h:Dk P n t=some (false,ks)):ks.length=1:=by
 cases n with
 |zero=>cases h
 |succ n=>
  unfold Dk at h
  split at h
  · cases h;rfl
  · cases h;rfl
  · cases h;rfl
  · split at h
    · cases h
    · split at h<;>cases h
  · split at h
    · split at h<;>cases h
    · cases h
  · cases h
theorem FM {d:Nat} {lay:TypeId->Option (Bool×List CK)} (IH:SX P E d lay) (VF:∀ t ks,lay t=some (false,ks)->ks.length=1)
 {cs ds:List V} {xs ys:Array Value} (hx:eI E cs xs) (hy:eI E ds ys) (Kh:∀ (j:Nat) (x:Value),xs[j]? =some x->x.oneCell'=true) (OU:∀ (j:Nat) (x:Value),ys[j]? =some x->x.oneCell'=true):
 ∀ (fs:List Field) (acc:Nat) (ks:List CK) (r:Bool),mU P lay fs acc=some ks->dP ks (cs.drop acc) (ds.drop acc)=some r->∀ w,(Op.eqFields d xs ys fs).run P w=.ok r w
 |[],acc,ks,r,h,hr,w=>by
  simp only [mU,Option.some.injEq] at h
  subst h
  have:r=true:=by
   cases hc:cs.drop acc<;>cases hd:ds.drop acc<;>rw [hc,hd] at hr<;>simp [dP] at hr
   exact hr
  subst this
  simp [Op.eqFields]
 |f::fs,acc,ks,r,h,hr,w=>by
  simp only [mU] at h
  split at h
  case h_2=>cases h
  rename_i row k1 hl
  split at h
  case isFalse=>cases h
  rename_i hc
  obtain ⟨c1,c2,c3,c4⟩:=hc
  split at h
  case h_2=>cases h
  rename_i rest Yy
  simp only [Option.some.injEq] at h
  subst h
  obtain ⟨l1,l2,r1,r2,e1,e2,rfl⟩:=oY hr
  obtain ⟨x,y,p1,p2,p3⟩:=Mg IH hl c4 (fun dH=>VF _ _ (by rw [<-dH];exact hl)) c3 hx hy Kh OU l1 l2 e1 w
  rw [List.drop_drop,List.drop_drop] at e2
  have ih:=FM IH VF hx hy Kh OU fs (acc+k1.length) rest r2 Yy e2 w
  simp only [Op.eqFields]
  rw [if_pos c1,c2]
  simp only [Sem.run_bind,p1,p2,p3,Result.andThen_ok]
  cases r1
  · simp
  · simpa using ih
theorem IA {d:Nat} {lay:TypeId->Option (Bool×List CK)} (IH:SX P E d lay) {e:TypeId} {row:Bool} {k1:List CK} (hl:lay e=some (row,k1)) (VF:row=false->k1.length=1) (GR:0<k1.length)
 (hz:tU P e (Mf row k1)=true)
 {cs ds:List V} {xs ys:Array Value} (hx:eI E cs xs) (hy:eI E ds ys) (Kh:∀ (j:Nat) (x:Value),xs[j]? =some x->x.oneCell'=true) (OU:∀ (j:Nat) (x:Value),ys[j]? =some x->x.oneCell'=true):
 ∀ (m i:Nat) (r:Bool),dP (List.replicate m k1).flatten (cs.drop (i*k1.length)) (ds.drop (i*k1.length))=some r->∀ w,(Op.eqItems d e k1.length xs ys (List.range' i m)).run P w=.ok r w
 |0,i,r,hr,w=>by
  have:r=true:=by
   cases hc:cs.drop (i*k1.length)<;>cases hd:ds.drop (i*k1.length)<;>rw [hc,hd] at hr<;>simp [dP] at hr
   exact hr
  subst this
  simp [Op.eqItems]
 |m+1,i,r,hr,w=>by
  rw [List.replicate_succ,List.flatten_cons] at hr
  obtain ⟨l1,l2,r1,r2,e1,e2,rfl⟩:=oY hr
  obtain ⟨x,y,p1,p2,p3⟩:=Mg IH hl hz VF GR hx hy Kh OU l1 l2 e1 w
  rw [List.drop_drop,List.drop_drop,<-Nat.succ_mul] at e2
  have ih:=IA IH hl VF GR hz hx hy Kh OU m (i+1) r2 e2 w
  rw [List.range'_succ]
  simp only [Op.eqItems,Sem.run_bind,p1,p2,p3,Result.andThen_ok]
  cases r1
  · simp
  · simpa using ih
theorem eqLay_ok (d:Nat):∀ n,SX P E (d+n) (Dk P n)
 |0=>fun t row ks h=>by cases h
 |n+1=>fun t row ks h w v u x y cs ds r hv hu xZ jY hr=>by
  unfold Dk at h
  rw [show d+(n+1)=(d+n)+1 from rfl]
  split at h
  · rename_i Sg
    cases h
    cases zO:v<;>rw [zO] at xZ<;>simp [V.row] at xZ<;>subst xZ
    all_goals (cases qZ:u<;>rw [qZ] at jY<;>simp [V.row] at jY<;>subst jY)
    all_goals (simp [dP,tN] at hr)
    subst zO;subst qZ;subst hr
    rw [hv.bool,hu.bool,run_equalIn_bool w _ t _ _ Sg]
  · rename_i k Sg
    cases h
    cases zO:v<;>rw [zO] at xZ<;>simp [V.row] at xZ<;>subst xZ
    all_goals (cases qZ:u<;>rw [qZ] at jY<;>simp [V.row] at jY<;>subst jY)
    all_goals (simp [dP,tN] at hr)
    rename_i k1 n1 k2 n2
    subst zO;subst qZ
    by_cases hk:k1=k2
    · subst hk
      simp at hr
      subst hr
      rw [hv.int,hu.int,run_equalIn_int w _ t k1 k _ _ Sg]
      rfl
    · simp [hk] at hr
  · rename_i Sg
    cases h
    cases zO:v<;>rw [zO] at xZ<;>simp [V.row] at xZ<;>subst xZ
    all_goals (cases qZ:u<;>rw [qZ] at jY<;>simp [V.row] at jY<;>subst jY)
    all_goals (simp [dP,tN] at hr)
    subst zO;subst qZ;subst hr
    rw [hv.Ca,hu.Ca,run_equalIn_string w _ t _ _ Sg,iW,iW]
  · rename_i fs Sg
    split at h
    · cases h
    rename_i vO
    split at h
    case h_2=>cases h
    rename_i k1 Cf
    simp only [Option.some.injEq,Prod.mk.injEq] at h
    obtain ⟨rfl,rfl⟩:=h
    cases zO:v<;>rw [zO] at xZ<;>simp [V.row] at xZ
    subst xZ
    cases qZ:u<;>rw [qZ] at jY<;>simp [V.row] at jY
    subst jY
    subst zO;subst qZ
    cases hv with
    |deep hd=>cases hd
    |agg _ xs Kh Ch hx3=>
    cases hu with
    |deep hd=>cases hd
    |agg _ ys OU Ke hy3=>
    have hfs:P.fieldsOf t=fs:=by simp [Program.fieldsOf,Sg]
    rw [run_equalIn_struct w (d+n) t xs ys (by rw [hfs];exact Sg) (by simpa using vO),hfs]
    exact FM (eqLay_ok d n) (fun _ _=>Mh) ⟨Kh,hx3⟩ ⟨OU,hy3⟩ Ch Ke fs.toList 0 _ r Cf (by simpa using hr) w
  · rename_i len e Sg
    split at h
    case h_2=>cases h
    rename_i VG k1 Cf
    split at h
    case isFalse=>cases h
    rename_i hc
    obtain ⟨c1,c2,c3⟩:=hc
    simp only [Option.some.injEq,Prod.mk.injEq] at h
    obtain ⟨rfl,rfl⟩:=h
    cases zO:v<;>rw [zO] at xZ<;>simp [V.row] at xZ
    subst xZ
    cases qZ:u<;>rw [qZ] at jY<;>simp [V.row] at jY
    subst jY
    subst zO;subst qZ
    cases hv with
    |deep hd=>cases hd
    |agg _ xs Kh Ch hx3=>
    cases hu with
    |deep hd=>cases hd
    |agg _ ys OU Ke hy3=>
    cases hq:P.info? e with
    |none=>simp [hq] at c1
    |some i=>
    have nK:P.cellsOf e=k1.length:=by
     simp [hq] at c1
     simp [Program.cellsOf,hq,c1]
    rw [run_equalIn_array w (d+n) xs ys Sg hq,nK,List.range_eq_range']
    exact IA (eqLay_ok d n) Cf (fun dH=>Mh (by rw [<-dH];exact Cf)) c2 c3 ⟨Kh,hx3⟩ ⟨OU,hy3⟩ Ch Ke len 0 r (by simpa using hr) w
  · cases h
def PT (P:Program) (t:TypeId) (row:Bool) (ks:List CK):Bool:=
 decide (Dk P 20 t=some (row,ks))&&!P.eqGuardType P.depth t&&(row||decide (ks=[.b]))
theorem T.KO {α β:Type} {A:bS} {o:Option α} {k:α->T β} {K:β->Prop} (h:(T.opt o k).wp A K):∃ x,o=some x/\(k x).wp A K:=by
 unfold T.opt at h
 cases o with
 |none=>exact h.elim
 |some x=>exact ⟨x,rfl,h⟩
theorem PU {op:BinOp} {t yt:TypeId} {x y:Operand} {d e:bH} {row neg:Bool} {ks:List CK} (ho:o.op=.binOp op t x y yt) (GW:op=if neg then .neq else .eql) (hx:dY x d=true) (hy:dY y e=true) (hn:PT P t row ks=true)
 (hs:b9 E st w) (hf:aY E N fr a) (hw:(step (.SB row ks neg d e) fr st).wp (aB P) K) (hc:fG E st w o a next K):o.wp P a w next Q:=by
 have r1:=bA hx hf
 have r2:=bA hy hf
 unfold PT at hn
 simp only [Bool.and_eq_true,decide_eq_true_eq,Bool.not_eq_true',Bool.or_eq_true] at hn
 obtain ⟨⟨hn,Si⟩,iD⟩:=hn
 simp only [step] at hw
 obtain ⟨cs,xZ,hw⟩:=T.KO hw
 obtain ⟨ds,jY,hw⟩:=T.KO hw
 obtain ⟨r,hr,hw⟩:=T.KO hw
 have h:=eqLay_ok (E:=E) (P:=P) 9980 20 t row ks hn w _ _ _ _ cs ds r r1 r2 xZ jY hr
 have h:(Op.equal t (a.eval x) (a.eval y)).run P w=.ok r w:=h
 have hk:K (.b (if neg then !r else r),st):=by cases neg<;>exact hw
 have fin:(eqGuard op t x y (a.eval x) (a.eval y)).run P w=.ok () w->(binOp op t (a.eval x) (a.eval y)).run P w=.ok (.bool (if neg then !r else r)) w->o.wp P a w next Q:=by
  intro h1 h2
  exact aT (x:=.bool (if neg then !r else r)) (by simp [execOp,ho,h1,h2]) (hc.same hs hk (.deep (.b _)))
 cases row with
 |true=>
  have hv:∃ c,d.ev fr=.agg c:=by
   cases hq:d.ev fr<;>rw [hq] at xZ<;>simp [V.row] at xZ
   exact ⟨_,rfl⟩
  have hu:∃ c,e.ev fr=.agg c:=by
   cases hq:e.ev fr<;>rw [hq] at jY<;>simp [V.row] at jY
   exact ⟨_,rfl⟩
  obtain ⟨c1,hv⟩:=hv
  obtain ⟨c2,hu⟩:=hu
  rw [hv] at r1
  rw [hu] at r2
  generalize Ch:a.eval x=x' at r1 fin h
  generalize Ke:a.eval y=y' at r2 fin h
  cases r1 with
  |deep hd=>cases hd
  |agg _ xs=>
  cases r2 with
  |deep hd=>cases hd
  |agg _ ys=>
  refine fin (run_eqGuard_agg w op t x y xs ys Si) ?_
  have h:(Op.equalIn 10000 t (.agg xs) (.agg ys)).run P w=.ok r w:=h
  subst GW
  cases neg with
  |true=>simp only [if_true];rw [run_neq_struct,h];rfl
  |false=>simp only [Bool.false_eq_true,if_false];rw [run_eql_struct,h];rfl
 |false=>
  have hks:ks=[.b]:=by simpa using iD
  subst hks
  have hv:∃ b,d.ev fr=.b b:=by
   cases hq:d.ev fr<;>rw [hq] at xZ<;>simp [V.row] at xZ<;>subst xZ
   all_goals (cases ds with
    |nil=>simp [dP] at hr
    |cons q qs=>cases q<;>first|exact ⟨_,rfl⟩|simp [dP,tN] at hr)
  have hu:∃ b,e.ev fr=.b b:=by
   cases hq:e.ev fr<;>rw [hq] at jY<;>simp [V.row] at jY<;>subst jY
   all_goals (cases cs with
    |nil=>simp [dP] at hr
    |cons q qs=>cases q<;>first|exact ⟨_,rfl⟩|simp [dP,tN] at hr)
  obtain ⟨b1,hv⟩:=hv
  obtain ⟨b2,hu⟩:=hu
  rw [hv] at r1
  rw [hu] at r2
  have r1:=r1.bool
  have r2:=r2.bool
  rw [r1,r2] at h
  refine fin (by rw [r1,eqGuard_at_bool];rfl) ?_
  rw [r1,r2]
  subst GW
  cases neg<;>simp [binOp,h]
end
open Go
def IC (P:Program) (t:TypeId):Option (TypeId×Nat×Nat):=
 match P.underlying t with
 |some (.slice el)=>match P.info? el with
  |some i=>some (el,i.size,i.bytes)
  |none=>none
 |_=>none
theorem iB {P:Program} {t el:TypeId} {sz bytes:Nat} (h:IC P t=some (el,sz,bytes)):P.underlying t=some (.slice el)/\(P.info? el).map (·.size)=some sz:=by
 unfold IC at h
 split at h
 · split at h
   · rename_i hi
     cases h
     exact ⟨‹_›,by rw [hi];rfl⟩
   · cases h
 · cases h
def blt (op:Op) (b:Builtin):Option (List Operand×Option TypeId×Option TypeId):=
 match op with
 |.call c=>match c.callee with
  |.builtin b'=>if b'=b then some (c.args.toList,c.argTypes[0]?,c.argTypes[1]?) else none
  |_=>none
 |_=>none
theorem lA {op:Op} {b:Builtin} {xs:List Operand} {t0 t1:Option TypeId} (h:blt op b=some (xs,t0,t1)):∃ ts:Array TypeId,op=.call { callee:=.builtin b,args:=xs.toArray,argTypes:=ts }/\ts[0]? =t0/\ts[1]? =t1:=by
 unfold blt at h
 split at h
 · rename_i c
   split at h
   · rename_i b' hb
     split at h
     · rename_i VC
       subst VC
       simp only [Option.some.injEq,Prod.mk.injEq] at h
       obtain ⟨rfl,h0,h1⟩:=h
       refine ⟨c.argTypes,?_,h0,h1⟩
       cases c
       simp only at hb
       subst hb
       rfl
     · cases h
   · cases h
 · cases h
def KQ (P:Program) (op:Op) (A:y7):Bool:=
 match A with
 |.mv d=>match op with
  |.move x=>dY x d
  |_=>false
 |.L6 d=>match op with
  |.assign x=>dY x d
  |_=>false
 |.pick c d e=>match op with
  |.pick x y z=>dY x c&&dY y d&&dY z e
  |_=>false
 |.alloc _ zero=>match op with
  |.alloc t=>kZ P t zero
  |_=>false
 |.box _ d=>match op with
  |.box _ x=>dY x d
  |_=>false
 |.Sa zero qs=>match op with
  |.build t ps=>kZ P t zero&&(match P.underlying t with
   |some (.struct fs)=>(fs.toList.all fun f=>(P.info? f.type).isSome)&&vP P fs ps.toList qs
   |some (.array _ e)=>(match P.info? e with
    |some i=>qX i.size ps.toList qs
    |none=>false)
   |_=>false)
  |_=>false
 |.Sb _ sz len zero qs=>match op with
  |.buildSlice t l ps=>decide (l=len)&&(match IC P t with
   |some (el,_,bytes)=>Fb P el sz bytes&&kZ P el zero&&decide (len*sz<=16777216)&&qY ps.toList qs
   |none=>false)
  |_=>false
 |.load n d=>match op with
  |.load t x=>dY x d&&tU P t n
  |_=>false
 |.store n d e=>match op with
  |.store t x y=>dY x d&&dY y e&&decide ((P.info? t).map (·.size)=some n)
  |_=>false
 |.CX d=>match op with
  |.nilCheck x=>dY x d
  |_=>false
 |.bin b d e=>match op with
  |.binOp b' _ x y _=>decide (b'=b)&&dY x d&&dY y e
  |_=>false
 |.SB row ks neg d e=>match op with
  |.binOp b t x y _=>decide (b=if neg then .neq else .eql)&&dY x d&&dY y e&&PT P t row ks
  |_=>false
 |.XA neg d e=>match op with
  |.binOp b t x y _=>decide (b=if neg then .neq else .eql)&&dY x d&&dY y e&&PK P t e
  |_=>false
 |.un u d=>match op with
  |.unOp u' _ x=>decide (u'=u)&&dY x d
  |_=>false
 |.SC k d=>match op with
  |.convert s t x=>dY x d&&(P.underlying s).isSome&&(match P.underlying t with
   |some (.int k')=>decide (k'=k)
   |_=>false)
  |_=>false
 |.SD d=>match op with
  |.convert s t x=>dY x d&&(P.underlying s).isSome&&(match P.underlying t with
   |some .string=>true
   |_=>false)
  |_=>false
 |.Sc _ d=>match op with
  |.convert s t x=>dY x d&&(match P.underlying s,P.underlying t with
   |some .string,some (.slice el)=>(match P.underlying el with
    |some (.int .u8)=>true
    |_=>false)
   |_,_=>false)
  |_=>false
 |.SE d=>match op with
  |.convert s t x=>dY x d&&decide (s=t)&&(match P.underlying t with
   |some (.slice el)=>(match P.underlying el with
    |some (.int .u8)=>true
    |_=>false)
   |_=>false)
  |_=>false
 |.Ng d=>match op with
  |.convert s t x=>dY x d&&(match P.underlying s,P.underlying t with
   |some (.slice el),some .string=>(match P.underlying el with
    |some (.int .u8)=>true
    |_=>false)
   |_,_=>false)
  |_=>false
 |.GB f ds=>match op with
  |.makeFunc g first cap=>(match g with
   |.func f'=>decide (f'=f)&&decide (first.size=0)&&C4 cap.toList ds
   |_=>false)
  |_=>false
 |.CY _ _=>match op with
  |.makeMap _ none=>true
  |_=>false
 |.Km _ sz bytes zero d e=>match op with
  |.makeSlice t x y=>dY x d&&dY y e&&(match P.underlying t with
   |some (.slice el)=>Fb P el sz bytes&&kZ P el zero
   |_=>false)
  |_=>false
 |.y8 d l h=>match op with
  |.slice t x lo hi none=>dY x d&&tT lo l&&tT hi h&&(match P.underlying t with
   |some .string=>true
   |_=>false)
  |_=>false
 |.wM sz d l h mx=>match op with
  |.slice t x lo hi none=>dY x d&&tT lo l&&tT hi h&&mx.isNone&&decide (0<sz)&&(match IC P t with
   |some (_,dS,_)=>decide (dS=sz)
   |none=>false)
  |.slice t x lo hi (some m)=>dY x d&&tT lo l&&tT hi h&&tT (some m) mx&&h.isSome&&mx.isSome&&decide (0<sz)&&(match IC P t with
   |some (_,dS,_)=>decide (dS=sz)
   |none=>false)
  |_=>false
 |.s9 off d=>match op with
  |.fieldAddr t x f=>dY x d&&(match P.underlying t with
   |some (.struct fs)=>(match fs[f]? with
    |some fl=>decide (fl.offset=off)&&(match P.info? fl.type with
     |some i=>decide (i.size≠0)
     |none=>false)
    |none=>false)
   |_=>false)
  |_=>false
 |.OM off n d=>match op with
  |.field t x f=>dY x d&&(match P.underlying t with
   |some (.struct fs)=>(match fs[f]? with
    |some fl=>decide (fl.offset=off)&&tU P fl.type n
    |none=>false)
   |_=>false)
  |_=>false
 |.E7 sz d c=>match op with
  |.indexAddr t x y=>dY x d&&dY y c&&(match IC P t with
   |some (_,dS,_)=>decide (dS=sz)
   |none=>false)
  |_=>false
 |.GC len sz d c=>match op with
  |.indexAddr t x y=>dY x d&&dY y c&&(match P.underlying t with
   |some (.array n e)=>decide (n=len)&&decide ((P.info? e).map (·.size)=some sz)
   |_=>false)
  |_=>false
 |.SF d c=>match op with
  |.index t x y=>dY x d&&dY y c&&(match P.underlying t with
   |some .string=>true
   |_=>false)
  |_=>false
 |.O6 len sz n d c=>match op with
  |.index t x y=>dY x d&&dY y c&&(match P.underlying t with
   |some (.array m e)=>decide (m=len)&&decide ((P.info? e).map (·.size)=some sz)&&tU P e n
   |_=>false)
  |_=>false
 |.Sd kd zero d e ok=>match op with
  |.lookup t x y ok'=>dY x d&&dY y e&&decide (ok'=ok)&&(match P.underlying t with
   |some (.map kt el)=>zN P kt kd&&(match P.info? el with
    |some i=>(match i.zero with
     |some z=>p8 4 z zero
     |none=>false)
    |none=>false)
   |_=>false)
  |_=>false
 |.Kn kd d e c=>match op with
  |.mapUpdate t x y v=>dY x d&&dY y e&&dY v c&&(match P.underlying t with
   |some (.map kt _)=>zN P kt kd
   |_=>false)
  |.insert t x y v=>dY x d&&dY y e&&dY v c&&(match P.underlying t with
   |some (.map kt _)=>zN P kt kd
   |_=>false)
  |_=>false
 |.ext d i=>match op with
  |.extract x j=>dY x d&&decide (j=i)
  |_=>false
 |.call f ds=>match op with
  |.call c=>(match c.callee with
   |.value (.func g)=>decide (g=f)&&C4 c.args.toList ds
   |_=>false)
  |_=>false
 |.wY g ds=>match op with
  |.call c=>(match c.callee with
   |.value f=>dY f g&&C4 c.args.toList ds
   |_=>false)
  |_=>false
 |.GD d=>match blt op .len with
  |some ([x],some t,_)=>dY x d&&(match P.underlying t with
   |some .string=>true
   |_=>false)
  |_=>false
 |.E8 d=>match blt op .len with
  |some ([x],some t,_)=>dY x d&&(match P.underlying t with
   |some (.slice _)=>true
   |_=>false)
  |_=>false
 |.GF n=>match blt op .len with
  |some ([_],some t,_)=>(match P.underlying t with
   |some (.array m _)=>decide (m=n)
   |_=>false)
  |_=>false
 |.GG d=>match blt op .len with
  |some ([x],some t,_)=>dY x d&&(match P.underlying t with
   |some (.map _ _)=>true
   |_=>false)
  |_=>false
 |.AO max ds=>match blt op (if max then .max else .min) with
  |some (xs,_,_)=>C4 xs ds
  |none=>false
 |.append _ sz bytes d e=>match blt op .append with
  |some ([s,x],some t,t1)=>dY s d&&dY x e&&qM P t1&&(match P.underlying t with
   |some (.slice el)=>Fb P el sz bytes
   |_=>false)
  |_=>false
 |.copy sz d e=>match blt op .copy with
  |some ([x,y],some t,_)=>dY x d&&dY y e&&(match IC P t with
   |some (_,dS,_)=>decide (dS=sz)
   |none=>false)
  |_=>false
 |.delete kd d e=>match blt op .delete with
  |some ([x,y],some t,_)=>dY x d&&dY y e&&(match P.underlying t with
   |some (.map kt _)=>zN P kt kd
   |_=>false)
  |_=>false
 |.clear sz zero d=>match blt op .clear with
  |some ([x],some t,_)=>dY x d&&(match IC P t with
   |some (el,_,bytes)=>Fb P el sz bytes&&kZ P el zero
   |none=>false)
  |_=>false
 |.no=>true
section
variable {P:Program} {o:Oper} {a:Act} {E:Env} {N:Nat} {st:St} {w:World} {fr:Fr} {next:Act->World->Prop} {Q:Exit->Act->World->Prop} {K:R->Prop}
theorem step_ok {A:y7} (h:KQ P o.op A=true) (hs:b9 E st w) (hf:aY E N fr a) (hw:(step A fr st).wp (aB P) K) (hc:fG E st w o a next K):o.wp P a w next Q:=by
 cases A<;>simp only [KQ] at h
 case mv=>split at h<;>first|exact SK ‹_› h hs hf hw hc|cases h
 case L6=>split at h<;>first|exact Pk ‹_› h hs hf hw hc|cases h
 case pick=>
  split at h
  · simp only [Bool.and_eq_true] at h;exact Nk ‹_› h.1.1 h.1.2 h.2 hs hf hw hc
  · cases h
 case alloc=>split at h<;>first|exact Kw ‹_› h hs hw hc|cases h
 case box=>split at h<;>first|exact Pu ‹_› h hs hf hw hc|cases h
 case Sa=>
  split at h
  · simp only [Bool.and_eq_true] at h
    obtain ⟨h1,h2⟩:=h
    split at h2
    · simp only [Bool.and_eq_true] at h2
      exact Ky ‹_› h1 ‹_› h2.1 h2.2 hs hf hw hc
    · split at h2
      · rename_i hi
        exact Kz ‹_› h1 ‹_› (by rw [hi];rfl) h2 hs hf hw hc
      · cases h2
    · cases h2
  · cases h
 case Sb=>
  split at h
  · simp only [Bool.and_eq_true,decide_eq_true_eq] at h
    obtain ⟨rfl,h2⟩:=h
    split at h2
    · rename_i he
      simp only [Bool.and_eq_true,decide_eq_true_eq] at h2
      exact PD ‹_› (iB he).1 h2.1.1.1 h2.1.1.2 h2.1.2 h2.2 hs hf hw hc
    · cases h2
  · cases h
 case load=>
  split at h
  · simp only [Bool.and_eq_true] at h;exact Nq ‹_› h.1 h.2 hs hf hw hc
  · cases h
 case store=>
  split at h
  · simp only [Bool.and_eq_true,decide_eq_true_eq] at h;exact Ku ‹_› h.1.1 h.1.2 h.2 hs hf hw hc
  · cases h
 case CX=>split at h<;>first|exact Nn ‹_› h hs hf hw hc|cases h
 case bin=>
  split at h
  · simp only [Bool.and_eq_true,decide_eq_true_eq] at h
    obtain ⟨⟨rfl,h1⟩,h2⟩:=h
    exact Pm ‹_› h1 h2 hs hf hw hc
  · cases h
 case SB=>
  split at h
  · simp only [Bool.and_eq_true,decide_eq_true_eq] at h
    exact PU ‹_› h.1.1.1 h.1.1.2 h.1.2 h.2 hs hf hw hc
  · cases h
 case XA=>
  split at h
  · simp only [Bool.and_eq_true,decide_eq_true_eq] at h
    exact PM ‹_› h.1.1.1 h.1.1.2 h.1.2 h.2 hs hf hw hc
  · cases h
 case un=>
  split at h
  · simp only [Bool.and_eq_true,decide_eq_true_eq] at h
    obtain ⟨rfl,h1⟩:=h
    exact SM ‹_› h1 hs hf hw hc
  · cases h
 case SC=>
  split at h
  · simp only [Bool.and_eq_true] at h
    obtain ⟨⟨h1,h2⟩,h3⟩:=h
    split at h3
    · simp only [decide_eq_true_eq] at h3
      subst h3
      exact Pn ‹_› h1 h2 ‹_› hs hf hw hc
    · cases h3
  · cases h
 case SD=>
  split at h
  · simp only [Bool.and_eq_true] at h
    obtain ⟨⟨h1,h2⟩,h3⟩:=h
    split at h3
    · exact Po ‹_› h1 h2 ‹_› hs hf hw hc
    · cases h3
  · cases h
 case Sc=>
  split at h
  · simp only [Bool.and_eq_true] at h
    obtain ⟨h1,h3⟩:=h
    split at h3
    · rename_i hA hB
      split at h3
      · exact PE ‹_› h1 hA hB ‹_› hs hf hw hc
      · cases h3
    · cases h3
  · cases h
 case SE=>
  split at h
  · simp only [Bool.and_eq_true,decide_eq_true_eq] at h
    obtain ⟨⟨h1,rfl⟩,h3⟩:=h
    split at h3
    · rename_i hA
      split at h3
      · exact PG ‹_› h1 hA ‹_› hs hf hw hc
      · cases h3
    · cases h3
  · cases h
 case Ng=>
  split at h
  · simp only [Bool.and_eq_true] at h
    obtain ⟨h1,h3⟩:=h
    split at h3
    · rename_i hA hB
      split at h3
      · exact PH ‹_› h1 hA ‹_› hB hs hf hw hc
      · cases h3
    · cases h3
  · cases h
 case GB=>
  split at h
  · split at h
    · simp only [Bool.and_eq_true,decide_eq_true_eq] at h
      obtain ⟨⟨rfl,h1⟩,h2⟩:=h
      exact Np ‹_› h1 h2 hs hf hw hc
    · cases h
  · cases h
 case CY=>split at h<;>first|exact Kx ‹_› hs hw hc|cases h
 case Km=>
  split at h
  · simp only [Bool.and_eq_true] at h
    obtain ⟨⟨h1,h2⟩,h3⟩:=h
    split at h3
    · simp only [Bool.and_eq_true] at h3
      exact Nu ‹_› h1 h2 ‹_› h3.1 h3.2 hs hf hw hc
    · cases h3
  · cases h
 case y8=>
  split at h
  · simp only [Bool.and_eq_true] at h
    obtain ⟨⟨⟨h1,h2⟩,h3⟩,h4⟩:=h
    split at h4
    · exact KH ‹_› ‹_› h1 h2 h3 hs hf hw hc
    · cases h4
  · cases h
 case wM=>
  split at h
  · simp only [Bool.and_eq_true,decide_eq_true_eq,Option.isNone_iff_eq_none] at h
    obtain ⟨⟨⟨⟨⟨h1,h2⟩,h3⟩,rfl⟩,h5⟩,h4⟩:=h
    split at h4
    · rename_i he
      simp only [decide_eq_true_eq] at h4
      subst h4
      exact Nz ‹_› (iB he).1 (iB he).2 h5 h1 h2 h3 hs hf hw hc
    · cases h4
  · simp only [Bool.and_eq_true,decide_eq_true_eq] at h
    obtain ⟨⟨⟨⟨⟨⟨⟨h1,h2⟩,h3⟩,h6⟩,h7⟩,h8⟩,h5⟩,h4⟩:=h
    split at h4
    · rename_i he
      simp only [decide_eq_true_eq] at h4
      subst h4
      exact KP ‹_› (iB he).1 (iB he).2 h5 h1 h2 h3 h6 h7 h8 hs hf hw hc
    · cases h4
  · cases h
 case s9=>
  split at h
  · simp only [Bool.and_eq_true] at h
    obtain ⟨h1,h2⟩:=h
    split at h2
    · rename_i hu
      split at h2
      · rename_i vL
        simp only [Bool.and_eq_true,decide_eq_true_eq] at h2
        obtain ⟨h3,h4⟩:=h2
        split at h4
        · rename_i i hi
          simp only [decide_eq_true_eq] at h4
          exact Ks ‹_› h1 hu vL h3 ⟨i,hi,h4⟩ hs hf hw hc
        · cases h4
      · cases h2
    · cases h2
  · cases h
 case OM=>
  split at h
  · simp only [Bool.and_eq_true] at h
    obtain ⟨h1,h2⟩:=h
    split at h2
    · rename_i hu
      split at h2
      · rename_i vL
        simp only [Bool.and_eq_true,decide_eq_true_eq] at h2
        exact Pp ‹_› h1 hu vL h2.1 h2.2 hs hf hw hc
      · cases h2
    · cases h2
  · cases h
 case E7=>
  split at h
  · simp only [Bool.and_eq_true] at h
    obtain ⟨⟨h1,h2⟩,h3⟩:=h
    split at h3
    · rename_i he
      simp only [decide_eq_true_eq] at h3
      subst h3
      exact NA ‹_› h1 h2 (iB he).1 (iB he).2 hs hf hw hc
    · cases h3
  · cases h
 case GC=>
  split at h
  · simp only [Bool.and_eq_true] at h
    obtain ⟨⟨h1,h2⟩,h3⟩:=h
    split at h3
    · simp only [Bool.and_eq_true,decide_eq_true_eq] at h3
      obtain ⟨rfl,h4⟩:=h3
      exact No ‹_› h1 h2 ‹_› h4 hs hf hw hc
    · cases h3
  · cases h
 case SF=>
  split at h
  · simp only [Bool.and_eq_true] at h
    obtain ⟨⟨h1,h2⟩,h3⟩:=h
    split at h3
    · exact Pq ‹_› h1 h2 ‹_› hs hf hw hc
    · cases h3
  · cases h
 case O6=>
  split at h
  · simp only [Bool.and_eq_true] at h
    obtain ⟨⟨h1,h2⟩,h3⟩:=h
    split at h3
    · simp only [Bool.and_eq_true,decide_eq_true_eq] at h3
      obtain ⟨⟨rfl,h4⟩,h5⟩:=h3
      exact Pr ‹_› h1 h2 ‹_› h4 h5 hs hf hw hc
    · cases h3
  · cases h
 case Sd=>
  split at h
  · simp only [Bool.and_eq_true,decide_eq_true_eq] at h
    obtain ⟨⟨⟨h1,h2⟩,rfl⟩,h3⟩:=h
    split at h3
    · rename_i hu
      simp only [Bool.and_eq_true] at h3
      obtain ⟨h4,h5⟩:=h3
      split at h5
      · rename_i hi
        split at h5
        · rename_i hz
          exact PQ ‹_› hu h4 hi hz h5 h1 h2 hs hf hw hc
        · cases h5
      · cases h5
    · cases h3
  · cases h
 case Kn=>
  split at h
  · simp only [Bool.and_eq_true] at h
    obtain ⟨⟨⟨h1,h2⟩,h3⟩,h4⟩:=h
    split at h4
    · exact FK (.inl ‹_›) ‹_› h4 h1 h2 h3 hs hf hw hc
    · cases h4
  · simp only [Bool.and_eq_true] at h
    obtain ⟨⟨⟨h1,h2⟩,h3⟩,h4⟩:=h
    split at h4
    · exact FK (.inr ‹_›) ‹_› h4 h1 h2 h3 hs hf hw hc
    · cases h4
  · cases h
 case ext=>
  split at h
  · simp only [Bool.and_eq_true,decide_eq_true_eq] at h
    obtain ⟨h1,rfl⟩:=h
    exact Ps ‹_› h1 hs hf hw hc
  · cases h
 case call=>
  split at h
  · rename_i c heq
    split at h
    · rename_i g GQ
      simp only [Bool.and_eq_true,decide_eq_true_eq] at h
      obtain ⟨rfl,h2⟩:=h
      cases c
      simp only at GQ h2
      subst GQ
      exact NI heq h2 hs hf hw hc
    · cases h
  · cases h
 case wY=>
  split at h
  · rename_i c heq
    split at h
    · rename_i g GQ
      simp only [Bool.and_eq_true] at h
      cases c
      simp only at GQ h
      subst GQ
      exact KN heq h.1 h.2 hs hf hw hc
    · cases h
  · cases h
 case GD=>
  split at h
  · rename_i hb
    obtain ⟨ts,h1,h2,_⟩:=lA hb
    simp only [Bool.and_eq_true] at h
    obtain ⟨h3,h4⟩:=h
    split at h4
    · exact Nv h1 h2 ‹_› h3 hs hf hw hc
    · cases h4
  · cases h
 case E8=>
  split at h
  · rename_i hb
    obtain ⟨ts,h1,h2,_⟩:=lA hb
    simp only [Bool.and_eq_true] at h
    obtain ⟨h3,h4⟩:=h
    split at h4
    · exact Nw h1 h2 ‹_› h3 hs hf hw hc
    · cases h4
  · cases h
 case GF=>
  split at h
  · rename_i hb
    obtain ⟨ts,h1,h2,_⟩:=lA hb
    split at h
    · simp only [decide_eq_true_eq] at h
      subst h
      exact Nx h1 h2 ‹_› hs hw hc
    · cases h
  · cases h
 case GG=>
  split at h
  · rename_i hb
    obtain ⟨ts,h1,h2,_⟩:=lA hb
    simp only [Bool.and_eq_true] at h
    obtain ⟨h3,h4⟩:=h
    split at h4
    · exact Ny h1 h2 ‹_› h3 hs hf hw hc
    · cases h4
  · cases h
 case AO=>
  split at h
  · rename_i hb
    obtain ⟨ts,h1,h2,_⟩:=lA hb
    exact ND h1 (by simpa using h) hs hf hw hc
  · cases h
 case append=>
  split at h
  · rename_i hb
    obtain ⟨ts,h1,h2,VH⟩:=lA hb
    simp only [Bool.and_eq_true] at h
    obtain ⟨⟨⟨h3,h4⟩,h5⟩,h6⟩:=h
    split at h6
    · exact step_append h1 h2 ‹_› h6 (by rw [VH];exact h5) h3 h4 hs hf hw hc
    · cases h6
  · cases h
 case copy=>
  split at h
  · rename_i hb
    obtain ⟨ts,h1,h2,VH⟩:=lA hb
    simp only [Bool.and_eq_true] at h
    obtain ⟨⟨h3,h4⟩,h5⟩:=h
    split at h5
    · rename_i he
      simp only [decide_eq_true_eq] at h5
      subst h5
      exact NC h1 h2 (iB he).1 (iB he).2 h3 h4 hs hf hw hc
    · cases h5
  · cases h
 case delete=>
  split at h
  · rename_i hb
    obtain ⟨ts,h1,h2,VH⟩:=lA hb
    simp only [Bool.and_eq_true] at h
    obtain ⟨⟨h3,h4⟩,h5⟩:=h
    split at h5
    · exact Iy h1 h2 ‹_› h5 h3 h4 hs hf hw hc
    · cases h5
  · cases h
 case clear=>
  split at h
  · rename_i hb
    obtain ⟨ts,h1,h2,VH⟩:=lA hb
    simp only [Bool.and_eq_true] at h
    obtain ⟨h3,h5⟩:=h
    split at h5
    · rename_i he
      simp only [Bool.and_eq_true] at h5
      exact KJ h1 h2 (iB he).1 h5.1 h5.2 h3 hs hf hw hc
    · cases h5
  · cases h
 case no=>exact hw.elim
end
open Go
theorem cW {n:Nat}:∀ {l:List Nat},cK n l=true↔n∈l
 |[]=>by simp [cK]
 |k::r=>by
  simp only [cK,List.mem_cons]
  cases h:Nat.beq n k with
  |true=>have:=Nat.eq_of_beq_eq_true h;simp [this]
  |false=>
   have:n≠k:=Nat.ne_of_beq_eq_false h
   simp [this,cW]
theorem V.force_eq {α:Type} (v:V) (k:V->α):v.force k=k v:=by cases v<;>rfl
def Fr.nF (fr:Fr) (ks:List Nat):Fr:=fr.filter fun q=>!cK q.1 ks
theorem Fr.cN {α:Type} (ks:List Nat):∀ (fr:Fr) (k:Fr->α),fr.cut ks k=k (fr.nF ks)
 |[],k=>rfl
 |(n,v)::r,k=>by
  simp only [Fr.cut]
  cases h:cK n ks with
  |true=>simp only;rw [Fr.cN ks r];simp [Fr.nF,h]
  |false=>simp only;rw [Fr.cN ks r];simp [Fr.nF,h]
theorem Fr.gN (ks:List Nat) (t:Nat):∀ fr:Fr,(fr.nF ks).get t=if cK t ks then .fK else fr.get t
 |[]=>by simp [Fr.nF,Fr.get]
 |(n,v)::r=>by
  have ih:=Fr.gN ks t r
  simp only [Fr.nF] at ih ⊢
  by_cases hn:n=t
  · subst hn
    cases h:cK n ks with
    |true=>rw [List.filter_cons_of_neg (by simp [h])];rw [ih,h];rfl
    |false=>rw [List.filter_cons_of_pos (by simp [h])];simp [Fr.get]
  · by_cases h:cK n ks=true
    · rw [List.filter_cons_of_neg (by simp [h]),ih]
      simp [Fr.get,hn]
    · rw [List.filter_cons_of_pos (by simp [h])]
      simp only [Fr.get,if_neg hn]
      exact ih
def Fr.next (fr:Fr) (dst:Option Nat) (v:V) (kill:List Nat):Fr:=
 match dst with
 |some d=>match kill with
  |[]=>(d,v)::fr
  |x::ks=>if cK d (x::ks) then fr.nF (d::x::ks) else (d,v)::fr.nF (d::x::ks)
 |none=>match kill with
  |[]=>fr
  |x::ks=>fr.nF (x::ks)
theorem Fr.cR {α:Type} (fr:Fr) (dst:Option Nat) (v:V) (kill:List Nat) (k:Fr->α):fr.after dst v kill k=k (fr.next dst v kill):=by
 unfold Fr.after Fr.next
 cases dst with
 |none=>
  cases kill with
  |nil=>rfl
  |cons x ks=>simp only;rw [Fr.cN]
 |some d=>
  cases kill with
  |nil=>simp only;rw [V.force_eq]
  |cons x ks=>
   simp only
   cases h:cK d (x::ks) with
   |true=>simp only;rw [Fr.cN];simp
   |false=>simp only;rw [Fr.cN,V.force_eq];simp
theorem Fr.oZ (fr:Fr) (dst:Option Nat) (v:V) (kill:List Nat) (t:Nat):(fr.next dst v kill).get t=if cK t kill then .fK else if dst=some t then v else fr.get t:=by
 cases dst with
 |none=>
  cases kill with
  |nil=>simp [Fr.next,cK]
  |cons x ks=>simp [Fr.next,Fr.gN]
 |some d=>
  cases kill with
  |nil=>
   simp only [Fr.next,Fr.get,cK,Bool.false_eq_true,if_false,Option.some.injEq]
  |cons x ks=>
   simp only [Fr.next,Option.some.injEq]
   by_cases hm:cK d (x::ks)=true
   · rw [if_pos hm,Fr.gN]
     by_cases ht:cK t (x::ks)=true
     · rw [if_pos ht,if_pos (by rw [cW] at ht ⊢;exact .tail _ ht)]
     · have dM:¬d=t:=fun e=>ht (e▸hm)
       rw [if_neg ht,if_neg dM,if_neg]
       rw [cW] at ht ⊢
       intro VI
       rcases List.mem_cons.1 VI with rfl|VI
       · exact dM rfl
       · exact ht VI
   · rw [if_neg hm]
     simp only [Fr.get]
     by_cases hd:d=t
     · subst hd;rw [if_pos rfl,if_neg hm,if_pos rfl]
     · rw [if_neg hd,if_neg hd,Fr.gN]
       by_cases ht:cK t (x::ks)=true
       · rw [if_pos ht,if_pos (by rw [cW] at ht ⊢;exact .tail _ ht)]
       · rw [if_neg ht,if_neg]
         rw [cW] at ht ⊢
         intro VI
         rcases List.mem_cons.1 VI with rfl|VI
         · exact hd rfl
         · exact ht VI
theorem aY.next {E:Env} {N:Nat} {fr:Fr} {a:Act} (h:aY E N fr a) {dst:Option Nat} (hd:∀ d,dst=some d->d<N) {v:V} {x:Value} (hr:Rel E v x) (kill:List Nat):aY E N (fr.next dst v kill) (a.put dst x):=by
 refine ⟨by cases dst<;>simp [Act.put,h.size],fun t=>?_⟩
 rw [Fr.oZ]
 split
 · exact .fK _
 · split
   · rename_i ht
     subst ht
     have cL:t<a.tmps.size:=by rw [h.size];exact hd t rfl
     simp only [Act.put,Array.getD_eq_getD_getElem?]
     simp [cL]
     exact hr
   · rename_i ht
     cases dst with
     |none=>exact h.rel t
     |some d=>
      have dM:d≠t:=fun e=>ht (by rw [e])
      have:(a.put (some d) x).tmps.getD t undef=a.tmps.getD t undef:=by
       simp only [Act.put,Array.getD_eq_getD_getElem?]
       rw [Array.getElem?_setIfInBounds_ne dM]
      rw [this]
      exact h.rel t
theorem put_defers (a:Act) (dst:Option Nat) (x:Value):(a.put dst x).defers=a.defers:=by cases dst<;>rfl
def lB (ops:Array Oper):Option (Nat×Bool)->Option (Nat×Bool)->Bool
 |none,none=>true
 |some (j,w),some (t,w')=>decide (w=w')&&(match ops[j]? with
  |some o=>decide (o.dst=some t)
  |none=>false)
 |_,_=>false
def ID (N:Nat):Option Nat->Bool
 |some d=>decide (d<N)
 |none=>true
def xG (P:Program) (N:Nat) (ops:Array Oper):List Oper->List dC->Bool
 |[],[]=>true
 |o::l,A::aoP=>KQ P o.op A.op&&decide (A.dst=o.dst)&&ID N o.dst&&lB ops o.guard A.guard&&xG P N ops l aoP
 |_,_=>false
theorem aY.same {E:Env} {N:Nat} {fr:Fr} {a:Act} (h:aY E N fr a) {t:Nat} {v:V} (hv:fr.get t=v):aY E N ((t,v)::fr.nF [t]) a:=by
 refine ⟨h.size,fun t'=>?_⟩
 simp only [Fr.get]
 by_cases ht:t=t'
 · subst ht;rw [if_pos rfl,<-hv];exact h.rel t
 · rw [if_neg ht,Fr.gN]
   split
   · exact .fK _
   · exact h.rel t'
section
variable {P:Program} {N:Nat} {ops:Array Oper} {Q:Exit->Act->World->Prop} {K:Fr×St->Prop}
theorem FN {E:Env} {fr:Fr} {a:Act} (hf:aY E N fr a) {j t:Nat} {o:Oper} (ho:ops[j]? =some o) (hd:o.dst=some t) {b:Bool} (hv:fr.get t=.b b):yielded ops a.tmps j=some b:=by
 have h:=hf.rel t
 rw [hv] at h
 have h:=h.bool
 simp only [yielded,ho,Option.bind_some,hd]
 simp only [Array.getD_eq_getD_getElem?] at h
 cases hq:a.tmps[t]? with
 |none=>rw [hq] at h;simp [undef] at h
 |some x=>rw [hq] at h;simp at h;rw [h]
theorem FO {E:Env} {fr:Fr} {a:Act} (hf:aY E N fr a) {j t:Nat} {o:Oper} (ho:ops[j]? =some o) (hd:o.dst=some t) {cs:List V} (hv:fr.get t=.bY cs):yielded ops a.tmps j=none:=by
 have h:=hf.rel t
 rw [hv] at h
 simp only [yielded,ho,Option.bind_some,hd]
 simp only [Array.getD_eq_getD_getElem?] at h
 cases hq:a.tmps[t]? with
 |none=>rfl
 |some x=>
  rw [hq] at h
  simp only [Option.getD_some] at h
  cases h with
  |deep hd=>cases hd
  |bY=>rfl
theorem Dl (more:List Nat):∀ (aoP:List dC) (l:List Oper) (i:Nat),xG P N ops l aoP=true->(∀ k o,l[k]? =some o->ops[i+k]? =some o)->
 ∀ {E:Env} {st:St} {w:World} {fr:Fr} {a:Act},b9 E st w->aY E N fr a->(dU aoP fr st).wp (aB P) K->
  (∀ bZ bU E' a' w',K (bZ,bU)->b9 E' bU w'->Ext E st w E' bU w'->aY E' N bZ a'->a'.defers=a.defers->wpOps P ops Q more a' w')->
  wpOps P ops Q (List.range' i l.length++more) a w
 |[],[],i,_,_,E,st,w,fr,a,hs,hf,hw,hQ=>hQ fr st E a w hw hs (.refl E st w) hf rfl
 |[],_::_,i,hk,_,E,st,w,fr,a,hs,hf,hw,hQ=>by simp [xG] at hk
 |_::_,[],i,hk,_,E,st,w,fr,a,hs,hf,hw,hQ=>by simp [xG] at hk
 |A::aoP,o::l,i,hk,Yz,E,st,w,fr,a,hs,hf,hw,hQ=>by
  simp only [xG,Bool.and_eq_true,decide_eq_true_eq] at hk
  obtain ⟨⟨⟨⟨k1,k2⟩,k3⟩,k4⟩,k5⟩:=hk
  have ho:ops[i]? =some o:=Yz 0 o rfl
  have YA:∀ d,o.dst=some d->d<N:=fun d hd=>by rw [hd] at k3;simpa [ID] using k3
  have YB:∀ k o',l[k]? =some o'->ops[i+1+k]? =some o':=fun k o' h=>by
   have:=Yz (k+1) o' (by simpa using h)
   rwa [show i+1+k=i+(k+1) by omega]
  -- Kr rest,from YC state Kr operation leaves
  have rest:∀ {E':Env} {bU:St} {w':World} {bZ:Fr} {a':Act},b9 E' bU w'->Ext E st w E' bU w'->aY E' N bZ a'->a'.defers=a.defers->(dU aoP bZ bU).wp (aB P) K->wpOps P ops Q (List.range' (i+1) l.length++more) a' w':=by
   intro E' bU w' bZ a' s1 s2 s3 s4 Il
   exact Dl more aoP l (i+1) k5 YB s1 s3 Il (fun f2 st2 E2 a2 w2 h1 h2 h3 h4 h5=>hQ f2 st2 E2 a2 w2 h1 h2 (s2.trans h3) h4 (h5.trans s4))
  -- Kr operation is carried out
  have VJ:∀ {rB:Fr},aY E N rB a->((step A.op rB st).bind fun x=>match x with
   |(v,st)=>rB.after A.dst v A.kill fun fr=>dU aoP fr st).wp (aB P) K->o.wp P a w (wpOps P ops Q (List.range' (i+1) l.length++more)) Q:=by
   intro rB GY Sj
   rw [T.wp_bind] at Sj
   refine step_ok k1 hs GY Sj ?_
   intro v bU E' w' x yY s1 s2 hr
   dsimp only at yY
   rw [Fr.cR] at yY
   refine rest s1 s2 (aY.next (GY.mono s2.le) YA hr A.kill) (put_defers _ _ _) ?_
   rw [<-k2];exact yY
  have skip:∀ {rB:Fr},aY E N rB a->(rB.after A.dst (.bY []) A.kill fun fr=>dU aoP fr st).wp (aB P) K->wpOps P ops Q (List.range' (i+1) l.length++more) (a.put o.dst undef) w:=by
   intro rB GY Sj
   rw [Fr.cR] at Sj
   refine rest hs (.refl E st w) (aY.next GY YA fJ A.kill) (put_defers _ _ _) ?_
   rw [<-k2];exact Sj
  rw [List.length_cons,List.range'_succ,List.cons_append]
  simp only [wpOps,ho]
  simp only [dU] at hw
  split at hw
  · rename_i hgA
    have hg:o.guard=none:=by
     rw [hgA] at k4
     cases hg:o.guard with
     |none=>rfl
     |some q=>rw [hg] at k4;cases q;simp [lB] at k4
    rw [if_pos (by simp [Region.wanted,hg])]
    exact .inl (VJ hf hw)
  · rename_i t want hgA
    rw [hgA] at k4
    cases hg:o.guard with
    |none=>rw [hg] at k4;simp [lB] at k4
    |some q=>
    obtain ⟨j,ahD⟩:=q
    rw [hg] at k4
    simp only [lB,Bool.and_eq_true,decide_eq_true_eq] at k4
    obtain ⟨rfl,k4⟩:=k4
    split at k4
    case h_2=>cases k4
    rename_i oj YD
    simp only [decide_eq_true_eq] at k4
    split at hw
    · rename_i x hx
      have hy:=FN hf YD k4 hx
      have GY:=hf.same hx
      split at hw
      · cases x with
        |true=>
         have hw:=hw.1 rfl
         rw [Fr.cN] at hw
         rw [if_pos (by simp [Region.wanted,hg,hy])]
         exact .inl (VJ GY hw)
        |false=>
         have hw:=hw.2 rfl
         rw [Fr.cN] at hw
         rw [if_neg (by simp [Region.wanted,hg,hy])]
         exact skip GY hw
      · cases x with
        |true=>
         have hw:=hw.1 rfl
         rw [Fr.cN] at hw
         rw [if_neg (by simp [Region.wanted,hg,hy])]
         exact skip GY hw
        |false=>
         have hw:=hw.2 rfl
         rw [Fr.cN] at hw
         rw [if_pos (by simp [Region.wanted,hg,hy])]
         exact .inl (VJ GY hw)
    · rename_i cs hx
      have hy:=FO hf YD k4 hx
      rw [if_neg (by simp [Region.wanted,hg,hy])]
      exact skip hf hw
    · exact hw.elim
theorem ops_ok (aoP:List dC) (l:List Oper) (i:Nat) (hk:xG P N ops l aoP=true) (ho:∀ k o,l[k]? =some o->ops[i+k]? =some o)
 {E:Env} {st:St} {w:World} {fr:Fr} {a:Act} (hs:b9 E st w) (hf:aY E N fr a) (hw:(dU aoP fr st).wp (aB P) K)
  (hQ:∀ bZ bU E' a' w',K (bZ,bU)->b9 E' bU w'->Ext E st w E' bU w'->aY E' N bZ a'->a'.defers=a.defers->Q .normal a' w'):
  wpOps P ops Q (List.range' i l.length) a w:=by
 have:=Dl [] aoP l i hk ho hs hf hw hQ
 rwa [List.append_nil] at this
end
end Go.Eng
