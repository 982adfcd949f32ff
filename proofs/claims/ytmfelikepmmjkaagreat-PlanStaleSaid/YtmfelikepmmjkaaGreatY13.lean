/-
The functions' abstract texts, by their numbers.
-/
import Derived.Test.YtmfelikepmmjkaaGreatY10
import Derived.Test.YtmfelikepmmjkaaGreatY11
import Derived.Test.YtmfelikepmmjkaaGreatY12
import Derived.Test.YtmfelikepmmjkaaGreatY08
set_option linter.unusedVariables false
set_option linter.unusedSimpArgs false
namespace Go.Eng.AF
open Go Go.Eng
def s11:FT:=(.node (.node (.node (.node (.node .nil 3 f3 .nil) 4 f4 .nil) 5 f5 (.node .nil 6 f6 .nil)) 7 f7 (.node (.node .nil 8 f8 .nil) 9 f9 (.node .nil 10 f10 .nil))) 11 f11 (.node (.node (.node (.node .nil 12 f12 .nil) 13 f13 .nil) 14 f14 (.node .nil 15 f15 .nil)) 16 f16 (.node (.node .nil 17 f17 .nil) 18 f18 (.node .nil 19 f19 .nil))))
def s29:FT:=(.node (.node (.node (.node (.node .nil 21 f21 .nil) 22 f22 .nil) 23 f23 (.node .nil 24 f24 .nil)) 25 f25 (.node (.node .nil 26 f26 .nil) 27 f27 (.node .nil 28 f28 .nil))) 29 f29 (.node (.node (.node (.node .nil 30 f30 .nil) 31 f31 .nil) 32 f32 (.node .nil 33 f33 .nil)) 34 f34 (.node (.node .nil 35 f35 .nil) 36 f36 (.node .nil 37 f37 .nil))))
def s48:FT:=(.node (.node (.node (.node (.node .nil 39 f39 .nil) 40 f40 .nil) 41 f41 (.node .nil 43 f43 .nil)) 44 f44 (.node (.node .nil 45 f45 .nil) 46 f46 (.node .nil 47 f47 .nil))) 48 f48 (.node (.node (.node (.node .nil 49 f49 .nil) 50 f50 .nil) 51 f51 (.node .nil 52 f52 .nil)) 53 f53 (.node (.node .nil 55 f55 .nil) 56 f56 (.node .nil 57 f57 .nil))))
def s67:FT:=(.node (.node (.node (.node (.node .nil 59 f59 .nil) 60 f60 .nil) 61 f61 (.node .nil 62 f62 .nil)) 63 f63 (.node (.node .nil 64 f64 .nil) 65 f65 (.node .nil 66 f66 .nil))) 67 f67 (.node (.node (.node (.node .nil 68 f68 .nil) 69 f69 .nil) 70 f70 (.node .nil 71 f71 .nil)) 72 f72 (.node (.node .nil 73 f73 .nil) 74 f74 (.node .nil 75 f75 .nil))))
def s86:FT:=(.node (.node (.node (.node (.node .nil 77 f77 .nil) 78 f78 .nil) 79 f79 (.node .nil 80 f80 .nil)) 81 f81 (.node (.node .nil 83 f83 .nil) 84 f84 (.node .nil 85 f85 .nil))) 86 f86 (.node (.node (.node (.node .nil 87 f87 .nil) 88 f88 .nil) 89 f89 (.node .nil 90 f90 .nil)) 91 f91 (.node (.node .nil 92 f92 .nil) 93 f93 (.node .nil 94 f94 .nil))))
def YW:FT:=(.node (.node (.node (.node (.node .nil 96 f96 .nil) 97 f97 .nil) 98 f98 (.node .nil 99 f99 .nil)) 100 f100 (.node (.node .nil 101 f101 .nil) 103 f103 (.node .nil 104 f104 .nil))) 105 f105 (.node (.node (.node (.node .nil 106 f106 .nil) 107 f107 .nil) 108 f108 (.node .nil 109 f109 .nil)) 110 f110 (.node (.node .nil 111 f111 .nil) 112 f112 (.node .nil 113 f113 .nil))))
def YX:FT:=(.node (.node (.node (.node (.node .nil 115 f115 .nil) 116 f116 .nil) 117 f117 (.node .nil 118 f118 .nil)) 119 f119 (.node (.node .nil 120 f120 .nil) 121 f121 (.node .nil 122 f122 .nil))) 123 f123 (.node (.node (.node (.node .nil 124 f124 .nil) 125 f125 .nil) 126 f126 (.node .nil 127 f127 .nil)) 128 f128 (.node (.node .nil 129 f129 .nil) 130 f130 (.node .nil 131 f131 .nil))))
def YY:FT:=(.node (.node (.node (.node (.node .nil 133 f133 .nil) 134 f134 .nil) 135 f135 (.node .nil 136 f136 .nil)) 140 f140 (.node (.node .nil 141 f141 .nil) 142 f142 (.node .nil 143 f143 .nil))) 144 f144 (.node (.node (.node (.node .nil 145 f145 .nil) 146 f146 .nil) 147 f147 (.node .nil 148 f148 .nil)) 149 f149 (.node (.node .nil 150 f150 .nil) 151 f151 (.node .nil 152 f152 .nil))))
def YZ:FT:=(.node (.node (.node (.node (.node .nil 154 f154 .nil) 155 f155 .nil) 156 f156 (.node .nil 160 f160 .nil)) 161 f161 (.node (.node .nil 162 f162 .nil) 163 f163 (.node .nil 164 f164 .nil))) 165 f165 (.node (.node (.node (.node .nil 166 f166 .nil) 169 f169 .nil) 170 f170 (.node .nil 171 f171 .nil)) 172 f172 (.node (.node .nil 173 f173 .nil) 174 f174 (.node .nil 175 f175 .nil))))
def Y0:FT:=(.node (.node (.node (.node (.node .nil 177 f177 .nil) 178 f178 .nil) 179 f179 (.node .nil 180 f180 .nil)) 181 f181 (.node (.node .nil 182 f182 .nil) 183 f183 (.node .nil 184 f184 .nil))) 185 f185 (.node (.node (.node (.node .nil 186 f186 .nil) 187 f187 .nil) 188 f188 (.node .nil 189 f189 .nil)) 190 f190 (.node (.node .nil 191 f191 .nil) 192 f192 (.node .nil 193 f193 .nil))))
def Y1:FT:=(.node (.node (.node (.node (.node .nil 195 f195 .nil) 196 f196 .nil) 197 f197 (.node .nil 198 f198 .nil)) 199 f199 (.node (.node .nil 200 f200 .nil) 201 f201 (.node .nil 202 f202 .nil))) 203 f203 (.node (.node (.node (.node .nil 204 f204 .nil) 205 f205 .nil) 206 f206 (.node .nil 207 f207 .nil)) 208 f208 (.node (.node .nil 209 f209 .nil) 210 f210 (.node .nil 211 f211 .nil))))
def Y2:FT:=(.node (.node (.node (.node (.node .nil 213 f213 .nil) 214 f214 .nil) 215 f215 (.node .nil 216 f216 .nil)) 217 f217 (.node (.node .nil 218 f218 .nil) 219 f219 (.node .nil 220 f220 .nil))) 223 f223 (.node (.node (.node (.node .nil 226 f226 .nil) 228 f228 .nil) 232 f232 (.node .nil 234 f234 .nil)) 242 f242 (.node (.node .nil 243 f243 .nil) 245 f245 (.node .nil 246 f246 .nil))))
def Y3:FT:=(.node (.node (.node (.node (.node .nil 256 f256 .nil) 257 f257 .nil) 258 f258 (.node .nil 259 f259 .nil)) 260 f260 (.node (.node .nil 262 f262 .nil) 263 f263 (.node .nil 265 f265 .nil))) 266 f266 (.node (.node (.node (.node .nil 267 f267 .nil) 268 f268 .nil) 271 f271 (.node .nil 272 f272 .nil)) 273 f273 (.node (.node .nil 274 f274 .nil) 275 f275 (.node .nil 276 f276 .nil))))
def Y4:FT:=(.node (.node (.node (.node (.node .nil 278 f278 .nil) 279 f279 .nil) 280 f280 (.node .nil 281 f281 .nil)) 282 f282 (.node (.node .nil 283 f283 .nil) 284 f284 (.node .nil 286 f286 .nil))) 287 f287 (.node (.node (.node (.node .nil 288 f288 .nil) 289 f289 .nil) 290 f290 (.node .nil 291 f291 .nil)) 299 f299 (.node (.node .nil 306 f306 .nil) 314 f314 (.node .nil 315 f315 .nil))))
def Y5:FT:=(.node (.node (.node (.node (.node .nil 318 f318 .nil) 321 f321 .nil) 322 f322 (.node .nil 323 f323 .nil)) 324 f324 (.node (.node .nil 325 f325 .nil) 326 f326 (.node .nil 327 f327 .nil))) 328 f328 (.node (.node (.node (.node .nil 329 f329 .nil) 330 f330 .nil) 331 f331 (.node .nil 332 f332 .nil)) 333 f333 (.node (.node .nil 336 f336 .nil) 337 f337 (.node .nil 342 f342 .nil))))
def Y6:FT:=(.node (.node (.node (.node (.node .nil 347 f347 .nil) 348 f348 .nil) 349 f349 (.node .nil 350 f350 .nil)) 351 f351 (.node (.node .nil 352 f352 .nil) 353 f353 (.node .nil 354 f354 .nil))) 356 f356 (.node (.node (.node (.node .nil 357 f357 .nil) 358 f358 .nil) 366 f366 (.node .nil 370 f370 .nil)) 371 f371 (.node (.node .nil 372 f372 .nil) 373 f373 (.node .nil 375 f375 .nil))))
def fns:FT:=
 (.node (.node (.node (.node s11 20 f20 s29) 38 f38 (.node s48 58 f58 s67)) 76 f76 (.node (.node s86 95 f95 YW) 114 f114 (.node YX 132 f132 YY))) 153 f153 (.node (.node (.node YZ 176 f176 Y0) 194 f194 (.node Y1 212 f212 Y2)) 254 f254 (.node (.node Y3 277 f277 Y4) 316 f316 (.node Y5 343 f343 Y6))))
end Go.Eng.AF
namespace Go.Eng
open Go
def sI (args:List V) (h:aA):Option (V×aA):=
 match args with
 |[.p (.g k) off,.i .i64 n]=>match h.get k with
  |some (.cs c)=>match c[off]? with
   |some (.i .i64 m)=>some (.i .i64 (IntKind.i64.wrap (m+n)),h.set k (.cs (c.set off (.i .i64 (IntKind.i64.wrap (m+n))))))
   |_=>none
  |_=>none
 |_=>none
def A0 (keys:Nat) (args:List V) (h:aA):Option (V×aA):=
 match args with
 |[.fn f [] [.p (.g k) off]]=>match Nat.beq f keys&&Nat.beq off 0 with
  |true=>match h.get k with
   |some (.cs c)=>match c[off]? with
    |some (.m (.g mk))=>match h.get mk with
     |some (.mp none [(.s x,_)])=>match decide (x.length<=9223372036854775807) with
      |true=>some (.sl none 1 [[.s x]],h)
      |false=>none
     |_=>none
    |_=>none
   |_=>none
  |false=>none
 |_=>none
def tB (add sorted keys:Nat):mX:=fun f args h=>
 match Nat.beq f add with
 |true=>sI args h
 |false=>match Nat.beq f sorted with
  |true=>A0 keys args h
  |false=>none
def known (cs:List Nat) (base:mX):mX:=fun f args h=>
 match cK f cs with
 |true=>match args with
  |[]=>some (.b true,h)
  |_=>none
 |false=>base f args h
def mF:List UInt8->List UInt8->Int
 |[],[]=>0
 |[],_::_=>-1
 |_::_,[]=>1
 |a::r,b::q=>match Nat.blt a.toNat b.toNat with
  |true=>-1
  |false=>match Nat.blt b.toNat a.toNat with
   |true=>1
   |false=>mF r q
def Tc (cmp:Nat) (base:mX):mX:=fun f args h=>
 match Nat.beq f cmp with
 |true=>match args with
  |[.s a,.s b]=>some (.i .i64 (mF a b),h)
  |_=>none
 |false=>base f args h
def isTrue:Option (V×aA)->Bool
 |some (.b true,_)=>true
 |_=>false
theorem IS {o:Option (V×aA)} (h:isTrue o=true):∃ h',o=some (.b true,h'):=by
 unfold isTrue at h
 split at h
 · exact ⟨_,rfl⟩
 · cases h
open Go
noncomputable def IT (fr:Fr):Nat->V:=List.rec (motive:=fun _=>Nat->V) (fun _=>.fK) (fun q _ ih n=>match Nat.beq q.1 n with
 |true=>q.2
 |false=>ih n) fr
theorem zU:∀ (fr:Fr) (n:Nat),IT fr n=fr.get n
 |[],n=>rfl
 |(k,v)::r,n=>by
  show (match Nat.beq k n with|true=>v|false=>IT r n)=if k=n then v else Fr.get r n
  rw [zU r n]
  by_cases h:k=n
  · subst h;simp
  · have:Nat.beq k n=false:=by
     cases hb:Nat.beq k n with
     |true=>exact absurd (Nat.eq_of_beq_eq_true hb) h
     |false=>rfl
    rw [this,if_neg h]
noncomputable def jD (fr:Fr) (x:bH):V:=bH.rec (motive:=fun _=>Fr->V) (fun n fr=>IT fr n) (fun v _=>v) x fr
theorem yD (fr:Fr) (x:bH):jD fr x=x.ev fr:=by
 cases x with
 |t n=>exact zU _ _
 |c v=>rfl
noncomputable def NO (fr:Fr) (l:List bH):List V:=List.rec (motive:=fun _=>List V) [] (fun x _ ih=>jD fr x::ih) l
theorem Hc (fr:Fr):∀ l:List bH,NO fr l=bH.GH fr l
 |[]=>rfl
 |x::r=>by
  show jD fr x::NO fr r=x.ev fr::bH.GH fr r
  rw [yD,Hc fr r]
noncomputable def DB (fr:Fr) (x:Option bH):Option V:=match x with
 |none=>none
 |some x=>some (jD fr x)
theorem Mn (fr:Fr) (x:Option bH):DB fr x=bH.Cq fr x:=by
 cases x with
 |none=>rfl
 |some x=>simp only [DB,bH.Cq,yD]
noncomputable def VQ (fr:Fr) (l:List (Nat×Nat×bH)):List (Nat×Nat×V):=List.rec (motive:=fun _=>List (Nat×Nat×V)) [] (fun q _ ih=>(q.1,q.2.1,jD fr q.2.2)::ih) l
theorem Mo (fr:Fr):∀ l,VQ fr l=dT fr l
 |[]=>rfl
 |(a,b,x)::r=>by
  show (a,b,jD fr x)::VQ fr r=(a,b,x.ev fr)::dT fr r
  rw [yD,Mo fr r]
noncomputable def VR (fr:Fr) (l:List (Nat×bH)):List (Nat×V):=List.rec (motive:=fun _=>List (Nat×V)) [] (fun q _ ih=>(q.1,jD fr q.2)::ih) l
theorem Mp (fr:Fr):∀ l,VR fr l=fW fr l
 |[]=>rfl
 |(a,x)::r=>by
  show (a,jD fr x)::VR fr r=(a,x.ev fr)::fW fr r
  rw [yD,Mp fr r]
noncomputable def Hd {α:Type} (l:List α):Nat->Option α:=List.rec (motive:=fun _=>Nat->Option α) (fun _=>none) (fun a _ ih n=>Nat.rec (motive:=fun _=>Option α) (some a) (fun m _=>ih m) n) l
theorem zV {α:Type}:∀ (l:List α) (n:Nat),Hd l n=l[n]?
 |[],n=>by simp;rfl
 |a::r,0=>rfl
 |a::r,n+1=>by
  rw [List.getElem?_cons_succ,<-zV r n]
  rfl
noncomputable def Qe (l:List V):Nat->List V:=List.rec (motive:=fun _=>Nat->List V) (fun _=>[]) (fun a r ih n=>Nat.rec (motive:=fun _=>List V) (a::r) (fun m _=>ih m) n) l
theorem IU:∀ (l:List V) (n:Nat),Qe l n=l.drop n
 |[],n=>by simp;rfl
 |a::r,0=>rfl
 |a::r,n+1=>IU r n
noncomputable def Mq (n:Nat):List V->Option (List V):=Nat.rec (motive:=fun _=>List V->Option (List V)) (fun _=>some []) (fun _ ih l=>List.rec (motive:=fun _=>Option (List V)) none (fun a r _=>Option.rec (motive:=fun _=>Option (List V)) none (fun x=>some (a::x)) (ih r)) l) n
theorem IV:∀ (n:Nat) (l:List V),Mq n l=if n<=l.length then some (l.take n) else none
 |0,l=>by simp;rfl
 |n+1,[]=>by simp;rfl
 |n+1,a::r=>by
  show Option.rec (motive:=fun _=>Option (List V)) none (fun x=>some (a::x)) (Mq n r)=_
  rw [IV n r]
  by_cases h:n<=r.length
  · rw [if_pos h,if_pos (by simpa using h)];rfl
  · rw [if_neg h,if_neg (by simpa using h)]
noncomputable def XG (cs:List V) (off:Nat) (n:Option Nat):Option V:=
 Option.rec (motive:=fun _=>Option V) (Hd cs off) (fun n=>Nat.rec (motive:=fun _=>Option V) (dL cs off (some 0)) (fun m _=>Option.rec (motive:=fun _=>Option V) none (fun x=>some (.agg x)) (Mq (m+1) (Qe cs off))) n) n
theorem Qf (cs:List V) (off:Nat) (n:Option Nat):XG cs off n=dL cs off n:=by
 cases n with
 |none=>exact zV cs off
 |some n=>
  cases n with
  |zero=>rfl
  |succ m=>
   show Option.rec (motive:=fun _=>Option V) none (fun x=>some (.agg x)) (Mq (m+1) (Qe cs off))=_
   rw [IV,IU]
   simp only [dL,List.length_drop]
   by_cases h:off+(m+1)<=cs.length
   · rw [if_pos h,if_pos (by omega)]
   · rw [if_neg h,if_neg (by omega)]
noncomputable def He (l:List V):Nat->List V->List V:=List.rec (motive:=fun _=>Nat->List V->List V) (fun _ _=>[]) (fun a r ih n vs=>Nat.rec (motive:=fun _=>List V) (List.rec (motive:=fun _=>List V) (a::r) (fun v q _=>v::ih 0 q) vs) (fun m _=>a::ih m vs) n) l
theorem IW:∀ (l:List V) (n:Nat),He l n []=l
 |[],_=>rfl
 |a::r,0=>rfl
 |a::r,n+1=>by
  show a::He r n []=a::r
  rw [IW r n]
theorem FR (v:V) (q:List V):∀ (l:List V) (n:Nat),He l n (v::q)=He (l.set n v) (n+1) q
 |[],_=>rfl
 |a::r,0=>rfl
 |a::r,n+1=>by
  show a::He r n (v::q)=a::He (r.set n v) (n+1) q
  rw [FR v q r n]
theorem Hf:∀ (vs l:List V) (n:Nat),He l n vs=dI l n vs
 |[],l,n=>IW l n
 |v::q,l,n=>by rw [FR,Hf q];rfl
noncomputable def Qg (cs:List V) (off:Nat) (vs:List V):Bool:=List.rec (motive:=fun _=>Bool) (oH cs off []) (fun _ q _=>Option.rec (motive:=fun _=>Bool) false (fun _=>true) (Hd cs (off+q.length))) vs
theorem IX (cs:List V) (off:Nat) (vs:List V):Qg cs off vs=oH cs off vs:=by
 cases vs with
 |nil=>rfl
 |cons v q=>
  show Option.rec (motive:=fun _=>Bool) false (fun _=>true) (Hd cs (off+q.length))=decide (off+(q.length+1)<=cs.length)
  rw [zV]
  by_cases h:off+q.length<cs.length
  · rw [List.getElem?_eq_getElem h,decide_eq_true (by omega)]
  · rw [List.getElem?_eq_none (by omega),decide_eq_false (by omega)]
noncomputable def sJ {α:Type} (l:List α):Nat:=List.rec (motive:=fun _=>Nat) 0 (fun _ _ ih=>Nat.succ ih) l
theorem CF {α:Type}:∀ l:List α,sJ l=l.length
 |[]=>rfl
 |a::r=>by
  show Nat.succ (sJ r)=r.length+1
  rw [CF r]
noncomputable def VS {α:Type} (l m:List α):List α:=List.rec (motive:=fun _=>List α) m (fun a _ ih=>a::ih) l
theorem Mr {α:Type} (m:List α):∀ l:List α,VS l m=l++m
 |[]=>rfl
 |a::r=>by
  show a::VS r m=a::(r++m)
  rw [Mr m r]
noncomputable def findF (l:List (Nat×Obj)) (n:Nat):Option Obj:=List.rec (motive:=fun _=>Option Obj) none (fun q _ ih=>Bool.rec (motive:=fun _=>Option Obj) ih (some q.2) (Nat.beq q.1 n)) l
theorem Qh {n m:Nat} {α:Type} (x y:α):Bool.rec (motive:=fun _=>α) y x (Nat.beq n m)=if n=m then x else y:=by
 by_cases h:n=m
 · subst h;simp
 · have:Nat.beq n m=false:=by
    cases hb:Nat.beq n m with
    |true=>exact absurd (Nat.eq_of_beq_eq_true hb) h
    |false=>rfl
   rw [this,if_neg h]
theorem DC (n:Nat):∀ l,findF l n=aA.find l n
 |[]=>rfl
 |(k,o)::r=>by
  show Bool.rec (motive:=fun _=>Option Obj) (findF r n) (some o) (Nat.beq k n)=_
  rw [Qh,DC n r]
  rfl
noncomputable def Td (l:List (Nat×Obj)) (n:Nat) (x:Obj):List (Nat×Obj):=List.rec (motive:=fun _=>List (Nat×Obj)) [] (fun q r ih=>Bool.rec (motive:=fun _=>List (Nat×Obj)) (q::ih) ((q.1,x)::r) (Nat.beq q.1 n)) l
theorem Hg (n:Nat) (x:Obj):∀ l,Td l n x=aA.Bv l n x
 |[]=>rfl
 |(k,o)::r=>by
  show Bool.rec (motive:=fun _=>List (Nat×Obj)) ((k,o)::Td r n x) ((k,x)::r) (Nat.beq k n)=_
  rw [Qh,Hg n x r]
  rfl
noncomputable def wS (st:St) (k:Key):Option Obj:=Key.rec (motive:=fun _=>Option Obj) (fun n=>findF st.g.rY n) (fun n=>findF st.l.rY n) k
theorem Hh (st:St) (k:Key):wS st k=st.get k:=by
 cases k with
 |g n=>exact DC _ _
 |l n=>exact DC _ _
noncomputable def Fl (st:St) (k:Key) (o:Obj):St:=Key.rec (motive:=fun _=>St) (fun n=>⟨⟨st.g.next,Td st.g.rY n o⟩,st.l⟩) (fun n=>⟨st.g,⟨st.l.next,Td st.l.rY n o⟩⟩) k
theorem Hi (st:St) (k:Key) (o:Obj):Fl st k o=st.set k o:=by
 cases k with
 |g n=>simp only [Fl,Hg];rfl
 |l n=>simp only [Fl,Hg];rfl
noncomputable def A1 (m:kL) (sz bytes:Nat) (st:St) (s:V) (new:List (List V)):T R:=
 match s with
 |.aV=>match new with
  |[]=>.ret (.aV,st)
  |e::r=>.iT (bR (sJ (e::r)) bytes) (j2 m sz (e::r) st)
 |.sl tok dS es=>if dS=sz then match new with
   |[]=>.ret (.sl tok sz es,st)
   |e::r=>.iT (bR (sJ es+(sJ (e::r))) bytes)<|.rZ (dR (e::r)) fun ds=>match tok with
    |some k=>.obj (wS st k) fun o=>match o with
     |.spare=>.ret (.sl (some ((st.remove k).aL k.qK)) sz (VS es ds),(st.remove k).push k.qK .spare)
     |_=>.fail
    |none=>.fail
  else .fail
 |.ms k dS off len=>if dS=sz then match new with
   |[]=>.ret (.ms k sz off len,st)
   |e::r=>.iT (bR (len+(sJ (e::r))) bytes)<|.rZ (gL k.qK (e::r)) fun ds=>.obj (wS st k) fun o=>match o with
    |.arr eJ es=>if eJ=sz then
      .iT (decide (off+len<=sJ es))<|.ite (decide (off+len+sJ ds<=sJ es))
       (.ret (.ms k sz off (len+sJ ds),Fl st k (.arr sz (es.take (off+len)++ds++es.drop (off+len+sJ ds)))))
       (.ret (.ms ((st.remove k).aL k.qK) sz 0 (len+sJ ds),(st.remove k).push k.qK (.arr sz ((es.take (off+len)).drop off++ds))))
     else .fail
    |_=>.fail
  else .fail
 |_=>.fail
theorem Hj (m:kL) (sz bytes:Nat) (st:St) (s:V) (new:List (List V)):A1 m sz bytes st s new=oI m sz bytes st s new:=by
 unfold A1 oI
 simp only [Hi,Hh,CF,Mr]
 rfl
noncomputable def Y7 (x:bH) (fr:Fr) (st:St):T R:=.ret (jD fr x,st)
noncomputable def UI (x:bH) (fr:Fr) (st:St):T R:=.ret (jD fr x,st)
noncomputable def KZ (c:bH) (a:bH) (d:bH) (fr:Fr) (st:St):T R:=match jD fr c with
 |.b x=>.ite x (.ret (jD fr a,st)) (.ret (jD fr d,st))
 |_=>.fail
noncomputable def Te (g:Bool) (zero:List V) (_fr:Fr) (st:St):T R:=.ret (.p (st.aL g) 0,st.push g (.cs zero))
noncomputable def Qi (g:Bool) (x:bH) (fr:Fr) (st:St):T R:=match (jD fr x).Uj with
 |true=>T.opt (sA g (jD fr x).cells) fun c=>.ret (.p (st.aL g) 0,st.push g (.cs c))
 |false=>.fail
noncomputable def UJ (zero:List V) (parts:List (Nat×Nat×bH)) (fr:Fr) (st:St):T R:=T.opt (kM zero (VQ fr parts)) fun cs=>.ret (.agg cs,st)
noncomputable def UK (m:kL) (sz:Nat) (len:Nat) (zero:List V) (parts:List (Nat×bH)) (fr:Fr) (st:St):T R:=T.opt (nW (List.replicate len zero) sz (VR fr parts)) fun es=>j2 m sz es st
noncomputable def K1 (n:Option Nat) (a:bH) (fr:Fr) (st:St):T R:=match jD fr a with
 |.p k off=>.obj (wS st k) fun o=>match o with
  |.cs c=>T.opt (XG c off n) fun v=>.ret (v,st)
  |_=>.fail
 |.pa k sz ix off=>.obj (wS st k) fun o=>match o with
  |.arr dS es=>if dS=sz then .elem (Hd es ix) fun e=>T.opt (XG e off n) fun v=>.ret (v,st) else .fail
  |_=>.fail
 |.pc cs off=>T.opt (XG cs off n) fun v=>.ret (v,st)
 |_=>.fail
noncomputable def Hk (n:Nat) (a:bH) (x:bH) (fr:Fr) (st:St):T R:=if (jD fr x).Uj=true/\(jD fr x).cells.length=n then match jD fr a with
 |.p k off=>T.opt (sA k.qK (jD fr x).cells) fun vs=>.obj (wS st k) fun o=>match o with
  |.cs c=>match Qg c off vs with
   |true=>.ret (.bY [],Fl st k (.cs (He c off vs)))
   |false=>.fail
  |_=>.fail
 |.pa k sz ix off=>T.opt (sA k.qK (jD fr x).cells) fun vs=>.obj (wS st k) fun o=>match o with
  |.arr dS es=>if dS=sz then .elem (Hd es ix) fun e=>match Qg e off vs with
    |true=>.ret (.bY [],Fl st k (.arr sz (es.set ix (He e off vs))))
    |false=>.fail
   else .fail
  |_=>.fail
 |_=>.fail
 else .fail
noncomputable def K3 (x:bH) (fr:Fr) (st:St):T R:=match jD fr x with
 |.p k off=>.ret (.p k off,st)
 |.pa k sz ix off=>.ret (.pa k sz ix off,st)
 |.pc cs off=>.ret (.pc cs off,st)
 |.fn f a c=>.ret (.fn f a c,st)
 |_=>.fail
noncomputable def UL (op:BinOp) (x:bH) (y:bH) (fr:Fr) (st:St):T R:=pZ op (jD fr x) (jD fr y) st
noncomputable def Qj (row:Bool) (ks:List CK) (neg:Bool) (x:bH) (y:bH) (fr:Fr) (st:St):T R:=T.opt ((jD fr x).row row) fun cs=>T.opt ((jD fr y).row row) fun ds=>T.opt (dP ks cs ds) fun r=>match neg with
 |true=>.ret (.b (!r),st)
 |false=>.ret (.b r,st)
noncomputable def UM (neg:Bool) (x:bH) (y:bH) (fr:Fr) (st:St):T R:=vJ neg (jD fr x) (jD fr y) st
noncomputable def VT (op:UnOp) (x:bH) (fr:Fr) (st:St):T R:=match op,jD fr x with
 |.not,.b y=>.ret (.b (!y),st)
 |.neg,.i k n=>.wrap k (0 - n) fun r=>.ret (.i k r,st)
 |_,_=>.fail
noncomputable def Qk (k:IntKind) (x:bH) (fr:Fr) (st:St):T R:=match jD fr x with
 |.i _ n=>.wrap k n fun r=>.ret (.i k r,st)
 |_=>.fail
noncomputable def Ql (x:bH) (fr:Fr) (st:St):T R:=match jD fr x with
 |.s y=>.ret (.s y,st)
 |_=>.fail
noncomputable def Qn (m:kL) (x:bH) (fr:Fr) (st:St):T R:=match jD fr x with
 |.s y=>j2 m 1 (eR y) st
 |_=>.fail
noncomputable def Qo (x:bH) (fr:Fr) (st:St):T R:=match jD fr x with
 |.sl (some k) sz es=>.obj (wS st k) fun o=>match o with
  |.spare=>.ret (.sl (some k) sz es,st)
  |_=>.fail
 |.ms k sz off len=>.obj (wS st k) fun o=>match o with
  |.arr z _=>if z=1 then .ret (.ms k sz off len,st) else .fail
  |_=>.fail
 |_=>.fail
noncomputable def UN (x:bH) (fr:Fr) (st:St):T R:=jK 1 st (jD fr x) fun es=>.EU (bytesOf es) fun y=>.ret (.s y,st)
noncomputable def Qp (f:Nat) (cap:List bH) (fr:Fr) (st:St):T R:=.ret (.fn f [] (NO fr cap),st)
noncomputable def Tf (g:Bool) (kd:Option IntKind) (_fr:Fr) (st:St):T R:=.ret (.m (st.aL g),st.push g (.mp kd []))
noncomputable def K4 (m:kL) (sz:Nat) (bytes:Nat) (zero:List V) (l:bH) (c:bH) (fr:Fr) (st:St):T R:=match jD fr l,jD fr c with
 |.i _ a,.i _ d=>.iT (decide (0<=a)&&decide (a=d)&&bR d.toNat bytes)<|j2 m sz (List.replicate a.toNat zero) st
 |_,_=>.fail
noncomputable def Hl (x:bH) (lo:Option bH) (hi:Option bH) (fr:Fr) (st:St):T R:=match jD fr x with
 |.s y=>T.opt (eH (DB fr hi) y.length) fun h=>T.opt (eH (DB fr lo) 0) fun l=>
  .iT (decide (0<=l)&&decide (l<=h)&&decide (h<=(y.length:Int)))<|.ret (.s ((y.take h.toNat).drop l.toNat),st)
 |_=>.fail
noncomputable def K5 (sz:Nat) (x:bH) (lo:Option bH) (hi:Option bH) (mx:Option bH) (fr:Fr) (st:St):T R:=match jD fr x with
 |.aV=>match mx with
  |none=>T.opt (eH (DB fr hi) 0) fun h=>T.opt (eH (DB fr lo) 0) fun l=>
   .iT (decide (l=0)&&decide (h=0))<|.ret (.aV,st)
  |some _=>.fail
 |.sl tok dS es=>if dS=sz then match mx with
   |none=>match DB fr hi with
    |none=>T.opt (eH (DB fr lo) 0) fun l=>.iT (decide (0<=l)&&decide (l<=(sJ es:Int)))<|.ret (.sl tok sz (es.drop l.toNat),st)
    |some v=>T.opt (tP v) fun h=>T.opt (eH (DB fr lo) 0) fun l=>
     .iT (decide (0<=l)&&decide (l<=h)&&decide (h<=(sJ es:Int)))<|.ret (.sl none sz ((es.take h.toNat).drop l.toNat),st)
   |some _=>.fail
  else .fail
 |.ms k dS off len=>if dS=sz then T.opt (eH (DB fr hi) len) fun h=>T.opt (eH (DB fr lo) 0) fun l=>.obj (wS st k) fun o=>match o with
   |.arr eJ es=>if eJ=sz then match mx with
     |none=>.iT (decide (0<=l)&&decide (l<=h)&&decide ((off:Int)+h<=(sJ es:Int)))<|
      .ret (.ms k sz (off+l.toNat) (h.toNat - l.toNat),st)
     |some m=>T.opt (tP (jD fr m)) fun mx=>.iT (decide (0<=l)&&decide (l<=h)&&decide (h<=mx)&&decide ((off:Int)+mx<=(sJ es:Int)))<|
      .ret (.fK,st)
    else .fail
   |_=>.fail
  else .fail
 |_=>.fail
noncomputable def Hm (off:Nat) (x:bH) (fr:Fr) (st:St):T R:=match jD fr x with
 |.p k o=>.ret (.p k (o+off),st)
 |.pa k sz ix o=>.ret (.pa k sz ix (o+off),st)
 |.pc cs o=>.ret (.pc cs (o+off),st)
 |_=>.fail
noncomputable def Qq (off:Nat) (n:Option Nat) (x:bH) (fr:Fr) (st:St):T R:=match jD fr x with
 |.agg cs=>T.opt (XG cs off n) fun v=>.ret (v,st)
 |_=>.fail
noncomputable def K6 (sz:Nat) (x:bH) (i:bH) (fr:Fr) (st:St):T R:=match jD fr i with
 |.i _ n=>match jD fr x with
  |.sl _ dS es=>if dS=sz then .iT (pY n (sJ es))<|.elem (Hd es n.toNat) fun e=>.ret (.pc e 0,st) else .fail
  |.ms k dS off len=>if dS=sz then .iT (pY n len)<|.ret (.pa k sz (off+n.toNat) 0,st) else .fail
  |_=>.fail
 |_=>.fail
noncomputable def K7 (len:Nat) (sz:Nat) (x:bH) (i:bH) (fr:Fr) (st:St):T R:=match jD fr i with
 |.i _ n=>.iT (pY n len)<|match jD fr x with
  |.p k o=>.ret (.p k (o+n.toNat*sz),st)
  |.pa k dS ix o=>.ret (.pa k dS ix (o+n.toNat*sz),st)
  |.pc cs o=>.ret (.pc cs (o+n.toNat*sz),st)
  |_=>.fail
 |_=>.fail
noncomputable def Qs (x:bH) (i:bH) (fr:Fr) (st:St):T R:=match jD fr x,jD fr i with
 |.s y,.i _ n=>.iT (decide (0<=n))<|.byte (Hd y n.toNat) fun c=>.ret (.i .u8 c.toNat,st)
 |_,_=>.fail
noncomputable def Qt (len:Nat) (sz:Nat) (n:Option Nat) (x:bH) (i:bH) (fr:Fr) (st:St):T R:=match jD fr x,jD fr i with
 |.agg cs,.i _ j=>.iT (pY j len)<|T.opt (XG cs (j.toNat*sz) n) fun v=>.ret (v,st)
 |_,_=>.fail
noncomputable def Qu (kd:Option IntKind) (zero:V) (m:bH) (k:bH) (ok:Bool) (fr:Fr) (st:St):T R:=match (jD fr k).fE kd with
 |true=>match jD fr m with
  |.gC=>sB zero ok st none
  |.m key=>.obj (wS st key) fun o=>match o with
   |.mp H7 es=>if H7=kd then sB zero ok st (pX es (jD fr k)) else .fail
   |_=>.fail
  |_=>.fail
 |false=>.fail
noncomputable def K8 (kd:Option IntKind) (m:bH) (k:bH) (v:bH) (fr:Fr) (st:St):T R:=match (jD fr k).fE kd with
 |true=>match jD fr m with
  |.m key=>.obj (wS st key) fun o=>match o with
   |.mp H7 es=>if H7=kd then T.opt (SG key.qK (jD fr v)) fun u=>.ret (.bY [],Fl st key (.mp kd (y9 es (jD fr k) u))) else .fail
   |_=>.fail
  |_=>.fail
 |false=>.fail
noncomputable def Qv (x:bH) (i:Nat) (fr:Fr) (st:St):T R:=match jD fr x with
 |.bY vs=>T.opt (Hd vs i) fun v=>.ret (v,st)
 |_=>.fail
noncomputable def Qw (f:Nat) (args:List bH) (fr:Fr) (st:St):T R:=T.opt (gK (NO fr args)) fun vs=>.call f vs st.g fun r h=>.ret (r,⟨h,st.l⟩)
noncomputable def Hn (f:bH) (args:List bH) (fr:Fr) (st:St):T R:=match jD fr f with
 |.fn g first cap=>T.opt (gK (first++NO fr args++cap)) fun vs=>.call g vs st.g fun r h=>.ret (r,⟨h,st.l⟩)
 |_=>.fail
noncomputable def K9 (x:bH) (fr:Fr) (st:St):T R:=match jD fr x with
 |.s y=>.ret (.i .i64 y.length,st)
 |_=>.fail
noncomputable def La (x:bH) (fr:Fr) (st:St):T R:=match jD fr x with
 |.aV=>.ret (.i .i64 0,st)
 |.sl _ _ es=>.ret (.i .i64 (sJ es),st)
 |.ms _ _ _ n=>.ret (.i .i64 n,st)
 |_=>.fail
noncomputable def VU (n:Nat) (_fr:Fr) (st:St):T R:=.ret (.i .i64 n,st)
noncomputable def Lb (x:bH) (fr:Fr) (st:St):T R:=match jD fr x with
 |.gC=>.ret (.i .i64 0,st)
 |.m key=>.obj (wS st key) fun o=>match o with
  |.mp _ es=>.ret (.i .i64 (sJ es),st)
  |_=>.fail
 |_=>.fail
noncomputable def Lc (max:Bool) (xs:List bH) (fr:Fr) (st:St):T R:=match NO fr xs with
 |v::r=>T.opt (gY max v r) fun v=>.ret (v,st)
 |[]=>.fail
noncomputable def IY (m:kL) (sz:Nat) (bytes:Nat) (s:bH) (x:bH) (fr:Fr) (st:St):T R:=jK sz st (jD fr x) fun new=>A1 m sz bytes st (jD fr s) new
noncomputable def Ld (sz:Nat) (d:bH) (x:bH) (fr:Fr) (st:St):T R:=jK sz st (jD fr x) fun src=>match jD fr d with
 |.ms k dS off len=>if dS=sz then .rZ (gL k.qK (src.take len)) fun ds=>.obj (wS st k) fun o=>match o with
   |.arr eJ es=>if eJ=sz then
     .iT (decide (off+len<=es.length))<|.ret (.i .i64 (ds.length:Nat),Fl st k (.arr sz (es.take off++ds++es.drop (off+ds.length))))
    else .fail
   |_=>.fail
  else .fail
 |_=>.fail
noncomputable def DD (kd:Option IntKind) (m:bH) (k:bH) (fr:Fr) (st:St):T R:=match (jD fr k).fE kd with
 |true=>match jD fr m with
  |.gC=>.ret (.bY [],st)
  |.m key=>.obj (wS st key) fun o=>match o with
   |.mp H7 es=>if H7=kd then .ret (.bY [],Fl st key (.mp kd (E9 es (jD fr k)))) else .fail
   |_=>.fail
  |_=>.fail
 |false=>.fail
noncomputable def Ho (sz:Nat) (zero:List V) (x:bH) (fr:Fr) (st:St):T R:=match jD fr x with
 |.aV=>.ret (.bY [],st)
 |.ms k dS off len=>if dS=sz then .obj (wS st k) fun o=>match o with
   |.arr eJ es=>if eJ=sz then .iT (decide (off+len<=es.length))<|.ret (.bY [],Fl st k (.arr sz (es.take off++List.replicate len zero++es.drop (off+len)))) else .fail
   |_=>.fail
  else .fail
 |_=>.fail
noncomputable def adR  (_fr:Fr) (_st:St):T R:=.fail
noncomputable def DE (o:y7):Fr->St->T R:=y7.rec (motive:=fun _=>Fr->St->T R) Y7 UI KZ Te Qi UJ UK K1 Hk K3 UL Qj UM VT Qk Ql Qn Qo UN Qp Tf K4 Hl K5 Hm Qq K6 K7 Qs Qt Qu K8 Qv Qw Hn K9 La VU Lb Lc IY Ld DD Ho adR o
theorem DF (o:y7) (fr:Fr) (st:St):DE o fr st=step o fr st:=by
 cases o<;>first
  |rfl
  |(simp only [DE,step,Y7,UI,KZ,Qi,UJ,UK,K1,Hk,K3,UL,Qj,UM,VT,Qk,Ql,Qn,Qo,UN,Qp,K4,Hl,K5,Hm,Qq,K6,K7,Qs,Qt,Qu,K8,Qv,Qw,Hn,K9,La,Lb,Lc,IY,Ld,DD,Ho,yD,Hc,Mn,Mo,Mp,zV,Qf,IX,Hf,Hh,Hi,CF,Hj];done)
  |(simp only [DE,step,KZ,Qi,K1,Hk,K3,Qj,VT,Qk,Ql,Qn,Qo,K4,Hl,K5,Hm,Qq,K6,K7,Qs,Qt,Qu,K8,Qv,Hn,K9,La,Lb,Lc,Ld,DD,Ho,yD,Hc,Mn,zV,Qf,IX,Hf,Hh,Hi,CF];rfl)
section
variable {α β:Type}
noncomputable def Y8 (a:α) (k:α->Option β):Option β:=k a
noncomputable def Y9 (c:Bool) (_ _:T α) (x y:(α->Option β)->Option β) (k:α->Option β):Option β:=Bool.rec (motive:=fun _=>Option β) (y k) (x k) c
noncomputable def IZ {δ:Type} (o:Option δ) (_:δ->T α) (x:δ->(α->Option β)->Option β) (k:α->Option β):Option β:=Option.rec (motive:=fun _=>Option β) none (fun d=>x d k) o
noncomputable def VV (o:Option V) (_:T α) (_:V->T α) (y:(α->Option β)->Option β) (x:V->(α->Option β)->Option β) (k:α->Option β):Option β:=Option.rec (motive:=fun _=>Option β) (y k) (fun d=>x d k) o
noncomputable def Za (c:Bool) (_:T α) (x:(α->Option β)->Option β) (k:α->Option β):Option β:=Bool.rec (motive:=fun _=>Option β) none (x k) c
noncomputable def VW (kd:IntKind) (n:Int) (_:Int->T α) (x:Int->(α->Option β)->Option β) (k:α->Option β):Option β:=x (kd.wrap n) k
noncomputable def Zb (_:Bool->T α) (_:Bool->(α->Option β)->Option β) (_:α->Option β):Option β:=none
noncomputable def VX (v u:V) (_:T α) (x:(α->Option β)->Option β) (k:α->Option β):Option β:=Bool.rec (motive:=fun _=>Option β) none (x k) (v.beq u)
noncomputable def VY (rf:mX) (f:Nat) (args:List V) (h:aA) (_:V->aA->T α) (x:V->aA->(α->Option β)->Option β) (k:α->Option β):Option β:=
 Option.rec (motive:=fun _=>Option β) none (fun q=>x q.1 q.2 k) (rf f args h)
noncomputable def VZ (_:α->Option β):Option β:=none
noncomputable def runK (rf:mX) (t:T α):(α->Option β)->Option β:=
 T.rec (motive:=fun _=>(α->Option β)->Option β) Y8 Y9 IZ IZ IZ IZ IZ VV Za VW Zb VX (VY rf) VZ t
theorem gJ (rf:mX):∀ (t:T α) (k:α->Option β),runK rf t k=(t.run rf).bind k
 |.ret a,k=>rfl
 |.ite c t e,k=>by
  cases c with
  |true=>exact gJ rf t k
  |false=>exact gJ rf e k
 |.elem o kk,k=>by
  cases o with
  |none=>rfl
  |some x=>exact gJ rf (kk x) k
 |.byte o kk,k=>by
  cases o with
  |none=>rfl
  |some x=>exact gJ rf (kk x) k
 |.rZ o kk,k=>by
  cases o with
  |none=>rfl
  |some x=>exact gJ rf (kk x) k
 |.EU o kk,k=>by
  cases o with
  |none=>rfl
  |some x=>exact gJ rf (kk x) k
 |.obj o kk,k=>by
  cases o with
  |none=>rfl
  |some x=>exact gJ rf (kk x) k
 |.lS o n kk,k=>by
  cases o with
  |none=>exact gJ rf n k
  |some x=>exact gJ rf (kk x) k
 |.iT c kk,k=>by
  cases c with
  |true=>exact gJ rf kk k
  |false=>rfl
 |.wrap kd n kk,k=>gJ rf (kk (kd.wrap n)) k
 |.any kk,k=>rfl
 |.same v u kk,k=>by
  show Bool.rec (motive:=fun _=>Option β) none (runK rf kk k) (v.beq u)=(T.run rf (.same v u kk)).bind k
  simp only [T.run]
  cases v.beq u with
  |true=>exact gJ rf kk k
  |false=>rfl
 |.call f args h kk,k=>by
  show Option.rec (motive:=fun _=>Option β) none (fun q=>runK rf (kk q.1 q.2) k) (rf f args h)=(T.run rf (.call f args h kk)).bind k
  simp only [T.run]
  cases rf f args h with
  |none=>rfl
  |some q=>exact gJ rf (kk q.1 q.2) k
 |.fail,k=>rfl
theorem run_bind (rf:mX) (f:α->T β):∀ t:T α,(t.bind f).run rf=(t.run rf).bind fun a=>(f a).run rf
 |.ret a=>rfl
 |.ite c t e=>by
  cases c with
  |true=>exact run_bind rf f t
  |false=>exact run_bind rf f e
 |.elem o kk=>by
  cases o with
  |none=>rfl
  |some x=>exact run_bind rf f (kk x)
 |.byte o kk=>by
  cases o with
  |none=>rfl
  |some x=>exact run_bind rf f (kk x)
 |.rZ o kk=>by
  cases o with
  |none=>rfl
  |some x=>exact run_bind rf f (kk x)
 |.EU o kk=>by
  cases o with
  |none=>rfl
  |some x=>exact run_bind rf f (kk x)
 |.obj o kk=>by
  cases o with
  |none=>rfl
  |some x=>exact run_bind rf f (kk x)
 |.lS o n kk=>by
  cases o with
  |none=>exact run_bind rf f n
  |some x=>exact run_bind rf f (kk x)
 |.iT c kk=>by
  cases c with
  |true=>exact run_bind rf f kk
  |false=>rfl
 |.wrap kd n kk=>run_bind rf f (kk (kd.wrap n))
 |.any kk=>rfl
 |.same v u kk=>by
  simp only [T.bind,T.run]
  cases v.beq u with
  |true=>exact run_bind rf f kk
  |false=>rfl
 |.call g args h kk=>by
  simp only [T.bind,T.run]
  cases rf g args h with
  |none=>rfl
  |some q=>exact run_bind rf f (kk q.1 q.2)
 |.fail=>rfl
end
noncomputable def I0 (n:Nat) (ks:List Nat):Bool:=List.rec (motive:=fun _=>Bool) false (fun k _ ih=>Bool.rec (motive:=fun _=>Bool) ih true (Nat.beq n k)) ks
theorem CG (n:Nat):∀ ks,I0 n ks=cK n ks
 |[]=>rfl
 |k::r=>by
  show Bool.rec (motive:=fun _=>Bool) (I0 n r) true (Nat.beq n k)=cK n (k::r)
  rw [CG n r]
  simp only [cK]
  cases Nat.beq n k<;>rfl
section
variable {α:Type}
noncomputable def tH (ks:List Nat) (fr:Fr):(Fr->α)->α:=List.rec (motive:=fun _=>(Fr->α)->α) (fun k=>k []) (fun q _ ih k=>Bool.rec (motive:=fun _=>α) (ih fun r=>k (q::r)) (ih k) (I0 q.1 ks)) fr
theorem iL (ks:List Nat):∀ (fr:Fr) (k:Fr->α),tH ks fr k=fr.cut ks k
 |[],k=>rfl
 |(n,v)::r,k=>by
  show Bool.rec (motive:=fun _=>α) (tH ks r fun r'=>k ((n,v)::r')) (tH ks r k) (I0 n ks)=Fr.cut ((n,v)::r) ks k
  rw [iL ks r,iL ks r,CG]
  simp only [Fr.cut]
  cases cK n ks<;>rfl
noncomputable def DG (fr:Fr) (dst:Option Nat) (v:V) (kill:List Nat) (k:Fr->α):α:=
 Option.rec (motive:=fun _=>α) (List.rec (motive:=fun _=>α) (k fr) (fun _ _ _=>tH kill fr k) kill)
  (fun d=>List.rec (motive:=fun _=>α) (v.force fun v=>k ((d,v)::fr)) (fun _ _ _=>Bool.rec (motive:=fun _=>α) (tH (d::kill) fr fun r=>v.force fun v=>k ((d,v)::r)) (tH (d::kill) fr k) (I0 d kill)) kill) dst
theorem vW (fr:Fr) (dst:Option Nat) (v:V) (kill:List Nat) (k:Fr->α):DG fr dst v kill k=fr.after dst v kill k:=by
 cases dst with
 |none=>
  cases kill with
  |nil=>rfl
  |cons x ks=>exact iL _ _ _
 |some d=>
  cases kill with
  |nil=>rfl
  |cons x ks=>
   show Bool.rec (motive:=fun _=>α) (tH (d::x::ks) fr fun r=>v.force fun v=>k ((d,v)::r)) (tH (d::x::ks) fr k) (I0 d (x::ks))=_
   rw [iL,iL,CG]
   simp only [Fr.after]
   cases cK d (x::ks)<;>rfl
end
section
variable {β:Type}
noncomputable def I1 (rf:mX) (o:dC) (ih:Fr->St->(Fr->St->Option β)->Option β) (fr:Fr) (st:St) (k:Fr->St->Option β):Option β:=
 runK rf (DE o.op fr st) fun x=>DG fr o.dst x.1 o.kill fun fr=>ih fr x.2 k
noncomputable def I2 (o:dC) (ih:Fr->St->(Fr->St->Option β)->Option β) (fr:Fr) (st:St) (k:Fr->St->Option β):Option β:=
 DG fr o.dst (.bY []) o.kill fun fr=>ih fr st k
noncomputable def Lf (rf:mX) (o:dC) (ih:Fr->St->(Fr->St->Option β)->Option β) (t:Nat) (want:Bool) (fr:Fr) (st:St) (k:Fr->St->Option β):Option β:=
 match IT fr t with
 |.b x=>Bool.rec (motive:=fun _=>Option β)
  (Bool.rec (motive:=fun _=>Option β) (tH [t] fr fun r=>I1 rf o ih ((t,.b false)::r) st k) (tH [t] fr fun r=>I2 o ih ((t,.b true)::r) st k) x)
  (Bool.rec (motive:=fun _=>Option β) (tH [t] fr fun r=>I2 o ih ((t,.b false)::r) st k) (tH [t] fr fun r=>I1 rf o ih ((t,.b true)::r) st k) x) want
 |.bY _=>I2 o ih fr st k
 |_=>none
noncomputable def V0 (rf:mX) (o:dC) (_:List dC) (ih:Fr->St->(Fr->St->Option β)->Option β) (fr:Fr) (st:St) (k:Fr->St->Option β):Option β:=
 Option.rec (motive:=fun _=>Option β) (I1 rf o ih fr st k) (fun q=>Lf rf o ih q.1 q.2 fr st k) o.guard
noncomputable def Lg (rf:mX) (ops:List dC):Fr->St->(Fr->St->Option β)->Option β:=
 List.rec (motive:=fun _=>Fr->St->(Fr->St->Option β)->Option β) (fun fr st k=>k fr st) (V0 rf) ops
theorem Hp (rf:mX):∀ (ops:List dC) (fr:Fr) (st:St) (k:Fr->St->Option β),Lg rf ops fr st k=((dU ops fr st).run rf).bind fun x=>k x.1 x.2
 |[],fr,st,k=>rfl
 |o::rest,fr,st,k=>by
  have hd:∀ (fr:Fr) (st:St),I1 rf o (Lg rf rest) fr st k=(((step o.op fr st).bind fun x=>match x with
   |(v,st)=>fr.after o.dst v o.kill fun fr=>dU rest fr st).run rf).bind fun x=>k x.1 x.2:=by
   intro fr st
   rw [run_bind,I1,gJ,DF]
   cases (step o.op fr st).run rf with
   |none=>rfl
   |some q=>
    obtain ⟨v,bU⟩:=q
    simp only [Option.bind_some,vW,Fr.cR]
    exact Hp rf rest _ _ k
  have hp:∀ (fr:Fr) (st:St),I2 o (Lg rf rest) fr st k=((fr.after o.dst (.bY []) o.kill fun fr=>dU rest fr st).run rf).bind fun x=>k x.1 x.2:=by
   intro fr st
   simp only [I2,vW,Fr.cR]
   exact Hp rf rest _ _ k
  show V0 rf o rest (Lg rf rest) fr st k=_
  unfold V0 dU
  cases o.guard with
  |none=>exact hd fr st
  |some q=>
   obtain ⟨t,want⟩:=q
   show Lf rf o (Lg rf rest) t want fr st k=_
   unfold Lf
   rw [zU]
   dsimp only
   cases fr.get t
   case b x=>
    cases want with
    |true=>
     cases x with
     |true=>simp only [T.run,iL,hd,Fr.cN]
     |false=>simp only [T.run,iL,hp,Fr.cN]
    |false=>
     cases x with
     |true=>simp only [T.run,iL,hp,Fr.cN]
     |false=>simp only [T.run,iL,hd,Fr.cN]
   case bY vs=>exact hp fr st
   all_goals rfl
end
section
variable {β:Type}
noncomputable def UO (g:Option (Nat×Bool)) (fr:Fr) (yes no:Fr->Option β):Option β:=
 Option.rec (motive:=fun _=>Option β) (yes fr) (fun q=>match IT fr q.1 with
  |.b x=>Bool.rec (motive:=fun _=>Option β)
   (Bool.rec (motive:=fun _=>Option β) (tH [q.1] fr fun r=>yes ((q.1,.b false)::r)) (tH [q.1] fr fun r=>no ((q.1,.b true)::r)) x)
   (Bool.rec (motive:=fun _=>Option β) (tH [q.1] fr fun r=>no ((q.1,.b false)::r)) (tH [q.1] fr fun r=>yes ((q.1,.b true)::r)) x) q.2
  |.bY _=>no fr
  |_=>none) g
theorem Qx {α:Type} (rf:mX) (g:Option (Nat×Bool)) (fr:Fr) (yes no:Fr->T α) (k:α->Option β):
 UO g fr (fun fr=>((yes fr).run rf).bind k) (fun fr=>((no fr).run rf).bind k)=((tQ g fr yes no).run rf).bind k:=by
 unfold tQ
 cases g with
 |none=>rfl
 |some q=>
  obtain ⟨t,want⟩:=q
  show (match IT fr t with
   |.b x=>_
   |.bY _=>_
   |_=>none)=_
  rw [zU]
  dsimp only
  cases fr.get t
  case b x=>
   cases want with
   |true=>
    cases x with
    |true=>simp only [T.run,iL,Fr.cN]
    |false=>simp only [T.run,iL,Fr.cN]
   |false=>
    cases x with
    |true=>simp only [T.run,iL,Fr.cN]
    |false=>simp only [T.run,iL,Fr.cN]
  all_goals rfl
noncomputable def rE (rf:mX) (re:List Nat) (done:List bB) (fr:Fr) (st:St) (k:Option β):Option β:=
 List.rec (motive:=fun _=>Option β) k (fun p _ ih=>Bool.rec (motive:=fun _=>Option β) ih
  (Option.rec (motive:=fun _=>Option β) none (fun b=>Bool.rec (motive:=fun _=>Option β) ih
    (runK rf (DE p.o.op fr st) fun x=>Option.rec (motive:=fun _=>Option β) ih (fun d=>Bool.rec (motive:=fun _=>Option β) none ih ((IT fr d).beq x.1)) p.o.dst) b) (dD p.o.guard fr)) (I0 p.ix re)) done
theorem BF {α:Type} (rf:mX) (re:List Nat) (fr:Fr) (st:St) (t:T α) (k:α->Option β):∀ done:List bB,rE rf re done fr st ((t.run rf).bind k)=((recheck re done fr st t).run rf).bind k
 |[]=>rfl
 |p::ps=>by
  have ih:=BF rf re fr st t k ps
  show Bool.rec (motive:=fun _=>Option β) (rE rf re ps fr st ((t.run rf).bind k)) (Option.rec (motive:=fun _=>Option β) none (fun b=>Bool.rec (motive:=fun _=>Option β) (rE rf re ps fr st ((t.run rf).bind k))
   (runK rf (DE p.o.op fr st) fun x=>Option.rec (motive:=fun _=>Option β) (rE rf re ps fr st ((t.run rf).bind k)) (fun d=>Bool.rec (motive:=fun _=>Option β) none (rE rf re ps fr st ((t.run rf).bind k)) ((IT fr d).beq x.1)) p.o.dst) b) (dD p.o.guard fr)) (I0 p.ix re)=_
  rw [ih,CG]
  simp only [recheck]
  cases cK p.ix re with
  |false=>rfl
  |true=>
   cases dD p.o.guard fr with
   |none=>rfl
   |some b=>
    cases b with
    |false=>rfl
    |true=>
     dsimp only
     rw [run_bind,gJ,DF]
     cases (step p.o.op fr st).run rf with
     |none=>rfl
     |some q=>
      simp only [Option.bind_some]
      cases p.o.dst with
      |none=>rfl
      |some d=>
       simp only [T.run,zU]
       cases ((Fr.get fr d).beq q.1)<;>rfl
noncomputable def UP (rf:mX) (d:bB) (done:List bB) (ih:List bB->Fr->St->(Fr->St->Option β)->Option β) (fr:Fr) (st:St) (k:Fr->St->Option β):Option β:=
 runK rf (DE d.o.op fr st) fun x=>DG fr d.o.dst x.1 [] fun fr=>rE rf d.re done fr x.2 (ih (d::done) fr x.2 k)
noncomputable def V1 (rf:mX) (d:bB) (_:List bB) (ih:List bB->Fr->St->(Fr->St->Option β)->Option β) (done:List bB) (fr:Fr) (st:St) (k:Fr->St->Option β):Option β:=
 UO d.o.guard fr (fun fr=>UP rf d done ih fr st k) (fun fr=>DG fr d.o.dst (.bY []) [] fun fr=>ih (d::done) fr st k)
noncomputable def Ms (rf:mX) (ds:List bB):List bB->Fr->St->(Fr->St->Option β)->Option β:=
 List.rec (motive:=fun _=>List bB->Fr->St->(Fr->St->Option β)->Option β) (fun _ fr st k=>k fr st) (V1 rf) ds
theorem DH (rf:mX):∀ (ds done:List bB) (fr:Fr) (st:St) (k:Fr->St->Option β),Ms rf ds done fr st k=((oJ done ds fr st).run rf).bind fun x=>k x.1 x.2
 |[],done,fr,st,k=>rfl
 |d::rest,done,fr,st,k=>by
  show V1 rf d rest (Ms rf rest) done fr st k=_
  simp only [oJ]
  rw [<-Qx]
  unfold V1
  congr 1
  · funext fr
    rw [run_bind,UP,gJ,DF]
    cases (step d.o.op fr st).run rf with
    |none=>rfl
    |some q=>
     obtain ⟨v,bU⟩:=q
     simp only [Option.bind_some,vW,Fr.cR]
     rw [DH rf rest,BF]
  · funext fr
    simp only [vW,Fr.cR]
    exact DH rf rest _ _ _ k
end
abbrev wT:=Option (Ex×Fr×St)
noncomputable def Qy (r:wT) (k:Fr->St->wT):wT:=
 Option.rec (motive:=fun _=>wT) none (fun q=>Ex.rec (motive:=fun _=>wT) (k q.2.1 q.2.2) (fun id=>some (.exit id,q.2)) (some (.ret,q.2)) q.1) r
theorem I3 (r:wT) (k:Fr->St->wT):Qy r k=match r with
 |some (.normal,fr,st)=>k fr st
 |r=>r:=by
 cases r with
 |none=>rfl
 |some q=>obtain ⟨e,fr,st⟩:=q;cases e<;>rfl
noncomputable def V2 (id:Nat) (r:wT):wT:=
 Option.rec (motive:=fun _=>wT) none (fun q=>Ex.rec (motive:=fun _=>wT) (some (.normal,q.2)) (fun AN=>Bool.rec (motive:=fun _=>wT) (some (.exit AN,q.2)) (some (.normal,q.2)) (Nat.beq AN id)) (some (.ret,q.2)) q.1) r
theorem Tg (id:Nat) (r:wT):V2 id r=match r with
 |some (.exit AN,fr,st)=>match Nat.beq AN id with
  |true=>some (.normal,fr,st)
  |false=>some (.exit AN,fr,st)
 |r=>r:=by
 cases r with
 |none=>rfl
 |some q=>
  obtain ⟨e,fr,st⟩:=q
  cases e with
  |exit AN=>simp only [V2];cases Nat.beq AN id<;>rfl
  |normal=>rfl
  |ret=>rfl
abbrev rF:=AC->Fr->St->wT
noncomputable def V3 (_:rF) (_:mX) (fr:Fr) (st:St):wT:=some (.normal,fr,st)
noncomputable def Zc (ops:List dC) (_:rF) (rf:mX) (fr:Fr) (st:St):wT:=Lg rf ops fr st fun fr st=>some (.normal,fr,st)
noncomputable def V4 (ds:List bB) (kill:List Nat) (_:rF) (rf:mX) (fr:Fr) (st:St):wT:=Ms rf ds [] fr st fun fr st=>tH kill fr fun fr=>some (.normal,fr,st)
noncomputable def Zd (a b:AC) (_ _:rF->mX->Fr->St->wT) (ih:rF) (_:mX) (fr:Fr) (st:St):wT:=Qy (ih a fr st) (ih b)
noncomputable def V5 (c:bH) (a b:AC) (_ _:rF->mX->Fr->St->wT) (ih:rF) (_:mX) (fr:Fr) (st:St):wT:=
 match jD fr c with
 |.b x=>Bool.rec (motive:=fun _=>wT) (ih b fr st) (ih a fr st) x
 |_=>none
noncomputable def Ze (id:Nat) (b:AC) (_:rF->mX->Fr->St->wT) (ih:rF) (_:mX) (fr:Fr) (st:St):wT:=V2 id (ih b fr st)
noncomputable def V6 (b:AC) (_:rF->mX->Fr->St->wT) (ih:rF) (_:mX) (fr:Fr) (st:St):wT:=Qy (ih b fr st) (ih (.loop b))
noncomputable def V7 (id:Nat) (_:rF) (_:mX) (fr:Fr) (st:St):wT:=some (.exit id,fr,st)
noncomputable def Zf (_:rF) (_:mX) (fr:Fr) (st:St):wT:=some (.ret,fr,st)
noncomputable def adS (_:rF) (_:mX) (_:Fr) (_:St):wT:=none
noncomputable def codeF (c:AC):rF->mX->Fr->St->wT:=
 AC.rec (motive:=fun _=>rF->mX->Fr->St->wT) V3 Zc V4 Zd V5 Ze V6 V7 Zf adS c
noncomputable def Th (fn:aW) (r:wT):Option (V×aA):=
 Option.rec (motive:=fun _=>Option (V×aA)) none (fun q=>Ex.rec (motive:=fun _=>Option (V×aA))
  (Option.rec (motive:=fun _=>Option (V×aA)) none (fun v=>some (v,q.2.2.g)) (eX q.2.1 q.2.2 fn.results)) (fun _=>none)
  (Option.rec (motive:=fun _=>Option (V×aA)) none (fun v=>some (v,q.2.2.g)) (eX q.2.1 q.2.2 fn.results)) q.1) r
theorem Mt (fn:aW) (r:wT):Th fn r=match r with
 |some (.normal,fr,st)=>match eX fr st fn.results with
  |some v=>some (v,st.g)
  |none=>none
 |some (.ret,fr,st)=>match eX fr st fn.results with
  |some v=>some (v,st.g)
  |none=>none
 |_=>none:=by
 cases r with
 |none=>rfl
 |some q=>
  obtain ⟨e,fr,st⟩:=q
  cases e with
  |exit id=>rfl
  |normal=>simp only [Th];cases eX fr st fn.results<;>rfl
  |ret=>simp only [Th];cases eX fr st fn.results<;>rfl
noncomputable def DI (fns:Nat->Option aW) (ih:rF) (f:Nat) (args:List V) (h:aA):Option (V×aA):=
 Option.rec (motive:=fun _=>Option (V×aA)) none (fun fn=>Bool.rec (motive:=fun _=>Option (V×aA)) none (Th fn (ih fn.body (bT 0 args) ⟨h,Ia⟩)) (Nat.beq args.length fn.nparams)) (fns f)
noncomputable def Mu (fns:Nat->Option aW) (once:Nat) (lW:mX) (ih:rF) (f:Nat) (args:List V) (h:aA):Option (V×aA):=
 Option.rec (motive:=fun _=>Option (V×aA)) (Bool.rec (motive:=fun _=>Option (V×aA)) (DI fns ih f args h) (vV (DI fns ih) args h) (Nat.beq f once)) some (lW f args h)
noncomputable def FU (fns:Nat->Option aW) (once:Nat) (lW:mX) (n:Nat):rF:=
 Nat.rec (motive:=fun _=>rF) (fun _ _ _=>none) (fun _ ih c=>codeF c ih (Mu fns once lW ih)) n
theorem I4 (fns:Nat->Option aW) (once:Nat) (lW:mX):∀ (n:Nat) (c:AC) (fr:Fr) (st:St),FU fns once lW n c fr st=exec fns once lW n c fr st
 |0,c,fr,st=>by simp only [exec];rfl
 |n+1,c,fr,st=>by
  have ih:FU fns once lW n=exec fns once lW n:=by funext c fr st;exact I4 fns once lW n c fr st
  show codeF c (FU fns once lW n) (Mu fns once lW (FU fns once lW n)) fr st=_
  rw [ih]
  have hb:∀ f args h,DI fns (exec fns once lW n) f args h=match fns f with
   |none=>none
   |some fn=>match Nat.beq args.length fn.nparams with
    |false=>none
    |true=>match exec fns once lW n fn.body (bT 0 args) ⟨h,Ia⟩ with
     |some (.normal,fr,st)=>match eX fr st fn.results with
      |some v=>some (v,st.g)
      |none=>none
     |some (.ret,fr,st)=>match eX fr st fn.results with
      |some v=>some (v,st.g)
      |none=>none
     |_=>none:=by
   intro f args h
   unfold DI
   cases fns f with
   |none=>rfl
   |some fn=>
    dsimp only
    cases Nat.beq args.length fn.nparams with
    |false=>rfl
    |true=>exact Mt fn _
  have hc:Mu fns once lW (exec fns once lW n)=fun f args h=>match lW f args h with
   |some r=>some r
   |none=>match Nat.beq f once with
    |true=>vV (fun (f:Nat) (args:List V) (h:aA)=>(match fns f with
     |none=>none
     |some fn=>match Nat.beq args.length fn.nparams with
      |false=>none
      |true=>match exec fns once lW n fn.body (bT 0 args) ⟨h,Ia⟩ with
       |some (.normal,fr,st)=>match eX fr st fn.results with
        |some v=>some (v,st.g)
        |none=>none
       |some (.ret,fr,st)=>match eX fr st fn.results with
        |some v=>some (v,st.g)
        |none=>none
       |_=>none:Option (V×aA))) args h
    |false=>(match fns f with
     |none=>none
     |some fn=>match Nat.beq args.length fn.nparams with
      |false=>none
      |true=>match exec fns once lW n fn.body (bT 0 args) ⟨h,Ia⟩ with
       |some (.normal,fr,st)=>match eX fr st fn.results with
        |some v=>some (v,st.g)
        |none=>none
       |some (.ret,fr,st)=>match eX fr st fn.results with
        |some v=>some (v,st.g)
        |none=>none
       |_=>none:Option (V×aA)):=by
   funext f args h
   unfold Mu
   have GN:=funext fun f=>funext fun args=>funext fun h=>hb f args h
   replace GN:DI fns (exec fns once lW n)=_:=GN
   rw [GN]
   cases lW f args h with
   |some r=>rfl
   |none=>
    dsimp only
    cases Nat.beq f once<;>rfl
  rw [hc]
  simp only [exec]
  cases c with
  |skip=>rfl
  |AK ops=>
   show Lg _ ops fr st (fun fr st=>some (Ex.normal,fr,st))=_
   rw [Hp]
   dsimp only
   cases (dU ops fr st).run _ with
   |none=>rfl
   |some q=>rfl
  |tD ds kill=>
   show Ms _ ds [] fr st (fun fr st=>tH kill fr fun fr=>some (Ex.normal,fr,st))=_
   rw [DH]
   dsimp only
   cases (oJ [] ds fr st).run _ with
   |none=>rfl
   |some q=>exact iL _ _ _
  |seq a b=>exact I3 _ _
  |cond d a b=>
   show (match jD fr d with
    |.b x=>_
    |_=>none)=_
   rw [yD]
   dsimp only
   cases d.ev fr
   case b x=>cases x<;>rfl
   all_goals rfl
  |bL id b=>exact Tg _ _
  |loop b=>exact I3 _ _
  |exit id=>rfl
  |ret=>rfl
  |no=>rfl
noncomputable def I5 (fns:Nat->Option aW) (once:Nat) (lW:mX) (n:Nat) (f:Nat) (args:List V) (h:aA):Option (V×aA):=DI fns (FU fns once lW n) f args h
theorem Ti (fns:Nat->Option aW) (once:Nat) (lW:mX) (n f:Nat) (args:List V) (h:aA):I5 fns once lW n f args h=Mm fns once lW n f args h:=by
 unfold I5 DI Mm
 cases fns f with
 |none=>rfl
 |some fn=>
  dsimp only
  cases Nat.beq args.length fn.nparams with
  |false=>rfl
  |true=>
   have ih:FU fns once lW n=exec fns once lW n:=by funext c fr st;exact I4 fns once lW n c fr st
   rw [ih]
   exact Mt fn _
end Go.Eng
