/- Callees that hand back a struct whose last cell is a row of the caller's own; callees that write one variable of the caller's; rows said to be data at any time; cms: fields, by the program; cms: fields' nodes, by the program; cms: fields, by the reference; cms: fields of nodes, by the reference; what is the same; how much it is; cms: what is the same; how much it is; cms: how much fields hold; what these laws look at; The join over data: lists of fields and texts as arguments; cert: extensions, algorithms, names and times of nodes; cert: names of nodes; A row that has been appended to goes by its old name again; cms: rows of one element sorted; fields of their own; fields put and got; cms: fields put and got; Functions that write one variable of their caller's, over data; sets of texts (maps to true); Sets of texts (maps to true), over data; cms: signed data without certificates, lists and signers: right, its form's number, its digests; cms: the node of signed data without certificates, lists and signers; cms: the fixed signed data, written and parsed; cms: the fixed signed data, parsed; CmsFields: the fixed calls; fields and nodes, by the program as by the reference; CmsFields: its function, from the parts; CmsAsked: r08.Get; CmsAsked: bytes of fields, by the program as by the reference; CmsAsked, plain: which fields are right, by the program as by the reference; CmsAsked: which fields are right, walked; CmsAsked: which fields are right, by the reference, walked; CmsAsked: the bytes of fields, by the program as by the reference; CmsAsked: the bytes of fields, both; then the law's function; CmsSigners: the small parts (digests' names, context nodes, octets); A slice written out that the call goes on to append to; slices of numbers written out; cert: sets of one node; names' nodes; cert: names' nodes; Names by the reference: what is right (r06); CmsSigners, plain: integers, numbers, names and algorithms are what their nodes say; CmsSigners, plain: a signer and its node, by the program as by the reference; CmsSigners: numbers as data; numbers' and integers' functions as contracts over data; CmsSigners: names held against each other; how much a signer holds; CmsSigners: how much a signer holds; The join over data: signers as arguments; CmsSigners: digests' names, names of nodes, fields of nodes, who signs. -/
import Derived.Test.YtcnacdlfmbigaaaGreatDoorQ4
set_option linter.unusedSimpArgs false
set_option linter.unusedVariables false
set_option linter.constructorNameAsVariable false
namespace Go.Proofs.YtcnacdlfmbigaaaGreatDoor
open Go Go.RowKit
section
structure FnO (P:Program) [Tb P] (Fi e:Nat) {α:Type} (K:Kd α) (ds cs:List D) (l:List α):Prop where
 fn:∀ h vs,Tb.T P h→DenT ds h vs→Fn P Fi vs h [] (Rets fun v h' Lo=>∃ us a c xs,v=.agg (us++[Value.slice a l.length c]).toArray∧DenL cs h' us∧Lo=[.row a c e K.sz l.length xs]∧CellsR K.R K.sz h' xs l∧l.length≤140737488355328)
structure FnB (P:Program) [Tb P] (Fi t:Nat) (ds1:List D) (d0:D) (ds2:List D) (R:D→D→Prop):Prop where
 fn:∀ h b vs0 vs1 vs2,Tb.T P h→DenT ds1 h vs1→Den d0 h (.agg vs0.toArray)→DenT ds2 h vs2→Fn P Fi (vs1++.pointer (some ⟨b,0,none⟩)::vs2) h [.blk b t vs0] (Rets fun v h' Lo=>∃ d d1 ws,R d d1∧Den d h' v∧Den d1 h' (.agg ws.toArray)∧Lo=[.blk b t ws])
def whlO:OE→Option (Nat×D)
 |.whl t d=>some (t,d)
 |.var t cs=>match dsOf cs with
  |some ds=>some (t,.st ds)
  |none=>none
 |_=>none
theorem oi {ρ:Rho}{h:Part}{k t:Nat}{e:OE}{d:D}{x:Ent}(hw:whlO e=some (t,d)) (q:DenE ρ h k e x):∃ vs,x=.blk (ρ.b k) t vs∧Den d h (.agg vs.toArray):=by
 unfold whlO at hw
 split at hw
 ·cases hw;exact q
 ·split at hw<;>cases hw
  rename_i hds
  obtain⟨vs,e1,e2⟩:=q
  exact⟨vs,e1,(df (h:=h)).2 ⟨vs,rfl,e2.ds hds⟩⟩
 ·cases hw
theorem pi {S:Sig}:∀ {os1 os2:List Operand}{vs1 vs2:List Value},evl S os1=some vs1→evl S os2=some vs2→evl S (os1++os2)=some (vs1++vs2)
 |[],os2,vs1,vs2,h1,h2=>by cases h1;exact h2
 |y::r,os2,vs1,vs2,h1,h2=>by
  simp only [evl] at h1
  split at h1<;>cases h1
  rename_i v vs h3 h4
  simp only [List.cons_append,evl,h3,pi h4 h2]
section
variable {P:Program} [Tb P] {F:Fd}{n:PostD}{x:Nat→PostD}{a a1:List (Nat×A)}{o o1 o2:List (Nat×OE)}{ops:Array Oper}{rest l0:List Oper}
variable {d Fi e k t:Nat}{ty:TypeId}{pos:String}{af:Array Edge}{os:Array Operand}{ts:Array TypeId}{ds cs:List D}
theorem Co {α:Type}{K:Kd α}{l:List α}(hp:pubs (rowsA a os.toList) a o=some (a1,o1)) (ha:argsA P a1 os.toList ts.toList=some ds) (c:FnO P Fi e K ds cs l) (hk:nextK a1 o1=some k)
 (kk:JLD P F ops n x rest ((d,.recr cs k)::a1) ((k,.row e (K.f l))::o1)) (hF:callT P Fi=true:=by kernel_rfl) (hd:Nat.blt d F.m=true:=by rfl) :
 JLD P F ops n x (⟨some d,.call { callee:=.value (.func Fi),args:=os,argTypes:=ts },ty,pos,af,none⟩::rest) a o:=.mk fun ρ h S L cz ac w s=>by
 obtain⟨h',L',hle,hok,cz'⟩:=f9 hp cz s.ok
 obtain⟨vs,h3,h4⟩:=e_ cz' ha
 have:=K.mono
 obtain⟨os⟩:=os
 refine de hF h3 (c.fn h' vs cz'.t h4) .nil hd (fun v h2 Lo hle2 ⟨us,a2,c2,xs2,e1,e2,e3,e4,e5⟩=>?_) ac w (s.with hok)
 subst e1 e3
 have cN':=(cz'.mono hle2).eqv hk (ρ.eqv_setR k a2 c2 l.length)
 have hden:DenO (ρ.setR k a2 c2 l.length) h2 ((k,.row e (K.f l))::o1) ([.row a2 c2 e K.sz l.length xs2]++L'):=by
  have en:(ρ.setR k a2 c2 l.length).n k=l.length:=by simp [Rho.setR]
  refine⟨_,L',rfl,⟨xs2,K.sz,by simp [Rho.setR],?_,by rw [en];exact e5⟩,cN'.o⟩
  rw [en];exact K.row.2 ⟨rfl,rfl,e4⟩
 exact kk.k (ρ.setR k a2 c2 l.length) h2 _ _ (Cz.put (u:=.recr cs k) ⟨cN'.t,cN'.s,hden⟩ ⟨us,by simp [Rho.setR],e2⟩ d)
theorem Pb (k:Nat) {c:Code}(hp:pub1 k a o=some (a1,o1)) (kk:JD P F c n x a1 o1):JD P F c n x a o:=.mk fun ρ h S L cz ac w s=>by
 obtain⟨h',L',hle,hok,cz'⟩:=oM hp cz s.ok
 exact kk.k ρ h' S L' cz' ac w (s.with hok)
theorem Pl (k:Nat) (hp:pub1 k a o=some (a1,o1)) (kk:JLD P F ops n x l0 a1 o1):JLD P F ops n x l0 a o:=.mk fun ρ h S L cz ac w s=>by
 obtain⟨h',L',hle,hok,cz'⟩:=oM hp cz s.ok
 exact kk.k ρ h' S L' cz' ac w (s.with hok)
theorem Cp {R:D→D→Prop}{os1 os2:List Operand}{xo:Operand}{ds1 ds2:List D}{d0:D}{e0:OE}(hos:os.toList=os1++xo::os2) (hp:pubs (rowsA a (os1++os2)) a o=some (a1,o1)) (hx:evA a1 xo=some (.own k 0)) (hk:lkO o1 k=some e0) (he:whlO e0=some (t,d0))
 (h1:argsA P a1 os1 ts.toList=some ds1) (h2:argsA P a1 os2 (ts.toList.drop (os1.length+1))=some ds2) (c:FnB P Fi t ds1 d0 ds2 R) (hdel:delQ o1 k=some o2)
 (kk:∀ d' d1,R d' d1→JLD P F ops n x rest ((d,.d d')::a1) ((k,.whl t d1)::o2)) (hF:callT P Fi=true:=by kernel_rfl) (hd:Nat.blt d F.m=true:=by rfl) :
 JLD P F ops n x (⟨some d,.call { callee:=.value (.func Fi),args:=os,argTypes:=ts },ty,pos,af,none⟩::rest) a o:=.mk fun ρ h S L cz ac w s=>by
 obtain rfl:=fU hdel
 obtain⟨h',L',hle,hok,cz'⟩:=f9 hp cz s.ok
 obtain⟨v,g1,g2⟩:=cd cz' hx
 cases g2
 obtain⟨vs1,h3,h4⟩:=e_ cz' h1
 obtain⟨vs2,h5,h6⟩:=e_ cz' h2
 obtain⟨y,L2,hD,hE,hr⟩:=cz'.o.get hk
 obtain⟨vs0,rfl,hd0⟩:=oi he hE
 obtain⟨os⟩:=os
 simp only at hos
 subst hos
 have hev:evl S (os1++xo::os2)=some (vs1++.pointer (some ⟨ρ.b k,0,none⟩)::vs2):=pi h3 (by simp only [evl,g1,h5])
 refine de hF hev (c.fn h' (ρ.b k) vs0 vs1 vs2 cz'.t h4 hd0 h6) (.cons hD .nil) hd (fun v h2 Lo hle2 ⟨d',d1,ws,hR,e1,e2,e3⟩=>?_) ac w (s.with hok)
 subst e3
 have czm:=cz'.mono hle2
 have hden:DenO ρ h2 ((k,.whl t d1)::delO o1 k) (.blk (ρ.b k) t ws::L2):=⟨_,L2,rfl,⟨ws,rfl,e2⟩,hr.mono hle2⟩
 exact(kk d' d1 hR).k ρ h2 _ _ (Cz.put (u:=.d d') ⟨czm.t,czm.s,hden⟩ e1 d)
def varO:OE→Option (Nat×List A)
 |.var t cs=>some (t,cs)
 |.whl t d=>match cellsD d with
  |some l=>match aOf l with
   |some cs=>some (t,cs)
   |none=>none
  |none=>none
 |_=>none
theorem varO_ok {ρ:Rho}{h:Part}{t:Nat}{e:OE}{cs:List A}{x:Ent}(hv:varO e=some (t,cs)) (q:DenE ρ h k e x):∃ vs,x=.blk (ρ.b k) t vs∧DenAL ρ h cs vs:=by
 unfold varO at hv
 split at hv
 ·cases hv;exact q
 ·split at hv<;>try (cases hv;done)
  rename_i l hl
  split at hv<;>cases hv
  rename_i hcs
  obtain⟨vs,e1,e2⟩:=q
  obtain⟨ws,e3,e4⟩:=(eo hl).1 e2
  have:vs=ws:=by injection e3 with e3;simpa using congrArg Array.toList e3
  subst this
  exact⟨vs,e1,fY hcs e4⟩
 ·cases hv
theorem Rv {α:Type}(K:Kd α) (kv i e:Nat) {k t:Nat}{c:Code}{ov:OE}{cs cs':List A}(hlk:lkO o kv=some ov) (hv:varO ov=some (t,cs)) (hi:nthG cs i=some (.d (.v (.slice none 0 0)))) (hk:nextK a o=some k) (hs:setG cs i (.row k)=some cs') (hd:delQ o kv=some o1)
 (kk:JD P F c n x a ((kv,.var t cs')::(k,.row e (K.f []))::o1)):JD P F c n x a o:=.mk fun ρ h S L cz=>by
 obtain rfl:=fU hd
 have c':=cz.eqv hk (ρ.eqv_setR k none 0 0)
 obtain⟨y,L2,hD,hE,hr⟩:=c'.o.get hlk
 obtain⟨vs,rfl,hcs⟩:=varO_ok hv hE
 obtain⟨h1,rfl⟩:=oE hs
 obtain⟨v,h2,h3,h4⟩:=hcs.nth hi
 have h5:=(d9 (h:=h)).1 h4
 subst h5
 refine J.own (L':=.row none 0 e K.sz 0 []::L) (fun _ hw=>hw.row_nil e K.sz) (J.ents (.blk ((ρ.setR k none 0 0).b kv) t vs::.row none 0 e K.sz 0 []::L2) (.cons (.there hD) (.cons .here .all)) ?_)
 have hset:vs.set i (.slice none 0 0)=vs:=by
  have hlt:=(List.getElem?_eq_some_iff.1 h2).1
  have hg:vs[i]=.slice none 0 0:=(List.getElem?_eq_some_iff.1 h2).2
  rw [← hg];exact List.set_getElem_self hlt
 have hcs':=hcs.set (x:=.row k) (v:=.slice none 0 0) (i:=i) rfl (by simp [DenA,Rho.setR])
 rw [hset] at hcs'
 have hden:DenO (ρ.setR k none 0 0) h ((kv,.var t (cs.set i (.row k)))::(k,.row e (K.f []))::delO o kv) (.blk ((ρ.setR k none 0 0).b kv) t vs::.row none 0 e K.sz 0 []::L2) :=
  ⟨_,_,rfl,⟨vs,rfl,hcs'⟩,_,_,rfl,⟨[],K.sz,by simp [Rho.setR],K.row.2 ⟨rfl,by simp [Rho.setR],bQ⟩,by simp [Rho.setR]⟩,hr⟩
 exact kk.k (ρ.setR k none 0 0) h S _ ⟨c'.t,c'.s,hden⟩
end
section
variable {P:Program} [Tb P] {F:Fd}{n:PostD}{x:Nat→PostD}{a b Au:List (Nat×A)}{o ob o':List (Nat×OE)}{ops:Array Oper}{rest:List Oper}{base:Nat}{es r:List Ef}{c:Code}
variable {d k v e bytes Fi:Nat}{ty T:TypeId}{pos:String}{af:Array Edge}{xo yo:Operand}{us:List Nat}{d2:D}{os:Array Operand}{ts:Array TypeId}{ds cs:List D}
theorem Obl.app {α:Type}(K:Kd α) {l1 l2:List α}(hk0:keepA us (aR allT b r)=some Au) (hx:evA Au xo=some (.row k)) (hk:lkO (oS ob r) k=some (.row e (K.f l1))) (hy:evA Au yo=some (.d d2)) (hd2:nilD P T d2=K.f l2) (hT:findP (Tb.ap P) T=some (e,K.sz,bytes))
 (hb:(l1.length+l2.length)*bytes≤140737488355328) (hb0:Nat.blt 0 bytes=true) (hd:Nat.blt d F.m=true) :
 Obl P F ops x b ob r (eUpd us d k v (.rowv v e (K.f (l1++l2)))) ⟨some d,.call { callee:=.builtin .append,args:=#[xo,yo],argTypes:=#[T,T] },ty,pos,af,none⟩:=⟨Au,hk0,_,hk,fun n A' O' hA hO hfr hn=>.mk fun ρ h S L cz=>by
 obtain⟨fA,fO⟩:=hfr v rfl
 have cu:=cz.wk hA
 obtain⟨w1,h1,h2⟩:=cd cu hx
 cases h2
 obtain⟨w,h3,h4⟩:=cd cu hy
 have h5:=iB (P:=P) (T:=T) h w h4
 rw [hd2] at h5
 obtain⟨a2,c2,rfl,hR⟩:=K.den.1 h5
 obtain⟨y,L',hD,⟨xs,sz,rfl,hRow,hbig⟩,hr⟩:=cz.o.get hO
 obtain⟨rfl,hn',hc⟩:=K.row.1 hRow
 have:=K.mono
 refine cw (Tb.apt hT) h1 h3 hc hn' hR rfl hD hb hd hb0 (fun aN cN xsN hcN hbN=>?_)
 have w:=ρ.ofk_setR v aN cN (l1++l2).length
 have cf:=cz.fresh w fA fO
 have en:(ρ.setR v aN cN (l1++l2).length).n v=(l1++l2).length:=by simp [Rho.setR]
 have hden:DenO (ρ.setR v aN cN (l1++l2).length) h ((k,.rowv v e (K.f (l1++l2)))::delO O' k) (.row aN cN e K.sz (l1++l2).length xsN::L') :=
  ⟨_,L',rfl,⟨xsN,K.sz,by simp [Rho.setR],by rw [en];exact K.row.2 ⟨rfl,rfl,hcN⟩,by rw [en];exact hbN⟩,hr.fresh w fO.del⟩
 exact a_ ⟨_,_,_,Cz.put (u:=.row v) ⟨cf.t,cf.s,hden⟩ (by simp [Rho.setR,DenA]) d,hn⟩⟩
theorem Obl.callO {α:Type}{K:Kd α}{l:List α}(hk0:keepA us (aR allT b r)=some Au) (ha:argsA P Au os.toList ts.toList=some ds) (cc:FnO P Fi e K ds cs l) (hF:callT P Fi=true) (hd:Nat.blt d F.m=true) :
 Obl P F ops x b ob r (eMk us d k (.recr cs k) (.row e (K.f l))) ⟨some d,.call { callee:=.value (.func Fi),args:=os,argTypes:=ts },ty,pos,af,none⟩:=⟨Au,hk0,fun n A' O' hA fA fO hn=>.mk fun ρ h S L cz=>by
 have cu:=cz.wk hA
 obtain⟨vs,h3,h4⟩:=e_ cu ha
 have:=K.mono
 obtain⟨os⟩:=os
 refine de hF h3 (cc.fn h vs cz.t h4) .nil hd (fun v h2 Lo hle2 ⟨us,a2,c2,xs2,e1,e2,e3,e4,e5⟩=>?_)
 subst e1 e3
 have cf:=(cz.mono hle2).fresh (ρ.ofk_setR k a2 c2 l.length) fA fO
 have en:(ρ.setR k a2 c2 l.length).n k=l.length:=by simp [Rho.setR]
 have hden:DenO (ρ.setR k a2 c2 l.length) h2 ((k,.row e (K.f l))::O') ([.row a2 c2 e K.sz l.length xs2]++L) :=
  ⟨_,L,rfl,⟨xs2,K.sz,by simp [Rho.setR],by rw [en];exact K.row.2 ⟨rfl,rfl,e4⟩,by rw [en];exact e5⟩,cf.o⟩
 exact a_ ⟨_,_,_,Cz.put (u:=.recr cs k) ⟨cf.t,cf.s,hden⟩ ⟨us,by simp [Rho.setR],e2⟩ d,hn⟩⟩
theorem Xap {α:Type}(K:Kd α) {l1 l2:List α}(hk0:keepA (tms [xo,yo]) a=some Au) (hx:evA Au xo=some (.row k)) (hk:lkO o k=some (.row e (K.f l1))) (hy:evA Au yo=some (.d d2)) (hd2:nilD P T d2=K.f l2) (hT:findP (Tb.ap P) T=some (e,K.sz,bytes)) (hv:nextK a o=some v)
 (hb:(l1.length+l2.length)*bytes≤140737488355328) (hb0:Nat.blt 0 bytes=true) (hd:Nat.blt d F.m=true) (hdel:delQ o k=some o')
 (kk:JX P F ops n x b ob base (eUpd (tms [xo,yo]) d k v (.rowv v e (K.f (l1++l2)))::es) rest ((d,.row v)::a) ((k,.rowv v e (K.f (l1++l2)))::o')) :
 JX P F ops n x b ob base es (⟨some d,.call { callee:=.builtin .append,args:=#[xo,yo],argTypes:=#[T,T] },ty,pos,af,none⟩::rest) a o:=by
 obtain rfl:=fU hdel
 exact JX.put (fun ha ho=>⟨Obl.app K (by rw [← ha];exact hk0) hx (by rw [← ho];exact hk) hy hd2 hT hb hb0 hd,by subst ha;rfl,by subst ho;rfl⟩) kk
theorem Xco {α:Type}{K:Kd α}{l:List α}(hk0:keepA (tms os.toList) a=some Au) (ha:argsA P Au os.toList ts.toList=some ds) (cc:FnO P Fi e K ds cs l) (hv:nextK a o=some k)
 (kk:JX P F ops n x b ob base (eMk (tms os.toList) d k (.recr cs k) (.row e (K.f l))::es) rest ((d,.recr cs k)::a) ((k,.row e (K.f l))::o)) (hF:callT P Fi=true:=by kernel_rfl) (hd:Nat.blt d F.m=true:=by rfl) :
 JX P F ops n x b ob base es (⟨some d,.call { callee:=.value (.func Fi),args:=os,argTypes:=ts },ty,pos,af,none⟩::rest) a o :=
 JX.put (fun ha' ho=>⟨Obl.callO (by rw [← ha'];exact hk0) ha cc hF hd,by subst ha';rfl,by subst ho;rfl⟩) kk
end
end
section
set_option maxRecDepth 100000
set_option maxHeartbeats 4000000
theorem ig (n:Nd) (l m:Int):FnD Tryz.prog 44 [.nd n,.i l,.i m] (.b (isSeqB n l m)):=by
 unfold isSeqB
 exact aB Tryz.func44 rfl Tryz.ntmps44 rfl (fun e=>Z)
instance:Cn Tryz.prog 44 (type_of% @ig):=⟨@ig⟩
def isCtxB (n:Nd) (t:Int) (c:Bool):Bool:=decide (n.cls=2)&&decide (n.tag=t)&&(n.cons == c)
theorem f0 (n:Nd) (t:Int) (c:Bool):FnD Tryz.prog 47 [.nd n,.i t,.b c] (.b (isCtxB n t c)):=by
 unfold isCtxB
 exact aB Tryz.func47 rfl Tryz.ntmps47 rfl (fun e=>Z)
instance:Cn Tryz.prog 47 (type_of% @f0):=⟨@f0⟩
theorem coid_d (s:Txt) (hs:s.length≤50000000000):FnD Tryz.prog 68 [.s s] (.tup [.nd (oiN s),.b (oidB s).isSome]):=by
 unfold oiN
 exact aB Tryz.func68 rfl Tryz.ntmps68 rfl (fun e=>Z)
instance:Cn Tryz.prog 68 (type_of% @coid_d):=⟨@coid_d⟩
theorem jj (n:Nd) (hz:n.sz≤1073741824):FnD Tryz.prog 102 [.nd n] (.tup [.s (cOid n).1,.b (cOid n).2]):=by
 have:=c_ n
 unfold cOid
 exact aB Tryz.func102 rfl Tryz.ntmps102 rfl (fun e=>Z)
instance:Cn Tryz.prog 102 (type_of% @jj):=⟨@jj⟩
theorem rg (l:List Nd) (hz:Nd.szL l≤1099511627776):FnD Tryz.prog 24 [.nds l] (.nd (.mk 0 16 true [] l)):=by
 exact aB Tryz.func24 rfl Tryz.ntmps24 rfl (fun e=>Z)
theorem iI (n:Nd) (hz:n.sz≤1073741824):FnD Tryz.prog 126 [.nd n] (.bs n.wr.1):=by
 exact aB Tryz.func126 rfl Tryz.ntmps126 rfl (fun e=>Z)
instance:Cn Tryz.prog 126 (type_of% @iI):=⟨@iI⟩
theorem cid_d (b:Txt):FnD Tryz.prog 149 [.bs b] (.bs b):=by
 exact aB Tryz.func149 rfl Tryz.ntmps149 rfl (fun e=>Z)
instance:Cn Tryz.prog 149 (type_of% @cid_d):=⟨@cid_d⟩
theorem cdeep_go:∀ (m:Nat) (n:Nd),n.rk≤m→n.sz≤1073741824→FnD Tryz.prog 147 [.nd n] (.i n.rk):=by
 intro m
 induction m with
 |zero=>intro n hn;cases n;simp [Nd.rk] at hn
 |succ m ih =>
 intro n hn hz
 obtain⟨c,t,k,bs,ks⟩:=n
 simp only [Nd.rk] at hn
 simp only [Nd.sz] at hz
 have hll:=dD ks
 have hrl:=Nd.rkL_le_szL ks
 refine aB Tryz.func147 rfl Tryz.ntmps147 rfl (fun e=>?_)
 refine W ?_
 refine Lp (γ:=Nat) (fun g=>g≤ks.length) (fun g=>ks.length+1-g) (fun g=>[(3,.d (.i (Nd.rkL (ks.take g):Nat))),(7,.d (.nds ks)),(8,.d (.i (ks.length:Int))),(9,.d (.i (g:Int)))]) (fun _=>[]) 0 z2_ ⟨rfl,rfl,rfl,rfl,trivial⟩ trivial ?_
 intro g hg
 refine W ?_
 refine Ci rfl (fun h=>?_) (fun h=>?_)
 ·have hl:g<ks.length:=by omega
  have hget:ks.getD g (.mk 0 0 false [] [])=ks[g]:=ce hl
  have h1:=Nd.rk_lt (aL hl)
  have h2:ks[g].sz≤Nd.szL ks:=dh (aL hl)
  have h3:=Nd.rkL_le ks (g+1)
  have hk:=ih (ks.getD g (.mk 0 0 false [] [])) (by rw [hget];omega) (by rw [hget];omega)
  refine W ?_
  have e1:((Nd.rkL (ks.take (g+1)):Nat):Int)=max ((Nd.rkL (ks.take g):Nat):Int) ((ks.getD g (.mk 0 0 false [] [])).rk:Int):=by rw [Nd.rkL_take ks g hl,hget];omega
  refine⟨g+1,by omega,by omega,?_,trivial⟩
  show WkA [(3,.d (.i (Nd.rkL (ks.take (g+1)):Nat))),(7,.d (.nds ks)),(8,.d (.i (ks.length:Int))),(9,.d (.i ((g+1:Nat):Int)))] _
  rw [e1]
  exact⟨rfl,rfl,rfl,rfl,trivial⟩
 ·have hge:g=ks.length:=by omega
  subst hge
  rw [List.take_length]
  refine W ?_
  refine Rt rfl rfl ?_
  simp only [resD,Nd.rk];rfl
theorem cdeep_d (n:Nd) (hz:n.sz≤1073741824):FnD Tryz.prog 147 [.nd n] (.i n.rk):=cdeep_go _ n (aD _) hz
instance:Cn Tryz.prog 147 (type_of% @cdeep_d):=⟨@cdeep_d⟩
theorem fJ {l:List Txt}{i:Nat}(h:OrdK l i) (hc:¬ 0<Go.Lib.compareBytes (l.getD i []) (l.getD (i+1) [])):OrdK l (i+1):=fun j hj=>by
 by_cases hji:j=i
 ·subst hji;exact hc
 ·exact h j z2_
theorem ld (l:List Txt) (hl:l.length≤1073741824):FnD Tryz.prog 148 [.sl 1 bE l,.v (.func (.func 149) #[] #[]),.b false] (.b (ordB l)):=by
 refine aB Tryz.func148 rfl Tryz.ntmps148 rfl (fun e=>?_)
 refine W ?_
 refine Lp (γ:=Nat) (fun g=>(g=0∨g+1≤l.length)∧OrdK l g) (fun g=>l.length+1-g) (fun g=>[(0,.d (.sl 1 bE l)),(1,.d (.v (.func (.func 149) #[] #[]))),(2,.d (.b false)),(7,.d (.i ((g:Int)+1)))]) (fun _=>[]) 0 ⟨.inl rfl,fun j hj=>by omega⟩ ⟨rfl,rfl,rfl,rfl,trivial⟩ trivial ?_
 rintro g ⟨hg,ho⟩
 refine W ?_
 refine Ci rfl (fun h=>?_) (fun h=>?_)
 ·refine W ?_
  have hgg:((g:Int)+1-1).toNat=g:=by omega
  refine Bg rfl rfl (fun h2=>?_) (fun h2=>?_)
  ·rw [hgg] at h2
   have hb:ordB l=false:=by
    refine am fun hh=>hh g z2_ h2
   refine W ?_
   refine Rt rfl rfl ?_
   rw [hb];rfl
  rw [hgg] at h2
  refine W ?_
  refine Bg rfl rfl (fun h3=>?_) (fun h3=>?_)
  all_goals
   refine W ?_
   first|exact⟨g+1,by omega,⟨.inr z2_,fJ ho h2⟩,⟨rfl,rfl,rfl,rfl,trivial⟩,trivial⟩|(refine Ci rfl (fun h=>by cases h) (fun _=>?_);refine W ?_;exact⟨g+1,by omega,⟨.inr z2_,fJ ho h2⟩,⟨rfl,rfl,rfl,rfl,trivial⟩,trivial⟩)
 ·have hb:ordB l=true:=an fun j hj=>ho j z2_
  refine W ?_
  refine Rt rfl rfl ?_
  rw [hb];rfl
instance:Cn Tryz.prog 148 (type_of% @ld):=⟨@ld⟩
end
section
set_option maxRecDepth 100000
set_option maxHeartbeats 4000000
theorem szl_rd (B:Nat):∀ (l:List Txt),(∀ v∈l,v.length≤B)→Nd.szL (l.map fun v=>(rdTop v).1)≤l.length*(B+1)
 |[],_=>by simp [Nd.szL]
 |v::r,h=>by
  have h1:=lI v
  have h2:=h v (aF ..)
  have h3:=szl_rd B r (fun w hw=>h w (aI _ hw))
  simp only [List.map_cons,Nd.szL,aA,Nat.add_mul]
  omega
theorem ek (f:Fe) (h1:f.oid.length≤10000000) (h2:f.vals.length≤10000000) (h3:∀ v∈f.vals,v.length≤10000000):FnD Tryz.prog 88 [.st f.enc] (.tup [.nd (fieldN f),.i (fieldE f)]):=by
 have ho:=fh f.oid
 have bad:fnOk f=false→resD [.nd ndZ0,.i 60]=.tup [.nd (fieldN f),.i (fieldE f)]:=fun hb=>by simp [resD,fieldN,fieldE,hb]
 refine aB Tryz.func88 rfl Tryz.ntmps88 rfl (fun e=>?_)
 refine W ?_
 refine Bg rfl rfl (fun g1=>?_) (fun g1=>?_)
 ·refine W ?_
  exact Rt rfl rfl (bad (by simp [fnOk,g1]))
 refine W ?_
 refine Bg rfl rfl (fun g2=>?_) (fun g2=>?_)
 ·refine W ?_
  exact Rt rfl rfl (bad (by simp [fnOk,show ¬ 1≤(f.vals.length:Int) by omega]))
 refine W ?_
 refine Ci rfl (fun g3=>?_) (fun g3=>?_)
 ·refine W ?_
  exact Rt rfl rfl (bad (by simp [fnOk,show ¬ (f.vals.length:Int)≤8 by omega]))
 refine W ?_
 refine Rv kN 3 4 31 rfl rfl rfl rfl rfl rfl ?_
 refine Lp (γ:=Nat) (fun g=>g≤f.vals.length∧(f.vals.take g).all fldV=true) (fun g=>f.vals.length+1-g)
  (fun g=>[(1,.own 0 0),(2,.own 1 0),(4,.own 2 0),(6,.own 3 0),(34,.d (.sl 1 bE f.vals)),(35,.d (.i (f.vals.length:Int))),(36,.d (.i (g:Int)))])
  (fun g=>[(3,.var 31 [.d (.i 0),.d (.i 17),.d (.v (.bool true)),.d (.v (.slice none 0 0)),.row 4]),(4,.row 31 (.nds ((f.vals.take g).map fun v=>(rdTop v).1))),(0,.whl 59 (.st f.enc)),(1,.var 31 [.d (.i 0),.d (.i 0),.d (.b false),.d (.v (.slice none 0 0)),.d (.v (.slice none 0 0))]),(2,.whl 31 (.nd (oiN f.oid)))]) 0 ⟨by omega,rfl⟩ ?_ ?_ ?_
 ·exact⟨rfl,rfl,rfl,rfl,rfl,rfl,rfl,trivial⟩
 ·exact⟨rfl,rfl,rfl,rfl,rfl,trivial⟩
 rintro g ⟨hg,hall⟩
 have hs:=lI (f.vals.getD g default)
 have hml:((f.vals.take g).map fun v=>(rdTop v).1).length≤10000000:=by rw [aK];have:=List.length_take_le' g f.vals;omega
 refine W ?_
 refine Ci rfl (fun h=>?_) (fun h=>?_)
 ·have hl:g<f.vals.length:=by omega
  have hget:f.vals.getD g default=f.vals[g]:=ce hl
  have hvl:=h3 _ (aL hl)
  have hvl2:(f.vals.getD g default).length≤10000000:=by rw [hget];exact hvl
  have hbad:fldV (f.vals.getD g default)=false→fnOk f=false:=fun hb=>by
   have:f.vals.all fldV=false:=by
    rw [List.all_eq_false]
    exact⟨f.vals[g],aL hl,by rw [← hget,hb];simp⟩
   simp [fnOk,this]
  refine W ?_
  refine Bg rfl rfl (fun h4=>?_) (fun h4=>?_)
  ·refine W ?_
   exact Rt rfl rfl (bad (hbad (by unfold fldV;rw [am (p:=(rdTop (f.vals.getD g default)).2.2=0) h4];rfl)))
  refine W ?_
  refine Ci rfl (fun h5=>?_) (fun h5=>?_)
  ·refine W ?_
   exact Rt rfl rfl (bad (hbad (by unfold fldV;rw [am (p:=((rdTop (f.vals.getD g default)).1.rk:Int)≤20) z2_,Bool.and_false])))
  refine W ?_
  have hok:fldV (f.vals.getD g default)=true:=by unfold fldV;rw [an (p:=(rdTop (f.vals.getD g default)).2.2=0) h4,an (p:=((rdTop (f.vals.getD g default)).1.rk:Int)≤20) z2_];rfl
  have e1:(f.vals.take (g+1)).map (fun v=>(rdTop v).1)=(f.vals.take g).map (fun v=>(rdTop v).1)++[(rdTop (f.vals.getD g default)).1]:=by
   rw [av hl,List.map_append,hget];rfl
  have e2:(f.vals.take (g+1)).all fldV=true:=by
   rw [av hl,List.all_append,hall,← hget];simp only [List.all_cons,hok,List.all_nil];rfl
  refine⟨g+1,by omega,⟨by omega,e2⟩,⟨rfl,rfl,rfl,rfl,rfl,rfl,rfl,trivial⟩,?_⟩
  show WkO [(3,.var 31 [.d (.i 0),.d (.i 17),.d (.v (.bool true)),.d (.v (.slice none 0 0)),.row 4]),(4,.row 31 (.nds ((f.vals.take (g+1)).map fun v=>(rdTop v).1))),(0,.whl 59 (.st f.enc)),(1,.var 31 [.d (.i 0),.d (.i 0),.d (.b false),.d (.v (.slice none 0 0)),.d (.v (.slice none 0 0))]),(2,.whl 31 (.nd (oiN f.oid)))] _
  rw [e1]
  exact⟨rfl,rfl,rfl,rfl,rfl,trivial⟩
 ·have hge:g=f.vals.length:=by omega
  subst hge
  rw [List.take_length] at hall
  rw [List.take_length]
  have hsz:=szl_rd 10000000 f.vals h3
  have hsz2:Nd.szL (f.vals.map fun v=>(rdTop v).1)≤8*10000001:=Nat.le_trans hsz (bz _ z2_)
  refine W ?_
  refine Ci rfl (fun h6=>?_) (fun h6=>?_)
  ·refine W ?_
   exact Rt rfl rfl (bad (by simp [fnOk,h6]))
  have hsq:=rg [oiN f.oid,.mk 0 17 true [] (f.vals.map fun v=>(rdTop v).1)] (by simp only [Nd.szL,Nd.sz,bh];omega)
  refine Pb 4 rfl ?_
  refine W ?_
  refine Rt rfl rfl ?_
  have hb:fnOk f=true:=by
   simp only [fnOk,g1,hall,h6,show(1:Int)≤f.vals.length by omega,show(f.vals.length:Int)≤8 by omega,decide_true,Bool.and_true]
  simp only [resD,fieldN,fieldE,hb,if_true,setN]
instance:Cn Tryz.prog 88 (type_of% @ek):=⟨@ek⟩
theorem iN (n:Nd) (hz:n.sz≤100000000):FnD Tryz.prog 104 [.nd n] (.tup [.st (fieldOf n).1.enc,.b (fieldOf n).2]):=by
 have k0:=cO n 0
 have k1:=cO n 1
 have bad:foOk n=false→resD [.st (Fe.enc ⟨[],[]⟩),.b false]=.tup [.st (fieldOf n).1.enc,.b (fieldOf n).2]:=fun hb=>by simp [resD,fieldOf,hb]
 refine aB Tryz.func104 rfl Tryz.ntmps104 rfl (fun e=>?_)
 refine W ?_
 refine Bg rfl rfl (fun g1=>?_) (fun g1=>?_)
 ·refine W ?_
  exact Rt rfl rfl (bad (by simp [foOk,g1]))
 refine W ?_
 refine Ci rfl (fun g2=>?_) (fun g2=>?_)
 ·refine W ?_
  exact Rt rfl rfl (bad (by simp [foOk,g2]))
 refine W ?_
 refine Bg rfl rfl (fun g3=>?_) (fun g3=>?_)
 ·refine W ?_
  exact Rt rfl rfl (bad (by unfold foOk kd;simp only [g3,Bool.and_false,Bool.false_and]))
 refine W ?_
 refine Bg rfl rfl (fun g4=>?_) (fun g4=>?_)
 ·refine W ?_
  exact Rt rfl rfl (bad (by unfold foOk kd;simp only [am g4,Bool.and_false,Bool.false_and]))
 refine W ?_
 refine Bg rfl rfl (fun g5=>?_) (fun g5=>?_)
 ·refine W ?_
  exact Rt rfl rfl (bad (by unfold foOk kd;simp only [am g5,Bool.and_false,Bool.false_and]))
 refine W ?_
 refine Bg rfl rfl (fun g6=>?_) (fun g6=>?_)
 ·refine W ?_
  exact Rt rfl rfl (bad (by unfold foOk kd;simp only [am (p:=1≤((n.kids.getD 1 (.mk 0 0 false [] [])).kids.length:Int)) z2_,Bool.and_false,Bool.false_and]))
 refine W ?_
 refine Ci rfl (fun g7=>?_) (fun g7=>?_)
 ·refine W ?_
  exact Rt rfl rfl (bad (by unfold foOk kd;simp only [am (p:=((n.kids.getD 1 (.mk 0 0 false [] [])).kids.length:Int)≤8) z2_,Bool.and_false,Bool.false_and]))
 refine W ?_
 refine Rv (kS 1 bE) 3 1 25 rfl rfl rfl rfl rfl rfl ?_
 generalize hs:n.kids.getD 1 (.mk 0 0 false [] [])=s at *
 have hkd:kd n 1=s:=hs
 refine Lp (γ:=Nat) (fun g=>g≤s.kids.length∧(s.kids.take g).all fldK=true) (fun g=>s.kids.length+1-g)
  (fun g=>[(2,.own 1 0),(7,.own 3 0),(61,.d (.nds s.kids)),(62,.d (.i (s.kids.length:Int))),(63,.d (.i (g:Int)))])
  (fun g=>[(3,.var 59 [.d (.s (cOid (n.kids.getD 0 (.mk 0 0 false [] []))).1),.row 4]),(4,.row 25 (.sl 1 bE ((s.kids.take g).map (·.wr.1)))),(1,.var 59 [.d (.s []),.d (.v (.slice none 0 0))])]) 0 ⟨by omega,rfl⟩ ?_ ?_ ?_
 ·exact⟨rfl,rfl,rfl,rfl,rfl,trivial⟩
 ·exact⟨rfl,rfl,rfl,trivial⟩
 rintro g ⟨hg,hall⟩
 have k2:=cO s g
 have hml:((s.kids.take g).map (·.wr.1)).length≤10:=by rw [aK];have:=List.length_take_le' g s.kids;omega
 refine W ?_
 refine Ci rfl (fun h=>?_) (fun h=>?_)
 ·have hl:g<s.kids.length:=by omega
  have hget:s.kids.getD g (.mk 0 0 false [] [])=s.kids[g]:=ce hl
  have hbad:fldK (s.kids.getD g (.mk 0 0 false [] []))=false→foOk n=false:=fun hb=>by
   have:s.kids.all fldK=false:=by
    rw [List.all_eq_false]
    exact⟨s.kids[g],aL hl,by rw [← hget,hb];simp⟩
   unfold foOk;rw [hkd,this,Bool.and_false]
  refine W ?_
  refine Bg rfl rfl (fun h4=>?_) (fun h4=>?_)
  ·refine W ?_
   exact Rt rfl rfl (bad (hbad (by unfold fldK;rw [am h4];rfl)))
  refine W ?_
  refine Ci rfl (fun h5=>?_) (fun h5=>?_)
  ·refine W ?_
   exact Rt rfl rfl (bad (hbad (by unfold fldK;rw [am (p:=((s.kids.getD g (.mk 0 0 false [] [])).rk:Int)≤20) z2_,Bool.and_false])))
  refine W ?_
  have hok:fldK (s.kids.getD g (.mk 0 0 false [] []))=true:=by unfold fldK;rw [an h4,an (p:=((s.kids.getD g (.mk 0 0 false [] [])).rk:Int)≤20) z2_];rfl
  have e1:(s.kids.take (g+1)).map (·.wr.1)=(s.kids.take g).map (·.wr.1)++[(s.kids.getD g (.mk 0 0 false [] [])).wr.1]:=by
   rw [av hl,List.map_append,hget];rfl
  have e2:(s.kids.take (g+1)).all fldK=true:=by
   rw [av hl,List.all_append,hall,← hget];simp only [List.all_cons,hok,List.all_nil];rfl
  refine⟨g+1,by omega,⟨by omega,e2⟩,⟨rfl,rfl,rfl,rfl,rfl,trivial⟩,?_⟩
  show WkO [(3,.var 59 [.d (.s (cOid (n.kids.getD 0 (.mk 0 0 false [] []))).1),.row 4]),(4,.row 25 (.sl 1 bE ((s.kids.take (g+1)).map (·.wr.1)))),(1,.var 59 [.d (.s []),.d (.v (.slice none 0 0))])] _
  rw [e1]
  exact⟨rfl,rfl,rfl,trivial⟩
 ·have hge:g=s.kids.length:=by omega
  subst hge
  rw [List.take_length] at hall
  rw [List.take_length]
  refine Pb 4 rfl ?_
  refine W ?_
  refine Rt rfl rfl ?_
  have hb:foOk n=true:=by
   unfold foOk
   rw [hkd,g1,g2.1,show(cOid (kd n 0)).2=true from g3,an g4,an g5,an (p:=1≤(s.kids.length:Int)) z2_,an (p:=(s.kids.length:Int)≤8) z2_,hall];rfl
  simp only [resD,fieldOf,hb,if_true,hkd];rfl
instance:Cn Tryz.prog 104 (type_of% @iN):=⟨@iN⟩
end
section
set_option maxRecDepth 100000
set_option maxHeartbeats 4000000
theorem kX:∀ (p q:Txt),Go.Op.bytesLess p q=belowB p q
 |_,[]=>by simp [Go.Op.bytesLess,belowB]
 |[],_::_=>by simp [Go.Op.bytesLess,belowB]
 |a::x,b::y=>by
  simp only [Go.Op.bytesLess,belowB,kX x y]
  by_cases h:a=b
  ·subst h;simp
  ·simp [h]
theorem below_d (p q:Txt):FnD Tryz.prog 152 [.bs p,.bs q] (.b (decide (0<Go.Lib.compareBytes q p))):=by
 rw [← ij,← kX]
 exact aB Tryz.func152 rfl Tryz.ntmps152 rfl (fun e=>Z)
instance:Cn Tryz.prog 152 (type_of% @below_d):=⟨@below_d⟩
theorem qj (s:Txt) (hs:s.length≤1000000000):FnD Tryz.prog 157 [.s s] (.b (oidB s).isSome):=by
 exact aB Tryz.func157 rfl Tryz.ntmps157 rfl (fun e=>Z)
instance:Cn Tryz.prog 157 (type_of% @qj):=⟨@qj⟩
def kdI (n:Nd) (i:Int):Nd:=if i<0∨(n.kids.length:Int)≤i then .mk 0 0 false [] [] else n.kids.getD i.toNat (.mk 0 0 false [] [])
theorem kid_d (n:Nd) (i:Int):FnD Tryz.prog 50 [.nd n,.i i] (.nd (kdI n i)):=by
 unfold kdI
 exact aB Tryz.func50 rfl Tryz.ntmps50 rfl (fun e=>Z)
instance:Cn Tryz.prog 50 (type_of% @kid_d):=⟨@kid_d⟩
theorem mR (n:Nd) (hz:n.sz≤10000000):FnD Tryz.prog 54 [.nd n] (.s ((oidT n.bytes).getD [])):=by
 have:=c_ n
 exact aB Tryz.func54 rfl Tryz.ntmps54 rfl (fun e=>Z)
instance:Cn Tryz.prog 54 (type_of% @mR):=⟨@mR⟩
theorem seq2_d (x y:Nd):FnD Tryz.prog 35 [.nd x,.nd y] (.nd (.mk 0 16 true [] [x,y])):=by
 exact aB Tryz.func35 rfl Tryz.ntmps35 rfl (fun e=>Z)
instance:Cn Tryz.prog 35 (type_of% @seq2_d):=⟨@seq2_d⟩
theorem eh (f:Fe) (h1:f.oid.length≤1000000) (h2:f.vals.length≤1000000) (h3:∀ v∈f.vals,v.length≤1000000):FnD Tryz.prog 97 [.st f.enc] (.tup [.nd (fieldN f),.i (fieldE f)]):=by
 have bad:fnOk f=false→resD [.nd ndZ0,.i 60]=.tup [.nd (fieldN f),.i (fieldE f)]:=fun hb=>by simp [resD,fieldN,fieldE,hb]
 refine aB Tryz.func97 rfl Tryz.ntmps97 rfl (fun e=>?_)
 refine W ?_
 refine Bg rfl rfl (fun g1=>?_) (fun g1=>?_)
 ·refine W ?_
  exact Rt rfl rfl (bad (by simp [fnOk,g1]))
 refine W ?_
 refine Bg rfl rfl (fun g2=>?_) (fun g2=>?_)
 ·refine W ?_
  exact Rt rfl rfl (bad (by simp [fnOk,show ¬ 1≤(f.vals.length:Int) by omega]))
 refine W ?_
 refine Ci rfl (fun g3=>?_) (fun g3=>?_)
 ·refine W ?_
  exact Rt rfl rfl (bad (by simp [fnOk,show ¬ (f.vals.length:Int)≤8 by omega]))
 refine W ?_
 refine Rn kN 4 31 rfl rfl ?_
 refine Lp (γ:=Nat) (fun g=>g≤f.vals.length∧(f.vals.take g).all fldV=true∧OrdK f.vals (g-1)) (fun g=>f.vals.length+1-g)
  (fun g=>[(1,.own 0 0),(2,.own 1 0),(4,.row 2),(5,.d (.i (g:Int)))])
  (fun g=>[(2,.row 31 (.nds ((f.vals.take g).map fun v=>(rdTop v).1))),(0,.whl 59 (.st f.enc)),(1,.var 31 [.d (.i 0),.d (.i 0),.d (.b false),.d (.v (.slice none 0 0)),.d (.v (.slice none 0 0))])]) 0 ⟨by omega,rfl,fun j hj=>by omega⟩ ?_ ?_ ?_
 ·exact⟨rfl,rfl,rfl,rfl,trivial⟩
 ·exact⟨rfl,rfl,rfl,trivial⟩
 rintro g ⟨hg,hall,hord⟩
 have hs:=lI (f.vals.getD g default)
 have hml:((f.vals.take g).map fun v=>(rdTop v).1).length≤10000000:=by rw [aK];have:=List.length_take_le' g f.vals;omega
 refine W ?_
 refine Ci rfl (fun h=>?_) (fun h=>?_)
 ·have hl:g<f.vals.length:=by omega
  have hget:f.vals.getD g default=f.vals[g]:=ce hl
  have hvl:=h3 _ (aL hl)
  have hvl2:(f.vals.getD g default).length≤1000000:=by rw [hget];exact hvl
  have hbad:fldV (f.vals.getD g default)=false→fnOk f=false:=fun hb=>by
   have:f.vals.all fldV=false:=by
    rw [List.all_eq_false]
    exact⟨f.vals[g],aL hl,by rw [← hget,hb];simp⟩
   simp [fnOk,this]
  refine W ?_
  refine BXl 44 rfl (fun hc h4=>?_) (fun hc h4=>?_)
  ·rw [hc]
   refine W ?_
   exact Rt rfl rfl (bad (hbad (by unfold fldV;rw [am (p:=(rdTop (f.vals.getD g default)).2.2=0) h4];rfl)))
  rw [hc]
  clear hc
  refine W ?_
  refine BXl 49 rfl (fun hc h5=>?_) (fun hc h5=>?_)
  ·rw [hc]
   refine W ?_
   exact Rt rfl rfl (bad (hbad (by unfold fldV;rw [am (p:=((rdTop (f.vals.getD g default)).1.rk:Int)≤20) z2_,Bool.and_false])))
  rw [hc]
  clear hc
  refine W ?_
  have hok:fldV (f.vals.getD g default)=true:=by unfold fldV;rw [an (p:=(rdTop (f.vals.getD g default)).2.2=0) h4,an (p:=((rdTop (f.vals.getD g default)).1.rk:Int)≤20) z2_];rfl
  have e1:(f.vals.take (g+1)).map (fun v=>(rdTop v).1)=(f.vals.take g).map (fun v=>(rdTop v).1)++[(rdTop (f.vals.getD g default)).1]:=by
   rw [av hl,List.map_append,hget];rfl
  have e2:(f.vals.take (g+1)).all fldV=true:=by
   rw [av hl,List.all_append,hall,← hget];simp only [List.all_cons,hok,List.all_nil];rfl
  refine BXl 52 rfl (fun hc h6=>?_) (fun hc h6=>?_)
  ·rw [hc]
   clear hc
   have hgg:((g:Int)-1).toNat=g-1:=by omega
   have hg1:g-1+1=g:=by omega
   refine W ?_
   refine Ci rfl (fun h7=>?_) (fun h7=>?_)
   ·rw [hgg] at h7
    refine W ?_
    exact Rt rfl rfl (bad (by
     have:ordB f.vals=false:=am fun hh=>hh (g-1) z2_ (by rw [hg1];exact h7)
     simp [fnOk,this]))
   ·rw [hgg] at h7
    refine W ?_
    refine⟨g+1,by omega,⟨by omega,e2,?_⟩,⟨rfl,rfl,rfl,rfl,trivial⟩,?_⟩
    ·have:=fJ hord (by rw [hg1];exact h7)
     rw [hg1] at this
     exact this
    show WkO [(2,.row 31 (.nds ((f.vals.take (g+1)).map fun v=>(rdTop v).1))),(0,.whl 59 (.st f.enc)),(1,.var 31 [.d (.i 0),.d (.i 0),.d (.b false),.d (.v (.slice none 0 0)),.d (.v (.slice none 0 0))])] _
    rw [e1]
    exact⟨rfl,rfl,rfl,trivial⟩
  ·rw [hc]
   clear hc
   refine W ?_
   refine⟨g+1,by omega,⟨by omega,e2,fun j hj=>by omega⟩,⟨rfl,rfl,rfl,rfl,trivial⟩,?_⟩
   show WkO [(2,.row 31 (.nds ((f.vals.take (g+1)).map fun v=>(rdTop v).1))),(0,.whl 59 (.st f.enc)),(1,.var 31 [.d (.i 0),.d (.i 0),.d (.b false),.d (.v (.slice none 0 0)),.d (.v (.slice none 0 0))])] _
   rw [e1]
   exact⟨rfl,rfl,rfl,trivial⟩
 ·have hge:g=f.vals.length:=by omega
  subst hge
  rw [List.take_length] at hall
  rw [List.take_length]
  refine Pb 2 rfl ?_
  refine W ?_
  refine Rt rfl rfl ?_
  have hb:fnOk f=true:=by
   simp only [fnOk,g1,hall,show(1:Int)≤f.vals.length by omega,show(f.vals.length:Int)≤8 by omega,decide_true,Bool.and_true,Bool.true_and]
   exact an hord
  simp only [resD,fieldN,fieldE,hb,if_true,setN]
instance:Cn Tryz.prog 97 (type_of% @eh):=⟨@eh⟩
end
section
set_option maxRecDepth 100000
set_option maxHeartbeats 4000000
theorem dT (n:Nd) (i:Nat):kdI n (i:Int)=kd n i:=by
 unfold kdI kd
 split
 ·rw [bg,bL z2_];rfl
 ·rfl
theorem jJ (n:Nd):(n.put.getD []).length≤8*n.sz:=by
 cases h:n.put with
 |none=>simp
 |some b=>exact(Nd.put_len _ n b (aD _) h).2
theorem iw (n:Nd) (hz:n.sz≤20000):FnD Tryz.prog 111 [.nd n] (.tup [.st (fieldOfR n).1.enc,.b (fieldOfR n).2]):=by
 have e0:kdI n 0=kd n 0:=dT n 0
 have e1:kdI n 1=kd n 1:=dT n 1
 have k0:(kd n 0).sz≤n.sz:=cO n 0
 have k1:(kd n 1).sz≤n.sz:=cO n 1
 rw [← e0] at k0
 refine aB Tryz.func111 rfl Tryz.ntmps111 rfl (fun e=>?_)
 refine W ?_
 refine Rv (kS 1 bE) 2 1 25 rfl rfl rfl rfl rfl rfl ?_
 rw [e0,e1]
 rw [e0] at k0
 have hR:fR n=⟨(oidT (kd n 0).bytes).getD [],((kd n 1).kids.take 10).map fun k=>k.put.getD []⟩:=rfl
 have ol:=jc (kd n 0).bytes
 have kb:=c_ (kd n 0)
 have hc:fnOk (fR n)=true∨fnOk (fR n)=false:=by cases fnOk (fR n)<;>simp
 generalize hs:kd n 1=s at *
 generalize ho:(oidT (kd n 0).bytes).getD []=ot at *
 have hvl:∀ v∈(s.kids.take 10).map (fun k=>k.put.getD []),v.length≤1000000:=fun v hv=>by
  obtain⟨k,hk,rfl⟩:=List.mem_map.1 hv
  have h1:=jJ k
  have h2:k.sz≤s.sz:=by
   have:=dh (List.mem_of_mem_take hk)
   cases s;simp only [Nd.kids,Nd.sz] at this ⊢;omega
  omega
 have hvn:((s.kids.take 10).map (fun k=>k.put.getD [])).length≤10:=by rw [aK];exact List.length_take_le ..
 refine Lp (γ:=Nat) (fun g=>g≤s.kids.length∧g≤10) (fun g=>20-g)
  (fun g=>[(1,.own 0 0),(2,.own 1 0),(4,.own 2 0),(5,.d (.nds s.kids)),(6,.d (.i (g:Int)))])
  (fun g=>[(2,.var 59 [.d (.s ot),.row 3]),(3,.row 25 (.sl 1 bE ((s.kids.take g).map fun k=>k.put.getD []))),(1,.var 59 [.d (.s []),.d (.v (.slice none 0 0))]),(0,.whl 31 (.nd n))]) 0 ⟨by omega,by omega⟩ ?_ ?_ ?_
 ·exact⟨rfl,rfl,rfl,rfl,rfl,trivial⟩
 ·exact⟨rfl,rfl,rfl,rfl,trivial⟩
 rintro g ⟨hg,hg10⟩
 have k2:=cO s g
 have hml:((s.kids.take g).map (fun k=>k.put.getD [])).length≤10:=by rw [aK];have:=List.length_take_le g s.kids;omega
 have hcall:FnD Tryz.prog 97 [.st (Fe.enc ⟨ot,(s.kids.take 10).map fun k=>k.put.getD []⟩)] (.tup [.nd (fieldN (fR n)),.i (fieldE (fR n))]):=by
  have h1:=eh (fR n) (by rw [hR];show ot.length≤_;omega) (by rw [hR];exact Nat.le_trans hvn z2_) (by rw [hR];exact hvl)
  rw [← hR];exact h1
 have bad:(decide (fieldE (fR n)=0)&&(fieldN (fR n)).beq n)=false→resD [.st (Fe.enc ⟨[],[]⟩),.b false]=.tup [.st (fieldOfR n).1.enc,.b (fieldOfR n).2]:=fun hb=>by
  simp only [fieldOfR,hb];rfl
 refine W ?_
 refine Bg rfl rfl (fun h=>?_) (fun h=>?_)
 ·refine W ?_
  refine Ci rfl (fun h2=>?_) (fun h2=>?_)
  ·have hl:g<s.kids.length:=by omega
   have hget:s.kids.getD g (.mk 0 0 false [] [])=s.kids[g]:=ce hl
   refine W ?_
   have e3:(s.kids.take (g+1)).map (fun k=>k.put.getD [])=(s.kids.take g).map (fun k=>k.put.getD [])++[(s.kids.getD g (.mk 0 0 false [] [])).put.getD []]:=by
    rw [av hl,List.map_append,hget];rfl
   refine⟨g+1,by omega,⟨by omega,by omega⟩,⟨rfl,rfl,rfl,rfl,rfl,trivial⟩,?_⟩
   show WkO [(2,.var 59 [.d (.s ot),.row 3]),(3,.row 25 (.sl 1 bE ((s.kids.take (g+1)).map fun k=>k.put.getD []))),(1,.var 59 [.d (.s []),.d (.v (.slice none 0 0))]),(0,.whl 31 (.nd n))] _
   rw [e3]
   exact⟨rfl,rfl,rfl,rfl,trivial⟩
  ·have hT:s.kids.take g=s.kids.take 10:=by rw [show g=10 by omega]
   rw [hT]
   refine W ?_
   refine Pl 3 rfl ?_
   refine W ?_
   refine Bg rfl rfl (fun q1=>?_) (fun q1=>?_)
   ·refine W ?_
    exact Rt rfl rfl (bad (by rw [am q1];rfl))
   refine W ?_
   refine Ci rfl (fun q2=>?_) (fun q2=>?_)
   ·refine W ?_
    exact Rt rfl rfl (bad (by rw [q2,Bool.and_false]))
   refine W ?_
   refine Rt rfl rfl ?_
   have hb:(decide (fieldE (fR n)=0)&&(fieldN (fR n)).beq n)=true:=by rw [an q1,q2];rfl
   simp only [resD,fieldOfR,hb,if_true]
   rw [hR];rfl
 ·have hT:s.kids.take g=s.kids.take 10:=by rw [show g=s.kids.length by omega,List.take_length,aJ z2_]
  rw [hT]
  refine W ?_
  refine Pl 3 rfl ?_
  refine W ?_
  refine Bg rfl rfl (fun q1=>?_) (fun q1=>?_)
  ·refine W ?_
   exact Rt rfl rfl (bad (by rw [am q1];rfl))
  refine W ?_
  refine Ci rfl (fun q2=>?_) (fun q2=>?_)
  ·refine W ?_
   exact Rt rfl rfl (bad (by rw [q2,Bool.and_false]))
  refine W ?_
  refine Rt rfl rfl ?_
  have hb:(decide (fieldE (fR n)=0)&&(fieldN (fR n)).beq n)=true:=by rw [an q1,q2];rfl
  simp only [resD,fieldOfR,hb,if_true]
  rw [hR];rfl
instance:Cn Tryz.prog 111 (type_of% @iw):=⟨@iw⟩
end
section
set_option maxRecDepth 100000
set_option maxHeartbeats 4000000
theorem kz {α:Type}{a b:List α}{g:Nat}{z:α}(h:a.take g=b.take g) (ha:g<a.length) (hb:g<b.length) (he:a.getD g z=b.getD g z):a.take (g+1)=b.take (g+1):=by
 rw [ce ha,ce hb] at he
 rw [av ha,av hb,h,he]
theorem getD_ne {α:Type}{a b:List α}{g:Nat}{z:α}(he:¬ a.getD g z=b.getD g z):a≠b:=fun h=>he (by rw [h])
theorem iU (a b:List Txt) (ha:a.length≤1000000000000):FnD Tryz.prog 114 [.sl 1 bE a,.sl 1 bE b] (.b (decide (a=b))):=by
 refine aB Tryz.func114 rfl Tryz.ntmps114 rfl (fun e=>?_)
 refine W ?_
 refine Ci rfl (fun h=>?_) (fun h=>?_)
 ·refine W ?_
  refine Rt rfl rfl ?_
  rw [am (fun hh=>by rw [hh] at h;exact h rfl)];rfl
 refine W ?_
 refine Lp (γ:=Nat) (fun g=>g≤a.length∧a.take g=b.take g) (fun g=>a.length+1-g) (fun g=>[(0,.d (.sl 1 bE a)),(1,.d (.sl 1 bE b)),(5,.d (.i (g:Int)))]) (fun _=>[]) 0 ⟨by omega,rfl⟩ ⟨rfl,rfl,rfl,trivial⟩ trivial ?_
 rintro g ⟨hg,ht⟩
 refine W ?_
 refine Ci rfl (fun h2=>?_) (fun h2=>?_)
 ·refine W ?_
  refine Ci rfl (fun h3=>?_) (fun h3=>?_)
  ·refine W ?_
   refine Rt rfl rfl ?_
   rw [am (getD_ne h3)];rfl
  ·refine W ?_
   exact⟨g+1,by omega,⟨by omega,kz ht z2_ z2_ h3⟩,⟨rfl,rfl,rfl,trivial⟩,trivial⟩
 ·refine W ?_
  refine Rt rfl rfl ?_
  rw [an (by rw [aJ z2_,aJ z2_] at ht;exact ht)];rfl
instance:Cn Tryz.prog 114 (type_of% @iU):=⟨@iU⟩
instance:DecidableEq Fe:=fun a b=>decidable_of_iff (a.oid=b.oid∧a.vals=b.vals) (by cases a;cases b;simp)
theorem eR (a b:List Fe) (ha:a.length≤1000000000000) (hv:∀ f∈a,f.vals.length≤1000000000000):FnD Tryz.prog 58 [.sl 2 Fe.enc a,.sl 2 Fe.enc b] (.b (decide (a=b))):=by
 refine aB Tryz.func58 rfl Tryz.ntmps58 rfl (fun e=>?_)
 refine W ?_
 refine Ci rfl (fun h=>?_) (fun h=>?_)
 ·refine W ?_
  refine Rt rfl rfl ?_
  rw [am (fun hh=>by rw [hh] at h;exact h rfl)];rfl
 refine W ?_
 refine Lp (γ:=Nat) (fun g=>g≤a.length∧a.take g=b.take g) (fun g=>a.length+1-g) (fun g=>[(0,.d (.sl 2 Fe.enc a)),(1,.d (.sl 2 Fe.enc b)),(5,.d (.i (g:Int)))]) (fun _=>[]) 0 ⟨by omega,rfl⟩ ⟨rfl,rfl,rfl,trivial⟩ trivial ?_
 rintro g ⟨hg,ht⟩
 refine W ?_
 refine Ci rfl (fun h2=>?_) (fun h2=>?_)
 ·have hvg:(a.getD g default).vals.length≤1000000000000:=by rw [ce (show g<a.length by omega)];exact hv _ (aL _)
  refine W ?_
  refine BXl 28 rfl (fun hc h3=>?_) (fun hc h3=>?_)
  ·rw [hc]
   refine W ?_
   refine Rt rfl rfl ?_
   rw [am (fun hh=>h3 (by rw [hh]))];rfl
  rw [hc]
  clear hc
  refine W ?_
  refine Ci rfl (fun h4=>?_) (fun h4=>?_)
  ·refine W ?_
   refine Rt rfl rfl ?_
   rw [am (fun hh=>by rw [hh] at h4;simp at h4)];rfl
  ·refine W ?_
   refine⟨g+1,by omega,⟨by omega,kz (z:=default) ht z2_ z2_ ?_⟩,⟨rfl,rfl,rfl,trivial⟩,trivial⟩
   generalize a.getD g default=x at *
   generalize b.getD g default=y at *
   cases x;cases y;simp_all
 ·refine W ?_
  refine Rt rfl rfl ?_
  rw [an (by rw [aJ z2_,aJ z2_] at ht;exact ht)];rfl
instance:Cn Tryz.prog 58 (type_of% @eR):=⟨@eR⟩
end
section
set_option maxRecDepth 100000
set_option maxHeartbeats 4000000
def fvM (m:Int):List Txt→Int→Int
 |[],n=>n
 |v::r,n=>if n≤m then fvM m r (n+1+v.length) else n
def fsM (m:Int):List Fe→Int→Int
 |[],n=>n
 |f::r,n=>if n≤m then fsM m r (fvM m f.vals (n+1+f.oid.length)) else n
theorem fvM_stop (m n:Int) (h:m<n):∀ l,fvM m l n=n
 |[]=>rfl
 |_::_=>if_neg z2_
theorem qR (m n:Int) (h:m<n):∀ l,fsM m l n=n
 |[]=>rfl
 |_::_=>if_neg z2_
def FeB (f:Fe):Prop:=f.oid.length≤140737488355328∧f.vals.length≤140737488355328∧∀ v∈f.vals,v.length≤140737488355328
theorem eY (l:List Fe) (m:Int) (h0:0≤m) (h1:m≤1000000000000) (hl:l.length≤140737488355328) (hB:∀ f∈l,FeB f):FnD Tryz.prog 61 [.sl 2 Fe.enc l,.i m] (.i (fsM m l 0)):=by
 refine aB Tryz.func61 rfl Tryz.ntmps61 rfl (fun e=>?_)
 refine W ?_
 refine Lp (γ:=Nat×Int) (fun g=>g.1≤l.length∧0≤g.2∧g.2≤m+1+140737488355328∧fsM m l 0=fsM m (l.drop g.1) g.2) (fun g=>l.length+1-g.1) (fun g=>[(0,.d (.sl 2 Fe.enc l)),(1,.d (.i m)),(5,.d (.i g.2)),(6,.d (.i (g.1:Int)))]) (fun _=>[]) (0,0) ⟨by simp,by simp,by simp only;omega,rfl⟩ ⟨rfl,rfl,rfl,rfl,trivial⟩ trivial ?_
 rintro⟨g,n⟩ ⟨i0,i1,i2,i3⟩
 dsimp only at i0 i1 i2 i3
 show JD _ _ _ _ _ [(0,.d (.sl 2 Fe.enc l)),(1,.d (.i m)),(5,.d (.i n)),(6,.d (.i (g:Int)))] []
 have fin:m<n∨g=l.length→resD [.i n]=.i (fsM m l 0):=fun h=>by
  rw [i3]
  rcases h with h|h
  ·rw [qR m n h];rfl
  ·rw [h,List.drop_length];rfl
 refine W ?_
 refine Bg rfl rfl (fun h=>?_) (fun h=>?_)
 ·have hlt:g<l.length:=by omega
  obtain⟨b1,b2,b3⟩:=hB _ (aL hlt)
  rw [← ce (z:=default) hlt] at b1 b2 b3
  have hdr:l.drop g=l.getD g default::l.drop (g+1):=by rw [aT hlt,ce hlt]
  refine W ?_
  refine Ci rfl (fun h2=>?_) (fun h2=>?_)
  ·rw [hdr] at i3
   simp only [fsM,if_pos h2] at i3
   refine W ?_
   refine Lp (γ:=Nat×Int) (fun k=>k.1≤(l.getD g default).vals.length∧0≤k.2∧k.2≤m+1+140737488355328∧fvM m (l.getD g default).vals (n+1+(l.getD g default).oid.length)=fvM m ((l.getD g default).vals.drop k.1) k.2) (fun k=>(l.getD g default).vals.length+1-k.1) (fun k=>[(0,.d (.sl 2 Fe.enc l)),(1,.d (.i m)),(5,.d (.i k.2)),(6,.d (.i (g:Int))),(7,.d (.i (k.1:Int)))]) (fun _=>[]) (0,n+1+(l.getD g default).oid.length) ⟨by simp,by simp only;omega,by simp only;omega,rfl⟩ ⟨rfl,rfl,rfl,rfl,rfl,trivial⟩ trivial ?_
   rintro⟨k,q⟩ ⟨j0,j1,j2,j3⟩
   dsimp only at j0 j1 j2 j3
   show JD _ _ _ _ _ [(0,.d (.sl 2 Fe.enc l)),(1,.d (.i m)),(5,.d (.i q)),(6,.d (.i (g:Int))),(7,.d (.i (k:Int)))] []
   have nx:m<q∨k=(l.getD g default).vals.length→fsM m l 0=fsM m (l.drop (g+1)) q:=fun h=>by
    rw [i3,j3]
    rcases h with h|h
    ·rw [fvM_stop m q h]
    ·rw [h,List.drop_length];rfl
   refine W ?_
   refine Bg rfl rfl (fun h3=>?_) (fun h3=>?_)
   ·have hlk:k<(l.getD g default).vals.length:=by omega
    have c1:=b3 _ (aL hlk)
    rw [← ce (z:=default) hlk] at c1
    have hdk:(l.getD g default).vals.drop k=(l.getD g default).vals.getD k default::(l.getD g default).vals.drop (k+1):=by rw [aT hlk,ce hlk]
    refine W ?_
    refine Ci rfl (fun h4=>?_) (fun h4=>?_)
    ·rw [hdk] at j3
     simp only [fvM,if_pos h4] at j3
     refine W ?_
     exact⟨(k+1,q+1+((l.getD g default).vals.getD k default).length),by simp only;omega,⟨by simp only;omega,by simp only;omega,by simp only;omega,j3⟩,⟨rfl,rfl,rfl,rfl,rfl,trivial⟩,trivial⟩
    ·refine W ?_
     exact⟨(g+1,q),by simp only;omega,⟨by simp only;omega,j1,j2,nx (.inl z2_)⟩,⟨rfl,rfl,rfl,rfl,trivial⟩,trivial⟩
   ·refine W ?_
    exact⟨(g+1,q),by simp only;omega,⟨by simp only;omega,j1,j2,nx (.inr z2_)⟩,⟨rfl,rfl,rfl,rfl,trivial⟩,trivial⟩
  ·refine W ?_
   exact Rt rfl rfl (fin (.inl z2_))
 ·refine W ?_
  exact Rt rfl rfl (fin (.inr z2_))
instance:Cn Tryz.prog 61 (type_of% @eY):=⟨@eY⟩
def wideB (n:Nd):Bool:=decide (8000<n.szM 8000)||decide (40<(n.rk:Int))
theorem wide_sz {n:Nd}(hb:n.okB) (h:¬ 8000<n.szM 8000):n.sz≤8000:=by
 obtain⟨_,_,h3,_⟩:=Nd.szM_bd _ n 8000 (aD _) hb z2_
 have:=h3 z2_
 omega
theorem wide_d (n:Nd) (hb:n.okB):FnD Tryz.prog 5 [.nd n] (.b (wideB n)):=by
 unfold wideB
 refine aB Tryz.func5 rfl Tryz.ntmps5 rfl (fun e=>?_)
 refine W ?_
 refine Bg rfl rfl (fun h=>?_) (fun h=>?_)
 ·exact Z
 ·have:=wide_sz hb h
  exact Z
instance:Cn Tryz.prog 5 (type_of% @wide_d):=⟨@wide_d⟩
end
section
open Go Go.RowKit Go.ChangeShapes Go.WideShapes Go.Lib Go.ChangeAt
set_option maxRecDepth 100000
section
variable {H:Type}{enc:TypeId×Value→H}{W:World}{base:Nat}{v:Value}{d:DataW H}{ps:List MemPlace}
theorem pK:0<Tryz.prog.bytesOf 59:=by rw [show Tryz.prog.bytesOf 59=40 by kernel_rfl];decide
theorem n5 (n:Nat):Opens Tryz.prog (n+1) 26 (slR (fun h cs f=>encR Fe.enc h cs f∧f.oid.length≤140737488355328∧f.vals.length≤140737488355328∧∀ v∈f.vals,v.length≤140737488355328) 2) 1 (fun l=>(l.map fun _=>0).sum+1):=dQ Tryz.underlying26 k_ bJ pK (opens_fe n)
end
end
section
set_option maxRecDepth 100000
set_option maxHeartbeats 4000000
def lastK (n:Nd):Nd:=n.kids.getD ((n.kids.length:Int)-1).toNat (.mk 0 0 false [] [])
def extOf (n:Nd):Xt×Bool :=
 if isSeqB n 2 3&&!decide (0<(n.bytes.length:Int))&&(oidOf (kd n 0)).2&&isB (lastK n) 4&&!decide (2000<((lastK n).bytes.length:Int))&&(!decide ((n.kids.length:Int)=3)||(isB (kd n 1) 1&&decide ((((kd n 1).bytes.getD 0 0).toNat:Int)=255))) then
  (⟨(oidOf (kd n 0)).1,decide ((n.kids.length:Int)=3),(lastK n).bytes⟩,true) else(⟨[],false,[]⟩,false)
theorem extof_d (n:Nd) (hz:n.sz≤1073741824) (hk:n.kids.length≤1073741824):FnD Tryz.prog 246 [.nd n] (.tup [.st (Xt.enc (extOf n).1),.b (extOf n).2]):=by
 have k0:=cO n 0
 have k1:=cO n 1
 have k2:=cO n ((n.kids.length:Int)-1).toNat
 have kb:=c_ (n.kids.getD ((n.kids.length:Int)-1).toNat (.mk 0 0 false [] []))
 unfold extOf kd lastK
 exact aB Tryz.func246 rfl Tryz.ntmps246 rfl (fun e=>Z)
instance:Cn Tryz.prog 246 (type_of% @extof_d):=⟨@extof_d⟩
def algOf (n:Nd):Int :=
 if isSeqB n 2 2&&isB (kd n 1) 5&&n.put.isSome then(if algO 256=(oidOf (kd n 0)).1 then 256 else if algO 384=(oidOf (kd n 0)).1 then 384 else if algO 512=(oidOf (kd n 0)).1 then 512 else 0) else 0
theorem algof_d (n:Nd) (hz:n.sz≤1073741824):FnD Tryz.prog 49 [.nd n] (.i (algOf n)):=by
 have k0:=cO n 0
 have k1:=cO n 1
 unfold algOf kd
 refine aB Tryz.func49 rfl Tryz.ntmps49 rfl (fun e=>?_)
 refine W ?_
 refine Bg rfl rfl (fun _=>?_) (fun _=>?_)
 ·exact Z
 refine W ?_
 refine Bg rfl rfl (fun _=>?_) (fun _=>?_)
 ·exact Z
 refine W ?_
 refine Ci rfl (fun _=>?_) (fun _=>?_)
 ·exact Z
 refine W ?_
 refine bi (St1.bAr (zs:=List.replicate 3 (.int .i64 0)) cY rfl rfl rfl rfl rfl) ?_
 refine W ?_
 refine Lp (fun g:Nat=>g≤3∧(1≤g→¬ algO 256=(oidOf (kd n 0)).1)∧(2≤g→¬ algO 384=(oidOf (kd n 0)).1)∧(3≤g→¬ algO 512=(oidOf (kd n 0)).1)) (fun g=>4-g)
  (fun g=>[(2,.d (.i 0)),(3,.d (.s (oidOf (kd n 0)).1)),(31,.d (.st [.i 256,.i 384,.i 512])),(32,.d (.i (g:Int)))]) (fun _=>[]) 0 ⟨by omega,by omega,by omega,by omega⟩ ⟨rfl,rfl,rfl,rfl,trivial⟩ trivial ?_
 rintro g ⟨h0,h1,h2,h3⟩
 unfold kd at h1 h2 h3
 unfold kd
 obtain rfl|rfl|rfl|rfl:g=0∨g=1∨g=2∨g=3:=by omega
 ·refine W ?_
  refine bi (St1.ixAr (len:=3) 0 cY rfl rfl rfl rfl rfl rfl rfl) ?_
  refine W ?_
  refine Ci rfl (fun _=>?_) (fun _=>?_)
  ·exact Z
  refine W ?_
  exact⟨1,by omega,⟨by omega,fun _=>by first|assumption|exact h1 z2_,fun _=>by first|omega|assumption|exact h2 z2_,fun _=>by first|omega|assumption⟩,⟨rfl,rfl,rfl,rfl,trivial⟩,trivial⟩
 ·refine W ?_
  refine bi (St1.ixAr (len:=3) 1 cY rfl rfl rfl rfl rfl rfl rfl) ?_
  refine W ?_
  refine Ci rfl (fun _=>?_) (fun _=>?_)
  ·exact Z
  refine W ?_
  exact⟨2,by omega,⟨by omega,fun _=>by first|assumption|exact h1 z2_,fun _=>by first|omega|assumption|exact h2 z2_,fun _=>by first|omega|assumption⟩,⟨rfl,rfl,rfl,rfl,trivial⟩,trivial⟩
 ·refine W ?_
  refine bi (St1.ixAr (len:=3) 2 cY rfl rfl rfl rfl rfl rfl rfl) ?_
  refine W ?_
  refine Ci rfl (fun _=>?_) (fun _=>?_)
  ·exact Z
  refine W ?_
  exact⟨3,by omega,⟨by omega,fun _=>by first|assumption|exact h1 z2_,fun _=>by first|omega|assumption|exact h2 z2_,fun _=>by first|omega|assumption⟩,⟨rfl,rfl,rfl,rfl,trivial⟩,trivial⟩
 ·have h1:=h1 z2_
  have h2:=h2 z2_
  have h3:=h3 z2_
  exact Z
instance:Cn Tryz.prog 49 (type_of% @algof_d):=⟨@algof_d⟩
end
section
set_option maxRecDepth 100000
theorem n7 (n:Nd):(oidOf n).1.length≤41*n.bytes.length:=by
 unfold oidOf;split
 ·exact jc _
 ·simp
set_option maxHeartbeats 4000000
def atO (k:Nd):At:=⟨(oidOf (kd (kd k 0) 0)).1,(kd (kd k 0) 1).tag,(kd (kd k 0) 1).bytes⟩
def atB (k:Nd):Bool:=decide (k.cls=0)&&decide (k.tag=17)&&decide ((k.kids.length:Int)=1)&&k.put.isSome&&isSeqB (kd k 0) 2 2&&(oidOf (kd (kd k 0) 0)).2&&decide ((kd (kd k 0) 1).cls=0)&&rightAt (atO k)
def nameOf (n:Nd):List At×Bool:=if isSeqB n 0 16&&!decide (0<(n.bytes.length:Int))&&n.kids.all atB then(n.kids.map atO,true) else([],false)
theorem iC (n:Nd):n.kids.length≤n.sz:=by
 have h:=dD n.kids
 cases n;simp only [Nd.kids,Nd.sz] at h ⊢;omega
theorem lY (n:Nd) (hz:n.sz≤1073741824):FnD Tryz.prog 100 [.nd n] (.tup [.sl 3 At.enc (nameOf n).1,.b (nameOf n).2]):=by
 have kb:=c_ n
 unfold nameOf
 refine aB Tryz.func100 rfl Tryz.ntmps100 rfl (fun e=>?_)
 refine W ?_
 refine Bg rfl rfl (fun h1=>?_) (fun h1=>?_)
 ·exact Z
 refine W ?_
 refine Ci rfl (fun h2=>?_) (fun h2=>?_)
 ·exact Z
 refine W ?_
 refine Rn (kS 3 At.enc) 4 126 rfl rfl ?_
 refine Lp (γ:=Nat) (fun g=>g≤n.kids.length∧(n.kids.take g).all atB=true) (fun g=>n.kids.length+1-g)
  (fun g=>[(1,.own 0 0),(4,.row 1),(21,.d (.nds n.kids)),(22,.d (.i (n.kids.length:Int))),(23,.d (.i (g:Int)))])
  (fun g=>[(0,.whl 31 (.nd n)),(1,.row 126 (.sl 3 At.enc ((n.kids.take g).map atO)))]) 0 ⟨by omega,rfl⟩ ?_ ?_ ?_
 ·exact⟨rfl,rfl,rfl,rfl,rfl,trivial⟩
 ·exact⟨rfl,rfl,trivial⟩
 rintro g ⟨hg,hall⟩
 have k0:=cO n g
 have k1:=cO (kd n g) 0
 have k2:=cO (kd (kd n g) 0) 0
 have k3:=cO (kd (kd n g) 0) 1
 have kb2:=c_ (kd (kd (kd n g) 0) 1)
 have kb3:=c_ (kd (kd (kd n g) 0) 0)
 have ol:=n7 (kd (kd (kd n g) 0) 0)
 unfold kd at k1 k2 k3 kb2 kb3 ol
 have bad:atB (kd n g)=false→g<n.kids.length→(if(isSeqB n 0 16&&!decide (0<(n.bytes.length:Int))&&n.kids.all atB)=true then(n.kids.map atO,true) else([],false))=(([]:List At),false):=fun hb hl=>by
  have:n.kids.all atB=false:=by
   rw [List.all_eq_false]
   refine⟨n.kids[g],aL hl,?_⟩
   have e:kd n g=n.kids[g]:=by simp [kd,List.getD,hl]
   rw [← e,hb];simp
  simp [this]
 refine W ?_
 refine Ci rfl (fun h3=>?_) (fun h3=>?_)
 ·have hl:g<n.kids.length:=by omega
  refine W ?_
  refine Bg rfl rfl (fun h4=>?_) (fun h4=>?_)
  ·refine W ?_
   refine Rt rfl rfl ?_
   rw [bad (by simp [atB,kd];simp_all) hl];rfl
  refine W ?_
  refine Bg rfl rfl (fun h5=>?_) (fun h5=>?_)
  ·refine W ?_
   refine Rt rfl rfl ?_
   rw [bad (by simp [atB,kd];simp_all) hl];rfl
  refine W ?_
  refine Bg rfl rfl (fun h6=>?_) (fun h6=>?_)
  ·refine W ?_
   refine Rt rfl rfl ?_
   rw [bad (by simp [atB,kd];simp_all) hl];rfl
  refine W ?_
  refine Bg rfl rfl (fun h7=>?_) (fun h7=>?_)
  ·refine W ?_
   refine Rt rfl rfl ?_
   rw [bad (by simp [atB,kd];simp_all) hl];rfl
  refine W ?_
  refine Ci rfl (fun h8=>?_) (fun h8=>?_)
  ·refine W ?_
   refine Rt rfl rfl ?_
   rw [bad (by simp [atB,kd];simp_all) hl];rfl
  refine W ?_
  refine Bg rfl rfl (fun h9=>?_) (fun h9=>?_)
  ·refine W ?_
   refine Rt rfl rfl ?_
   rw [bad (by simp [atB,kd];simp_all) hl];rfl
  refine W ?_
  refine Bg rfl rfl (fun h10=>?_) (fun h10=>?_)
  ·refine W ?_
   refine Rt rfl rfl ?_
   rw [bad (by simp [atB,kd];simp_all) hl];rfl
  refine W ?_
  refine Ci rfl (fun h11=>?_) (fun h11=>?_)
  ·refine W ?_
   refine Rt rfl rfl ?_
   rw [bad (by simp [atB,atO,kd];simp_all) hl];rfl
  have hml:(List.map atO (List.take g n.kids)).length≤n.kids.length:=by rw [aK];exact List.length_take_le' ..
  have hkz:=iC n
  refine W ?_
  have hk:atB (kd n g)=true:=by simp [atB,atO,kd];simp_all
  have e1:(n.kids.take (g+1)).map atO=(n.kids.take g).map atO++[atO (kd n g)]:=by
   rw [av hl,List.map_append];simp [kd,List.getD,hl]
  have e2:(n.kids.take (g+1)).all atB=true:=by
   rw [av hl,List.all_append,hall]
   have e:kd n g=n.kids[g]:=by simp [kd,List.getD,hl]
   simp [← e,hk]
  refine⟨g+1,by omega,⟨by omega,e2⟩,⟨rfl,rfl,rfl,rfl,rfl,trivial⟩,?_⟩
  show WkO [(0,.whl 31 (.nd n)),(1,.row 126 (.sl 3 At.enc ((n.kids.take (g+1)).map atO)))] _
  rw [e1]
  exact⟨rfl,rfl,trivial⟩
 ·have hge:g=n.kids.length:=by omega
  subst hge
  rw [List.take_length] at hall
  refine W ?_
  refine Rt rfl rfl ?_
  have h1':decide (0<(n.bytes.length:Int))=false:=am h2
  have hb:(isSeqB n 0 16&&!decide (0<(n.bytes.length:Int))&&n.kids.all atB)=true:=by rw [h1.1,h1',hall];rfl
  simp only [resD,List.take_length,hb,if_true]
instance:Cn Tryz.prog 100 (type_of% @lY):=⟨@lY⟩
end
section
def renA (v k:Nat):List (Nat×A)→Option (List (Nat×A))
 |[]=>some []
 |(t,x)::r=>match renA v k r with
  |some r'=>match x with
   |.row j=>bif Nat.beq j v then some ((t,.row k)::r') else some ((t,.row j)::r')
   |.recr l j=>bif Nat.beq j v then some ((t,.recr l k)::r') else some ((t,.recr l j)::r')
   |x=>some ((t,x)::r')
  |none=>none
def renL (v k:Nat):List A→Option (List A)
 |[]=>some []
 |x::r=>match renL v k r with
  |some r'=>match x with
   |.row j=>bif Nat.beq j v then some (.row k::r') else some (.row j::r')
   |.recr l j=>bif Nat.beq j v then some (.recr l k::r') else some (.recr l j::r')
   |x=>some (x::r')
  |none=>none
def renO (v k:Nat):List (Nat×OE)→Option (List (Nat×OE))
 |[]=>some []
 |(i,e)::r=>match renO v k r with
  |some r'=>match e with
   |.var t cs=>match renL v k cs with
    |some cs'=>some ((i,.var t cs')::r')
    |none=>none
   |e=>some ((i,e)::r')
  |none=>none
section
variable {ρ:Rho}{h:Part}{v k:Nat}(q:ρ.a k=ρ.a v∧ρ.c k=ρ.c v∧ρ.n k=ρ.n v)
include q
theorem renA_ok:∀ {a a':List (Nat×A)},renA v k a=some a'→∀ {t:Nat}{x:A},lkA a' t=some x→∃ y,lkA a t=some y∧∀ w,DenA ρ h y w→DenA ρ h x w
 |[],a',e,t,x,hx=>by cases e;cases hx
 |(i,y)::r,a',e,t,x,hx=>by
  simp only [renA] at e
  split at e
  ·rename_i r' hr
   have ih:=renA_ok hr (t:=t) (x:=x)
   have key:∀ z,(∀ w,DenA ρ h y w→DenA ρ h z w)→a'=(i,z)::r'→∃ u,lkA ((i,y)::r) t=some u∧∀ w,DenA ρ h u w→DenA ρ h x w:=fun z hz ha=>by
    subst ha
    simp only [lkA] at hx ⊢
    cases hb:Nat.beq i t with
    |true=>simp only [hb,cond_true,ay] at hx ⊢;subst hx;exact⟨y,rfl,hz⟩
    |false=>simp only [hb,cond_false] at hx ⊢;exact ih hx
   split at e
   ·rename_i j
    cases hb:Nat.beq j v with
    |true =>
     obtain rfl:=ah hb
     rw [hb,cond_true] at e
     exact key (.row k) (fun w hw=>by simp only [DenA] at hw ⊢;rw [q.1,q.2.1,q.2.2];exact hw) (by simpa using e.symm)
    |false=>rw [hb,cond_false] at e;exact key _ (fun w hw=>hw) (by simpa using e.symm)
   ·rename_i l j
    cases hb:Nat.beq j v with
    |true =>
     obtain rfl:=ah hb
     rw [hb,cond_true] at e
     exact key (.recr l k) (fun w hw=>by simp only [DenA] at hw ⊢;rw [q.1,q.2.1,q.2.2];exact hw) (by simpa using e.symm)
    |false=>rw [hb,cond_false] at e;exact key _ (fun w hw=>hw) (by simpa using e.symm)
   ·exact key _ (fun w hw=>hw) (by simpa using e.symm)
  ·cases e
theorem renL_ok:∀ {l l':List A}{cs:List Value},renL v k l=some l'→DenAL ρ h l cs→DenAL ρ h l' cs
 |[],l',cs,e,hd=>by cases e;exact hd
 |y::r,l',cs,e,⟨w,t,e2,h1,h2,h3⟩=>by
  simp only [renL] at e
  split at e
  ·rename_i r' hr
   have ih:=renL_ok hr h3
   split at e
   ·rename_i j
    cases hb:Nat.beq j v with
    |true =>
     obtain rfl:=ah hb
     rw [hb,cond_true] at e;cases e
     exact⟨w,t,e2,h1,by simp only [DenA] at h2 ⊢;rw [q.1,q.2.1,q.2.2];exact h2,ih⟩
    |false=>rw [hb,cond_false] at e;cases e;exact⟨w,t,e2,h1,h2,ih⟩
   ·rename_i l j
    cases hb:Nat.beq j v with
    |true =>
     obtain rfl:=ah hb
     rw [hb,cond_true] at e;cases e
     exact⟨w,t,e2,h1,by simp only [DenA] at h2 ⊢;rw [q.1,q.2.1,q.2.2];exact h2,ih⟩
    |false=>rw [hb,cond_false] at e;cases e;exact⟨w,t,e2,h1,h2,ih⟩
   ·cases e;exact⟨w,t,e2,h1,h2,ih⟩
  ·cases e
theorem renO_ok:∀ {o o':List (Nat×OE)}{L:List Ent},renO v k o=some o'→DenO ρ h o L→DenO ρ h o' L
 |[],o',L,e,hd=>by cases e;exact hd
 |(i,y)::r,o',L,e,⟨x,L',e2,h1,h2⟩=>by
  simp only [renO] at e
  split at e
  ·rename_i r' hr
   have ih:=renO_ok hr h2
   split at e
   ·split at e<;>cases e
    rename_i cs' hcs
    obtain⟨vs,h3,h4⟩:=h1
    exact⟨x,L',e2,⟨vs,h3,renL_ok q hcs h4⟩,ih⟩
   ·cases e;exact⟨x,L',e2,h1,ih⟩
  ·cases e
end
section
variable {P:Program} [Tb P] {F:Fd}{n:PostD}{x:Nat→PostD}{a a1 a2:List (Nat×A)}{o o1 o2:List (Nat×OE)}{v t:Nat}{d:D}
theorem Nvk (k:Nat) {c:Code}(hk:lkO o k=some (.rowv v t d)) (hja:junA k a=some a1) (hjo:junO k (delO o k)=some o1) (hra:renA v k a1=some a2) (hro:renO v k o1=some o2) (kk:JD P F c n x a2 ((k,.row t d)::o2)):JD P F c n x a o:=.mk fun ρ h S L cz=>by
 obtain⟨y,L2,hD,⟨xs,sz,rfl,hR,hb⟩,hr⟩:=cz.o.get hk
 refine J.ents (.row (ρ.a v) (ρ.c v) t sz (ρ.n v) xs::L2) (.cons hD .all) ?_
 have q:(ρ.setR k (ρ.a v) (ρ.c v) (ρ.n v)).a k=(ρ.setR k (ρ.a v) (ρ.c v) (ρ.n v)).a v∧(ρ.setR k (ρ.a v) (ρ.c v) (ρ.n v)).c k=(ρ.setR k (ρ.a v) (ρ.c v) (ρ.n v)).c v∧(ρ.setR k (ρ.a v) (ρ.c v) (ρ.n v)).n k=(ρ.setR k (ρ.a v) (ρ.c v) (ρ.n v)).n v:=by
  by_cases hvk:v=k
  ·subst hvk;simp
  ·obtain⟨_,e1,e2,e3⟩:=jx ρ hvk (ρ.a v) (ρ.c v) (ρ.n v)
   rw [e1,e2,e3];simp [Rho.setR]
 refine kk.k (ρ.setR k (ρ.a v) (ρ.c v) (ρ.n v)) h S _ ⟨cz.t,fun s y hy=>?_,_,L2,rfl,⟨xs,sz,by simp [Rho.setR],by simpa [Rho.setR] using hR,by simpa [Rho.setR] using hb⟩,renO_ok q hro (pe hjo hr)⟩
 obtain⟨y1,g1,g2⟩:=renA_ok (h:=h) q hra hy
 obtain⟨y2,g3,g4⟩:=pf (aa:=ρ.a v) (c:=ρ.c v) (nn:=ρ.n v) (h:=h) (ρ:=ρ) hja g1
 obtain⟨w,g5,g6⟩:=cz.s s _ g3
 exact⟨w,g5,g2 w (g4 w g6)⟩
end
end
section
set_option maxRecDepth 100000
set_option maxHeartbeats 4000000
abbrev fnD (i:Nat):D:=.v (.func (.func i) #[] #[])
theorem insB_d (v:Txt):FnD Tryz.prog 223 [.sl 1 bE [v],.i 0,.i 1,fnD 128] (.v (.tuple #[])):=by
 refine aB Tryz.func223 rfl Tryz.ntmps223 rfl (fun e=>?_)
 refine W ?_
 refine Lp (fun _:Unit=>True) (fun _=>0) (fun _=>[(2,.d (.i 1)),(8,.d (.i 1))]) (fun _=>[]) () trivial ⟨rfl,rfl,trivial⟩ trivial ?_
 rintro _ _
 refine W ?_
 exact⟨_,_,_,rfl,rfl,rfl⟩
instance:Cn Tryz.prog 223 (type_of% @insB_d):=⟨@insB_d⟩
theorem stbB_d (v:Txt):FnD Tryz.prog 178 [.sl 1 bE [v],.i 1,fnD 128] (.v (.tuple #[])):=by
 refine aB Tryz.func178 rfl Tryz.ntmps178 rfl (fun e=>?_)
 refine W ?_
 refine Lp (fun _:Unit=>True) (fun _=>0) (fun _=>[(0,.d (.sl 1 bE [v])),(1,.d (.i 1)),(2,.d (fnD 128)),(6,.d (.i 20)),(7,.d (.i 0)),(8,.d (.i 20))]) (fun _=>[]) () trivial ⟨rfl,rfl,rfl,rfl,rfl,rfl,trivial⟩ trivial ?_
 rintro _ _
 refine W ?_
 refine Lp (fun _:Unit=>True) (fun _=>0) (fun _=>[(1,.d (.i 1)),(6,.d (.i 20))]) (fun _=>[]) () trivial ⟨rfl,rfl,trivial⟩ trivial ?_
 rintro _ _
 refine W ?_
 exact⟨_,_,_,rfl,rfl,rfl⟩
instance:Cn Tryz.prog 178 (type_of% @stbB_d):=⟨@stbB_d⟩
theorem srtB_d (v:Txt):FnD Tryz.prog 127 [.sl 1 bE [v],fnD 128] (.v (.tuple #[])):=by
 refine aB Tryz.func127 rfl Tryz.ntmps127 rfl (fun e=>?_)
 refine W ?_
 exact⟨_,_,_,rfl,rfl,rfl⟩
instance:Cn Tryz.prog 127 (type_of% @srtB_d):=⟨@srtB_d⟩
theorem insF_d (f:Fe):FnD Tryz.prog 225 [.sl 2 Fe.enc [f],.i 0,.i 1,fnD 130] (.v (.tuple #[])):=by
 refine aB Tryz.func225 rfl Tryz.ntmps225 rfl (fun e=>?_)
 refine W ?_
 refine Lp (fun _:Unit=>True) (fun _=>0) (fun _=>[(2,.d (.i 1)),(8,.d (.i 1))]) (fun _=>[]) () trivial ⟨rfl,rfl,trivial⟩ trivial ?_
 rintro _ _
 refine W ?_
 exact⟨_,_,_,rfl,rfl,rfl⟩
instance:Cn Tryz.prog 225 (type_of% @insF_d):=⟨@insF_d⟩
theorem stbF_d (f:Fe):FnD Tryz.prog 180 [.sl 2 Fe.enc [f],.i 1,fnD 130] (.v (.tuple #[])):=by
 refine aB Tryz.func180 rfl Tryz.ntmps180 rfl (fun e=>?_)
 refine W ?_
 refine Lp (fun _:Unit=>True) (fun _=>0) (fun _=>[(0,.d (.sl 2 Fe.enc [f])),(1,.d (.i 1)),(2,.d (fnD 130)),(6,.d (.i 20)),(7,.d (.i 0)),(8,.d (.i 20))]) (fun _=>[]) () trivial ⟨rfl,rfl,rfl,rfl,rfl,rfl,trivial⟩ trivial ?_
 rintro _ _
 refine W ?_
 refine Lp (fun _:Unit=>True) (fun _=>0) (fun _=>[(1,.d (.i 1)),(6,.d (.i 20))]) (fun _=>[]) () trivial ⟨rfl,rfl,trivial⟩ trivial ?_
 rintro _ _
 refine W ?_
 exact⟨_,_,_,rfl,rfl,rfl⟩
instance:Cn Tryz.prog 180 (type_of% @stbF_d):=⟨@stbF_d⟩
theorem srtF_d (f:Fe):FnD Tryz.prog 129 [.sl 2 Fe.enc [f],fnD 130] (.v (.tuple #[])):=by
 refine aB Tryz.func129 rfl Tryz.ntmps129 rfl (fun e=>?_)
 refine W ?_
 exact⟨_,_,_,rfl,rfl,rfl⟩
instance:Cn Tryz.prog 129 (type_of% @srtF_d):=⟨@srtF_d⟩
theorem cown_d (f:Fe) (hl:f.vals.length≤1000000000000) (hv:∀ v∈f.vals,v.length≤140737488355328):FnD Tryz.prog 67 [.st f.enc] (.st f.enc):=by
 refine aB Tryz.func67 rfl Tryz.ntmps67 rfl (fun e=>?_)
 refine W ?_
 refine Rv (kS 1 bE) 2 1 25 rfl rfl rfl rfl rfl rfl ?_
 refine Lp (γ:=Nat) (fun g=>g≤f.vals.length) (fun g=>f.vals.length+1-g)
  (fun g=>[(1,.own 0 0),(2,.own 1 0),(3,.own 2 0),(10,.d (.sl 1 bE f.vals)),(11,.d (.i (f.vals.length:Int))),(12,.d (.i (g:Int)))])
  (fun g=>[(2,.var 59 [.d (.s f.oid),.row 3]),(3,.row 25 (.sl 1 bE (f.vals.take g))),(1,.var 59 [.d (.s []),.d (.v (.slice none 0 0))]),(0,.whl 59 (.st f.enc))]) 0 z2_ ?_ ?_ ?_
 ·exact⟨rfl,rfl,rfl,rfl,rfl,rfl,trivial⟩
 ·exact⟨rfl,rfl,rfl,rfl,trivial⟩
 intro g hg
 have hml:(f.vals.take g).length≤1000000000000:=by have:=List.length_take_le' g f.vals;omega
 refine W ?_
 refine Ci rfl (fun h=>?_) (fun h=>?_)
 ·have hlt:g<f.vals.length:=by omega
  have hget:f.vals.getD g default=f.vals[g]:=ce hlt
  have hb:=hv _ (aL hlt)
  rw [← hget] at hb
  refine W ?_
  refine Xap (kS 1 bE) rfl rfl rfl rfl rfl rfl rfl (by simp only [aA,bh];omega) rfl rfl rfl ?_
  refine RX1 rfl rfl ?_
  refine dI rfl ?_
  refine Nvk 3 rfl rfl rfl rfl rfl ?_
  refine W ?_
  have e1:f.vals.take (g+1)=f.vals.take g++[f.vals.getD g default]:=by rw [av hlt,hget]
  refine⟨g+1,by omega,by omega,⟨rfl,rfl,rfl,rfl,rfl,rfl,trivial⟩,?_⟩
  show WkO [(2,.var 59 [.d (.s f.oid),.row 3]),(3,.row 25 (.sl 1 bE (f.vals.take (g+1)))),(1,.var 59 [.d (.s []),.d (.v (.slice none 0 0))]),(0,.whl 59 (.st f.enc))] _
  rw [e1]
  exact⟨rfl,rfl,rfl,rfl,trivial⟩
 ·have hge:g=f.vals.length:=by omega
  subst hge
  rw [List.take_length]
  refine Pb 3 rfl ?_
  refine W ?_
  exact Rt rfl rfl rfl
instance:Cn Tryz.prog 67 (type_of% @cown_d):=⟨@cown_d⟩
end
section
set_option maxRecDepth 100000
set_option maxHeartbeats 4000000
def getF (l:List Fe) (o:Txt):List Txt×Bool:=match l.find? (fun f=>decide (f.oid=o)) with
 |some f=>(f.vals,true)
 |none=>([],false)
theorem cget_d (l:List Fe) (o:Txt) (hl:l.length≤140737488355328) (hB:∀ f∈l,f.vals.length≤1000000000000∧∀ v∈f.vals,v.length≤140737488355328):FnD Tryz.prog 20 [.sl 2 Fe.enc l,.s o] (.tup [.sl 1 bE (getF l o).1,.b (getF l o).2]):=by
 refine aB Tryz.func20 rfl Tryz.ntmps20 rfl (fun e=>?_)
 refine W ?_
 refine Lp (γ:=Nat) (fun g=>g≤l.length∧getF l o=getF (l.drop g) o) (fun g=>l.length+1-g) (fun g=>[(1,.d (.s o)),(8,.d (.sl 2 Fe.enc l)),(9,.d (.i (l.length:Int))),(10,.d (.i (g:Int)))]) (fun _=>[]) 0 ⟨by omega,rfl⟩ ⟨rfl,rfl,rfl,rfl,trivial⟩ trivial ?_
 rintro g ⟨hg,hf⟩
 refine W ?_
 refine Ci rfl (fun h=>?_) (fun h=>?_)
 ·have hlt:g<l.length:=by omega
  have hget:l.getD g default=l[g]:=ce hlt
  obtain⟨b2,b3⟩:=hB _ (aL hlt)
  rw [← hget] at b2 b3
  have hdr:l.drop g=l.getD g default::l.drop (g+1):=by rw [aT hlt,hget]
  rw [hdr] at hf
  refine W ?_
  refine Ci rfl (fun h2=>?_) (fun h2=>?_)
  ·have hgf:getF l o=((l.getD g default).vals,true):=by
    rw [hf]
    unfold getF
    rw [List.find?_cons,an h2]
   refine W ?_
   refine Rt rfl rfl ?_
   rw [hgf];rfl
  ·refine W ?_
   refine⟨g+1,by omega,⟨by omega,?_⟩,⟨rfl,rfl,rfl,rfl,trivial⟩,trivial⟩
   rw [hf]
   unfold getF
   rw [List.find?_cons,am h2]
 ·refine W ?_
  refine Rt rfl rfl ?_
  rw [hf,List.drop_of_length_le z2_];rfl
instance:Cn Tryz.prog 20 (type_of% @cget_d):=⟨@cget_d⟩
theorem nM (o v:Txt) (hv:v.length≤140737488355328):FnD Tryz.prog 66 [.sl 2 Fe.enc [⟨o,[v]⟩]] (.sl 2 Fe.enc [⟨o,[v]⟩]):=by
 have ho:=@cown_d ⟨o,[v]⟩ (by simp) (fun w hw=>by simp at hw;subst hw;exact hv)
 refine aB Tryz.func66 rfl Tryz.ntmps66 rfl (fun e=>?_)
 refine W ?_
 refine Rn (kS 2 Fe.enc) 3 59 rfl rfl ?_
 refine Lp (γ:=Nat) (fun g=>g≤1) (fun g=>2-g)
  (fun g=>[(3,.row 0),(7,.d (.sl 2 Fe.enc [⟨o,[v]⟩])),(8,.d (.i 1)),(9,.d (.i (g:Int)))])
  (fun g=>[(0,.row 59 (.sl 2 Fe.enc (if g=0 then [] else [⟨o,[v]⟩])))]) 0 z2_ ⟨rfl,rfl,rfl,rfl,trivial⟩ ⟨rfl,trivial⟩ ?_
 intro g hg
 obtain rfl|rfl:g=0∨g=1:=by omega
 ·show JD _ _ _ _ _ [(3,.row 0),(7,.d (.sl 2 Fe.enc [⟨o,[v]⟩])),(8,.d (.i 1)),(9,.d (.i 0))] [(0,.row 59 (.sl 2 Fe.enc []))]
  refine W ?_
  refine bi (St1.litS (enc:=Fe.enc) [⟨o,[v]⟩] rfl rfl rfl rfl (fun _ _=>rfl) rfl rfl rfl rfl rfl) ?_
  refine W ?_
  exact⟨1,by omega,by omega,⟨rfl,rfl,rfl,rfl,trivial⟩,⟨rfl,trivial⟩⟩
 ·show JD _ _ _ _ _ [(3,.row 0),(7,.d (.sl 2 Fe.enc [⟨o,[v]⟩])),(8,.d (.i 1)),(9,.d (.i 1))] [(0,.row 59 (.sl 2 Fe.enc [⟨o,[v]⟩]))]
  refine Pb 0 rfl ?_
  refine W ?_
  exact Rt rfl rfl rfl
instance:Cn Tryz.prog 66 (type_of% @nM):=⟨@nM⟩
theorem cput_d (o v:Txt) (hv:v.length≤140737488355328):FnD Tryz.prog 19 [.sl 2 Fe.enc [],.st (Fe.enc ⟨o,[v]⟩)] (.sl 2 Fe.enc [⟨o,[v]⟩]):=by
 refine aB Tryz.func19 rfl Tryz.ntmps19 rfl (fun e=>?_)
 refine W ?_
 refine Lp (γ:=Unit) (fun _=>True) (fun _=>0) (fun _=>[(3,.own 0 0),(5,.d (.v (.slice none 0 0))),(9,.d (.i 0)),(10,.d (.i 0))]) (fun _=>[(0,.whl 59 (.st (Fe.enc ⟨o,[v]⟩)))]) () trivial ⟨rfl,rfl,rfl,rfl,trivial⟩ ⟨rfl,trivial⟩ ?_
 rintro _ _
 refine W ?_
 refine bi (St1.litS (enc:=Fe.enc) [⟨o,[v]⟩] rfl rfl rfl rfl (fun _ _=>rfl) rfl rfl rfl rfl rfl) ?_
 refine bi (St1.app0 (kS 2 Fe.enc) rfl rfl rfl rfl (by simp) rfl rfl) ?_
 refine W ?_
 exact Rt rfl rfl rfl
instance:Cn Tryz.prog 19 (type_of% @cput_d):=⟨@cput_d⟩
end
section
section
variable {P:Program} [Tb P] {n:PostD}{x:Nat→PostD}{a a1:List (Nat×A)}{o o1:List (Nat×OE)}{e:Env}{m:Nat}{fn:Func}{ρ:Rho}{h:Part}{S:Sig}{L:List Ent}{ds:List D}{b t:Nat}
theorem rtv_ok (cz:Cz P ρ h a o S L) (hp:pubs (ksO o) a o=some (a1,o1)) (hr:resL P a1 o1 fn.results.toList fn.resultTypes.toList=some ds) {ac:Act}{w:World}(s:Sat e m S h L ac w):∃ h' L' v,h.le h'∧Sat e m S h' L' ac w∧Cz P ρ h' a1 o1 S L'∧RetV P e m fn S h' L' v∧Den (resD ds) h' v:=by
 obtain⟨h',L',hle,hok,cz'⟩:=f9 hp cz s.ok
 obtain⟨vs,h1,h2⟩:=lF (e:=e) (m:=m) cz' hr
 have hlen:=h1.len
 have hrun:∀ ac w,Sat e m S h' L' ac w→(fn.results.mapM (relem ac.tmps)).run P w=.ok vs.toArray w:=fun ac w s=>by
  have:=h2 ac w s
  rw [Array.mapM_eq_mapM_toList]
  simp [this]
 refine(fun⟨v,hv,hd⟩=>⟨h',L',v,hle,s.with hok,cz',fun ac w s=>hv ac w s,hd⟩:(∃ v,(∀ ac w,Sat e m S h' L' ac w→(results fn ac.tmps).run P w=.ok v w)∧Den (resD ds) h' v)→_) ?_
 match ds,vs,h1,hlen with
 |[],[],h1,_=>exact⟨.tuple #[],fun ac w s=>by rw [dO];simp [hrun ac w s],ba (h:=h')⟩
 |[d],[v],h1,_ =>
  unfold DenT at h1
  obtain⟨v',t,e1,h3,h4⟩:=h1
  cases e1
  exact⟨v,fun ac w s=>by rw [dO];simp [hrun ac w s],h3⟩
 |d::d2::r,v::v2::r',h1,_=>exact⟨.tuple (v::v2::r').toArray,fun ac w s=>by rw [dO];simp [hrun ac w s],(mo (h:=h')).2 ⟨_,rfl,h1⟩⟩
abbrev RB (b t:Nat) (R:D→D→Prop):Ending→Part→List Ent→Prop:=Rets fun v h' Lo=>∃ d d1 ws,R d d1∧Den d h' v∧Den d1 h' (.agg ws.toArray)∧Lo=[.blk b t ws]
def FB (P:Program) (e:Env) (m:Nat) (fn:Func) (b t:Nat) (R:D→D→Prop):Fd:=⟨e,m,RetPost P e m fn (RB b t R),PanPost (RB b t R)⟩
def RtBD (P:Program) [Tb P] (fn:Func) (b t:Nat) (R:D→D→Prop):PostD:=fun a o=>∃ a1 o1 ds e0 d1 kp,pubs (ksO o) a o=some (a1,o1)∧resL P a1 o1 fn.results.toList fn.resultTypes.toList=some ds∧lkO o1 0=some e0∧whlO e0=some (t,d1)∧lkO o1 kp=some (.pin 0 b)∧R (resD ds) d1
variable {R:D→D→Prop}
theorem rtB_ok (k:up P (RtBD P fn b t R) S h L) {ac:Act}{w:World}(s:Sat e m S h L ac w):∃ S h' L',Sat e m S h' L' ac w∧RetPost P e m fn (RB b t R) S h' L':=by
 obtain⟨ρ,a,o,cz,a1,o1,ds,e0,d1,kp,hp,hr,h0,hw,hpin,hR⟩:=k
 obtain⟨h',L',v,hle,s',cz',hv,hd⟩:=rtv_ok cz hp hr s
 obtain⟨y,L2,hD,hE,_⟩:=cz'.o.get h0
 obtain⟨ws,rfl,hd1⟩:=oi hw hE
 obtain⟨z,L3,_,⟨hb,_⟩,_⟩:=cz'.o.get hpin
 rw [hb] at hD
 exact⟨S,h',L',s',v,_,L2,hv,.cons hD .nil,v,rfl,_,_,ws,hR,hd,hd1,rfl⟩
theorem RtB {d1:D}{e0:OE}(kp:Nat) (hp:pubs (ksO o) a o=some (a1,o1)) (hr:resL P a1 o1 fn.results.toList fn.resultTypes.toList=some ds) (h0:lkO o1 0=some e0) (hw:whlO e0=some (t,d1)) (hpin:lkO o1 kp=some (.pin 0 b)) (hR:R (resD ds) d1):JD P (FB P e m fn b t R) .ret n x a o:=.mk fun ρ h S L cz ac w s=>by
 obtain⟨S',h',L',s',hh⟩:=rtB_ok ⟨ρ,a,o,cz,a1,o1,ds,e0,d1,kp,hp,hr,h0,hw,hpin,hR⟩ s
 exact dm (f:=(FB P e m fn b t R).fr P) (n:=up P n) (x:=fun i=>up P (x i)) hh ac w s'
omit [Tb P] in
theorem argS {A2:List (Nat×A)}{S2:Sig}(h2:∀ t y,lkA A2 t=some y→∃ v,look S2 t=some v∧DenA ρ h y v):∀ {ds:List D}{vs:List Value}{i t:Nat}{y:A},DenT ds h vs→lkA (argA i ds++A2) t=some y→∃ v,look (argSig i vs++S2) t=some v∧DenA ρ h y v
 |[],vs,i,t,y,hd,hy=>by unfold DenT at hd;subst hd;exact h2 t y hy
 |d::r,vs,i,t,y,hd,hy=>by
  unfold DenT at hd
  obtain⟨v,t',rfl,h3,h4⟩:=hd
  simp only [argA,lkA,argSig,look,List.cons_append] at hy ⊢
  cases hb:Nat.beq i t with
  |true=>simp only [hb,cond_true,ay] at hy ⊢;subst hy;exact⟨v,rfl,h3⟩
  |false=>simp only [hb,cond_false] at hy ⊢;exact argS h2 h4 hy
theorem lr:∀ (vs us:List Value) (i:Nat),argSig i (vs++us)=argSig i vs++argSig (i+vs.length) us
 |[],us,i=>rfl
 |v::r,us,i=>by
  simp only [List.cons_append,argSig,lr r us (i+1),aA]
  rw [show i+1+r.length=i+(r.length+1) by omega]
theorem FnB.intro {Fi:Nat}{c:Code}{ds1 ds2:List D}{d0:D}(hf:P.funcs[Fi]?=some fn) (hb:fn.body=some c) (hm:fn.ntmps=m) (hl:Nat.ble (ds1.length+(ds2.length+1)) m=true)
 (k:∀ e b,JD P (FB P e m fn b t R) c (RtBD P fn b t R) NoExD (argA 0 ds1++(ds1.length,.own 0 0)::argA (ds1.length+1) ds2) [(1,.pin 0 b),(0,.whl t d0)]):FnB P Fi t ds1 d0 ds2 R:=.mk fun h b vs0 vs1 vs2 hT h1 h0 h2=>by
 have l1:=h1.len
 have l2:=h2.len
 refine aG hf hb hm (by simp only [aX,aA,l1,l2];exact hl) (fun e he=>?_)
 refine J.own (L':=.row none 0 0 0 0 []::[.blk b t vs0]) (fun _ hw=>hw.row_nil 0 0) ?_
 have cz:Cz P ⟨fun _=>b,fun _=>none,fun _=>0,fun _=>0⟩ h (argA 0 ds1++(ds1.length,.own 0 0)::argA (ds1.length+1) ds2) [(1,.pin 0 b),(0,.whl t d0)] (argSig 0 (vs1++.pointer (some ⟨b,0,none⟩)::vs2)) (.row none 0 0 0 0 []::[.blk b t vs0]):=by
  refine⟨hT,fun t y hy=>?_,_,_,rfl,⟨rfl,rfl⟩,_,_,rfl,⟨vs0,rfl,h0⟩,rfl⟩
  rw [lr]
  refine argS (fun t y hy=>?_) h1 hy
  rw [Nat.zero_add,l1]
  simp only [lkA,argSig,look] at hy ⊢
  cases hb:Nat.beq ds1.length t with
  |true=>simp only [hb,cond_true,ay] at hy ⊢;subst hy;exact⟨_,rfl,rfl⟩
  |false =>
   simp only [hb,cond_false] at hy ⊢
   have:=argS (A2:=[]) (S2:=[]) (ρ:=⟨fun _=>b,fun _=>none,fun _=>0,fun _=>0⟩) (fun t y hy=>by cases hy) h2 (by rw [List.append_nil];exact hy)
   simpa using this
 intro ac w s
 refine wpm ((k e b).k _ h _ _ cz ac w s) (fun ex a' w' q=>?_)
 cases ex with
 |normal=>obtain⟨S',h',L',s',q'⟩:=q;obtain⟨S2,h2,L2,s2,hh⟩:=rtB_ok q' s';exact⟨S2,h2,L2,s2,hh⟩
 |exit i=>obtain⟨S',h',L',s',⟨_,_,_,_,hh⟩,_⟩:=q;exact hh.elim
 |goto i=>obtain⟨S',h',L',s',⟨_,_,_,_,hh⟩⟩:=q;exact hh.elim
 |_=>exact q
end
def mapT (P:Program) (T:Nat):Bool:=match P.underlying T with
 |some (.map K E)=>match P.underlying K,P.info? E with
  |some .string,some i=>match i.zero with
   |some (.bool false)=>true
   |_=>false
  |_,_=>false
 |_=>false
theorem mapT_ok {P:Program}{T:Nat}(h:mapT P T=true):∃ K E i,P.underlying T=some (.map K E)∧P.underlying K=some .string∧P.info? E=some i∧i.zero=some (.bool false):=by
 unfold mapT at h
 split at h<;>try (cases h;done)
 rename_i K E h1
 split at h<;>try (cases h;done)
 rename_i i h2 h3
 split at h<;>try (cases h;done)
 rename_i h4
 exact⟨K,E,i,h1,h2,h3,h4⟩
theorem gD {s:List UInt8}:∀ {arr:List MapEntry}{es:List (List UInt8)}(i:Nat),arr.map (fun e=>(e.key,e.val))=es.map (fun s=>(Value.string ⟨s.toArray⟩,Value.bool true))→∃ r,Instr.findNow .string (.string ⟨s.toArray⟩) arr i=some r∧(r=none∧(es.any fun t=>decide (t=s))=false∨∃ j,r=some (j,.bool true)∧(es.any fun t=>decide (t=s))=true)
 |[],es,i,he=>by
  have:es=[]:=by simpa using he.symm
  subst this
  exact⟨none,rfl,.inl ⟨rfl,rfl⟩⟩
 |e::r,[],i,he=>by simp at he
 |e::r,t::es,i,he=>by
  simp only [List.map_cons,List.cons.injEq,Prod.mk.injEq] at he
  obtain⟨⟨h1,h2⟩,h3⟩:=he
  unfold Instr.findNow
  rw [h1,h2]
  by_cases hts:t=s
  ·subst hts
   have hself:((⟨t.toArray⟩:ByteArray) == ⟨t.toArray⟩)=true:=by show(t.toArray == t.toArray)=true;simp
   exact⟨some (i,.bool true),by simp only [Instr.sameNow,hself],.inr ⟨i,rfl,by simp⟩⟩
  ·have hne:((⟨s.toArray⟩:ByteArray) == ⟨t.toArray⟩)=false:=by
    show(s.toArray == t.toArray)=false
    rw [beq_eq_false_iff_ne]
    intro hh
    exact hts (by simpa using (congrArg Array.toList hh.symm))
   obtain⟨r',h4,h5⟩:=gD (s:=s) (i+1) h3
   exact⟨r',by simp [Instr.sameNow,hne,h4],by simpa [hts] using h5⟩
end
section
section
variable {f:Fr}{n:Post}{x:Nat→Post}{S:Sig}{h:Part}{L L':List Ent}{ops:Array Oper}{rest:List Oper}{d b cl T:Nat}{ty:TypeId}{pos:String}{af:Array Edge}{arr:Array MapEntry}{es:List (List UInt8)}{s:List UInt8}{xo yo vo:Operand}
theorem JL.makeMap (hd:Nat.blt d f.m=true) (k:∀ b,JL f ops n x rest ((d,.map (some b))::S) h (.obj b (.map #[] 0)::L)):JL f ops n x (⟨some d,.makeMap T none,ty,pos,af,none⟩::rest) S h L:=fun a w s =>
 cL (v:=.map (some w.heap.size)) (w':=w.alloc (.map #[] 0)) rfl (by simp [execOp,Instr.makeMap,newObj,Sem.run]) (k w.heap.size _ _ (s.put hd _ (s.ok.allocObj _)))
theorem kG {P:Program}{K:Nat}{w:World}{e:Bool}(h2:P.underlying K=some .string):(Instr.checkKey e 10000 K (.string ⟨s.toArray⟩)).run P w=.ok () w:=by
 unfold Instr.checkKey
 simp [run_underlying h2,Result.andThen]
theorem jy {P:Program}{K:Nat}{w:World}{r:Option (Nat×Value)}(h2:P.underlying K=some .string) (hr:Instr.findNow .string (.string ⟨s.toArray⟩) arr.toList 0=some r):(Instr.findKey K (.string ⟨s.toArray⟩) arr.toList).run P w=.ok r w:=by
 simp [Instr.findKey,run_underlying h2,Result.andThen,hr]
theorem RunV.lookSet (hT:mapT f.P T=true) (hx:ev S xo=some (.map (some b))) (hy:ev S yo=some (.string ⟨s.toArray⟩)) (hm:Ent.obj b (.map arr cl)∈L) (he:arr.toList.map (fun e=>(e.key,e.val))=es.map (fun s=>(Value.string ⟨s.toArray⟩,Value.bool true))) :
 RunV f S h L (.lookup T xo yo false) ty (.bool (es.any fun t=>decide (t=s))):=fun a w st _ _ _ _=>by
 obtain⟨K,E,i,h1,h2,h3,h4⟩:=mapT_ok hT
 have hw:w.heap[b]?=some (.map arr cl):=st.ok.own _ hm
 obtain⟨r,hr,hc⟩:=gD (s:=s) 0 he
 have hck:=kG (P:=f.P) (s:=s) (w:=w) (e:=arr.isEmpty) h2
 have hfk:=jy (P:=f.P) (w:=w) h2 hr
 rcases hc with ⟨rfl,hc⟩|⟨j,rfl,hc⟩
 ·simp [execOp,st.eval hx,st.eval hy,Instr.lookup,run_underlying h1,getObj,Sem.run,hw,hck,hfk,Result.andThen,zeroValue,typeInfo,h3,h4,hc]
 ·simp [execOp,st.eval hx,st.eval hy,Instr.lookup,run_underlying h1,getObj,Sem.run,hw,hck,hfk,Result.andThen,zeroValue,typeInfo,h3,h4,hc]
theorem JL.putSet (hT:mapT f.P T=true) (hx:ev S xo=some (.map (some b))) (hy:ev S yo=some (.string ⟨s.toArray⟩)) (hv:ev S vo=some (.bool true)) (u:Del (.obj b (.map arr cl)) L L') (he:arr.toList.map (fun e=>(e.key,e.val))=es.map (fun s=>(Value.string ⟨s.toArray⟩,Value.bool true))) (hn:(es.any fun t=>decide (t=s))=false)
 (k:JL f ops n x rest S h (.obj b (.map (arr.push ⟨.string ⟨s.toArray⟩,.bool true,cl⟩) (cl+1))::L')):JL f ops n x (⟨none,.mapUpdate T xo yo vo,ty,pos,af,none⟩::rest) S h L:=fun a w st=>by
 obtain⟨K,E,i,h1,h2,h3,h4⟩:=mapT_ok hT
 have hw:w.heap[b]?=some (.map arr cl):=st.ok.own _ u.mem
 obtain⟨r,hr,hc⟩:=gD (s:=s) 0 he
 have hck:=kG (P:=f.P) (s:=s) (w:=w) (e:=false) h2
 have hfk:=jy (P:=f.P) (w:=w) h2 hr
 rcases hc with ⟨rfl,hc⟩|⟨j,rfl,hc⟩
 ·refine fe (w':=w.putObj b (.map (arr.push ⟨.string ⟨s.toArray⟩,.bool true,cl⟩) (cl+1))) rfl ?_ (k _ _ (st.with ((st.ok.perm u.perm).putObj _)))
  simp [execOp,st.eval hx,st.eval hy,st.eval hv,Instr.mapUpdate,run_underlying h1,getObj,setObj,Sem.run,hw,hck,hfk,Result.andThen,World.putObj]
 ·rw [hn] at hc;cases hc
end
section
variable {P:Program} [Tb P] {F:Fd}{n:PostD}{x:Nat→PostD}{a b Au:List (Nat×A)}{o o1 ob:List (Nat×OE)}{ops:Array Oper}{rest:List Oper}{base:Nat}{es0:List Ef}
variable {d k T:Nat}{ty:TypeId}{pos:String}{af:Array Edge}{g:Option (Nat×Bool)}{xo yo vo:Operand}{s:Txt}{es:List Txt}
theorem Mm (hk:nextK a o=some k) (hd:Nat.blt d F.m=true) (kk:JLD P F ops n x rest ((d,.mp k)::a) ((k,.set [])::o)):JLD P F ops n x (⟨some d,.makeMap T none,ty,pos,af,none⟩::rest) a o:=.mk fun ρ h S L cz=>by
 refine JL.makeMap hd (fun bb=>?_)
 have c':=cz.eqv hk (ρ.eqv_setB k bb)
 exact kk.k (ρ.setB k bb) h _ _ (Cz.put (u:=.mp k) (⟨c'.t,c'.s,_,L,rfl,⟨#[],0,by rw [fH],rfl⟩,c'.o⟩:Cz P (ρ.setB k bb) h a ((k,.set [])::o) S (.obj bb (.map #[] 0)::L)) (by show _=_;rw [fH]) d)
theorem St1.look (hx:evA a xo=some (.mp k)) (hy:evA a yo=some (.d (.v (.string ⟨⟨s⟩⟩)))) (hk:lkO o k=some (.set es)) (hT:mapT P T=true) (hg:gdB ops a g=some true) (hd:Nat.blt d F.m=true) :
 St1 P F ops a o ⟨some d,.lookup T xo yo false,ty,pos,af,g⟩ d (.d (.bq (es.any fun t=>decide (t=s)))):=.run hg hd fun ρ h S L cz=>by
 obtain⟨v,h1,h2⟩:=cd cz hx
 cases h2
 obtain⟨y,L',hD,⟨arr,cl,rfl,he⟩,hr⟩:=cz.o.get hk
 exact⟨_,RunV.lookSet hT h1 (dt cz hy) hD.mem he,(dg (h:=h)).2 rfl⟩
theorem Mu (hx:evA a xo=some (.mp k)) (hy:evA a yo=some (.d (.v (.string ⟨⟨s⟩⟩)))) (hv:evA a vo=some (.d (.v (.bool true)))) (hk:lkO o k=some (.set es)) (hn:(es.any fun t=>decide (t=s))=false) (hT:mapT P T=true) (hdel:delQ o k=some o1)
 (kk:JLD P F ops n x rest a ((k,.set (es++[s]))::o1)):JLD P F ops n x (⟨none,.mapUpdate T xo yo vo,ty,pos,af,none⟩::rest) a o:=.mk fun ρ h S L cz=>by
 obtain rfl:=fU hdel
 obtain⟨v,h1,h2⟩:=cd cz hx
 cases h2
 obtain⟨y,L',hD,⟨arr,cl,rfl,he⟩,hr⟩:=cz.o.get hk
 refine JL.putSet hT h1 (dt cz hy) (dt cz hv) hD he hn ?_
 exact kk.k ρ h S _ ⟨cz.t,cz.s,_,L',rfl,⟨_,_,rfl,by simp [he]⟩,hr⟩
end
end
section
set_option maxRecDepth 100000
set_option maxHeartbeats 4000000
theorem ordC_d:FnD Tryz.prog 71 [.sl 11 Crt.enc [],fnD 72,.b true] (.b true):=by
 refine aB Tryz.func71 rfl Tryz.ntmps71 rfl (fun e=>?_)
 refine W ?_
 refine Lp (γ:=Unit) (fun _=>True) (fun _=>0) (fun _=>[(0,.d (.sl 11 Crt.enc [])),(7,.d (.i 1))]) (fun _=>[]) () trivial ⟨rfl,rfl,trivial⟩ trivial ?_
 rintro _ _
 refine W ?_
 exact Rt rfl rfl rfl
instance:Cn Tryz.prog 71 (type_of% @ordC_d):=⟨@ordC_d⟩
theorem ordL_d:FnD Tryz.prog 73 [.sl 6 Cl.enc [],fnD 74,.b true] (.b true):=by
 refine aB Tryz.func73 rfl Tryz.ntmps73 rfl (fun e=>?_)
 refine W ?_
 refine Lp (γ:=Unit) (fun _=>True) (fun _=>0) (fun _=>[(0,.d (.sl 6 Cl.enc [])),(7,.d (.i 1))]) (fun _=>[]) () trivial ⟨rfl,rfl,trivial⟩ trivial ?_
 rintro _ _
 refine W ?_
 exact Rt rfl rfl rfl
instance:Cn Tryz.prog 73 (type_of% @ordL_d):=⟨@ordL_d⟩
theorem ordS_d:FnD Tryz.prog 75 [.sl 7 Sg.enc [],fnD 76,.b false] (.b true):=by
 refine aB Tryz.func75 rfl Tryz.ntmps75 rfl (fun e=>?_)
 refine W ?_
 refine Lp (γ:=Unit) (fun _=>True) (fun _=>0) (fun _=>[(0,.d (.sl 7 Sg.enc [])),(7,.d (.i 1))]) (fun _=>[]) () trivial ⟨rfl,rfl,trivial⟩ trivial ?_
 rintro _ _
 refine W ?_
 exact Rt rfl rfl rfl
instance:Cn Tryz.prog 75 (type_of% @ordS_d):=⟨@ordS_d⟩
theorem cright0_d:FnD Tryz.prog 21 [.st (Sd.enc ⟨[],false,[],[],[],[]⟩)] (.b false):=by
 refine aB Tryz.func21 rfl Tryz.ntmps21 rfl (fun e=>?_)
 refine W ?_
 exact Rt rfl rfl rfl
theorem k9 (t c:Txt) (ht:(oidB t).isSome=true) (hl:t.length≤50000000000):FnD Tryz.prog 21 [.st (Sd.enc ⟨t,true,c,[],[],[]⟩)] (.b true):=by
 have o1:=@ordL_d
 have o2:=@ordS_d
 refine aB Tryz.func21 rfl Tryz.ntmps21 rfl (fun e=>?_)
 refine W ?_
 refine Bg rfl rfl (fun g1=>?_) (fun g1=>?_)
 ·rw [ht] at g1;cases g1
 refine W ?_
 refine Lp (γ:=Unit) (fun _=>True) (fun _=>0) (fun _=>[(1,.own 0 0),(50,.d (.i 0)),(51,.d (.i 0))]) (fun _=>[(0,.whl 37 (.st (Sd.enc ⟨t,true,c,[],[],[]⟩)))]) () trivial ⟨rfl,rfl,rfl,trivial⟩ ⟨rfl,trivial⟩ ?_
 rintro _ _
 refine W ?_
 refine Lp (γ:=Unit) (fun _=>True) (fun _=>0) (fun _=>[(1,.own 0 0),(61,.d (.i 0)),(62,.d (.i 0))]) (fun _=>[(0,.whl 37 (.st (Sd.enc ⟨t,true,c,[],[],[]⟩)))]) () trivial ⟨rfl,rfl,rfl,trivial⟩ ⟨rfl,trivial⟩ ?_
 rintro _ _
 refine W ?_
 refine Lp (γ:=Unit) (fun _=>True) (fun _=>0) (fun _=>[(1,.own 0 0),(72,.d (.i 0)),(73,.d (.i 0))]) (fun _=>[(0,.whl 37 (.st (Sd.enc ⟨t,true,c,[],[],[]⟩)))]) () trivial ⟨rfl,rfl,rfl,trivial⟩ ⟨rfl,trivial⟩ ?_
 rintro _ _
 refine W ?_
 exact Rt rfl rfl rfl
abbrev oData:Txt:=[49,46,50,46,56,52,48,46,49,49,51,53,52,57,46,49,46,55,46,49]
abbrev oSigned:Txt:=[49,46,50,46,56,52,48,46,49,49,51,53,52,57,46,49,46,55,46,50]
theorem iJ (c:Txt):FnD Tryz.prog 117 [.st (Sd.enc ⟨oData,true,c,[],[],[]⟩)] (.i 1):=by
 refine aB Tryz.func117 rfl Tryz.ntmps117 rfl (fun e=>?_)
 refine W ?_
 refine Lp (γ:=Unit) (fun _=>True) (fun _=>0) (fun _=>[(10,.d (.i 0)),(11,.d (.i 0))]) (fun _=>[]) () trivial ⟨rfl,rfl,trivial⟩ trivial ?_
 rintro _ _
 refine W ?_
 exact Rt rfl rfl rfl
instance:Cn Tryz.prog 117 (type_of% @iJ):=⟨@iJ⟩
abbrev nilV:D:=.v (.slice none 0 0)
theorem ins0_d:FnD Tryz.prog 235 [nilV,.i 0,.i 0,fnD 146] (.v (.tuple #[])):=by
 refine aB Tryz.func235 rfl Tryz.ntmps235 rfl (fun e=>?_)
 refine W ?_
 refine Lp (fun _:Unit=>True) (fun _=>0) (fun _=>[(2,.d (.i 0)),(8,.d (.i 1))]) (fun _=>[]) () trivial ⟨rfl,rfl,trivial⟩ trivial ?_
 rintro _ _
 refine W ?_
 exact⟨_,_,_,rfl,rfl,rfl⟩
instance:Cn Tryz.prog 235 (type_of% @ins0_d):=⟨@ins0_d⟩
theorem stb0_d:FnD Tryz.prog 191 [nilV,.i 0,fnD 146] (.v (.tuple #[])):=by
 refine aB Tryz.func191 rfl Tryz.ntmps191 rfl (fun e=>?_)
 refine W ?_
 refine Lp (fun _:Unit=>True) (fun _=>0) (fun _=>[(0,.d nilV),(1,.d (.i 0)),(2,.d (fnD 146)),(6,.d (.i 20)),(7,.d (.i 0)),(8,.d (.i 20))]) (fun _=>[]) () trivial ⟨rfl,rfl,rfl,rfl,rfl,rfl,trivial⟩ trivial ?_
 rintro _ _
 refine W ?_
 refine Lp (fun _:Unit=>True) (fun _=>0) (fun _=>[(1,.d (.i 0)),(6,.d (.i 20))]) (fun _=>[]) () trivial ⟨rfl,rfl,trivial⟩ trivial ?_
 rintro _ _
 refine W ?_
 exact⟨_,_,_,rfl,rfl,rfl⟩
instance:Cn Tryz.prog 191 (type_of% @stb0_d):=⟨@stb0_d⟩
theorem srt0_d:FnD Tryz.prog 145 [nilV,fnD 146] (.v (.tuple #[])):=by
 refine aB Tryz.func145 rfl Tryz.ntmps145 rfl (fun e=>?_)
 refine W ?_
 exact⟨_,_,_,rfl,rfl,rfl⟩
instance:Cn Tryz.prog 145 (type_of% @srt0_d):=⟨@srt0_d⟩
theorem set0_d:FnD Tryz.prog 83 [.nds []] (.tup [.nd (.mk 0 17 true [] []),.i 0]):=by
 have ho:=@own_d [] (by simp [Nd.szL])
 refine aB Tryz.func83 rfl Tryz.ntmps83 rfl (fun e=>?_)
 refine W ?_
 refine Lp (γ:=Unit) (fun _=>True) (fun _=>0) (fun _=>[(2,.own 0 0),(4,.d nilV),(14,.d (.i 0)),(15,.d (.i 0))]) (fun _=>[(0,.var 31 [.d (.i 0),.d (.i 0),.d (.b false),.d nilV,.d nilV])]) () trivial ⟨rfl,rfl,rfl,rfl,trivial⟩ ⟨rfl,trivial⟩ ?_
 rintro _ _
 refine W ?_
 refine Lp (γ:=Unit) (fun _=>True) (fun _=>0) (fun _=>[(2,.own 0 0),(9,.own 1 0),(40,.d (.i 0)),(41,.d (.i 0))]) (fun _=>[(1,.whl 31 (.st [.i 0,.i 17,.v (.bool true),nilV,nilV])),(0,.var 31 [.d (.i 0),.d (.i 0),.d (.b false),.d nilV,.d nilV])]) () trivial ⟨rfl,rfl,rfl,rfl,trivial⟩ ⟨rfl,rfl,trivial⟩ ?_
 rintro _ _
 refine W ?_
 exact Rt rfl rfl rfl
instance:Cn Tryz.prog 83 (type_of% @set0_d):=⟨@set0_d⟩
theorem iO (t c:Txt) (h:Bool):FnD Tryz.prog 118 [.st (Sd.enc ⟨t,h,c,[],[],[]⟩)] (.nd (.mk 0 17 true [] [])):=by
 refine aB Tryz.func118 rfl Tryz.ntmps118 rfl (fun e=>?_)
 refine W ?_
 refine Mm rfl rfl ?_
 refine W ?_
 refine Lp (γ:=Unit) (fun _=>True) (fun _=>0) (fun _=>[(2,.own 1 0),(4,.d nilV),(12,.d (.i 0)),(13,.d (.i 0))]) (fun _=>[(1,.var 31 [.d (.i 0),.d (.i 0),.d (.b false),.d nilV,.d nilV])]) () trivial ⟨rfl,rfl,rfl,rfl,trivial⟩ ⟨rfl,trivial⟩ ?_
 rintro _ _
 refine W ?_
 exact Rt rfl rfl rfl
instance:Cn Tryz.prog 118 (type_of% @iO):=⟨@iO⟩
end
section
set_option maxRecDepth 100000
set_option pp.deepTerms true
set_option pp.maxSteps 100000
set_option maxHeartbeats 4000000
theorem int_d (n:Int):FnD Tryz.prog 26 [.i n] (.nd (.mk 0 2 false (intB n) [])):=.mk fun h vs hT hd=>by
 obtain⟨v,rfl,h1⟩:=gJ hd
 rw [d9.1 h1]
 exact int_fn.mono fun v h' _ ⟨cs,e,r⟩=>⟨_,rfl,by rw [e];exact(dk (h:=h')).2 ⟨cs,rfl,r⟩⟩
instance:Cn Tryz.prog 26 (type_of% @int_d):=⟨@int_d⟩
theorem rf (l:List Nd) (hz:Nd.szL l≤1099511627776):FnO Tryz.prog 24 31 kN [.nds l] [.i 0,.i 16,.v (.bool true),nilV] l:=.mk fun h vs hT hd=>by
 obtain⟨v,rfl,h1⟩:=gJ hd
 obtain⟨a,cc,rfl,hR⟩:=dM.1 h1
 have hb:=hR.big
 exact(cseqo_fn hR hz).mono fun e h' Lo _ ⟨v,he,a',c',xs,e1,e2,e3⟩=>⟨v,he,[.int .i64 0,.int .i64 16,.bool true,.slice none 0 0],a',c',xs,e1,.c rfl (ba (h:=h')) (.c rfl (ba (h:=h')) (.c rfl (ba (h:=h')) (.c rfl (ba (h:=h')) .n))),e2,e3,hb⟩
theorem pH (c:Txt) (hc:c.length≤1000):FnD Tryz.prog 62 [.st (Sd.enc ⟨oData,true,c,[],[],[]⟩)] (.tup [.nd (.mk 0 16 true [] [oiN oSigned,.mk 2 0 true [] [.mk 0 16 true [] [.mk 0 2 false (intB 1) [],.mk 0 17 true [] [],.mk 0 16 true [] [oiN oData,.mk 2 0 true [] [.mk 0 4 false c []]],.mk 0 17 true [] []]]]),.i 0]):=by
 have ht:(oidB oData).isSome=true:=by kernel_rfl
 have hR:=k9 oData c ht bJ
 have s1:(oiN oSigned).sz≤1000:=Nat.le_trans (fh _) bJ
 have s2:(oiN oData).sz≤1000:=Nat.le_trans (fh _) bJ
 have s3:(intB 1).length≤10:=by decide +kernel
 refine aB Tryz.func62 rfl Tryz.ntmps62 rfl (fun e=>?_)
 refine W ?_
 refine Co rfl rfl (rf [oiN oData] (by simp only [Nd.szL];omega)) rfl ?_
 refine W ?_
 refine Xap kN rfl rfl rfl rfl rfl rfl rfl (by simp) rfl rfl rfl ?_
 refine RX1 rfl rfl ?_
 refine dI rfl ?_
 refine Nvk 4 rfl rfl rfl rfl rfl ?_
 refine Pb 4 rfl ?_
 refine W ?_
 refine Xco (K:=kN) rfl rfl (rf [.mk 0 2 false (intB 1) [],.mk 0 17 true [] [],.mk 0 16 true [] [oiN oData,.mk 2 0 true [] [.mk 0 4 false c []]]] (by simp only [Nd.szL,Nd.sz,bh];omega)) rfl ?_
 refine RX1 rfl rfl ?_
 refine dI rfl ?_
 refine W ?_
 refine Lp (γ:=Unit) (fun _=>True) (fun _=>0) (fun _=>[(1,.own 0 0),(2,.own 1 0),(4,.own 2 0),(9,.own 7 0),(10,.d nilV),(11,.d nilV),(12,.d nilV),(64,.d (.i 0)),(65,.d (.i 0))])
  (fun _=>[(7,.var 31 [.d (.i 0),.d (.i 16),.d (.v (.bool true)),.d nilV,.row 6]),(6,.row 31 (.nds [.mk 0 2 false (intB 1) [],.mk 0 17 true [] [],.mk 0 16 true [] [oiN oData,.mk 2 0 true [] [.mk 0 4 false c []]]])),(2,.whl 31 (.nd (oiN oSigned))),(1,.var 31 [.d (.i 0),.d (.i 0),.d (.b false),.d nilV,.d nilV]),(0,.whl 37 (.st (Sd.enc ⟨oData,true,c,[],[],[]⟩)))]) () trivial ⟨rfl,rfl,rfl,rfl,rfl,rfl,rfl,rfl,rfl,trivial⟩ ⟨rfl,rfl,rfl,rfl,rfl,trivial⟩ ?_
 rintro _ _
 refine W ?_
 refine Lp (γ:=Unit) (fun _=>True) (fun _=>0) (fun _=>[(1,.own 0 0),(2,.own 1 0),(4,.own 2 0),(9,.own 7 0),(10,.d nilV),(11,.d nilV),(12,.d nilV),(81,.d (.i 0)),(82,.d (.i 0))])
  (fun _=>[(7,.var 31 [.d (.i 0),.d (.i 16),.d (.v (.bool true)),.d nilV,.row 6]),(6,.row 31 (.nds [.mk 0 2 false (intB 1) [],.mk 0 17 true [] [],.mk 0 16 true [] [oiN oData,.mk 2 0 true [] [.mk 0 4 false c []]]])),(2,.whl 31 (.nd (oiN oSigned))),(1,.var 31 [.d (.i 0),.d (.i 0),.d (.b false),.d nilV,.d nilV]),(0,.whl 37 (.st (Sd.enc ⟨oData,true,c,[],[],[]⟩)))]) () trivial ⟨rfl,rfl,rfl,rfl,rfl,rfl,rfl,rfl,rfl,trivial⟩ ⟨rfl,rfl,rfl,rfl,rfl,trivial⟩ ?_
 rintro _ _
 refine W ?_
 refine Lp (γ:=Unit) (fun _=>True) (fun _=>0) (fun _=>[(1,.own 0 0),(2,.own 1 0),(4,.own 2 0),(9,.own 7 0),(10,.d nilV),(11,.d nilV),(12,.d nilV),(98,.d (.i 0)),(99,.d (.i 0))])
  (fun _=>[(7,.var 31 [.d (.i 0),.d (.i 16),.d (.v (.bool true)),.d nilV,.row 6]),(6,.row 31 (.nds [.mk 0 2 false (intB 1) [],.mk 0 17 true [] [],.mk 0 16 true [] [oiN oData,.mk 2 0 true [] [.mk 0 4 false c []]]])),(2,.whl 31 (.nd (oiN oSigned))),(1,.var 31 [.d (.i 0),.d (.i 0),.d (.b false),.d nilV,.d nilV]),(0,.whl 37 (.st (Sd.enc ⟨oData,true,c,[],[],[]⟩)))]) () trivial ⟨rfl,rfl,rfl,rfl,rfl,rfl,rfl,rfl,rfl,trivial⟩ ⟨rfl,rfl,rfl,rfl,rfl,trivial⟩ ?_
 rintro _ _
 refine W ?_
 refine Xap kN rfl rfl rfl rfl rfl rfl rfl (by simp) rfl rfl rfl ?_
 refine RX1 rfl rfl ?_
 refine dI rfl ?_
 refine Nvk 6 rfl rfl rfl rfl rfl ?_
 refine Pb 6 rfl ?_
 have hcs:=@nO 2 0 [.mk 0 16 true [] [.mk 0 2 false (intB 1) [],.mk 0 17 true [] [],.mk 0 16 true [] [oiN oData,.mk 2 0 true [] [.mk 0 4 false c []]],.mk 0 17 true [] []]] (by simp only [Nd.szL,Nd.sz,bh];omega)
 have hsq:=rg [oiN oSigned,.mk 2 0 true [] [.mk 0 16 true [] [.mk 0 2 false (intB 1) [],.mk 0 17 true [] [],.mk 0 16 true [] [oiN oData,.mk 2 0 true [] [.mk 0 4 false c []]],.mk 0 17 true [] []]]] (by simp only [Nd.szL,Nd.sz,bh];omega)
 refine W ?_
 exact Rt rfl rfl rfl
instance:Cn Tryz.prog 62 (type_of% @pH):=⟨@pH⟩
end
section
set_option maxRecDepth 100000
set_option maxHeartbeats 4000000
abbrev kInt:Nd:=.mk 0 2 false (intB 1) []
abbrev kSet:Nd:=.mk 0 17 true [] []
abbrev kOct:Nd:=.mk 0 4 false [5] []
abbrev kCtx:Nd:=.mk 2 0 true [] [kOct]
abbrev kCon:Nd:=.mk 0 16 true [] [oiN oData,kCtx]
abbrev kIn:Nd:=.mk 0 16 true [] [kInt,kSet,kCon,kSet]
abbrev kMid:Nd:=.mk 2 0 true [] [kIn]
abbrev kTop:Nd:=.mk 0 16 true [] [oiN oSigned,kMid]
abbrev kSd:Sd:=⟨oData,true,[5],[],[],[]⟩
def knB:Txt:=kTop.wr.1
theorem knB_len:(knB.length:Int)=42:=by kernel_rfl
theorem knB_1:((knB.getD 1 default).toNat:Int)=40:=by kernel_rfl
theorem kTop_wr:kTop.wr=(knB,0):=by
 have:kTop.wr.2=0:=by kernel_rfl
 rw [← this];rfl
theorem kTop_sz:kTop.sz≤1000:=by decide +kernel
theorem kwrite_d:FnD Tryz.prog 17 [.st kSd.enc] (.tup [.bs knB,.i 0]):=by
 have hn:=pH [5] bJ
 have hw:=@og kTop (Nat.le_trans kTop_sz bJ)
 rw [kTop_wr] at hw
 refine aB Tryz.func17 rfl Tryz.ntmps17 rfl (fun e=>?_)
 refine W ?_
 exact Rt rfl rfl rfl
theorem mc {x:Nd}(hz:x.sz≤1073741824):FnD Tryz.prog 99 [.nd x] (.tup [.i x.intV,.b x.intOk]):=.mk fun h vs hT hd=>by
 obtain⟨v,rfl,h1⟩:=gJ hd
 obtain⟨cs,rfl,hR⟩:=dk.1 h1
 exact(intof_fn hR hT hz).d (fS (ba (h:=h)) ((dg (h:=h)).2 rfl))
theorem equal_d {l r:Txt}:FnD Tryz.prog 125 [.bs l,.bs r] (.b (decide (l=r))):=.mk fun h vs hT hd=>by
 obtain⟨v,w,rfl,h1,h2⟩:=den2 hd
 obtain⟨a,cc,rfl,hR⟩:=cV.1 h1
 obtain⟨a',cc',rfl,hR'⟩:=cV.1 h2
 exact(bequal_fn hR hR').d ((dg (h:=h)).2 rfl)
theorem FnD.to {P:Program} [Tb P] {Fi:Nat}{ds:List D}{d d':D}(c:FnD P Fi ds d) (h:d=d'):FnD P Fi ds d':=h ▸ c
theorem kparts_b:FnB Tryz.prog 124 37 [] (.st [.s [],.b false,nilV,nilV,nilV,nilV]) [.nds [kInt,kSet,kCon,kSet]] (fun d d1=>d=.b true∧d1=.st [.s oData,.b true,.bs [5],nilV,nilV,nilV]):=by
 have h1:FnD Tryz.prog 44 [.nd kCon,.i 1,.i 2] (.b true):=(ig kCon 1 2).to (by rw [show isSeqB kCon 1 2=true by kernel_rfl])
 have h2:FnD Tryz.prog 102 [.nd (oiN oData)] (.tup [.s oData,.b true]):=(jj (oiN oData) (Nat.le_trans (fh _) bJ)).to (by rw [show cOid (oiN oData)=(oData,true) by kernel_rfl])
 have h3:FnD Tryz.prog 47 [.nd kCtx,.i 0,.b true] (.b true):=(f0 kCtx 0 true).to (by rw [show isCtxB kCtx 0 true=true by kernel_rfl])
 have h4:FnD Tryz.prog 47 [.nd kSet,.i 0,.b true] (.b false):=(f0 kSet 0 true).to (by rw [show isCtxB kSet 0 true=false by kernel_rfl])
 have h5:FnD Tryz.prog 47 [.nd kSet,.i 1,.b true] (.b false):=(f0 kSet 1 true).to (by rw [show isCtxB kSet 1 true=false by kernel_rfl])
 refine FnB.intro Tryz.func124 rfl Tryz.ntmps124 rfl (fun e b=>?_)
 refine W ?_
 refine Lp (γ:=Unit) (fun _=>True) (fun _=>0) (fun _=>[(0,.own 0 0),(7,.d (.b true)),(198,.d (.i 0)),(199,.d (.i 0))]) (fun _=>[(0,.var 37 [.d (.s oData),.d (.b true),.d (.bs [5]),.d nilV,.d nilV,.d nilV]),(1,.pin 0 b)]) () trivial ⟨rfl,rfl,rfl,rfl,trivial⟩ ⟨rfl,rfl,trivial⟩ ?_
 rintro _ _
 refine W ?_
 exact RtB 1 rfl rfl rfl rfl rfl ⟨rfl,rfl⟩
end
section
set_option maxRecDepth 100000
set_option maxHeartbeats 4000000
theorem kof_d:FnD Tryz.prog 65 [.nd kTop] (.tup [.st kSd.enc,.b true]):=by
 have q1:FnD Tryz.prog 43 [.nd kTop] (.b true):=(@oI kTop (Nat.le_trans kTop_sz bJ)).to (by rw [show kTop.put.isSome=true by kernel_rfl])
 have q2:FnD Tryz.prog 44 [.nd kTop,.i 2,.i 2] (.b true):=(ig kTop 2 2).to (by rw [show isSeqB kTop 2 2=true by kernel_rfl])
 have q3:FnD Tryz.prog 47 [.nd kMid,.i 0,.b true] (.b true):=(f0 kMid 0 true).to (by rw [show isCtxB kMid 0 true=true by kernel_rfl])
 have q4:FnD Tryz.prog 102 [.nd (oiN oSigned)] (.tup [.s oSigned,.b true]):=(jj (oiN oSigned) (Nat.le_trans (fh _) bJ)).to (by rw [show cOid (oiN oSigned)=(oSigned,true) by kernel_rfl])
 have q5:FnD Tryz.prog 44 [.nd kIn,.i 4,.i 6] (.b true):=(ig kIn 4 6).to (by rw [show isSeqB kIn 4 6=true by kernel_rfl])
 have q6:=k9 oData [5] cY bJ
 have q7:FnD Tryz.prog 99 [.nd kInt] (.tup [.i 1,.b true]):=(@mc kInt (by simp only [Nd.sz,Nd.szL];have:(intB 1).length=1:=cY;omega)).to (by rw [show kInt.intV=1 by kernel_rfl,show kInt.intOk=true by kernel_rfl])
 have q8:=iI kSet (by decide +kernel)
 have q10:=iJ [5]
 have q11:=iO oData [5] true
 have q9:FnD Tryz.prog 125 [.bs kSet.wr.1,.bs kSet.wr.1] (.b true):=equal_d.to (by rw [an rfl])
 refine aB Tryz.func65 rfl Tryz.ntmps65 rfl (fun e=>?_)
 refine W ?_
 refine Cp (os1:=[]) rfl rfl rfl rfl rfl rfl rfl kparts_b rfl ?_
 rintro _ _ ⟨rfl,rfl⟩
 refine W ?_
 exact Rt rfl rfl rfl
theorem kparse_d:FnD Tryz.prog 18 [.bs knB] (.tup [.st kSd.enc,.b true]):=by
 have ho:=kof_d
 have hr:FnD Tryz.prog 64 [.bs knB] (.tup [.nd kTop,.st (Flt.enc ⟨0,0⟩)]):=by
  have h:=@read_d knB
  have e:rdTop knB=(kTop,0,0):=lH (x:=kTop) (by rw [kTop_wr])
  rw [e] at h;exact h
 refine aB Tryz.func18 rfl Tryz.ntmps18 rfl (fun e=>?_)
 refine W ?_
 exact Rt rfl rfl rfl
end
section
set_option maxRecDepth 100000
set_option maxHeartbeats 4000000
theorem jh:FnD Tryz.prog 6 [] (.b true):=by
 obtain⟨B,hw,hp,hl,h1⟩:∃ B:Txt,FnD Tryz.prog 17 [.st kSd.enc] (.tup [.bs B,.i 0])∧FnD Tryz.prog 18 [.bs B] (.tup [.st kSd.enc,.b true])∧(B.length:Int)=42∧((B.getD 1 0).toNat:Int)=40:=⟨knB,kwrite_d,kparse_d,knB_len,knB_1⟩
 have hr1:=k9 oData [5] cY bJ
 have hr0:=cright0_d
 have hput:=cput_d [49,46,50,46,51] [5,0] bJ
 have hget:FnD Tryz.prog 20 [.sl 2 Fe.enc [⟨[49,46,50,46,51],[[5,0]]⟩],.s [49,46,50,46,51]] (.tup [.sl 1 bE [[5,0]],.b true]):=cget_d [⟨[49,46,50,46,51],[[5,0]]⟩] [49,46,50,46,51] bJ (by intro f hf;rw [List.mem_singleton] at hf;subst hf;exact⟨by decide,by decide⟩)
 refine aB Tryz.func6 rfl Tryz.ntmps6 rfl (fun e=>?_)
 refine W ?_
 refine Pl 0 rfl ?_
 refine W ?_
 refine Pl 2 rfl ?_
 refine W ?_
 refine Pl 2 rfl ?_
 refine W ?_
 refine Bg rfl rfl (fun _=>?_) (fun h=>absurd hl h)
 refine W ?_
 refine Bg rfl rfl (fun _=>?_) (fun h=>absurd h1 h)
 refine W ?_
 exact Rt rfl rfl rfl
end
section
set_option maxRecDepth 100000
set_option maxHeartbeats 4000000
instance:Cn Tryz.prog 6 (type_of% @jh):=⟨@jh⟩
end
section
set_option maxRecDepth 100000
set_option maxHeartbeats 4000000
end
section
set_option maxRecDepth 100000
set_option maxHeartbeats 4000000
def FeS (f:Fe):Prop:=(f.oid.length≤400000∧(oiN f.oid).sz≤200000)∧f.vals.length≤400000∧∀ v∈f.vals,v.length≤100000
theorem i_ {f:Fe}(h:FeS f):(fieldN f).sz≤1100000:=by
 unfold fieldN
 cases hb:fnOk f with
 |false=>simp [ndZ0,Nd.sz,Nd.szL]
 |true =>
  have h8:f.vals.length≤8:=by
   simp only [fnOk,Bool.and_eq_true,aj] at hb
   omega
  have h1:=szl_rd 100000 f.vals h.2.2
  have h2:Nd.szL (f.vals.map fun v=>(rdTop v).1)≤8*100001:=Nat.le_trans h1 (bz _ h8)
  have h4:=h.1.2
  simp only [if_true,setN,Nd.sz,Nd.szL,bh]
  omega
def fbP (f:Fe):Txt:=if fieldE f≠0 then [] else(fieldN f).wr.1
def fbR (f:Fe):Txt:=if fieldE f≠0 then [] else(fieldN f).put.getD []
theorem eB (f:Fe) (h:FeS f):FnD Tryz.prog 131 [.st f.enc] (.bs (fbP f)):=by
 have hz:=i_ h
 have hc:=ek f (Nat.le_trans h.1.1 z2_) (Nat.le_trans h.2.1 z2_) (fun v hv=>Nat.le_trans (h.2.2 v hv) z2_)
 unfold fbP
 exact aB Tryz.func131 rfl Tryz.ntmps131 rfl (fun e=>Z)
instance:Cn Tryz.prog 131 (type_of% @eB):=⟨@eB⟩
theorem kK (n:Nd) (hz:n.sz≤10000000):FnD Tryz.prog 193 [.nd n] (.bs (n.put.getD [])):=by
 exact aB Tryz.func193 rfl Tryz.ntmps193 rfl (fun e=>Z)
instance:Cn Tryz.prog 193 (type_of% @kK):=⟨@kK⟩
theorem ft (f:Fe) (h:FeS f):FnD Tryz.prog 151 [.st f.enc] (.bs (fbR f)):=by
 have hz:=i_ h
 have hc:=eh f (Nat.le_trans h.1.1 z2_) (Nat.le_trans h.2.1 z2_) (fun v hv=>Nat.le_trans (h.2.2 v hv) z2_)
 unfold fbR
 exact aB Tryz.func151 rfl Tryz.ntmps151 rfl (fun e=>Z)
instance:Cn Tryz.prog 151 (type_of% @ft):=⟨@ft⟩
theorem jf {l:List Fe}{i:Nat}(h:i<l.length):(l.map fbP).getD i []=fbP (l.getD i default):=by
 rw [ce (by rw [aK];exact h),List.getElem_map,ce h]
theorem nG {l:List Fe}(hB:∀ f∈l,FeS f) (i:Nat):FeS (l.getD i default):=by
 by_cases h:i<l.length
 ·rw [ce h];exact hB _ (aL h)
 ·rw [bg,bL z2_]
  exact⟨⟨Nat.zero_le _,Nat.le_trans (fh []) bJ⟩,Nat.zero_le _,fun v hv=>by cases hv⟩
theorem gM (l:List Fe) (hl:l.length≤1073741824) (hB:∀ f∈l,FeS f):FnD Tryz.prog 141 [.sl 2 Fe.enc l,fnD 131,.b false] (.b (ordB (l.map fbP))):=by
 have hs:=nG hB
 refine aB Tryz.func141 rfl Tryz.ntmps141 rfl (fun e=>?_)
 refine W ?_
 refine Lp (γ:=Nat) (fun g=>(g=0∨g+1≤l.length)∧OrdK (l.map fbP) g) (fun g=>l.length+1-g) (fun g=>[(0,.d (.sl 2 Fe.enc l)),(1,.d (fnD 131)),(2,.d (.b false)),(7,.d (.i ((g:Int)+1)))]) (fun _=>[]) 0 ⟨.inl rfl,fun j hj=>by omega⟩ ⟨rfl,rfl,rfl,rfl,trivial⟩ trivial ?_
 rintro g ⟨hg,ho⟩
 have c1:=eB (l.getD ((g:Int)+1-1).toNat default) (hs _)
 have c2:=eB (l.getD (g+1) default) (hs _)
 refine W ?_
 refine Ci rfl (fun h=>?_) (fun h=>?_)
 ·refine W ?_
  have hgg:((g:Int)+1-1).toNat=g:=by omega
  refine Bg rfl rfl (fun h2=>?_) (fun h2=>?_)
  ·rw [hgg,← jf z2_,← jf z2_] at h2
   have hb:ordB (l.map fbP)=false:=by
    refine am fun hh=>hh g (by rw [aK];omega) h2
   refine W ?_
   refine Rt rfl rfl ?_
   rw [hb];rfl
  rw [hgg,← jf z2_,← jf z2_] at h2
  refine W ?_
  refine Bg rfl rfl (fun h3=>?_) (fun h3=>?_)
  all_goals
   refine W ?_
   first|exact⟨g+1,by omega,⟨.inr z2_,fJ ho h2⟩,⟨rfl,rfl,rfl,rfl,trivial⟩,trivial⟩|(refine Ci rfl (fun h=>by cases h) (fun _=>?_);refine W ?_;exact⟨g+1,by omega,⟨.inr z2_,fJ ho h2⟩,⟨rfl,rfl,rfl,rfl,trivial⟩,trivial⟩)
 ·have hb:ordB (l.map fbP)=true:=an fun j hj=>ho j (by rw [aK] at hj;omega)
  refine W ?_
  refine Rt rfl rfl ?_
  rw [hb];rfl
instance:Cn Tryz.prog 141 (type_of% @gM):=⟨@gM⟩
end
section
theorem kZ {f:Fe}(h:fnOk f=true):(fieldN f).put.isSome=true:=by
 have h':=h
 simp only [fnOk,Bool.and_eq_true,aj] at h'
 obtain⟨⟨⟨⟨h1,h2⟩,h3⟩,h4⟩,h5⟩:=h'
 have hp:∀ v∈f.vals,(rdTop v).1.put=some v:=fun v hv=>by
  have h6:=List.all_eq_true.1 h4 v hv
  simp only [fldV,Bool.and_eq_true,aj] at h6
  have h7:=rd_wr h6.1
  have h8:=wr_put (n:=(rdTop v).1) (by rw [h7])
  rw [h7] at h8;exact h8
 have e1:(f.vals.map fun v=>(rdTop v).1).map (fun k=>k.put.getD [])=f.vals:=by
  rw [List.map_map]
  conv=>rhs;rw [← List.map_id f.vals]
  exact List.map_congr_left fun v hv=>by simp only [Function.comp,hp v hv];rfl
 have e2:(f.vals.map fun v=>(rdTop v).1).all (·.put.isSome)=true:=by
  rw [List.all_map,List.all_eq_true]
  intro v hv
  simp only [Function.comp,hp v hv];rfl
 unfold fieldN
 rw [if_pos h,gx,List.all_cons,lU h1,List.all_cons]
 unfold setN
 rw [lM,e2,e1,h5];rfl
theorem rkL_le {B:Nat}:∀ {l:List Nd},(∀ k∈l,k.rk≤B)→Nd.rkL l≤B
 |[],_=>by simp [Nd.rkL]
 |k::r,h=>by
  have h1:=h k (aF ..)
  have h2:=rkL_le (l:=r) fun k hk=>h k (aI _ hk)
  simp only [Nd.rkL];omega
theorem fieldN_rk {f:Fe}(h:fnOk f=true):(fieldN f).rk≤30:=by
 have h':=h
 simp only [fnOk,Bool.and_eq_true,aj] at h'
 obtain⟨⟨⟨⟨h1,h2⟩,h3⟩,h4⟩,h5⟩:=h'
 have hv:Nd.rkL (f.vals.map fun v=>(rdTop v).1)≤20:=rkL_le fun k hk=>by
  obtain⟨v,hv,rfl⟩:=List.mem_map.1 hk
  have h6:=List.all_eq_true.1 h4 v hv
  simp only [fldV,Bool.and_eq_true,aj] at h6
  omega
 unfold fieldN
 rw [if_pos h]
 simp only [setN,Nd.rk,Nd.rkL]
 have:(oiN f.oid).rk=1:=by unfold oiN;first|rfl|simp [Nd.rk,Nd.rkL]
 omega
theorem nF {f:Fe}(hs:FeS f) (h:fnOk f=true):(fieldN f).wr=((fieldN f).put.getD [],0)∧2≤((fieldN f).put.getD []).length:=by
 obtain⟨b,hb⟩:=Option.isSome_iff_exists.1 (kZ h)
 have h1:=i_ hs
 have h2:=Nd.put_len _ (fieldN f) b (aD _) hb
 have h3:=fieldN_rk h
 rw [hb]
 refine⟨?_,h2.1⟩
 unfold Nd.wr
 rw [hb]
 simp only
 rw [if_neg z2_,if_neg z2_];rfl
theorem fb_same {f:Fe}(hs:FeS f):fbP f=fbR f:=by
 unfold fbP fbR
 by_cases h:fieldE f=0
 ·rw [if_neg (by simp [h]),if_neg (by simp [h]),(nF hs (fN.1 h)).1]
 ·rw [if_pos h,if_pos h]
theorem fb_len {f:Fe}(hs:FeS f):(fbR f).length=0↔fieldE f≠0:=by
 unfold fbR
 by_cases h:fieldE f=0
 ·have:=(nF hs (fN.1 h)).2
  rw [if_neg (by simp [h])]
  exact⟨fun hh=>by omega,fun hh=>absurd h hh⟩
 ·rw [if_pos h];exact⟨fun _=>h,fun _=>rfl⟩
def seenP:List Txt→List Fe→Bool
 |_,[]=>true
 |es,f::r=>if fieldE f≠0 then false else if(es.any fun t=>decide (t=f.oid))=true then false else seenP (es++[f.oid]) r
def rfP (l:List Fe):Bool:=if 16<(l.length:Int) then false else if ordB (l.map fbP)=false then false else seenP [] l
def refP:Nat→List Txt→Txt→List Fe→Bool
 |_,_,_,[]=>true
 |i,es,prev,f::r=>if 16≤(i:Int) then false else if((fbR f).length:Int)=0 then false else if 0<Go.Lib.compareBytes prev (fbR f) then false else if(es.any fun t=>decide (t=f.oid))=true then false else refP (i+1) (es++[f.oid]) (fbR f) r
theorem refP_eq:∀ (l:List Fe) (i:Nat) (es:List Txt) (prev:Txt),(∀ f∈l,FeS f)→refP i es prev l=(decide (l=[]∨i+l.length≤16)&&ordB (prev::l.map fbR)&&seenP es l)
 |[],i,es,prev,_=>by simp [refP,seenP,ordB,OrdK]
 |f::r,i,es,prev,h=>by
  have ih:=refP_eq r (i+1) (es++[f.oid]) (fbR f) fun g hg=>h g (aI _ hg)
  have hl:=fb_len (h f (aF ..))
  rw [List.map_cons,lP]
  simp only [refP,seenP]
  by_cases h1:16≤(i:Int)
  ·rw [if_pos h1,am (by simp;omega)];simp
  rw [if_neg h1]
  by_cases h2:fieldE f=0
  ·rw [if_neg (show ¬ ((fbR f).length:Int)=0 by have:=mt hl.1 (by simp [h2]);omega),if_neg (show ¬ fieldE f≠0 by simp [h2])]
   by_cases h3:0<Go.Lib.compareBytes prev (fbR f)
   ·rw [if_pos h3,an h3];simp
   ·rw [if_neg h3,am h3]
    by_cases h4:(es.any fun t=>decide (t=f.oid))=true
    ·rw [if_pos h4,if_pos h4];simp
    ·rw [if_neg h4,if_neg h4,ih]
     have:(r=[]∨i+1+r.length≤16)↔(f::r=[]∨i+(f::r).length≤16):=by
      constructor
      ·rintro(hr|hr)
       ·subst hr;right;simp;omega
       ·right;simp;omega
      ·rintro(hr|hr)
       ·cases hr
       ·right;simp at hr;omega
     rw [show decide (r=[]∨i+1+r.length≤16)=decide (f::r=[]∨i+(f::r).length≤16) from decide_eq_decide.2 this];simp
  ·rw [if_pos (by have:=hl.2 h2;omega),if_pos h2];simp
theorem cmp_nil (y:Txt):¬ 0<Go.Lib.compareBytes [] y:=by cases y<;>simp [Go.Lib.compareBytes]
theorem ord_nil (l:List Txt):ordB ([]::l)=ordB l:=by
 cases l with
 |nil=>rfl
 |cons y r=>rw [lP,am (cmp_nil y)];simp
theorem rf_same {l:List Fe}(h:∀ f∈l,FeS f):refP 0 [] [] l=rfP l:=by
 rw [refP_eq l 0 [] [] h,ord_nil]
 have e:l.map fbP=l.map fbR:=List.map_congr_left fun f hf=>fb_same (h f hf)
 unfold rfP
 rw [e]
 by_cases h1:16<(l.length:Int)
 ·rw [if_pos h1,am (by rintro(hh|hh);(subst hh;simp at h1);omega)];simp
 ·rw [if_neg h1,an (by right;omega)]
  cases ordB (l.map fbR)<;>simp
end
section
set_option maxRecDepth 100000
set_option maxHeartbeats 4000000
theorem dF (l:List Fe) (hl:l.length≤400000) (hB:∀ f∈l,FeS f):FnD Tryz.prog 79 [.sl 2 Fe.enc l] (.b (rfP l)):=by
 have hs:=nG hB
 have ho:=gM l z2_ hB
 refine aB Tryz.func79 rfl Tryz.ntmps79 rfl (fun e=>?_)
 refine W ?_
 refine Bg rfl rfl (fun h=>?_) (fun h=>?_)
 ·refine W ?_
  refine Rt rfl rfl ?_
  unfold rfP;rw [if_pos h];rfl
 refine W ?_
 refine Ci rfl (fun h2=>?_) (fun h2=>?_)
 ·refine W ?_
  refine Rt rfl rfl ?_
  unfold rfP;rw [if_neg h,if_pos h2];rfl
 refine W ?_
 refine Mm rfl rfl ?_
 refine W ?_
 have fin:seenP [] l=rfP l:=by
  unfold rfP;rw [if_neg h,if_neg (by rw [h2];simp)]
 refine Lp (γ:=Nat) (fun g=>g≤l.length∧seenP [] l=seenP ((l.take g).map (·.oid)) (l.drop g)) (fun g=>l.length+1-g) (fun g=>[(3,.mp 0),(17,.d (.sl 2 Fe.enc l)),(18,.d (.i (l.length:Int))),(19,.d (.i (g:Int)))]) (fun g=>[(0,.set ((l.take g).map (·.oid)))]) 0 ⟨by omega,rfl⟩ ⟨rfl,rfl,rfl,rfl,trivial⟩ ⟨rfl,trivial⟩ ?_
 rintro g ⟨hg,hf⟩
 have hfe:=hs g
 have c1:=ek (l.getD g default) (Nat.le_trans hfe.1.1 z2_) (Nat.le_trans hfe.2.1 z2_) (fun v hv=>Nat.le_trans (hfe.2.2 v hv) z2_)
 refine W ?_
 refine Ci rfl (fun h3=>?_) (fun h3=>?_)
 ·have hlt:g<l.length:=by omega
  have hget:l.getD g default=l[g]:=ce hlt
  have hdr:l.drop g=l.getD g default::l.drop (g+1):=by rw [aT hlt,hget]
  have htk:(l.take (g+1)).map (·.oid)=(l.take g).map (·.oid)++[(l.getD g default).oid]:=by rw [av hlt,List.map_append,hget];rfl
  rw [hdr] at hf
  simp only [seenP] at hf
  refine W ?_
  refine Bg rfl rfl (fun h4=>?_) (fun h4=>?_)
  ·rw [if_pos h4] at hf
   refine W ?_
   refine Rt rfl rfl ?_
   rw [← fin,hf];rfl
  rw [if_neg (show ¬ fieldE (l.getD g default)≠0 from fun hh=>hh h4)] at hf
  refine W ?_
  refine bi (St1.look rfl rfl rfl rfl rfl rfl) ?_
  refine W ?_
  refine Ci rfl (fun h5=>?_) (fun h5=>?_)
  ·rw [if_pos h5] at hf
   refine W ?_
   refine Rt rfl rfl ?_
   rw [← fin,hf];rfl
  rw [if_neg (by rw [h5];simp)] at hf
  refine W ?_
  refine Mu rfl rfl rfl rfl h5 rfl rfl ?_
  refine W ?_
  refine⟨g+1,by omega,⟨by omega,?_⟩,⟨rfl,rfl,rfl,rfl,trivial⟩,?_⟩
  ·rw [htk];exact hf
  ·show WkO [(0,.set ((l.take (g+1)).map (·.oid)))] _
   rw [htk]
   exact⟨rfl,trivial⟩
 ·refine W ?_
  refine Rt rfl rfl ?_
  rw [← fin,hf,List.drop_of_length_le z2_];rfl
instance:Cn Tryz.prog 79 (type_of% @dF):=⟨@dF⟩
end
section
set_option maxRecDepth 100000
set_option maxHeartbeats 4000000
theorem Nl {P:Program} [Tb P] {F:Fd}{n:PostD}{x:Nat→PostD}{a:List (Nat×A)}{o:List (Nat×OE)}{c:Code}(t:Nat) (d:D) (hx:lkA a t=some (.d (.v (.slice none 0 0)))) (hd:∀ h,Den d h (.slice none 0 0)) (kk:JD P F c n x ((t,.d d)::a) o):JD P F c n x a o:=.mk fun ρ h S L cz=>by
 have h1:look S t=some (.slice none 0 0):=dt (y:=.tmp t) cz hx
 refine kk.k ρ h _ _ ⟨cz.t,fun u y hy=>?_,cz.o⟩
 simp only [lkA] at hy
 cases hq:Nat.beq t u with
 |true =>
  obtain rfl:=ah hq
  simp only [hq,cond_true,ay] at hy
  subst hy
  exact⟨_,h1,hd h⟩
 |false=>simp only [hq,cond_false] at hy;exact cz.s u y hy
theorem nK (h:Part):Den (.bs []) h (.slice none 0 0):=(cV (h:=h)).2 ⟨none,0,rfl,bc⟩
theorem dV (l:List Fe) (hl:l.length≤400000) (hB:∀ f∈l,FeS f):FnD Tryz.prog 92 [.sl 2 Fe.enc l] (.b (refP 0 [] [] l)):=by
 have hs:=nG hB
 refine aB Tryz.func92 rfl Tryz.ntmps92 rfl (fun e=>?_)
 refine W ?_
 refine Nl 3 (.bs []) rfl nK ?_
 refine Lp (γ:=Nat×Txt) (fun k=>k.1≤l.length∧refP 0 [] [] l=refP k.1 ((l.take k.1).map (·.oid)) k.2 (l.drop k.1)) (fun k=>l.length+1-k.1) (fun k=>[(0,.d (.sl 2 Fe.enc l)),(3,.d (.bs k.2)),(4,.d (.i (k.1:Int)))]) (fun _=>[]) (0,[]) ⟨by omega,rfl⟩ ⟨rfl,rfl,rfl,trivial⟩ trivial ?_
 rintro⟨g,prev⟩ ⟨hg,hf⟩
 dsimp only at hg hf
 show JD _ _ _ _ _ [(0,.d (.sl 2 Fe.enc l)),(3,.d (.bs prev)),(4,.d (.i (g:Int)))] []
 have hfe:=hs g
 have c1:=ft (l.getD g default) hfe
 refine W ?_
 refine Ci rfl (fun h3=>?_) (fun h3=>?_)
 ·have hlt:g<l.length:=by omega
  have hget:l.getD g default=l[g]:=ce hlt
  have hdr:l.drop g=l.getD g default::l.drop (g+1):=by rw [aT hlt,hget]
  have htk:(l.take (g+1)).map (·.oid)=(l.take g).map (·.oid)++[(l.getD g default).oid]:=by rw [av hlt,List.map_append,hget];rfl
  rw [hdr] at hf
  simp only [refP] at hf
  refine W ?_
  refine Bg rfl rfl (fun h4=>?_) (fun h4=>?_)
  ·rw [if_pos h4] at hf
   refine W ?_
   refine Rt rfl rfl ?_
   rw [hf];rfl
  rw [if_neg h4] at hf
  refine W ?_
  refine Bg rfl rfl (fun h5=>?_) (fun h5=>?_)
  ·rw [if_pos h5] at hf
   refine W ?_
   refine Rt rfl rfl ?_
   rw [hf];rfl
  rw [if_neg h5] at hf
  refine W ?_
  refine Ci rfl (fun h6=>?_) (fun h6=>?_)
  ·rw [if_pos h6] at hf
   refine W ?_
   refine Rt rfl rfl ?_
   rw [hf];rfl
  rw [if_neg h6] at hf
  refine W ?_
  refine Lp (γ:=Nat) (fun j=>j≤g∧(((l.take j).map (·.oid)).any fun t=>decide (t=(l.getD g default).oid))=false) (fun j=>g+1-j) (fun j=>[(0,.d (.sl 2 Fe.enc l)),(4,.d (.i (g:Int))),(5,.d (.bs (fbR (l.getD g default)))),(6,.d (.i (j:Int)))]) (fun _=>[]) 0 ⟨by omega,rfl⟩ ⟨rfl,rfl,rfl,rfl,trivial⟩ trivial ?_
  rintro j ⟨hj,ha⟩
  refine W ?_
  refine Ci rfl (fun h7=>?_) (fun h7=>?_)
  ·have hltj:j<l.length:=by omega
   have htj:(l.take (j+1)).map (·.oid)=(l.take j).map (·.oid)++[(l.getD j default).oid]:=by rw [av hltj,List.map_append,ce hltj];rfl
   refine W ?_
   refine Ci rfl (fun h8=>?_) (fun h8=>?_)
   ·refine W ?_
    refine Rt rfl rfl ?_
    rw [hf,if_pos]
    ·rfl
    ·rw [List.any_eq_true]
     refine⟨(l.getD j default).oid,List.mem_map.2 ⟨l.getD j default,?_,rfl⟩,an h8⟩
     rw [ce hltj,List.mem_take_iff_getElem]
     exact⟨j,by omega,rfl⟩
   ·refine W ?_
    refine⟨j+1,by omega,⟨by omega,?_⟩,⟨rfl,rfl,rfl,rfl,trivial⟩,trivial⟩
    rw [htj,List.any_append,ha]
    simp only [List.any_cons,List.any_nil,am h8,Bool.or_false]
  ·obtain rfl:j=g:=by omega
   rw [ha,if_neg (by simp),← htk] at hf
   refine W ?_
   exact⟨(j+1,fbR (l.getD j default)),by simp only;omega,⟨by simp only;omega,hf⟩,⟨rfl,rfl,rfl,trivial⟩,trivial⟩
 ·refine W ?_
  refine Rt rfl rfl ?_
  rw [hf,List.drop_of_length_le z2_];rfl
instance:Cn Tryz.prog 92 (type_of% @dV):=⟨@dV⟩
end
section
set_option maxRecDepth 100000
set_option maxHeartbeats 4000000
def vW:List Txt→Nat
 |[]=>0
 |v::r=>1+v.length+vW r
def fW:List Fe→Nat
 |[]=>0
 |f::r=>1+f.oid.length+vW f.vals+fW r
theorem fvM_eq (m:Int):∀ (l:List Txt) (n:Int),fvM m l n≤m→fvM m l n=n+vW l
 |[],n,_=>by simp [fvM,vW]
 |v::r,n,h=>by
  simp only [fvM] at h ⊢
  split at h
  ·rename_i hn
   rw [if_pos hn,fvM_eq m r _ h];simp only [vW];omega
  ·omega
theorem fsM_eq (m:Int):∀ (l:List Fe) (n:Int),fsM m l n≤m→fsM m l n=n+fW l
 |[],n,_=>by simp [fsM,fW]
 |f::r,n,h=>by
  simp only [fsM] at h ⊢
  split at h
  ·rename_i hn
   rw [if_pos hn]
   have h1:fvM m f.vals (n+1+f.oid.length)≤m:=by
    by_cases hh:m<fvM m f.vals (n+1+f.oid.length)
    ·rw [qR m _ hh] at h;exact h
    ·omega
   rw [fsM_eq m r _ h,fvM_eq m _ _ h1];simp only [fW];omega
  ·omega
theorem vW_le:∀ (l:List Txt),l.length≤vW l∧∀ v∈l,v.length≤vW l
 |[]=>⟨aD _,fun v hv=>by cases hv⟩
 |v::r=>by
  have h:=vW_le r
  refine⟨by simp only [vW,aA];omega,fun w hw=>?_⟩
  simp only [vW]
  cases hw with
  |head=>omega
  |tail _ hw=>have:=h.2 w hw;omega
theorem fW_le:∀ (l:List Fe),l.length≤fW l∧∀ f∈l,f.oid.length+vW f.vals≤fW l
 |[]=>⟨aD _,fun v hv=>by cases hv⟩
 |f::r=>by
  have h:=fW_le r
  refine⟨by simp only [fW,aA];omega,fun w hw=>?_⟩
  simp only [fW]
  cases hw with
  |head=>omega
  |tail _ hw=>have:=h.2 w hw;omega
theorem eA (l:List Fe) (hl:l.length≤400000) (hB:∀ f∈l,FeS f):FnD Tryz.prog 29 [.sl 2 Fe.enc l] (.nds (l.map fieldN)):=by
 have hs:=nG hB
 refine aB Tryz.func29 rfl Tryz.ntmps29 rfl (fun e=>?_)
 refine W ?_
 refine Rn kN 3 31 rfl rfl ?_
 refine Lp (γ:=Nat) (fun g=>g≤l.length) (fun g=>l.length+1-g) (fun g=>[(3,.row 0),(8,.d (.sl 2 Fe.enc l)),(9,.d (.i (l.length:Int))),(10,.d (.i (g:Int)))]) (fun g=>[(0,.row 31 (.nds ((l.take g).map fieldN)))]) 0 z2_ ⟨rfl,rfl,rfl,rfl,trivial⟩ ⟨rfl,trivial⟩ ?_
 intro g hg
 have hfe:=hs g
 have c1:=ek (l.getD g default) (Nat.le_trans hfe.1.1 z2_) (Nat.le_trans hfe.2.1 z2_) (fun v hv=>Nat.le_trans (hfe.2.2 v hv) z2_)
 have hml:((l.take g).map fieldN).length≤10000000:=by rw [aK];have:=List.length_take_le' g l;omega
 refine W ?_
 refine Ci rfl (fun h3=>?_) (fun h3=>?_)
 ·have hlt:g<l.length:=by omega
  have htk:(l.take (g+1)).map fieldN=(l.take g).map fieldN++[fieldN (l.getD g default)]:=by rw [av hlt,List.map_append,ce hlt];rfl
  refine W ?_
  refine⟨g+1,by omega,by omega,⟨rfl,rfl,rfl,rfl,trivial⟩,?_⟩
  show WkO [(0,.row 31 (.nds ((l.take (g+1)).map fieldN)))] _
  rw [htk]
  exact⟨rfl,trivial⟩
 ·have hge:g=l.length:=by omega
  subst hge
  rw [List.take_length]
  refine W ?_
  refine Pb 0 rfl ?_
  refine W ?_
  exact Rt rfl rfl rfl
instance:Cn Tryz.prog 29 (type_of% @eA):=⟨@eA⟩
end
section
set_option maxRecDepth 100000
set_option maxHeartbeats 4000000
theorem ja (l:List Fe) (hl:l.length≤400000) (hB:∀ f∈l,FeS f):FnD Tryz.prog 39 [.sl 2 Fe.enc l] (.nds (l.map fieldN)):=by
 have hs:=nG hB
 refine aB Tryz.func39 rfl Tryz.ntmps39 rfl (fun e=>?_)
 refine W ?_
 refine Rn kN 3 31 rfl rfl ?_
 refine Lp (γ:=Nat) (fun g=>g≤l.length) (fun g=>l.length+1-g) (fun g=>[(0,.d (.sl 2 Fe.enc l)),(3,.row 0),(4,.d (.i (g:Int)))]) (fun g=>[(0,.row 31 (.nds ((l.take g).map fieldN)))]) 0 z2_ ⟨rfl,rfl,rfl,trivial⟩ ⟨rfl,trivial⟩ ?_
 intro g hg
 have hfe:=hs g
 have c1:=eh (l.getD g default) (Nat.le_trans hfe.1.1 z2_) (Nat.le_trans hfe.2.1 z2_) (fun v hv=>Nat.le_trans (hfe.2.2 v hv) z2_)
 have hml:((l.take g).map fieldN).length≤10000000:=by rw [aK];have:=List.length_take_le' g l;omega
 refine W ?_
 refine Ci rfl (fun h3=>?_) (fun h3=>?_)
 ·have hlt:g<l.length:=by omega
  have htk:(l.take (g+1)).map fieldN=(l.take g).map fieldN++[fieldN (l.getD g default)]:=by rw [av hlt,List.map_append,ce hlt];rfl
  refine W ?_
  refine⟨g+1,by omega,by omega,⟨rfl,rfl,rfl,trivial⟩,?_⟩
  show WkO [(0,.row 31 (.nds ((l.take (g+1)).map fieldN)))] _
  rw [htk]
  exact⟨rfl,trivial⟩
 ·have hge:g=l.length:=by omega
  subst hge
  rw [List.take_length]
  refine W ?_
  refine Pb 0 rfl ?_
  refine W ?_
  exact Rt rfl rfl rfl
instance:Cn Tryz.prog 39 (type_of% @ja):=⟨@ja⟩
theorem qb:∀ (l:List Fe) (es:List Txt),seenP es l=true→∀ f∈l,fieldE f=0
 |[],_,_,f,hf=>by cases hf
 |f::r,es,h,g,hg=>by
  simp only [seenP] at h
  split at h
  ·cases h
  ·rename_i h1
   split at h
   ·cases h
   ·cases hg with
    |head=>exact Decidable.not_not.1 h1
    |tail _ hg=>exact qb r _ h g hg
end
section
set_option maxRecDepth 100000
set_option maxHeartbeats 4000000
theorem mJ (n:Int):FnD Tryz.prog 78 [.i n] (.i (shaSize n)):=.mk fun h vs hT hd=>by
 obtain⟨v,rfl,h1⟩:=gJ hd
 rw [d9.1 h1]
 exact rH.mono fun v h' _ e=>⟨_,rfl,by rw [e];exact ba (h:=h')⟩
instance:Cn Tryz.prog 78 (type_of% @mJ):=⟨@mJ⟩
theorem kH (n:Int):FnD Tryz.prog 91 [.i n] (.i (shaSize n)):=.mk fun h vs hT hd=>by
 obtain⟨v,rfl,h1⟩:=gJ hd
 rw [d9.1 h1]
 exact jA.mono fun v h' _ e=>⟨_,rfl,by rw [e];exact ba (h:=h')⟩
instance:Cn Tryz.prog 91 (type_of% @kH):=⟨@kH⟩
theorem qa (n:Int):FnD Tryz.prog 86 [.i n] (.s (oidH n)):=.mk fun h vs hT hd=>by
 obtain⟨v,rfl,h1⟩:=gJ hd
 rw [d9.1 h1]
 exact rI.d (ba (h:=h))
instance:Cn Tryz.prog 86 (type_of% @qa):=⟨@qa⟩
theorem mQ (n:Int):FnD Tryz.prog 96 [.i n] (.s (oidH n)):=.mk fun h vs hT hd=>by
 obtain⟨v,rfl,h1⟩:=gJ hd
 rw [d9.1 h1]
 exact rL.mono fun v h' _ e=>⟨_,rfl,by rw [e];exact ba (h:=h')⟩
instance:Cn Tryz.prog 96 (type_of% @mQ):=⟨@mQ⟩
def digN' (n:Int):Nd:=.mk 0 16 true [] [oiN (oidH n)]
theorem nU (n:Int):FnD Tryz.prog 27 [.i n] (.nd (digN' n)):=by
 have h1:=lT n
 have h2:=fh (oidH n)
 have h3:=rg [oiN (oidH n)] (by simp only [Nd.szL];omega)
 have h4:=coid_d (oidH n) z2_
 exact aB Tryz.func27 rfl Tryz.ntmps27 rfl (fun e=>Z)
instance:Cn Tryz.prog 27 (type_of% @nU):=⟨@nU⟩
theorem mW (n:Int):FnD Tryz.prog 37 [.i n] (.nd (digN' n)):=by
 have h1:=lT n
 have h3:=qd (l:=[oiN (oidH n)])
 have h4:=qf (s:=oidH n) z2_
 exact aB Tryz.func37 rfl Tryz.ntmps37 rfl (fun e=>Z)
instance:Cn Tryz.prog 37 (type_of% @mW):=⟨@mW⟩
theorem rctx_d (t:Int) (l:List Nd):FnD Tryz.prog 38 [.i t,.nds l] (.nd (.mk 2 t true [] l)):=by
 exact aB Tryz.func38 rfl Tryz.ntmps38 rfl (fun e=>Z)
instance:Cn Tryz.prog 38 (type_of% @rctx_d):=⟨@rctx_d⟩
theorem mS (b:Txt):FnD Tryz.prog 41 [.bs b] (.nd (.mk 0 4 false b [])):=by
 exact aB Tryz.func41 rfl Tryz.ntmps41 rfl (fun e=>Z)
instance:Cn Tryz.prog 41 (type_of% @mS):=⟨@mS⟩
theorem fl {n:Int}(h:someH n):algN n=.mk 0 16 true [] [oiN (algO n),.mk 0 5 false [] []]:=by
 unfold algN
 rw [if_pos]
 rcases h with rfl|rfl|rfl<;>kernel_rfl
theorem algN_none {n:Int}(h:¬ someH n):algN n=ndZ0:=by
 unfold someH at h
 have e:algO n=[]:=by
  unfold algO
  rw [if_neg z2_,if_neg z2_,if_neg z2_]
 unfold algN
 rw [e,if_neg (by rw [show(oidB []).isSome=false by kernel_rfl];simp)]
theorem ralg_d (n:Int):FnD Tryz.prog 40 [.i n] (.nd (algN n)):=by
 refine aB Tryz.func40 rfl Tryz.ntmps40 rfl (fun e=>?_)
 refine W ?_
 refine Ci rfl (fun h=>?_) (fun h=>?_)
 ·rw [fl (.inl h)]
  subst h
  refine W ?_
  refine Rt rfl rfl ?_
  rfl
 refine W ?_
 refine Ci rfl (fun h2=>?_) (fun h2=>?_)
 ·rw [fl (.inr (.inl h2))]
  subst h2
  refine W ?_
  refine Rt rfl rfl ?_
  rfl
 refine W ?_
 refine Ci rfl (fun h3=>?_) (fun h3=>?_)
 ·rw [fl (.inr (.inr h3))]
  subst h3
  refine W ?_
  refine Rt rfl rfl ?_
  rfl
 rw [algN_none (by unfold someH;omega)]
 refine W ?_
 refine Rt rfl rfl ?_
 rfl
instance:Cn Tryz.prog 40 (type_of% @ralg_d):=⟨@ralg_d⟩
end
section
theorem qV {sz:Nat}:∀ {vs:List Value},(∀ c∈vs,c.cells.toList.length=sz)→((vs.map (·.cells.toList)).flatten).length=vs.length*sz
 |[],_=>by simp
 |c::r,h=>by
  have h1:=h c (aF ..)
  have h2:=qV (vs:=r) fun c hc=>h c (aI _ hc)
  simp only [List.map_cons,List.flatten_cons,aX,h1,h2,aA,Nat.add_mul,Nat.one_mul]
  omega
section
variable {P:Program} [Tb P] {F:Fd}{n:PostD}{x:Nat→PostD}{a b Au:List (Nat×A)}{o ob o':List (Nat×OE)}{ops:Array Oper}{rest:List Oper}{base:Nat}{es r:List Ef}{c:Code}
variable {d k e bytes len:Nat}{ty T:TypeId}{pos:String}{af:Array Edge}{us:List Nat}{ps:Array (Nat×Operand)}{ds ds':List D}
theorem Obl.lit {α:Type}(K:Kd α) {l:List α}(hk0:keepA us (aR allT b r)=some Au) (hp:evsA Au 0 ps.toList=some ds) (hf:foldQ P e ds=some ds') (hl:litQ P ds'=some (K.f l)) (hT:findP (Tb.ap P) T=some (e,K.sz,bytes)) (h1:Nat.beq K.sz (szD (K.f l))=true) (h2:Nat.beq len ds.length=true) (h3:Nat.ble (len*K.sz) 16777216=true)
 (hd:Nat.blt d F.m=true) :
 Obl P F ops x b ob r (eMk us d k (.row k) (.row e (K.f l))) ⟨some d,.buildSlice T len ps,ty,pos,af,none⟩:=⟨Au,hk0,fun n A' O' hA fA fO hn=>.mk fun ρ h S L cz=>by
 have cu:=cz.wk hA
 obtain⟨vs,h4,h5⟩:=gF cu hp
 obtain⟨h6,h7,h8,h9⟩:=pb hl (i7 hf h5)
 have e1:=ah h1
 have e2:=ah h2
 have e3:=h5.len
 have e4:len=vs.length:=by omega
 have e5:len*K.sz≤16777216:=by simpa using h3
 obtain⟨_,hn',hc⟩:=K.row.1 h6
 have:=K.mono
 obtain⟨ps⟩:=ps
 refine JL.litG vs (Tb.apt hT) h4 e4 (by rw [e1];exact h7) h3 (Nat.mul_pos z2_ z2_) hd (fun bb=>?_)
 have hlm:len≤140737488355328:=by
  have:len≤len*K.sz:=Nat.le_mul_of_pos_right _ z2_
  omega
 have hfl:=qV h7
 have hmx:l.length≤maxLen:=by
  have q1:(16777216:Nat)≤maxLen:=by decide
  have q2:len≤len*K.sz:=Nat.le_mul_of_pos_right _ z2_
  omega
 refine JL.own (L':=.row (some ⟨bb,0,none⟩) l.length e K.sz l.length (vs.map (·.cells.toList)).flatten::L) (fun _ hw=>hw.toRow (by rw [hfl,hn',e1]) hmx) ?_
 have cf:=cz.fresh (ρ.ofk_setR k (some ⟨bb,0,none⟩) l.length l.length) fA fO
 have en:(ρ.setR k (some ⟨bb,0,none⟩) l.length l.length).n k=l.length:=by simp [Rho.setR]
 have hden:DenO (ρ.setR k (some ⟨bb,0,none⟩) l.length l.length) h ((k,.row e (K.f l))::O') (.row (some ⟨bb,0,none⟩) l.length e K.sz l.length (vs.map (·.cells.toList)).flatten::L) :=
  ⟨_,L,rfl,⟨(vs.map (·.cells.toList)).flatten,K.sz,by simp [Rho.setR],by rw [en];exact K.row.2 ⟨rfl,rfl,hc⟩,by rw [en];omega⟩,cf.o⟩
 have hll:len=l.length:=by omega
 rw [hll]
 exact a_ ⟨_,_,_,Cz.put (u:=.row k) ⟨cf.t,cf.s,hden⟩ (by simp [Rho.setR,DenA]) d,hn⟩⟩
theorem Xlt {α:Type}(K:Kd α) {l:List α}(hk0:keepA (usesO (.buildSlice T len ps)) a=some Au) (hp:evsA Au 0 ps.toList=some ds) (hf:foldQ P e ds=some ds') (hl:litQ P ds'=some (K.f l)) (hT:findP (Tb.ap P) T=some (e,K.sz,bytes)) (h1:Nat.beq K.sz (szD (K.f l))=true) (h2:Nat.beq len ds.length=true) (h3:Nat.ble (len*K.sz) 16777216=true)
 (hv:nextK a o=some k) (hd:Nat.blt d F.m=true)
 (kk:JX P F ops n x b ob base (eMk (usesO (.buildSlice T len ps)) d k (.row k) (.row e (K.f l))::es) rest ((d,.row k)::a) ((k,.row e (K.f l))::o)) :
 JX P F ops n x b ob base es (⟨some d,.buildSlice T len ps,ty,pos,af,none⟩::rest) a o :=
 JX.put (fun ha ho=>⟨Obl.lit K (by rw [← ha];exact hk0) hp hf hl hT h1 h2 h3 hd,by subst ha;rfl,by subst ho;rfl⟩) kk
theorem Obl.callB {Fi t:Nat}{os:Array Operand}{ts:Array TypeId}{os1 os2:List Operand}{xo:Operand}{ds1 ds2:List D}{d0 d1 d':D}{e0:OE}(hos:os.toList=os1++xo::os2) (hk0:keepA us (aR allT b r)=some Au) (hx:evA Au xo=some (.own k 0)) (hk:lkO (oS ob r) k=some e0) (he:whlO e0=some (t,d0))
 (h1:argsA P Au os1 ts.toList=some ds1) (h2:argsA P Au os2 (ts.toList.drop (os1.length+1))=some ds2) (c:FnB P Fi t ds1 d0 ds2 (fun x y=>x=d'∧y=d1)) (hF:callT P Fi=true) (hd:Nat.blt d F.m=true) :
 Obl P F ops x b ob r ⟨us,none,some (d,.d d'),some (k,.whl t d1),false,none⟩ ⟨some d,.call { callee:=.value (.func Fi),args:=os,argTypes:=ts },ty,pos,af,none⟩:=⟨Au,hk0,e0,hk,fun n A' O' hA hO _ hn=>.mk fun ρ h S L cz=>by
 have cu:=cz.wk hA
 obtain⟨v,g1,g2⟩:=cd cu hx
 cases g2
 obtain⟨vs1,h3,h4⟩:=e_ cu h1
 obtain⟨vs2,h5,h6⟩:=e_ cu h2
 obtain⟨y,L2,hD,hE,hr⟩:=cz.o.get hO
 obtain⟨vs0,rfl,hd0⟩:=oi he hE
 obtain⟨os⟩:=os
 simp only at hos
 subst hos
 have hev:evl S (os1++xo::os2)=some (vs1++.pointer (some ⟨ρ.b k,0,none⟩)::vs2):=pi h3 (by simp only [evl,g1,h5])
 refine de hF hev (c.fn h (ρ.b k) vs0 vs1 vs2 cz.t h4 hd0 h6) (.cons hD .nil) hd (fun v h2 Lo hle2 ⟨x1,x2,ws,⟨q1,q2⟩,e1,e2,e3⟩=>?_)
 subst e3 q1 q2
 have czm:=cz.mono hle2
 have hden:DenO ρ h2 ((k,.whl t x2)::delO O' k) (.blk (ρ.b k) t ws::L2):=⟨_,L2,rfl,⟨ws,rfl,e2⟩,hr.mono hle2⟩
 exact a_ ⟨_,_,_,Cz.put (u:=.d x1) ⟨czm.t,czm.s,hden⟩ e1 d,hn⟩⟩
theorem Xcp {Fi t:Nat}{os:Array Operand}{ts:Array TypeId}{os1 os2:List Operand}{xo:Operand}{ds1 ds2:List D}{d0 d1 d':D}{e0:OE}(hos:os.toList=os1++xo::os2) (hk0:keepA (tms os.toList) a=some Au) (hx:evA Au xo=some (.own k 0)) (hk:lkO o k=some e0) (he:whlO e0=some (t,d0))
 (h1:argsA P Au os1 ts.toList=some ds1) (h2:argsA P Au os2 (ts.toList.drop (os1.length+1))=some ds2) (c:FnB P Fi t ds1 d0 ds2 (fun x y=>x=d'∧y=d1)) (hdel:delQ o k=some o')
 (kk:JX P F ops n x b ob base (⟨tms os.toList,none,some (d,.d d'),some (k,.whl t d1),false,none⟩::es) rest ((d,.d d')::a) ((k,.whl t d1)::o')) (hF:callT P Fi=true:=by kernel_rfl) (hd:Nat.blt d F.m=true:=by rfl) :
 JX P F ops n x b ob base es (⟨some d,.call { callee:=.value (.func Fi),args:=os,argTypes:=ts },ty,pos,af,none⟩::rest) a o:=by
 obtain rfl:=fU hdel
 exact JX.put (fun ha ho=>⟨Obl.callB hos (by rw [← ha];exact hk0) hx (by rw [← ho];exact hk) he h1 h2 c hF hd,by subst ha;rfl,by subst ho;rfl⟩) kk
end
theorem FnB.imp {P:Program} [Tb P] {Fi t:Nat}{ds1 ds2:List D}{d0:D}{R R':D→D→Prop}(c:FnB P Fi t ds1 d0 ds2 R) (hr:∀ d d1,R d d1→∃ d2,R' d d2∧∀ h v,Den d1 h v→Den d2 h v):FnB P Fi t ds1 d0 ds2 R':=.mk fun h b vs0 vs1 vs2 hT h1 h2 h3 =>
 (c.fn h b vs0 vs1 vs2 hT h1 h2 h3).mono fun e h' Lo _ ⟨v,he,d,d1,ws,hR,k1,k2,k3⟩=>by
  obtain⟨d2,q1,q2⟩:=hr d d1 hR
  exact⟨v,he,d,d2,ws,q1,k1,q2 _ _ k2,k3⟩
def CvA (y x:A):Prop:=∀ ρ h v,DenA ρ h y v→DenA ρ h x v
theorem CvA.r {y:A}:CvA y y:=fun _ _ _ h=>h
abbrev bW:=@CvA.r
theorem CvA.q {b:Bool}:CvA (.d (.v (.bool b))) (.d (.bq b)):=fun _ h v k=>by
 rw [d9.1 (show Den (.v (.bool b)) h v from k)]
 exact(dg (h:=h)).2 rfl
def WkD:List (Nat×A)→List (Nat×A)→Prop
 |[],_=>True
 |(t,x)::r,a=>(∃ y,lkA a t=some y∧CvA y x)∧WkD r a
theorem WkD.lk {a:List (Nat×A)}{ρ:Rho}{h:Part}{S:Sig}:∀ {aa:List (Nat×A)}{t:Nat}{x:A},WkD aa a→(∀ t x,lkA a t=some x→∃ v,look S t=some v∧DenA ρ h x v)→lkA aa t=some x→∃ v,look S t=some v∧DenA ρ h x v
 |[],t,x,_,_,hx=>by cases hx
 |(u,y)::r,t,x,⟨⟨z,h1,h2⟩,hr⟩,hs,hx=>by
  simp only [lkA] at hx
  cases hb:Nat.beq u t with
  |true =>
   obtain rfl:=ah hb
   simp only [hb,cond_true,ay] at hx
   subst hx
   obtain⟨v,g1,g2⟩:=hs _ _ h1
   exact⟨v,g1,h2 _ _ _ g2⟩
  |false=>simp only [hb,cond_false] at hx;exact WkD.lk hr hs hx
section
variable {P:Program} [Tb P] {F:Fd}{n:PostD}{x x':Nat→PostD}{a:List (Nat×A)}{o:List (Nat×OE)}{c d:Code}
theorem JD.wd {a':List (Nat×A)}{o':List (Nat×OE)}(hA:WkD a' a) (hO:WkO o' o) (k:JD P F c n x a' o'):JD P F c n x a o:=.mk fun ρ h S L cz=>by
 obtain⟨L',Lr,h1,h2⟩:=hO.den cz.o
 exact J.ents L' h1 (k.k ρ h S L' ⟨cz.t,fun t y hy=>hA.lk cz.s hy,h2⟩)
theorem Jm {γ:Type}(aa:γ→List (Nat×A)) (oo:γ→List (Nat×OE)) (I:γ→Prop) (k1:JD P F c (fun a1 o1=>∃ g,I g∧WkD (aa g) a1∧WkO (oo g) o1) x a o) (k2:∀ g,I g→JD P F d n x' (aa g) (oo g)):JD P F c (JD P F d n x') x a o :=
 JD.cut k1 (fun a1 o1 ⟨g,hI,hA,hO⟩=>(k2 g hI).wd hA hO) (fun _ _ _ h=>h)
end
def i64E (x:Int):List D:=[.i x]
theorem lit_int {h:Part}:∀ {l:List Int}{vs:List Value},DenT (l.map D.i) h vs→All2 (fun(y:Int) (v:Value)=>v.cells.toList.length=1∧encR i64E h v.cells.toList y) l vs
 |[],vs,k=>by unfold List.map DenT at k;subst k;exact .nil
 |y::l,vs,k=>by
  rw [List.map_cons] at k
  unfold DenT at k
  obtain⟨v,t,rfl,h1,h2⟩:=k
  rw [d9.1 h1]
  exact .cons ⟨rfl,(.c rfl (ba (h:=h)) .n:DenL (i64E y) h [_])⟩ (lit_int h2)
section
variable {P:Program} [Tb P] {F:Fd}{a:List (Nat×A)}{o:List (Nat×OE)}{ops:Array Oper}{d e bytes len:Nat}{ty T:TypeId}{pos:String}{af:Array Edge}{ps:Array (Nat×Operand)}
theorem St1.litI (l:List Int) (hT:apT P T=some (e,1,bytes)) (hp:evsA a 0 ps.toList=some (l.map D.i)) (h1:Nat.blt 0 len=true) (h2:Nat.beq len l.length=true) (h3:Nat.ble (len*1) 16777216=true) (hd:Nat.blt d F.m=true) :
 St1 P F ops a o ⟨some d,.buildSlice T len ps,ty,pos,af,none⟩ d (.d (.sl 1 i64E l)):=fun ρ h S L L' Lr p cz N X rest k=>by
 obtain⟨vs,h4,h5⟩:=gF cz hp
 have h6:=lit_int h5
 have e2:=ah h2
 have e3:=h5.len
 rw [aK] at e3
 have e4:len=vs.length:=by omega
 have e5:len*1≤16777216:=by simpa using h3
 have g1:0<len:=by simpa using h1
 have all:∀ {l:List Int} {vs:List Value},All2 (fun(y:Int) (v:Value)=>v.cells.toList.length=1∧encR i64E h v.cells.toList y) l vs→∀ c∈vs,c.cells.toList.length=1:=by
  intro l vs hh
  induction hh with
  |nil=>intro c hc;cases hc
  |cons hy _ ih =>
   intro c hc
   cases hc with
   |head=>exact hy.1
   |tail _ hc=>exact ih c hc
 obtain⟨ps⟩:=ps
 refine JL.litG vs hT h4 e4 (all h6) h3 (Nat.mul_pos g1 bJ) hd (fun b=>?_)
 exact JL.pubB .here (dU h6) z2_ (fun h' hle hS=>k _ h' hle (by rw [e2];exact(fD (h:=h')).2 ⟨_,_,rfl,hS⟩))
theorem St1.ixT {α:Type} [Inhabited α] {sz:Nat}{enc:α→List D}{l:List α}{g:Option (Nat×Bool)}{xo yo:Operand}{kk:IntKind}{i:Int}(m:Nat) (hT:slT P T=some (e,sz)) (hx:evA a xo=some (.d (.sl sz enc l))) (hy:evA a yo=some (.d (.v (.int kk i)))) (hi:i=(m:Int)) (h1':i<(l.length:Int)) (hg:gdB ops a g=some true) (hd:Nat.blt d F.m=true) :
 St1 P F ops a o ⟨some d,.indexAddr T xo yo,ty,pos,af,g⟩ d (.d (.ptr (enc (l.getD m default)))):=.run hg hd fun ρ h S L cz=>by
 have h1:m<l.length:=by omega
 rw [ce h1]
 obtain⟨v,h2,h3⟩:=cd cz hx
 obtain⟨aa,cc,rfl,hR⟩:=fD.1 h3
 obtain⟨w,h4,b,o',h6,c,cs,h7,h8,h9⟩:=md (F:=F) (ty:=ty) (L:=L) hT h2 (dt cz hy) hi hR h1
 exact⟨w,h4,(fy (h:=h)).2 ⟨b,o',h6,c,cs,h7,h8,h9⟩⟩
end
end
section
set_option maxRecDepth 100000
set_option maxHeartbeats 4000000
theorem put_b (x:Nd) (hz:x.sz≤1073741824):FnB Tryz.prog 98 137 [] (.st [.i 0,.b false]) [.nd x,.i 1] (fun d d1=>∃ b dp bad,d=.bs b∧d1=.st [.i dp,.b bad]∧(bad=true→x.put=none)∧(bad=false→x.put=some b)):=.mk fun h bk vs0 vs1 vs2 hT h1 h2 h3=>by
 have hrk:x.rk≤x.sz:=Nd.rk_le_sz _ x (aD _)
 unfold DenT at h1
 subst h1
 obtain⟨v,w,rfl,h4,h5⟩:=den2 h3
 obtain⟨cs,rfl,r⟩:=dk.1 h4
 rw [d9.1 h5]
 obtain⟨ws,e0,h6⟩:=df.1 h2
 have e1:vs0=ws:=by injection e0 with e0;simpa using congrArg Array.toList e0
 subst e1
 unfold DenL at h6;obtain⟨v1,t1,rfl,o1,d1,h6⟩:=h6
 unfold DenL at h6;obtain⟨v2,t2,rfl,o2,d2,h6⟩:=h6
 unfold DenL at h6;subst h6
 rw [d9.1 d1,dg.1 d2]
 refine(put_fn _ x cs h bk 0 1 (aD _) r hT hz z2_ z2_).mono fun e h' Lo _ ⟨v,he,kb,ka,kc,kd,kbad,e1,hkS,e2,hkf,hkt⟩=>⟨v,he,_,_,_,⟨kb,kd,kbad,rfl,rfl,hkf,fun hb=>(hkt hb).1⟩,by rw [e1];exact(cV (h:=h')).2 ⟨_,_,rfl,hkS⟩,(df (h:=h')).2 ⟨_,rfl,.c rfl (ba (h:=h')) (.c rfl ((dg (h:=h')).2 rfl) .n)⟩,e2⟩
abbrev cmpF:D:=.v (.func (.func 146) #[] #[])
theorem ins1_d (p:Txt×Nd):FnD Tryz.prog 235 [.sl 6 oneE [p],.i 0,.i 1,cmpF] (.v (.tuple #[])):=by
 refine aB Tryz.func235 rfl Tryz.ntmps235 rfl (fun e=>?_)
 refine W ?_
 refine Lp (fun _:Unit=>True) (fun _=>0) (fun _=>[(2,.d (.i 1)),(8,.d (.i 1))]) (fun _=>[]) () trivial ⟨rfl,rfl,trivial⟩ trivial ?_
 rintro _ _
 refine W ?_
 exact⟨_,_,_,rfl,rfl,rfl⟩
instance:Cn Tryz.prog 235 (type_of% @ins1_d):=⟨@ins1_d⟩
theorem mH (p:Txt×Nd):FnD Tryz.prog 191 [.sl 6 oneE [p],.i 1,cmpF] (.v (.tuple #[])):=by
 refine aB Tryz.func191 rfl Tryz.ntmps191 rfl (fun e=>?_)
 refine W ?_
 refine Lp (fun _:Unit=>True) (fun _=>0) (fun _=>[(0,.d (.sl 6 oneE [p])),(1,.d (.i 1)),(2,.d cmpF),(6,.d (.i 20)),(7,.d (.i 0)),(8,.d (.i 20))]) (fun _=>[]) () trivial ⟨rfl,rfl,rfl,rfl,rfl,rfl,trivial⟩ trivial ?_
 rintro _ _
 refine W ?_
 refine Lp (fun _:Unit=>True) (fun _=>0) (fun _=>[(1,.d (.i 1)),(6,.d (.i 20))]) (fun _=>[]) () trivial ⟨rfl,rfl,trivial⟩ trivial ?_
 rintro _ _
 refine W ?_
 exact⟨_,_,_,rfl,rfl,rfl⟩
instance:Cn Tryz.prog 191 (type_of% @mH):=⟨@mH⟩
theorem ssf1_d (p:Txt×Nd):FnD Tryz.prog 145 [.sl 6 oneE [p],cmpF] (.v (.tuple #[])):=by
 refine aB Tryz.func145 rfl Tryz.ntmps145 rfl (fun e=>?_)
 refine W ?_
 exact⟨_,_,_,rfl,rfl,rfl⟩
instance:Cn Tryz.prog 145 (type_of% @ssf1_d):=⟨@ssf1_d⟩
instance:Inhabited (Txt×Nd):=⟨([],.mk 0 0 false [] [])⟩
def set1N (x:Nd):Nd:=if x.put.isSome then .mk 0 17 true [] [x] else ndZ0
def set1E (x:Nd):Int:=if x.put.isSome then 0 else 34
theorem set1_d (x:Nd) (hz:x.sz≤1000000000):FnD Tryz.prog 83 [.nds [x]] (.tup [.nd (set1N x),.i (set1E x)]):=by
 have ho:=@own_d [x] (by simp only [Nd.szL];omega)
 cases x with
 |mk c t k bs ks =>
 unfold set1N set1E
 refine aB Tryz.func83 rfl Tryz.ntmps83 rfl (fun e=>?_)
 refine W ?_
 refine Rn (kS 6 oneE) 4 189 rfl rfl ?_
 refine Lp (γ:=Nat×Txt) (fun g=>g.1=0∨(g.1=1∧(Nd.mk c t k bs ks).put=some g.2)) (fun g=>2-g.1)
  (fun g=>[(2,.own 0 0),(4,.row 1),(13,.d (.nds [.mk c t k bs ks])),(14,.d (.i 1)),(15,.d (.i (g.1:Int)))])
  (fun g=>[(0,.var 31 [.d (.i 0),.d (.i 0),.d (.b false),.d (.v (.slice none 0 0)),.d (.v (.slice none 0 0))]),(1,.row 189 (.sl 6 oneE (if g.1=0 then [] else [(g.2,.mk c t k bs ks)])))]) (0,[]) (.inl rfl) ?_ ?_ ?_
 ·exact⟨rfl,rfl,rfl,rfl,rfl,trivial⟩
 ·exact⟨rfl,rfl,trivial⟩
 rintro⟨g,b⟩ (hg|⟨hg,hb⟩)
 ·dsimp only at hg
  subst hg
  show JD _ _ _ _ _ [(2,.own 0 0),(4,.row 1),(13,.d (.nds [.mk c t k bs ks])),(14,.d (.i 1)),(15,.d (.i 0))] [(0,.var 31 [.d (.i 0),.d (.i 0),.d (.b false),.d (.v (.slice none 0 0)),.d (.v (.slice none 0 0))]),(1,.row 189 (.sl 6 oneE []))]
  refine W ?_
  ·refine Cp (os1:=[]) rfl rfl rfl rfl rfl rfl rfl (put_b (.mk c t k bs ks) z2_) rfl ?_
   rintro _ _ ⟨kb,dp,bad,rfl,rfl,hb1,hb2⟩
   refine W ?_
   refine Ci rfl (fun hbad=>?_) (fun hbad=>?_)
   ·refine W ?_
    refine Rt rfl rfl ?_
    simp [resD,hb1 hbad]
   ·refine W ?_
    exact⟨(1,kb),by simp only;omega,.inr ⟨rfl,hb2 hbad⟩,⟨rfl,rfl,rfl,rfl,rfl,trivial⟩,⟨rfl,rfl,trivial⟩⟩
 ·dsimp only at hg
  subst hg
  show JD _ _ _ _ _ [(2,.own 0 0),(4,.row 1),(13,.d (.nds [.mk c t k bs ks])),(14,.d (.i 1)),(15,.d (.i 1))] [(0,.var 31 [.d (.i 0),.d (.i 0),.d (.b false),.d (.v (.slice none 0 0)),.d (.v (.slice none 0 0))]),(1,.row 189 (.sl 6 oneE [(b,.mk c t k bs ks)]))]
  refine W ?_
  refine Rv kN 1 4 31 rfl rfl rfl rfl rfl rfl ?_
  refine Lp (γ:=Nat) (fun g=>g≤1) (fun g=>2-g)
   (fun g=>[(2,.own 0 0),(9,.own 1 0),(39,.d (.sl 6 oneE [(b,.mk c t k bs ks)])),(40,.d (.i 1)),(41,.d (.i (g:Int)))])
   (fun g=>[(1,.var 31 [.d (.i 0),.d (.i 17),.d (.v (.bool true)),.d (.v (.slice none 0 0)),.row 2]),(2,.row 31 (.nds (if g=0 then [] else [.mk c t k bs ks]))),(0,.var 31 [.d (.i 0),.d (.i 0),.d (.b false),.d (.v (.slice none 0 0)),.d (.v (.slice none 0 0))])]) 0 z2_ ⟨rfl,rfl,rfl,rfl,rfl,trivial⟩ ⟨rfl,rfl,rfl,trivial⟩ ?_
  intro g hg
  obtain rfl|rfl:g=0∨g=1:=by omega
  ·show JD _ _ _ _ _ [(2,.own 0 0),(9,.own 1 0),(39,.d (.sl 6 oneE [(b,.mk c t k bs ks)])),(40,.d (.i 1)),(41,.d (.i 0))] [(1,.var 31 [.d (.i 0),.d (.i 17),.d (.v (.bool true)),.d (.v (.slice none 0 0)),.row 2]),(2,.row 31 (.nds [])),(0,.var 31 [.d (.i 0),.d (.i 0),.d (.b false),.d (.v (.slice none 0 0)),.d (.v (.slice none 0 0))])]
   refine W ?_
   exact⟨1,by omega,by omega,⟨rfl,rfl,rfl,rfl,rfl,trivial⟩,⟨rfl,rfl,rfl,trivial⟩⟩
  ·show JD _ _ _ _ _ [(2,.own 0 0),(9,.own 1 0),(39,.d (.sl 6 oneE [(b,.mk c t k bs ks)])),(40,.d (.i 1)),(41,.d (.i 1))] [(1,.var 31 [.d (.i 0),.d (.i 17),.d (.v (.bool true)),.d (.v (.slice none 0 0)),.row 2]),(2,.row 31 (.nds [.mk c t k bs ks])),(0,.var 31 [.d (.i 0),.d (.i 0),.d (.b false),.d (.v (.slice none 0 0)),.d (.v (.slice none 0 0))])]
   refine Pb 2 rfl ?_
   refine W ?_
   refine Rt rfl rfl ?_
   rw [show(Nd.mk c t k bs ks).put.isSome=true by rw [hb];rfl]
   rfl
instance:Cn Tryz.prog 83 (type_of% @set1_d):=⟨@set1_d⟩
end
section
set_option maxRecDepth 100000
set_option maxHeartbeats 4000000
def atS (a:At):Nd:=.mk 0 16 true [] [oiN a.oid,.mk 0 a.kind false a.text []]
def atN (a:At):Nd:=set1N (atS a)
def nameB (l:List At):Bool:=decide ((l.length:Int)≤16)&&l.all rightAt
def nameN (l:List At):Nd:=if nameB l then .mk 0 16 true [] (l.map atN) else ndZ0
def nameE (l:List At):Int:=if nameB l then 0 else 61
theorem atS_sz (a:At):(atS a).sz≤11*a.oid.length+a.text.length+30:=by
 have:=fh a.oid
 simp only [atS,Nd.sz,Nd.szL,bh];omega
theorem Rt0 {P:Program} [Tb P] {e:Env}{m:Nat}{fn:Func}{R:D→Prop}{n:PostD}{x:Nat→PostD}{a a1:List (Nat×A)}{o o1:List (Nat×OE)}{d:D}(hp:pubs (ksO o) a o=some (a1,o1)) (hr:resL P a1 o1 fn.results.toList []=some [d]) (hR:R d):JD P (FE P e m fn R) .ret n x a o:=.mk fun ρ h S L cz ac w s=>by
 obtain⟨h',L',hle,hok,cz'⟩:=f9 hp cz s.ok
 obtain⟨vs,h1,h2⟩:=lF (e:=e) (m:=m) cz' hr
 have hrun:∀ ac w,Sat e m S h' L' ac w→(fn.results.mapM (relem ac.tmps)).run P w=.ok vs.toArray w:=fun ac w s=>by
  have:=h2 ac w s
  rw [Array.mapM_eq_mapM_toList]
  simp [this]
 unfold DenT at h1
 obtain⟨v,t,rfl,h3,h4⟩:=h1
 unfold DenT at h4
 subst h4
 exact dm (f:=(FE P e m fn R).fr P) (n:=up P n) (x:=fun i=>up P (x i)) ⟨v,[],L',fun ac w s=>by rw [dO];simp [hrun ac w s],.nil,v,rfl,rfl,_,hR,h3⟩ ac w (s.with hok)
abbrev nilK:D:=.v (.slice none 0 0)
theorem own0_d:FnD Tryz.prog 87 [.nds []] nilK:=by
 refine aB Tryz.func87 rfl Tryz.ntmps87 rfl (fun e=>?_)
 refine W ?_
 refine Lp (γ:=Unit) (fun _=>True) (fun _=>0) (fun _=>[(3,.d nilK),(7,.d (.i 0)),(8,.d (.i 0))]) (fun _=>[]) () trivial ⟨rfl,rfl,rfl,trivial⟩ trivial ?_
 rintro _ _
 refine W ?_
 exact Rt0 rfl rfl rfl
theorem cons0_d (c t:Int):FnD Tryz.prog 28 [.i c,.i t,.nds []] (.st [.i c,.i t,.v (.bool true),nilK,nilK]):=by
 have h0:=own0_d
 refine aB Tryz.func28 rfl Tryz.ntmps28 rfl (fun e=>?_)
 refine W ?_
 exact Rt0 rfl rfl rfl
theorem seq0_d:FnD Tryz.prog 80 [.nds []] (.st [.i 0,.i 16,.v (.bool true),nilK,nilK]):=by
 have h0:=cons0_d 0 16
 refine aB Tryz.func80 rfl Tryz.ntmps80 rfl (fun e=>?_)
 refine W ?_
 exact Rt0 rfl rfl rfl
theorem qE (l:List At) (hl:l.length≤1000000) (hB:∀ a∈l,a.oid.length≤1000000∧a.text.length≤1000000):FnD Tryz.prog 23 [.sl 3 At.enc l] (.tup [.nd (nameN l),.i (nameE l)]):=by
 have bad:nameB l=false→resD [.nd ndZ0,.i 61]=.tup [.nd (nameN l),.i (nameE l)]:=fun hb=>by simp [resD,nameN,nameE,hb]
 have hq0:=seq0_d
 refine aB Tryz.func23 rfl Tryz.ntmps23 rfl (fun e=>?_)
 refine W ?_
 refine Ci rfl (fun h1=>?_) (fun h1=>?_)
 ·refine W ?_
  exact Rt rfl rfl (bad (by simp [nameB,show ¬ (l.length:Int)≤16 by omega]))
 refine W ?_
 refine Rv kN 1 4 31 rfl rfl rfl rfl rfl rfl ?_
 refine Lp (γ:=Nat) (fun g=>g≤l.length∧(l.take g).all rightAt=true) (fun g=>l.length+1-g)
  (fun g=>[(2,.own 0 0),(4,.own 1 0),(16,.d (.sl 3 At.enc l)),(17,.d (.i (l.length:Int))),(18,.d (.i (g:Int)))])
  (fun g=>[(1,.var 31 [.d (.i 0),.d (.i 16),.d (.v (.bool true)),.d nilK,.row 2]),(2,.row 31 (.nds ((l.take g).map atN))),(0,.var 31 [.d (.i 0),.d (.i 0),.d (.b false),.d nilK,.d nilK])]) 0 ⟨by omega,rfl⟩ ⟨rfl,rfl,rfl,rfl,rfl,trivial⟩ ⟨rfl,rfl,rfl,trivial⟩ ?_
 rintro g ⟨hg,hall⟩
 have hml:((l.take g).map atN).length≤1000000:=by rw [aK];have:=List.length_take_le' g l;omega
 refine W ?_
 refine Ci rfl (fun h=>?_) (fun h=>?_)
 ·have hlt:g<l.length:=by omega
  have hget:l.getD g default=l[g]:=ce hlt
  obtain⟨b1,b2⟩:=hB _ (aL hlt)
  rw [← hget] at b1 b2
  have o1:=fh (l.getD g default).oid
  have o2:=atS_sz (l.getD g default)
  have c0:=jE (l.getD g default) z2_
  have c1:=seq_d [oiN (l.getD g default).oid,.mk 0 (l.getD g default).kind false (l.getD g default).text []] (by simp only [Nd.szL,Nd.sz];omega)
  have c2:=set1_d (atS (l.getD g default)) z2_
  have htk:(l.take (g+1)).map atN=(l.take g).map atN++[atN (l.getD g default)]:=by rw [av hlt,List.map_append,hget];rfl
  have hta:(l.take (g+1)).all rightAt=rightAt (l.getD g default):=by rw [av hlt,List.all_append,hall,hget];simp
  refine W ?_
  refine Ci rfl (fun h2=>?_) (fun h2=>?_)
  ·refine W ?_
   refine Rt rfl rfl (bad ?_)
   have:l.all rightAt=false:=by
    rw [List.all_eq_false]
    exact⟨l[g],aL hlt,by rw [← hget,h2];simp⟩
   simp [nameB,this]
  refine W ?_
  refine⟨g+1,by omega,⟨by omega,by rw [hta,h2]⟩,⟨rfl,rfl,rfl,rfl,rfl,trivial⟩,?_⟩
  show WkO [(1,.var 31 [.d (.i 0),.d (.i 16),.d (.v (.bool true)),.d nilK,.row 2]),(2,.row 31 (.nds ((l.take (g+1)).map atN))),(0,.var 31 [.d (.i 0),.d (.i 0),.d (.b false),.d nilK,.d nilK])] _
  rw [htk]
  exact⟨rfl,rfl,rfl,trivial⟩
 ·have hge:g=l.length:=by omega
  subst hge
  rw [List.take_length] at hall
  rw [List.take_length]
  have hb:nameB l=true:=by simp [nameB,hall];omega
  refine Pb 2 rfl ?_
  refine W ?_
  refine Rt rfl rfl ?_
  simp only [resD,nameN,nameE,hb,if_true]
instance:Cn Tryz.prog 23 (type_of% @qE):=⟨@qE⟩
end
section
set_option maxRecDepth 100000
set_option maxHeartbeats 4000000
theorem lE (t:Int) (b:Txt) (hb:b.length≤10000000):FnD Tryz.prog 154 [.i t,.bs b] (.b (valB t b)):=.mk fun h vs hT hd=>by
 obtain⟨v,w,rfl,h1,h2⟩:=den2 hd
 obtain⟨a,cc,rfl,hR⟩:=cV.1 h2
 rw [d9.1 h1]
 exact(mL hR hb).d ((dg (h:=h)).2 rfl)
instance:Cn Tryz.prog 154 (type_of% @lE):=⟨@lE⟩
theorem mU (s:Txt) (hs:s.length≤1000000000):FnD Tryz.prog 153 [.s s] (.b (oidB s).isSome):=by
 exact aB Tryz.func153 rfl Tryz.ntmps153 rfl (fun e=>Z)
instance:Cn Tryz.prog 153 (type_of% @mU):=⟨@mU⟩
def rightAtR (a:At):Bool:=(oidB a.oid).isSome&&!decide (200<(a.text.length:Int))&&(decide (a.kind=12)||decide (a.kind=19)||decide (a.kind=22))&&valB a.kind a.text
theorem eT (a:At):rightAtR a=rightAt a:=by
 unfold rightAtR rightAt
 have e:(!decide (200<(a.text.length:Int)))=decide (a.text.length≤200):=by
  rw [Bool.eq_iff_iff];simp;omega
 rw [e]
 cases (oidB a.oid).isSome<;>cases decide (a.text.length≤200)<;>simp
 by_cases h1:a.kind=12
 ·simp [h1,oq rfl]
 by_cases h2:a.kind=19
 ·simp [h2,om rfl]
 by_cases h3:a.kind=22
 ·simp [h3,oj rfl]
 simp [h1,h2,h3]
theorem iu (a:At) (h1:a.oid.length≤1000000) (h2:a.text.length≤1000000):FnD Tryz.prog 93 [.st (At.enc a)] (.b (rightAtR a)):=by
 have hv:=lE a.kind a.text z2_
 unfold rightAtR
 exact aB Tryz.func93 rfl Tryz.ntmps93 rfl (fun e=>Z)
instance:Cn Tryz.prog 93 (type_of% @iu):=⟨@iu⟩
def atM (a:At):Nd:=.mk 0 17 true [] [atS a]
def nameM (l:List At):Nd:=if nameB l then .mk 0 16 true [] (l.map atM) else ndZ0
theorem jD (l:List At) (hl:l.length≤1000000) (hB:∀ a∈l,a.oid.length≤1000000∧a.text.length≤1000000):FnD Tryz.prog 33 [.sl 3 At.enc l] (.tup [.nd (nameM l),.i (nameE l)]):=by
 have bad:nameB l=false→resD [.nd ndZ0,.i 61]=.tup [.nd (nameM l),.i (nameE l)]:=fun hb=>by simp [resD,nameM,nameE,hb]
 refine aB Tryz.func33 rfl Tryz.ntmps33 rfl (fun e=>?_)
 refine W ?_
 refine Rn kN 4 31 rfl rfl ?_
 refine Lp (γ:=Nat) (fun g=>g≤l.length∧g≤16∧(l.take g).all rightAt=true) (fun g=>l.length+1-g)
  (fun g=>[(0,.d (.sl 3 At.enc l)),(2,.own 0 0),(4,.row 1),(5,.d (.i (g:Int)))])
  (fun g=>[(1,.row 31 (.nds ((l.take g).map atM))),(0,.var 31 [.d (.i 0),.d (.i 0),.d (.b false),.d nilK,.d nilK])]) 0 ⟨by omega,by omega,rfl⟩ ⟨rfl,rfl,rfl,rfl,trivial⟩ ⟨rfl,rfl,trivial⟩ ?_
 rintro g ⟨hg,hg16,hall⟩
 have hml:((l.take g).map atM).length≤1000000:=by rw [aK];have:=List.length_take_le' g l;omega
 refine W ?_
 refine Ci rfl (fun h=>?_) (fun h=>?_)
 ·have hlt:g<l.length:=by omega
  have hget:l.getD g default=l[g]:=ce hlt
  obtain⟨b1,b2⟩:=hB _ (aL hlt)
  rw [← hget] at b1 b2
  have c0:=iu (l.getD g default) b1 b2
  rw [eT] at c0
  have c1:=qf (s:=(l.getD g default).oid) b1
  have htk:(l.take (g+1)).map atM=(l.take g).map atM++[atM (l.getD g default)]:=by rw [av hlt,List.map_append,hget];rfl
  have hta:(l.take (g+1)).all rightAt=rightAt (l.getD g default):=by rw [av hlt,List.all_append,hall,hget];simp
  refine W ?_
  refine Bg rfl rfl (fun h3=>?_) (fun h3=>?_)
  ·refine W ?_
   refine Rt rfl rfl (bad ?_)
   simp [nameB,show ¬ (l.length:Int)≤16 by omega]
  refine W ?_
  refine Ci rfl (fun h2=>?_) (fun h2=>?_)
  ·refine W ?_
   refine Rt rfl rfl (bad ?_)
   have:l.all rightAt=false:=by
    rw [List.all_eq_false]
    exact⟨l[g],aL hlt,by rw [← hget,h2];simp⟩
   simp [nameB,this]
  refine W ?_
  refine Pl 3 rfl ?_
  refine W ?_
  refine⟨g+1,by omega,⟨by omega,by omega,by rw [hta,h2]⟩,⟨rfl,rfl,rfl,rfl,trivial⟩,?_⟩
  show WkO [(1,.row 31 (.nds ((l.take (g+1)).map atM))),(0,.var 31 [.d (.i 0),.d (.i 0),.d (.b false),.d nilK,.d nilK])] _
  rw [htk]
  exact⟨rfl,rfl,trivial⟩
 ·have hge:g=l.length:=by omega
  subst hge
  rw [List.take_length] at hall
  rw [List.take_length]
  have hb:nameB l=true:=by simp [nameB,hall];omega
  have c2:=qd (l:=l.map atM)
  refine Pb 1 rfl ?_
  refine W ?_
  refine Rt rfl rfl ?_
  simp only [resD,nameM,nameE,hb,if_true]
instance:Cn Tryz.prog 33 (type_of% @jD):=⟨@jD⟩
end
section
set_option maxRecDepth 100000
theorem put_okN {c t:Int}{k:Bool}{b:Txt}{ks:List Nd}(h:(Nd.mk c t k b ks).put.isSome=true):okN c t k b ks=true∧(Nd.putL (decide (c=0)&&decide (t=17)) ks none b).isSome=true:=by
 simp only [Nd.put] at h
 split at h
 ·exact⟨by assumption,by simpa using h⟩
 ·cases h
theorem eI {n:Nd}(h:n.put.isSome=true):(n.cons=true→n.bytes=[])∧(n.cons=false→n.kids=[]):=by
 obtain⟨c,t,k,b,ks⟩:=n
 obtain⟨h1,_⟩:=put_okN h
 unfold okN at h1
 simp only [nd3,nd4,nd5]
 constructor
 ·rintro rfl;simp at h1;exact h1.2
 ·rintro rfl;simp at h1;exact h1.2.1
theorem g9 {n:Nd}(h:n.put.isSome=true):∀ k∈n.kids,k.put.isSome=true:=by
 obtain⟨c,t,k,b,ks⟩:=n
 obtain⟨_,h2⟩:=put_okN h
 rw [dP,Bool.and_eq_true] at h2
 exact List.all_eq_true.1 h2.1
theorem qr {t:Int}{b:Txt}(hm:mayB 0 t false=true) (hv:valB t b=true):(Nd.mk 0 t false b []).put.isSome=true:=by
 have h3:okN 0 t false b []=true:=by simp [okN,hm,hv]
 simp only [Nd.put,h3,if_true,Option.isSome_map]
 rw [dP];simp [ordB,OrdK]
theorem ctx_put {t:Int}{ks:List Nd}(ht:0≤t∧t≤30):(Nd.mk 2 t true [] ks).put.isSome=ks.all (·.put.isSome):=by
 have h:okN 2 t true [] ks=true:=by simp [okN,mayB,ht]
 rw [Nd.put,if_pos h,Option.isSome_map,show(decide ((2:Int)=0)&&decide (t=17))=false by simp,dP]
 simp
theorem ctxp_put {t:Int}{b:Txt}(ht:0≤t∧t≤30):(Nd.mk 2 t false b []).put.isSome=true:=by
 have h3:okN 2 t false b []=true:=by simp [okN,mayB,ht]
 simp only [Nd.put,h3,if_true,Option.isSome_map]
 rw [dP];simp
theorem ib_beV:∀ (r:Txt) (m:Int),ibytes (m*256 ^ r.length+(beV r:Int)) r.length=r
 |[],m=>rfl
 |x::t,m=>by
  have h1:(0:Int)<256 ^ t.length:=Int.pow_pos bJ
  have h2:(beV t:Int)<256 ^ t.length:=by exact_mod_cast go t
  have e:m*256 ^ (x::t).length+(beV (x::t):Int)=(m*256+x.toNat)*256 ^ t.length+(beV t:Int):=by
   rw [eC,aA,Int.pow_succ,dv,bT,Int.natCast_pow]
   show m*(256 ^ t.length*256)+((x.toNat:Int)*256 ^ t.length+_)=_
   grind
  have hd:((m*256+x.toNat)*256 ^ t.length+(beV t:Int)) / 256 ^ t.length=m*256+x.toNat:=by
   rw [Int.add_comm,Int.add_mul_ediv_right _ _ z2_,Int.ediv_eq_zero_of_lt z2_ h2,Int.zero_add]
  have hx:=UInt8.toNat_lt x
  rw [e,aA,ibytes,hd,ib_beV t (m*256+x.toNat)]
  congr 1
  rw [show((m*256+(x.toNat:Int)) % 256).toNat=x.toNat by omega]
  exact UInt8.ofNat_toNat
theorem sV_cons (x:UInt8) (r:Txt):sV (x::r)=s8 x.toNat*256 ^ r.length+(beV r:Int):=rfl
theorem int_there {x:Nd}(h:x.intOk=true) (ht:x.tag=2):x=.mk 0 2 false (intB x.intV) []:=by
 obtain⟨c,t,k,bs,ks⟩:=x
 rw [intV_t h]
 rw [hY,Bool.and_eq_true,aj] at h
 obtain⟨hw,h8⟩:=h
 obtain⟨rfl,_,rfl,rfl,hl⟩:=eF.1 hw
 simp only [nd2] at ht
 subst ht
 congr 1
 cases bs with
 |nil=>simp [leastB] at hl
 |cons x r =>
  have hx:=UInt8.toNat_lt x
  have hp:(0:Int)<256 ^ r.length:=Int.pow_pos bJ
  have hr:(beV r:Int)<256 ^ r.length:=by exact_mod_cast go r
  have hs:-128≤s8 x.toNat∧s8 x.toNat≤127:=s8_bd _ hx
  have hdv:sV (x::r) / 256 ^ r.length=s8 x.toNat:=by
   rw [sV_cons,Int.add_comm,Int.add_mul_ediv_right _ _ z2_,Int.ediv_eq_zero_of_lt z2_ hr,Int.zero_add]
  have hib:ibytes (sV (x::r)) (r.length+1)=x::r:=by
   rw [ibytes,hdv,sV_cons,ib_beV]
   congr 1
   rw [show(s8 x.toNat % 256).toNat=x.toNat by unfold s8;split<;>omega]
   exact UInt8.ofNat_toNat
  have hfit:fitI (sV (x::r)) (r.length+1):=by
   unfold fitI;rw [Nat.add_sub_cancel,hdv];omega
  simp only [aA] at h8
  rw [i6 _ r.length z2_ ?_ hfit,hib]
  cases r with
  |nil=>exact .inl rfl
  |cons y t =>
   right
   have:=m_ (sV (x::y::t)) t.length hfit
   rw [show t.length+2=(y::t).length+1 from rfl,hib,hl] at this
   simpa using this.symm
theorem nat_there {x:Nd}(h:x.natOk=true) (ht:x.tag=2):natN x.natL=x:=by
 obtain⟨c,t,k,bs,ks⟩:=x
 have hl:(Nd.mk c t k bs ks).natL=toL (beV bs):=if_pos h
 rw [hl]
 unfold Nd.natOk at h
 rw [Bool.and_eq_true,aj] at h
 obtain⟨hw,h0⟩:=h
 simp only [nd4] at h0
 obtain⟨rfl,_,rfl,rfl,hb⟩:=eF.1 hw
 simp only [nd2] at ht
 subst ht
 unfold natN
 rw [natW_be,qB,vL_toL]
 have key:bl (beV bs) / 8+1=bs.length:=by
  match bs,h0,hb with
  |[],_,hb=>simp [leastB] at hb
  |[x],h0,_ =>
   have e:beV [x]=x.toNat:=by simp [beV]
   have e0:byteAt [x] 0=x.toNat:=rfl
   have:=my 7 (beV [x]) z2_
   simp only [aA,bh];omega
  |x::y::t,h0,hb =>
   have e0:byteAt (x::y::t) 0=x.toNat:=rfl
   have e1:byteAt (x::y::t) 1=y.toNat:=rfl
   have hx:¬ (x.toNat=0∧y.toNat<128):=by
    unfold leastB at hb
    rw [if_neg (by simp),if_neg (by simp)] at hb
    have:=of_decide_eq_true hb
    rw [e0,e1] at this
    exact fun hh=>this (.inl hh)
   have hy:=UInt8.toNat_lt y
   have ht:=go t
   have hyt:=go (y::t)
   have hv:beV (x::y::t)=x.toNat*256 ^ (t.length+1)+beV (y::t):=eC x (y::t)
   have hv2:beV (y::t)=y.toNat*256 ^ t.length+beV t:=eC y t
   simp only [aA] at hyt ⊢
   have p1:(256:Nat) ^ t.length=2 ^ (8*t.length):=by rw [Nat.pow_mul]
   have p2:(256:Nat) ^ (t.length+1)=2 ^ (8*t.length+8):=by rw [show 8*t.length+8=8*(t.length+1) by omega,Nat.pow_mul]
   have q1:(2:Nat) ^ (8*t.length+8)=2 ^ (8*t.length)*256:=Nat.pow_add ..
   have q2:(2:Nat) ^ (8*t.length+15)=2 ^ (8*t.length)*32768:=Nat.pow_add ..
   have q3:(2:Nat) ^ (8*t.length+7)=2 ^ (8*t.length)*128:=Nat.pow_add ..
   rw [p1] at hv2 ht
   rw [p2] at hv hyt
   rw [e0] at h0
   have up:bl (beV (x::y::t))≤8*t.length+15:=by
    refine my _ _ ?_
    rw [hv,q2]
    rw [q1] at hyt ⊢
    have:x.toNat*(2 ^ (8*t.length)*256)≤127*(2 ^ (8*t.length)*256):=bz _ z2_
    omega
   have lo:8*t.length+8≤bl (beV (x::y::t)):=by
    refine bl_ge _ (8*t.length+7) ?_
    rw [hv,q3]
    by_cases hx0:x.toNat=0
    ·have:128*2 ^ (8*t.length)≤y.toNat*2 ^ (8*t.length):=bz _ z2_
     omega
    ·have:1*2 ^ (8*t.length+8)≤x.toNat*2 ^ (8*t.length+8):=bz _ z2_
     omega
   omega
 rw [key,be_beV]
theorem jQ {n:Nd}(h:(oidOf n).2=true):oiN (oidOf n).1=n∧(oidOf n).1=(oidT n.bytes).getD []∧(oidB (oidOf n).1).isSome=true:=by
 unfold oidOf at h ⊢
 split at h
 ·rename_i hb
  rw [if_pos hb]
  obtain⟨h1,h2,_⟩:=ji hb bJ
  simp only at h ⊢
  obtain⟨s,hs⟩:=Option.isSome_iff_exists.1 h
  rw [hs,Option.getD_some]
  have:=oid_rt hs
  simp only [isB,Bool.and_eq_true,aj] at hb
  refine⟨?_,trivial,by rw [this];rfl⟩
  obtain⟨c,t,k,b,ks⟩:=n
  simp only [nd1,nd2,nd3,nd4,nd5] at *
  obtain⟨⟨rfl,rfl⟩,_⟩:=hb
  subst h1 h2
  unfold oiN;rw [this];rfl
 ·cases h
theorem qw {n:Nd}(h:(oidOf n).1≠[]):(oidOf n).2=true:=by
 unfold oidOf at h ⊢
 split at h
 ·rename_i hb
  rw [if_pos hb]
  simp only at h ⊢
  cases ho:oidT n.bytes with
  |none=>rw [ho] at h;exact absurd rfl h
  |some s=>rfl
 ·exact absurd rfl h
theorem cOid_ne {n:Nd}(hr:n.put.isSome=true) (h:(cOid n).1≠[]):(oidOf n).2=true∧(oidOf n).1=(cOid n).1:=by
 unfold cOid at h ⊢
 split at h
 ·rename_i hb
  rw [if_pos hb]
  have hi:isB n 6=true:=by unfold isB;rw [hb,hr];rfl
  simp only at h ⊢
  have e:(oidOf n).1=(oidT n.bytes).getD []:=by unfold oidOf;rw [if_pos hi]
  exact⟨qw (by rw [e];exact h),e⟩
 ·exact absurd rfl h
theorem jF {a:At}(h:rightAt a=true):(atS a).put.isSome=true:=by
 rw [← eT] at h
 unfold rightAtR at h
 simp only [Bool.and_eq_true,Bool.or_eq_true,aj] at h
 obtain⟨⟨⟨h1,_⟩,h3⟩,h4⟩:=h
 unfold atS
 rw [gx]
 simp only [List.all_cons,List.all_nil,lU h1,Bool.true_and,Bool.and_true]
 obtain⟨o,k,t⟩:=a
 simp only at *
 rcases h3 with (rfl|rfl)|rfl<;>exact qr bJ h4
theorem atM_put {a:At}(h:rightAt a=true):(atM a).put.isSome=true:=by
 unfold atM
 rw [lM]
 simp only [List.all_cons,List.all_nil,jF h,List.map_cons,List.map_nil,Bool.and_true,Bool.true_and]
 simp [ordB,OrdK]
theorem atN_atM {a:At}(h:rightAt a=true):atN a=atM a:=by
 unfold atN set1N atM;rw [if_pos (jF h)]
theorem lZ (l:List At):nameN l=nameM l:=by
 unfold nameN nameM
 by_cases h:nameB l=true
 ·rw [if_pos h,if_pos h]
  congr 1
  refine List.map_congr_left fun a ha=>atN_atM ?_
  unfold nameB at h
  rw [Bool.and_eq_true] at h
  exact List.all_eq_true.1 h.2 a ha
 ·rw [if_neg h,if_neg h]
theorem m5 {l:List At}:nameE l=0↔nameB l=true:=by
 unfold nameE;cases nameB l<;>simp
theorem nameN_put {l:List At}(h:nameB l=true):(nameN l).put.isSome=true:=by
 rw [lZ]
 unfold nameM
 rw [if_pos h,gx,List.all_map,List.all_eq_true]
 intro a ha
 unfold nameB at h
 rw [Bool.and_eq_true] at h
 exact atM_put (List.all_eq_true.1 h.2 a ha)
def atR (k:Nd):At:=⟨(oidT (kd (kd k 0) 0).bytes).getD [],(kd (kd k 0) 1).tag,(kd (kd k 0) 1).bytes⟩
theorem ir {n:Nd}(h:isSeqB n 2 2=true) (hp:n.put.isSome=true):n=.mk 0 16 true [] [kd n 0,kd n 1]:=by
 simp only [isSeqB,Bool.and_eq_true,aj] at h
 obtain⟨⟨⟨⟨c1,c2⟩,c3⟩,c4⟩,c5⟩:=h
 have hb:=(eI hp).1 c3
 obtain⟨c,t,k,b,ks⟩:=n
 simp only [nd1,nd2,nd3,nd4,nd5,kd] at *
 subst c1 c2 c3 hb
 match ks,c4,c5 with
 |[a,b],_,_=>rfl
 |[],c4,_=>simp at c4
 |[_],c4,_=>simp at c4
 |_::_::_::_,_,c5=>simp at c5;omega
theorem fg {n:Nd}{t:Int}(hp:n.put.isSome=true) (h0:n.cls=0) (ht:n.tag=t) (hm:mayB 0 t true=false):n=.mk 0 t false n.bytes []∧valB t n.bytes=true:=by
 obtain⟨h1,h2,h3⟩:=kI hp h0 ht hm
 refine⟨?_,h3⟩
 obtain⟨c,t,k,b,ks⟩:=n
 simp only [nd1,nd2,nd3,nd4,nd5] at *
 subst h0 ht h1 h2;rfl
theorem atB_there {k:Nd}(h:atB k=true):k=atM (atO k)∧atO k=atR k∧rightAt (atO k)=true:=by
 simp only [atB,Bool.and_eq_true,aj] at h
 obtain⟨⟨⟨⟨⟨⟨⟨h1,h2⟩,h3⟩,h4⟩,h5⟩,h6⟩,h7⟩,h8⟩:=h
 obtain⟨o1,o2,_⟩:=jQ h6
 have hs:=iv h4 h1 h2 bJ
 have hk:k.kids=[kd k 0]:=by
  unfold kd
  match hh:k.kids,h3 with
  |[a],_=>rfl
  |[],h3=>simp at h3
  |_::_::_,h3=>simp at h3;omega
 have p0:(kd k 0).put.isSome=true:=g9 h4 _ (by rw [hk];exact List.mem_singleton.2 rfl)
 have hq:=ir h5 p0
 have p1:(kd (kd k 0) 1).put.isSome=true:=g9 p0 _ (by rw [hq];simp [nd5,kd])
 have hm:mayB 0 (kd (kd k 0) 1).tag true=false:=by
  have h9:=h8
  rw [← eT] at h9
  unfold rightAtR at h9
  simp only [Bool.and_eq_true,Bool.or_eq_true,aj] at h9
  rcases h9.1.2 with (e|e)|e<;>(simp only [atO] at e;rw [e];decide)
 have hv:=(fg p1 h7 rfl hm).1
 have e:atO k=atR k:=by unfold atO atR;rw [o2]
 refine⟨?_,e,h8⟩
 have hS:kd k 0=atS (atO k):=by
  conv=>lhs;rw [hq]
  unfold atS atO
  simp only
  rw [o1,← hv]
 unfold atM
 rw [← hS]
 obtain⟨c,t,kk,b,ks⟩:=k
 simp only [nd1,nd2,nd3,nd4,nd5] at *
 obtain⟨e1,e2⟩:=hs
 subst h1 h2 e1 e2
 rw [← hk]
theorem atB_back {a:At}(h:rightAt a=true):atB (atM a)=true:=by
 have h1:(oidB a.oid).isSome=true:=by
  have h9:=h
  rw [← eT] at h9
  unfold rightAtR at h9
  simp only [Bool.and_eq_true] at h9
  exact h9.1.1.1
 have hi:isB (oiN a.oid) 6=true:=by unfold isB;rw [lU h1];simp [oiN,nd1,nd2]
 obtain⟨b,hb⟩:=Option.isSome_iff_exists.1 h1
 have ho:(oiN a.oid).bytes=b:=by simp [oiN,nd4,hb]
 have ht:=oid_tr hb
 obtain⟨s,hs⟩:=Option.isSome_iff_exists.1 ht
 have e2:(oidOf (oiN a.oid)).2=true:=by unfold oidOf;rw [if_pos hi,ho,hs];rfl
 have e1:(oidOf (oiN a.oid)).1=s:=by unfold oidOf;rw [if_pos hi,ho,hs];rfl
 have hr:rightAt ⟨s,a.kind,a.text⟩=true:=by
  unfold rightAt at h ⊢
  simp only [oid_rt hs,Option.isSome_some,Bool.true_and]
  simp only [h1,Bool.true_and] at h
  exact h
 have k0:kd (atM a) 0=atS a:=rfl
 have k1:kd (atS a) 0=oiN a.oid:=rfl
 have k2:kd (atS a) 1=.mk 0 a.kind false a.text []:=rfl
 unfold atB atO
 rw [k0,k1,k2,e1,e2,atM_put h]
 simp only [nd1,nd2,nd4,hr]
 simp [atM,atS,isSeqB,nd1,nd2,nd3,nd5]
def nmR (n:Nd):List At:=(n.kids.take 20).map atR
def nameOfR (n:Nd):List At×Bool:=if decide (nameE (nmR n)=0)&&(nameM (nmR n)).beq n then(nmR n,true) else([],false)
theorem jU (n:Nd):nameOf n=nameOfR n:=by
 unfold nameOf nameOfR
 by_cases h:(isSeqB n 0 16&&!decide (0<(n.bytes.length:Int))&&n.kids.all atB)=true
 ·rw [if_pos h]
  simp only [isSeqB,Bool.and_eq_true,Bool.not_eq_true',aj,decide_eq_false_iff_not] at h
  obtain⟨⟨⟨⟨⟨⟨c1,c2⟩,c3⟩,c4⟩,c5⟩,hb⟩,hall⟩:=h
  have hk:=fun k hk=>atB_there (List.all_eq_true.1 hall k hk)
  have e1:n.kids.map atO=nmR n:=by
   unfold nmR
   rw [aJ z2_]
   exact List.map_congr_left fun k h=>(hk k h).2.1
  have hB:nameB (nmR n)=true:=by
   rw [← e1]
   unfold nameB
   rw [aK,an c5,Bool.true_and,List.all_map,List.all_eq_true]
   exact fun k h=>(hk k h).2.2
  have e2:nameM (nmR n)=n:=by
   unfold nameM
   rw [if_pos hB,← e1,List.map_map]
   have:n.kids.map (atM∘atO)=n.kids:=by
    conv=>rhs;rw [← List.map_id n.kids]
    exact List.map_congr_left fun k h=>(hk k h).1.symm
   rw [this]
   have hbb:n.bytes=[]:=List.eq_nil_of_length_eq_zero z2_
   obtain⟨c,t,k,b,ks⟩:=n
   simp only [nd1,nd2,nd3,nd4,nd5] at *
   subst c1 c2 c3 hbb;rfl
  rw [if_pos (by rw [an (m5.2 hB),e2,Bool.true_and];exact(Nd.beq_eq _ n n (aD _)).2 rfl),e1]
 ·rw [if_neg h,if_neg]
  intro hh
  rw [Bool.and_eq_true,aj,m5] at hh
  obtain⟨hB,he⟩:=hh
  have e:=(Nd.beq_eq _ _ n (aD _)).1 he
  apply h
  generalize nmR n=l at *
  unfold nameM at e
  rw [if_pos hB] at e
  unfold nameB at hB
  rw [Bool.and_eq_true,aj] at hB
  subst e
  simp only [isSeqB,nd1,nd2,nd3,nd4,nd5,Bool.and_eq_true,aK,bh]
  refine⟨⟨?_,by simp⟩,?_⟩
  ·simp;omega
  ·rw [List.all_map,List.all_eq_true]
   exact fun a ha=>atB_back (List.all_eq_true.1 hB.2 a ha)
def shaOf (s:Txt):Int:=if oidH 256=s then 256 else if oidH 384=s then 384 else if oidH 512=s then 512 else 0
theorem rJ {s:Txt}(h:shaOf s≠0):someH (shaOf s)∧oidH (shaOf s)=s:=by
 unfold shaOf at h ⊢
 unfold someH
 split
 ·rename_i h1;exact⟨.inl rfl,h1⟩
 ·rename_i h1
  rw [if_neg h1] at h
  split
  ·rename_i h2;exact⟨.inr (.inl rfl),h2⟩
  ·rename_i h2
   rw [if_neg h2] at h
   split
   ·rename_i h3;exact⟨.inr (.inr rfl),h3⟩
   ·rename_i h3;rw [if_neg h3] at h;exact absurd rfl h
theorem ls {n:Nd}(h:algOf n≠0):algN (algOf n)=n∧someH (algOf n):=by
 have key:∀ x,someH x→algO x=(oidOf (kd n 0)).1→(isSeqB n 2 2&&isB (kd n 1) 5&&n.put.isSome)=true→algN x=n:=fun x hx he hc=>by
  simp only [Bool.and_eq_true] at hc
  obtain⟨⟨c1,c2⟩,c3⟩:=hc
  have hne:(oidOf (kd n 0)).1≠[]:=by
   rw [← he];rcases hx with rfl|rfl|rfl<;>decide
  have ho:=(jQ (qw hne)).1
  rw [← he] at ho
  have c2':=c2
  simp only [isB,Bool.and_eq_true,aj] at c2'
  obtain⟨d1,d2⟩:=fg c2'.2 c2'.1.1 c2'.1.2 bJ
  rw [valB_5 rfl,aj] at d2
  rw [List.eq_nil_of_length_eq_zero d2] at d1
  rw [fl hx,ho,← d1]
  exact(ir c1 c3).symm
 unfold algOf at h ⊢
 split at h
 ·rename_i hc
  rw [if_pos hc]
  split
  ·rename_i h1;exact⟨key _ (.inl rfl) h1 hc,.inl rfl⟩
  ·rename_i h1
   rw [if_neg h1] at h
   split
   ·rename_i h2;exact⟨key _ (.inr (.inl rfl)) h2 hc,.inr (.inl rfl)⟩
   ·rename_i h2
    rw [if_neg h2] at h
    split
    ·rename_i h3;exact⟨key _ (.inr (.inr rfl)) h3 hc,.inr (.inr rfl)⟩
    ·rename_i h3;rw [if_neg h3] at h;exact absurd rfl h
 ·exact absurd rfl h
theorem gk {h:Int}(hh:someH h):algOf (algN h)=h:=by
 rcases hh with rfl|rfl|rfl<;>kernel_rfl
theorem algN_put {h:Int}(hh:someH h):(algN h).put.isSome=true:=by
 rcases hh with rfl|rfl|rfl<;>kernel_rfl
theorem digN_put {h:Int}(hh:someH h):(digN' h).put.isSome=true:=by
 rcases hh with rfl|rfl|rfl<;>kernel_rfl
def digOf (n:Nd):Int:=if isSeqB n 1 1 then shaOf (cOid (kd n 0)).1 else 0
theorem l8 {h:Int}(hh:someH h):digOf (digN' h)=h:=by
 rcases hh with rfl|rfl|rfl<;>kernel_rfl
theorem pn {h:Int}(hh:someH h):shaOf ((oidT (kd (digN' h) 0).bytes).getD [])=h:=by
 rcases hh with rfl|rfl|rfl<;>kernel_rfl
theorem si {n:Nd}(hp:n.put.isSome=true) (h:digOf n≠0):digN' (digOf n)=n∧someH (digOf n):=by
 unfold digOf at h ⊢
 split at h
 ·rename_i hc
  rw [if_pos hc]
  obtain⟨h1,h2⟩:=rJ h
  refine⟨?_,h1⟩
  have hk:n.kids=[kd n 0]:=by
   simp only [isSeqB,Bool.and_eq_true,aj] at hc
   unfold kd
   match hh:n.kids,hc.1.2,hc.2 with
   |[a],_,_=>rfl
   |[],h3,_=>simp at h3
   |_::_::_,_,h3=>simp at h3;omega
  have p0:(kd n 0).put.isSome=true:=g9 hp _ (by rw [hk];exact List.mem_singleton.2 rfl)
  have hne:(cOid (kd n 0)).1≠[]:=by
   rw [← h2];rcases h1 with e|e|e<;>(rw [e];decide)
  obtain⟨o1,o2⟩:=cOid_ne p0 hne
  have ho:=(jQ o1).1
  rw [o2] at ho
  unfold digN'
  rw [h2,ho,← hk]
  simp only [isSeqB,Bool.and_eq_true,aj] at hc
  obtain⟨⟨⟨⟨c1,c2⟩,c3⟩,_⟩,_⟩:=hc
  have hb:=(eI hp).1 c3
  obtain⟨c,t,k,b,ks⟩:=n
  simp only [nd1,nd2,nd3,nd4,nd5] at *
  subst c1 c2 c3 hb;rfl
 ·exact absurd rfl h
end
section
def sBits (s:Sg):Nat:=nbits (d32 s.serial) s.serial.length
def whoOk (s:Sg):Bool:=if 0<(s.ski.length:Int) then !decide (64<(s.ski.length:Int))&&!decide (0<(sBits s:Int))&&!decide (0<(s.issuer.length:Int)) else !decide ((sBits s:Int)=0)&&!decide (160<(sBits s:Int))&&decide (nameE s.issuer=0)
def rightSg (s:Sg):Bool:=whoOk s&&decide (0<shaSize s.hash)&&rfP s.signed&&rfP s.unsigned&&decide (1≤(s.sig.length:Int))&&decide ((s.sig.length:Int)≤512)
def whoN (s:Sg):Nd:=if 0<(s.ski.length:Int) then .mk 2 0 false s.ski [] else .mk 0 16 true [] [nameN s.issuer,natN s.serial]
def verN (s:Sg):Int:=if 0<(s.ski.length:Int) then 3 else 1
def ctxF (t:Int) (l:List Fe):Nd:=.mk 2 t true [] (l.map fieldN)
def optN (t:Int) (l:List Fe):List Nd:=if l=[] then [] else [ctxF t l]
def octN (b:Txt):Nd:=.mk 0 4 false b []
def sgK (s:Sg):List Nd:=.mk 0 2 false (intB (verN s)) []::whoN s::digN' s.hash::(optN 0 s.signed++algN s.hash::octN s.sig::optN 1 s.unsigned)
def sgN (s:Sg):Nd:=if rightSg s then .mk 0 16 true [] (sgK s) else ndZ0
def sgE (s:Sg):Int:=if rightSg s then 0 else 60
def fldsP (ks:List Nd):List Fe×Bool:=if ks.all (fun k=>(fieldOf k).2) then(ks.map fun k=>(fieldOf k).1,rfP (ks.map fun k=>(fieldOf k).1)) else([],false)
def flR (ks:List Nd):List Fe×Bool:=if decide ((ks.length:Int)≤16)&&ks.all (fun k=>(fieldOf k).2) then(ks.map fun k=>(fieldOf k).1,true) else([],false)
theorem mh {k:Nd}(h:(fieldOf k).2=true):fieldN (fieldOf k).1=k:=by
 unfold fieldOf at h ⊢
 split at h
 ·rename_i hk
  rw [if_pos hk]
  obtain⟨_,h2,h3⟩:=gE hk
  rw [← h3];exact h2
 ·cases h
theorem jG {l:List Fe}(h:rfP l=true):l.length≤16:=by
 unfold rfP at h
 split at h
 ·cases h
 ·omega
theorem rfP_ok {l:List Fe}(h:rfP l=true):∀ f∈l,fnOk f=true:=by
 unfold rfP at h
 split at h
 ·cases h
 ·split at h
  ·cases h
  ·exact fun f hf=>fN.1 (qb l [] h f hf)
theorem iG {ks:List Nd}(h:(fldsP ks).2=true):(fldsP ks).1.map fieldN=ks∧flR ks=((fldsP ks).1,true):=by
 unfold fldsP at h ⊢
 split at h
 ·rename_i hk
  rw [if_pos hk]
  simp only at h ⊢
  constructor
  ·rw [List.map_map]
   conv=>rhs;rw [← List.map_id ks]
   exact List.map_congr_left fun k hh=>mh (List.all_eq_true.1 hk k hh)
  ·unfold flR
   have:=jG h
   rw [aK] at this
   rw [if_pos (by rw [hk,an (p:=(ks.length:Int)≤16) z2_];rfl)]
 ·cases h
theorem flR_P {ks:List Nd}(h:(flR ks).2=true) (hr:rfP (flR ks).1=true):fldsP ks=((flR ks).1,true):=by
 unfold flR at h hr ⊢
 split at h
 ·rename_i hk
  rw [if_pos hk] at hr ⊢
  simp only at hr ⊢
  rw [Bool.and_eq_true] at hk
  unfold fldsP
  rw [if_pos hk.2,hr]
 ·cases h
def whoB (v w:Nd):Bool:=v.intOk&&decide (v.tag=2)&&(if isCtxB w 0 false then decide (v.intV=3) else isSeqB w 2 2&&decide ((kd w 1).tag=2)&&(nameOf (kd w 0)).2&&(kd w 1).natOk&&decide (v.intV=1))
def isuOf (w:Nd):List At:=if isCtxB w 0 false then [] else(nameOf (kd w 0)).1
def serOf (w:Nd):List UInt32:=if isCtxB w 0 false then [] else(kd w 1).natL
def skiOf (w:Nd):Txt:=if isCtxB w 0 false then w.bytes else []
def isuR (w:Nd):List At:=if w.cls=2 then [] else(nameOf (kd w 0)).1
def serR (w:Nd):List UInt32:=if w.cls=2 then [] else(kd w 1).natL
def skiR (w:Nd):Txt:=if w.cls=2 then w.bytes else []
theorem gA {x:Nd}{t:Int}{c:Bool}(h:isCtxB x t c=true):x.cls=2∧x.tag=t∧x.cons=c:=by
 simp only [isCtxB,Bool.and_eq_true,aj,beq_iff_eq] at h
 exact⟨h.1.1,h.1.2,h.2⟩
theorem isSeq_cls {x:Nd}{l m:Int}(h:isSeqB x l m=true):x.cls=0:=by
 simp only [isSeqB,Bool.and_eq_true,aj] at h
 exact h.1.1.1.1
theorem nf {n:Nd}(h:(nameOf n).2=true):nameN (nameOf n).1=n:=by
 rw [jU] at h ⊢
 unfold nameOfR at h ⊢
 split at h
 ·rename_i hk
  rw [if_pos hk]
  rw [Bool.and_eq_true] at hk
  rw [lZ]
  exact(Nd.beq_eq _ _ n (aD _)).1 hk.2
 ·cases h
theorem who_there {v w:Nd}{s:Sg}(pw:w.put.isSome=true) (h:whoB v w=true) (hs:whoOk s=true) (e1:s.issuer=isuOf w) (e2:s.serial=serOf w) (e3:s.ski=skiOf w) :
 v=.mk 0 2 false (intB (verN s)) []∧w=whoN s∧isuR w=s.issuer∧serR w=s.serial∧skiR w=s.ski:=by
 simp only [whoB,Bool.and_eq_true,aj] at h
 obtain⟨⟨h1,h2⟩,h3⟩:=h
 have hv:=int_there h1 h2
 unfold whoOk at hs
 rw [e1,e2,e3]
 unfold isuOf at e1
 unfold serOf at e2
 unfold skiOf at e3
 unfold isuOf serOf skiOf isuR serR skiR
 by_cases hc:isCtxB w 0 false=true
 ·rw [if_pos hc] at h3 e1 e2 e3 ⊢
  rw [aj] at h3
  obtain⟨q1,q2,q3⟩:=gA hc
  have hk:=(eI pw).2 q3
  have hl:0<(s.ski.length:Int):=by
   refine Decidable.byContradiction fun hn=>?_
   rw [if_neg hn] at hs
   have hb:sBits s=0:=by unfold sBits;rw [e2];rfl
   simp [hb] at hs
  unfold verN whoN
  rw [if_pos hl,if_pos hl,if_pos hc,if_pos hc,if_pos q1,if_pos q1,if_pos q1,e3]
  refine⟨by rw [← h3];exact hv,?_,rfl,rfl,rfl⟩
  obtain⟨c,t,k,b,ks⟩:=w
  simp only [nd1,nd2,nd3,nd4,nd5] at *
  subst q1 q2 q3 hk;rfl
 ·rw [if_neg hc] at h3 e1 e2 e3 ⊢
  simp only [Bool.and_eq_true,aj] at h3
  obtain⟨⟨⟨⟨k1,k2⟩,k3⟩,k4⟩,k5⟩:=h3
  have hl:¬ 0<(s.ski.length:Int):=by rw [e3];simp
  have hq:=isSeq_cls k1
  have hq':¬ w.cls=2:=by omega
  unfold verN whoN
  rw [if_neg hl,if_neg hl,if_neg hc,if_neg hc,if_neg hq',if_neg hq',if_neg hq',e1,e2,nf k3,nat_there k4 k2]
  exact⟨by rw [← k5];exact hv,ir k1 pw,rfl,rfl,rfl⟩
theorem int_put (n:Int) (h0:-9223372036854775808≤n) (h1:n≤9223372036854775807):(Nd.mk 0 2 false (intB n) []).put.isSome=true:=by
 have h:=(hJ n h0 h1).1
 rw [hY,Bool.and_eq_true] at h
 have h2:=h.1
 unfold Nd.whole at h2
 simp only [Bool.and_eq_true] at h2
 exact h2.2
theorem who_back {s:Sg}(hs:whoOk s=true) (f1:s.issuer=isuR (whoN s)) :
 (whoN s).put.isSome=true∧whoB (.mk 0 2 false (intB (verN s)) []) (whoN s)=true∧isuOf (whoN s)=isuR (whoN s)∧serOf (whoN s)=serR (whoN s)∧skiOf (whoN s)=skiR (whoN s):=by
 unfold whoOk at hs
 unfold whoN verN at *
 by_cases hl:0<(s.ski.length:Int)
 ·rw [if_pos hl,if_pos hl] at *
  have hc:isCtxB (Nd.mk 2 0 false s.ski []) 0 false=true:=rfl
  have hi:=hJ 3 bJ bJ
  refine⟨ctxp_put bJ,?_,by unfold isuOf isuR;rw [if_pos hc];rfl,by unfold serOf serR;rw [if_pos hc];rfl,by unfold skiOf skiR;rw [if_pos hc];rfl⟩
  unfold whoB
  rw [if_pos hc,hi.1,hi.2.1];rfl
 ·rw [if_neg hl,if_neg hl] at *
  simp only [Bool.and_eq_true,aj,m5] at hs
  have hB:=hs.2
  have hc:¬ isCtxB (Nd.mk 0 16 true [] [nameN s.issuer,natN s.serial]) 0 false=true:=by intro h;cases h
  have hi:=hJ 1 bJ bJ
  have hnb:=lW s.serial
  obtain⟨t,ht⟩:=natN_put s.serial
  have k0:kd (Nd.mk 0 16 true [] [nameN s.issuer,natN s.serial]) 0=nameN s.issuer:=rfl
  have k1:kd (Nd.mk 0 16 true [] [nameN s.issuer,natN s.serial]) 1=natN s.serial:=rfl
  have hcl:¬ (Nd.mk 0 16 true [] [nameN s.issuer,natN s.serial]).cls=2:=by rw [nd1];decide
  refine⟨by rw [gx];simp [nameN_put hB,ht],?_,by unfold isuOf isuR;rw [if_neg hc,if_neg hcl],by unfold serOf serR;rw [if_neg hc,if_neg hcl],by unfold skiOf skiR;rw [if_neg hc,if_neg hcl]⟩
  unfold whoB
  rw [if_neg hc,hi.1,hi.2.1,k0,k1,hnb.1]
  have hn:(nameOf (nameN s.issuer)).2=true:=by
   unfold isuR at f1
   rw [if_neg hcl,k0] at f1
   cases hb:(nameOf (nameN s.issuer)).2 with
   |true=>rfl
   |false =>
    have e:(nameOf (nameN s.issuer)).1=[]:=by
     unfold nameOf at hb ⊢
     split at hb
     ·cases hb
     ·rename_i hh;rw [if_neg hh]
    rw [e] at f1
    rw [f1] at hb
    revert hb
    rw [show(nameOf (nameN [])).2=true by kernel_rfl]
    intro hb;cases hb
  rw [hn]
  rfl
abbrev lk (l:List Nd) (i:Nat):Nd:=l.getD i (.mk 0 0 false [] [])
def sgT (n:Nd):List Nd:=n.kids.drop 3
def sgHas (n:Nd):Bool:=isCtxB (lk (sgT n) 0) 0 true
def sgU (n:Nd):List Nd:=if sgHas n then(sgT n).drop 1 else sgT n
def sgS (n:Nd):Sg:=⟨isuOf (kd n 1),serOf (kd n 1),skiOf (kd n 1),digOf (kd n 2),if sgHas n then(fldsP (lk (sgT n) 0).kids).1 else [],(lk (sgU n) 1).bytes,if((sgU n).length:Int)=3 then(fldsP (lk (sgU n) 2).kids).1 else []⟩
def sgOk (n:Nd):Bool:=n.put.isSome&&isSeqB n 5 7&&whoB (kd n 0) (kd n 1)&&decide (2≤((sgU n).length:Int))&&decide (((sgU n).length:Int)≤3)&&decide (algOf (lk (sgU n) 0)=digOf (kd n 2))&&decide ((lk (sgU n) 1).cls=0)&&decide ((lk (sgU n) 1).tag=4)
 && (!sgHas n||((fldsP (lk (sgT n) 0).kids).2&&decide (0<((fldsP (lk (sgT n) 0).kids).1.length:Int))))&&(!decide (((sgU n).length:Int)=3)||((fldsP (lk (sgU n) 2).kids).2&&isCtxB (lk (sgU n) 2) 1 true&&decide (0<((fldsP (lk (sgU n) 2).kids).1.length:Int))))&&rightSg (sgS n)
def sg0:Sg:=⟨[],[],[],0,[],[],[]⟩
def sgOf (n:Nd):Sg×Bool:=if sgOk n then(sgS n,true) else(sg0,false)
def sgHR (n:Nd):Bool:=decide ((kd n 3).cls=2)
def sgI (n:Nd):Nat:=if sgHR n then 4 else 3
def sgR (n:Nd):Sg:=⟨isuR (kd n 1),serR (kd n 1),skiR (kd n 1),shaOf ((oidT (kd (kd n 2) 0).bytes).getD []),if sgHR n then(flR (kd n 3).kids).1 else [],(kd n (sgI n+1)).bytes,(flR (kd n (sgI n+2)).kids).1⟩
def sgOkR (n:Nd):Bool:=(!sgHR n||(flR (kd n 3).kids).2)&&(flR (kd n (sgI n+2)).kids).2&&rightSg (sgR n)&&(sgN (sgR n)).beq n
def sgOfR (n:Nd):Sg×Bool:=if sgOkR n then(sgR n,true) else(sg0,false)
theorem sg_ext {a b:Sg}(h1:a.issuer=b.issuer) (h2:a.serial=b.serial) (h3:a.ski=b.ski) (h4:a.hash=b.hash) (h5:a.signed=b.signed) (h6:a.sig=b.sig) (h7:a.unsigned=b.unsigned):a=b:=by
 cases a;cases b;simp_all
theorem nq {h:Int}(k:0<shaSize h):someH h:=by
 unfold shaSize at k
 split at k
 ·assumption
 ·omega
theorem oB {h:Int}(k:someH h):h≠0:=by unfold someH at k;omega
theorem iM {x:Nd}{t:Int}{l:List Fe}(hp:x.put.isSome=true) (h:isCtxB x t true=true) (hl:l.map fieldN=x.kids):x=ctxF t l:=by
 obtain⟨q1,q2,q3⟩:=gA h
 have hb:=(eI hp).1 q3
 unfold ctxF
 obtain⟨c,t,k,b,ks⟩:=x
 simp only [nd1,nd2,nd3,nd4,nd5] at *
 subst q1 q2 q3 hb hl;rfl
theorem r_ {t:Int}{l:List Fe}(ht:0≤t∧t≤30) (h:rfP l=true):(ctxF t l).put.isSome=true:=by
 unfold ctxF
 rw [ctx_put ht,List.all_map,List.all_eq_true]
 exact fun f hf=>kZ (rfP_ok h f hf)
theorem cB (t:Int):optN t []=[]:=rfl
theorem cH {t:Int}{l:List Fe}(h:l≠[]):optN t l=[ctxF t l]:=if_neg h
theorem dJ {l:List Fe}(h:0<(l.length:Int)):l≠[]:=by rintro rfl;simp at h
theorem rx {h:Int}(hh:someH h):(algN h).cls=0:=by rw [fl hh,nd1]
theorem algN_ctx {h t:Int}{c:Bool}(hh:someH h):isCtxB (algN h) t c=false:=by rw [fl hh];rfl
theorem sg_there {n:Nd}(h:sgOk n=true):sgOkR n=true∧sgR n=sgS n:=by
 simp only [sgOk,Bool.and_eq_true,aj] at h
 obtain⟨⟨⟨⟨⟨⟨⟨⟨⟨⟨h1,h2⟩,h3⟩,h4⟩,h5⟩,h6⟩,h7⟩,h8⟩,h9⟩,h10⟩,h11⟩:=h
 have hr:=h11
 simp only [rightSg,Bool.and_eq_true,aj] at hr
 obtain⟨⟨⟨⟨⟨r1,r2⟩,r3⟩,r4⟩,r5⟩,r6⟩:=hr
 have hh:someH (digOf (kd n 2)):=nq r2
 have hkids:=g9 h1
 simp only [isSeqB,Bool.and_eq_true,aj] at h2
 obtain⟨⟨⟨⟨c1,c2⟩,c3⟩,c4⟩,c5⟩:=h2
 have hb:=(eI h1).1 c3
 obtain⟨c,t,k,b,ks⟩:=n
 simp only [nd1,nd2,nd3,nd4,nd5] at c1 c2 c3 c4 c5 hb hkids
 subst c1 c2 c3 hb
 obtain⟨v,w,d,x,y,r,rfl⟩:∃ v w d x y r,ks=v::w::d::x::y::r:=by
  match ks,c4 with
  |v::w::d::x::y::r,_=>exact⟨v,w,d,x,y,r,rfl⟩
  |[],c4=>simp at c4
  |[_],c4=>simp at c4
  |[_,_],c4=>simp at c4
  |[_,_,_],c4=>simp at c4
  |[_,_,_,_],c4=>simp at c4
 generalize hN:Nd.mk 0 16 true [] (v::w::d::x::y::r)=n at *
 have k0:kd n 0=v:=by rw [← hN];rfl
 have k1:kd n 1=w:=by rw [← hN];rfl
 have k2:kd n 2=d:=by rw [← hN];rfl
 have k3:kd n 3=x:=by rw [← hN];rfl
 have kT:sgT n=x::y::r:=by rw [← hN];rfl
 have pw:=hkids w (by simp)
 have pd:=hkids d (by simp)
 have px:=hkids x (by simp)
 have py:=hkids y (by simp)
 rw [k0,k1] at h3
 obtain⟨w1,w2,w3,w4,w5⟩:=who_there (s:=sgS n) pw h3 r1 (by rw [← k1];rfl) (by rw [← k1];rfl) (by rw [← k1];rfl)
 rw [k2] at hh
 obtain⟨d1,_⟩:=si pd (oB hh)
 have sHash:(sgS n).hash=digOf d:=by rw [← k2];rfl
 have sIs:(sgS n).issuer=isuR w:=w3.symm
 have sSe:(sgS n).serial=serR w:=w4.symm
 have sSk:(sgS n).ski=skiR w:=w5.symm
 have dR:=pn hh
 rw [d1] at dR
 rw [k2] at h6
 have fin:∀ (e3:sgHR n=sgHas n) (e5:(sgR n).signed=(sgS n).signed) (e6:(sgR n).sig=(sgS n).sig) (e7:(sgR n).unsigned=(sgS n).unsigned) (eK:v::w::d::x::y::r=sgK (sgS n)) (f1:sgHas n=true→(flR x.kids).2=true) (f2:(flR (kd n (sgI n+2)).kids).2=true),sgOkR n=true∧sgR n=sgS n:=by
  intro e3 e5 e6 e7 eK f1 f2
  have e:sgR n=sgS n:=sg_ext (by rw [sIs,← k1];rfl) (by rw [sSe,← k1];rfl) (by rw [sSk,← k1];rfl) (by rw [sHash,← dR,← k2];rfl) e5 e6 e7
  refine⟨?_,e⟩
  unfold sgOkR
  rw [e,h11,f2,e3,k3]
  have e8:sgN (sgS n)=n:=by unfold sgN;rw [if_pos h11,← eK,hN]
  rw [e8,(Nd.beq_eq _ n n (aD _)).2 rfl]
  cases hz:sgHas n with
  |false=>rfl
  |true=>rw [f1 hz];rfl
 cases hz:sgHas n with
 |true =>
  have hx:isCtxB x 0 true=true:=by
   have hz2:=hz
   unfold sgHas at hz2
   rw [kT] at hz2
   exact hz2
  have kU:sgU n=y::r:=by unfold sgU;rw [hz,if_pos rfl,kT];rfl
  rw [kU] at h4 h5 h6 h7 h8 h10
  rw [hz,kT] at h9
  simp only [Bool.not_true,Bool.false_or,Bool.and_eq_true,aj,lk,List.getD_cons_zero,List.getD_cons_succ] at h9 h6 h7 h8
  obtain⟨g1,g2⟩:=iG h9.1
  have sSi:(sgS n).signed=(fldsP x.kids).1:=by unfold sgS;rw [hz,if_pos rfl,kT];rfl
  have hHR:sgHR n=true:=by unfold sgHR;rw [k3];exact an (gA hx).1
  have hI:sgI n=4:=by unfold sgI;rw [hHR];rfl
  have hy:algN (digOf d)=y:=by rw [← h6];exact(ls (by rw [h6];exact oB hh)).1
  have hX:=iM px hx g1
  have rSi:(sgR n).signed=(fldsP x.kids).1:=by unfold sgR;rw [hHR,if_pos rfl,k3,g2]
  match r,h4,h5,hkids,h7,h8,h10,kU,hN,fin with
  |[],h4,_,_,_,_,_,_,_,_=>simp at h4
  |[z],_,_,hkids,h7,h8,_,kU,hN,fin =>
   simp only [List.getD_cons_zero] at h7 h8
   have pz:=hkids z (by simp)
   have hz2:=(fg pz h7 h8 bJ).1
   have sU:(sgS n).unsigned=[]:=by unfold sgS;rw [kU];rfl
   have sS:(sgS n).sig=z.bytes:=by unfold sgS;rw [kU];rfl
   have k6:kd n 6=.mk 0 0 false [] []:=by rw [← hN];rfl
   refine fin (by rw [hHR,hz]) (by rw [rSi,sSi]) (by rw [sS];unfold sgR;rw [hI,← hN];rfl) (by rw [sU];unfold sgR;rw [hI,k6];rfl) ?_ (fun _=>by rw [g2]) (by rw [hI,k6];rfl)
   unfold sgK
   rw [← w1,← w2,sHash,sSi,sU,sS,d1,cH (dJ h9.2),cB,← hX,hy]
   unfold octN
   rw [← hz2];rfl
  |[z,u],_,_,hkids,h7,h8,h10,kU,hN,fin =>
   simp only [List.getD_cons_zero] at h7 h8
   have pz:=hkids z (by simp)
   have pu:=hkids u (by simp)
   have hz2:=(fg pz h7 h8 bJ).1
   have h3':decide (((y::[z,u]).length:Int)=3)=true:=rfl
   rw [h3'] at h10
   simp only [Bool.not_true,Bool.false_or,Bool.and_eq_true,aj,lk,List.getD_cons_zero,List.getD_cons_succ] at h10
   obtain⟨⟨h12,h13⟩,h14⟩:=h10
   obtain⟨g3,g4⟩:=iG h12
   have hU:=iM pu h13 g3
   have sU:(sgS n).unsigned=(fldsP u.kids).1:=by unfold sgS;rw [kU];rfl
   have sS:(sgS n).sig=z.bytes:=by unfold sgS;rw [kU];rfl
   have k6:kd n 6=u:=by rw [← hN];rfl
   refine fin (by rw [hHR,hz]) (by rw [rSi,sSi]) (by rw [sS];unfold sgR;rw [hI,← hN];rfl) (by rw [sU];unfold sgR;rw [hI,k6,g4]) ?_ (fun _=>by rw [g2]) (by rw [hI,k6,g4])
   unfold sgK
   rw [← w1,← w2,sHash,sSi,sU,sS,d1,cH (dJ h9.2),cH (dJ h14),← hX,← hU,hy]
   unfold octN
   rw [← hz2];rfl
  |_::_::_::_,_,h5,_,_,_,_,_,_,_=>simp at h5;omega
 |false =>
  have kU:sgU n=x::y::r:=by unfold sgU;rw [hz,if_neg (by simp),kT]
  rw [kU] at h4 h5 h6 h7 h8 h10
  simp only [lk,List.getD_cons_zero,List.getD_cons_succ] at h6 h7 h8
  have sSi:(sgS n).signed=[]:=by unfold sgS;rw [hz];rfl
  have hx:algN (digOf d)=x:=by rw [← h6];exact(ls (by rw [h6];exact oB hh)).1
  have hHR:sgHR n=false:=by unfold sgHR;rw [k3,← hx,rx hh];rfl
  have hI:sgI n=3:=by unfold sgI;rw [hHR];rfl
  have rSi:(sgR n).signed=[]:=by unfold sgR;rw [hHR];rfl
  have hy2:=(fg py h7 h8 bJ).1
  have sS:(sgS n).sig=y.bytes:=by unfold sgS;rw [kU];rfl
  have k4:kd n 4=y:=by rw [← hN];rfl
  match r,h5,hkids,h10,kU,hN,fin with
  |[],_,hkids,_,kU,hN,fin =>
   have sU:(sgS n).unsigned=[]:=by unfold sgS;rw [kU];rfl
   have k5:kd n 5=.mk 0 0 false [] []:=by rw [← hN];rfl
   refine fin (by rw [hHR,hz]) (by rw [rSi,sSi]) (by rw [sS];unfold sgR;rw [hI,k4]) (by rw [sU];unfold sgR;rw [hI,k5];rfl) ?_ (fun h=>by rw [hz] at h;cases h) (by rw [hI,k5];rfl)
   unfold sgK
   rw [← w1,← w2,sHash,sSi,sU,sS,d1,cB,cB,hx]
   unfold octN
   rw [← hy2];rfl
  |[u],_,hkids,h10,kU,hN,fin =>
   have pu:=hkids u (by simp)
   have h3':decide (((x::y::[u]).length:Int)=3)=true:=rfl
   rw [h3'] at h10
   simp only [Bool.not_true,Bool.false_or,Bool.and_eq_true,aj,lk,List.getD_cons_zero,List.getD_cons_succ] at h10
   obtain⟨⟨h12,h13⟩,h14⟩:=h10
   obtain⟨g3,g4⟩:=iG h12
   have hU:=iM pu h13 g3
   have sU:(sgS n).unsigned=(fldsP u.kids).1:=by unfold sgS;rw [kU];rfl
   have k5:kd n 5=u:=by rw [← hN];rfl
   refine fin (by rw [hHR,hz]) (by rw [rSi,sSi]) (by rw [sS];unfold sgR;rw [hI,k4]) (by rw [sU];unfold sgR;rw [hI,k5,g4]) ?_ (fun h=>by rw [hz] at h;cases h) (by rw [hI,k5,g4])
   unfold sgK
   rw [← w1,← w2,sHash,sSi,sU,sS,d1,cB,cH (dJ h14),← hU,hx]
   unfold octN
   rw [← hy2];rfl
  |_::_::_,h5,_,_,_,_,_=>simp at h5;omega
theorem sg_back {n:Nd}(h:sgOkR n=true):sgOk n=true:=by
 simp only [sgOkR,Bool.and_eq_true] at h
 obtain⟨⟨⟨h1,h2⟩,h3⟩,h4⟩:=h
 have hn:=(Nd.beq_eq _ _ n (aD _)).1 h4
 unfold sgN at hn
 rw [if_pos h3] at hn
 have f1:(sgR n).issuer=isuR (kd n 1):=rfl
 have f2:(sgR n).serial=serR (kd n 1):=rfl
 have f3:(sgR n).ski=skiR (kd n 1):=rfl
 have f5:(sgR n).signed=if sgHR n then(flR (kd n 3).kids).1 else []:=rfl
 have f7:(sgR n).unsigned=(flR (kd n (sgI n+2)).kids).1:=rfl
 generalize sgR n=s at *
 have hr:=h3
 simp only [rightSg,Bool.and_eq_true,aj] at hr
 obtain⟨⟨⟨⟨⟨r1,r2⟩,r3⟩,r4⟩,r5⟩,r6⟩:=hr
 have hh:=nq r2
 have k0:kd n 0=.mk 0 2 false (intB (verN s)) []:=by rw [← hn];rfl
 have k1:kd n 1=whoN s:=by rw [← hn];rfl
 have k2:kd n 2=digN' s.hash:=by rw [← hn];rfl
 have kT:sgT n=optN 0 s.signed++algN s.hash::octN s.sig::optN 1 s.unsigned:=by rw [← hn];rfl
 rw [k1] at f1 f2 f3
 obtain⟨w1,w2,w3,w4,w5⟩:=who_back r1 f1
 have pv:(Nd.mk 0 2 false (intB (verN s)) []).put.isSome=true:=int_put _ (by unfold verN;split<;>decide) (by unfold verN;split<;>decide)
 have po:(octN s.sig).put.isSome=true:=qr bJ (by unfold valB;simp)
 have hput:n.put.isSome=true:=by
  rw [← hn,gx]
  unfold sgK
  simp only [List.all_cons,List.all_append,pv,w1,digN_put hh,algN_put hh,po,Bool.true_and,Bool.and_eq_true]
  constructor
  ·unfold optN;split
   ·rfl
   ·simp [r_ (t:=0) bJ r3]
  ·unfold optN;split
   ·rfl
   ·simp [r_ (t:=1) bJ r4]
 have hseq:isSeqB n 5 7=true:=by
  have l0:(optN 0 s.signed).length≤1:=by unfold optN;split<;>simp
  have l1:(optN 1 s.unsigned).length≤1:=by unfold optN;split<;>simp
  rw [← hn]
  simp only [isSeqB,nd1,nd2,nd3,nd5,sgK,aA,aX,Bool.and_eq_true,aj]
  refine⟨⟨⟨⟨by first|trivial|rfl,by first|trivial|rfl⟩,by first|trivial|rfl⟩,by omega⟩,by omega⟩
 have fin:∀ (e5:(sgS n).signed=s.signed) (e6:(sgS n).sig=s.sig) (e7:(sgS n).unsigned=s.unsigned) (q1:(decide (2≤((sgU n).length:Int))&&decide (((sgU n).length:Int)≤3)&&decide (algOf (lk (sgU n) 0)=s.hash)&&decide ((lk (sgU n) 1).cls=0)&&decide ((lk (sgU n) 1).tag=4))=true)
  (q2:(!sgHas n||((fldsP (lk (sgT n) 0).kids).2&&decide (0<((fldsP (lk (sgT n) 0).kids).1.length:Int))))=true) (q3:(!decide (((sgU n).length:Int)=3)||((fldsP (lk (sgU n) 2).kids).2&&isCtxB (lk (sgU n) 2) 1 true&&decide (0<((fldsP (lk (sgU n) 2).kids).1.length:Int))))=true),sgOk n=true:=by
  intro e5 e6 e7 q1 q2 q3
  have e:sgS n=s:=sg_ext (by show isuOf (kd n 1)=_;rw [k1,w3,← f1]) (by show serOf (kd n 1)=_;rw [k1,w4,← f2]) (by show skiOf (kd n 1)=_;rw [k1,w5,← f3]) (by show digOf (kd n 2)=_;rw [k2,l8 hh]) e5 e6 e7
  have q1':=q1
  simp only [Bool.and_eq_true] at q1'
  obtain⟨⟨⟨⟨a1,a2⟩,a3⟩,a4⟩,a5⟩:=q1'
  unfold sgOk
  rw [e,h3,hput,hseq,k0,k1,k2,w2,l8 hh,a1,a2,a3,a4,a5,q2,q3];rfl
 have nz:∀ {l:List Fe},l≠[]→0<(l.length:Int):=fun h=>by
  have:=List.length_pos_iff.2 h;omega
 by_cases u1:s.signed=[]
 ·rw [u1,cB,List.nil_append] at kT
  have hz:sgHas n=false:=by unfold sgHas;rw [kT];exact algN_ctx hh
  have kU:sgU n=algN s.hash::octN s.sig::optN 1 s.unsigned:=by unfold sgU;rw [hz,if_neg (by simp),kT]
  have eS:(sgS n).signed=s.signed:=by rw [u1];unfold sgS;rw [hz];rfl
  have eG:(sgS n).sig=s.sig:=by unfold sgS;rw [kU];rfl
  by_cases u2:s.unsigned=[]
  ·rw [u2,cB] at kU
   refine fin eS eG (by rw [u2];unfold sgS;rw [kU];rfl) ?_ (by rw [hz];rfl) (by rw [kU];rfl)
   rw [kU];simp [lk,gk hh,octN,nd1,nd2]
  ·rw [cH u2] at kU
   have k3:kd n 3=algN s.hash:=by rw [← hn];unfold sgK;rw [u1];rfl
   have hHR:sgHR n=false:=by unfold sgHR;rw [k3,rx hh];rfl
   have hI:sgI n=3:=by unfold sgI;rw [hHR];rfl
   have k5:kd n 5=ctxF 1 s.unsigned:=by rw [← hn];unfold sgK;rw [u1,cH u2];rfl
   rw [hI,k5] at h2 f7
   have hp:=flR_P h2 (by rw [← f7];exact r4)
   rw [← f7] at hp
   refine fin eS eG (by unfold sgS;rw [kU];show(fldsP (ctxF 1 s.unsigned).kids).1=_;rw [hp]) ?_ (by rw [hz];rfl) ?_
   ·rw [kU];simp [lk,gk hh,octN,nd1,nd2]
   ·rw [kU]
    show(!true||((fldsP (ctxF 1 s.unsigned).kids).2&&isCtxB (ctxF 1 s.unsigned) 1 true&&decide (0<((fldsP (ctxF 1 s.unsigned).kids).1.length:Int))))=true
    rw [hp,an (nz u2)];rfl
 ·rw [cH u1] at kT
  have hz:sgHas n=true:=by unfold sgHas;rw [kT];rfl
  have kU:sgU n=algN s.hash::octN s.sig::optN 1 s.unsigned:=by unfold sgU;rw [hz,if_pos rfl,kT];rfl
  have k3:kd n 3=ctxF 0 s.signed:=by rw [← hn];unfold sgK;rw [cH u1];rfl
  have hHR:sgHR n=true:=by unfold sgHR;rw [k3];rfl
  have hI:sgI n=4:=by unfold sgI;rw [hHR];rfl
  rw [hHR,k3] at h1
  rw [hHR,if_pos rfl,k3] at f5
  have hp:=flR_P (ks:=(ctxF 0 s.signed).kids) (by simpa using h1) (by rw [← f5];exact r3)
  rw [← f5] at hp
  have eS:(sgS n).signed=s.signed:=by unfold sgS;rw [hz,if_pos rfl,kT];show(fldsP (ctxF 0 s.signed).kids).1=_;rw [hp]
  have eG:(sgS n).sig=s.sig:=by unfold sgS;rw [kU];rfl
  have q2:(!sgHas n||((fldsP (lk (sgT n) 0).kids).2&&decide (0<((fldsP (lk (sgT n) 0).kids).1.length:Int))))=true:=by
   rw [hz,kT]
   show(!true||((fldsP (ctxF 0 s.signed).kids).2&&decide (0<((fldsP (ctxF 0 s.signed).kids).1.length:Int))))=true
   rw [hp,an (nz u1)];rfl
  by_cases u2:s.unsigned=[]
  ·rw [u2,cB] at kU
   refine fin eS eG (by rw [u2];unfold sgS;rw [kU];rfl) ?_ q2 (by rw [kU];rfl)
   rw [kU];simp [lk,gk hh,octN,nd1,nd2]
  ·rw [cH u2] at kU
   have k6:kd n 6=ctxF 1 s.unsigned:=by rw [← hn];unfold sgK;rw [cH u1,cH u2];rfl
   rw [hI,k6] at h2 f7
   have hp2:=flR_P h2 (by rw [← f7];exact r4)
   rw [← f7] at hp2
   refine fin eS eG (by unfold sgS;rw [kU];show(fldsP (ctxF 1 s.unsigned).kids).1=_;rw [hp2]) ?_ q2 ?_
   ·rw [kU];simp [lk,gk hh,octN,nd1,nd2]
   ·rw [kU]
    show(!true||((fldsP (ctxF 1 s.unsigned).kids).2&&isCtxB (ctxF 1 s.unsigned) 1 true&&decide (0<((fldsP (ctxF 1 s.unsigned).kids).1.length:Int))))=true
    rw [hp2,an (nz u2)];rfl
theorem sg_same (n:Nd):sgOf n=sgOfR n:=by
 unfold sgOf sgOfR
 by_cases h:sgOk n=true
 ·obtain⟨h1,h2⟩:=sg_there h
  rw [if_pos h,if_pos h1,h2]
 ·rw [if_neg h,if_neg (fun hh=>h (sg_back hh))]
end
section
set_option maxRecDepth 100000
set_option maxHeartbeats 4000000
theorem ow {h:Part}{cs:List Value}{x:UInt32}:u32R h cs x↔DenL (u32E x) h cs:=by
 constructor
 ·rintro rfl;exact⟨_,_,rfl,rfl,rfl,rfl⟩
 ·rintro⟨_,_,rfl,_,e1,e2⟩
  unfold Den at e1
  unfold DenL at e2
  subst e1 e2;rfl
theorem iZ {h:Part}{x:Value}{l:List UInt32}:Den (.ws l) h x↔∃ a c,x=.slice a l.length c∧SlR u32R 1 h a c l:=by
 rw [fD]
 constructor
 ·rintro⟨a,c,e,r⟩;exact⟨a,c,e,r.imp rfl (aO h) (fun i p q cs h1 h2 h3=>by rw [h1] at h2;cases h2;exact ow.2 h3)⟩
 ·rintro⟨a,c,e,r⟩;exact⟨a,c,e,r.imp rfl (aO h) (fun i p q cs h1 h2 h3=>by rw [h1] at h2;cases h2;exact ow.1 h3)⟩
abbrev nbitsI (l:List UInt32):Int:=(nbits (d32 l) l.length:Nat)
theorem ne (l:List UInt32):FnD Tryz.prog 77 [.ws l] (.i (nbitsI l)):=.mk fun h vs hT hd=>by
 obtain⟨v,rfl,h1⟩:=gJ hd
 obtain⟨a,c,rfl,hR⟩:=iZ.1 h1
 exact(gc hR).d (ba (h:=h))
instance:Cn Tryz.prog 77 (type_of% @ne):=⟨@ne⟩
theorem oL (l:List UInt32) (hl:l.length≤1000000):FnD Tryz.prog 90 [.ws l] (.i (nbitsI l)):=.mk fun h vs hT hd=>by
 obtain⟨v,rfl,h1⟩:=gJ hd
 obtain⟨a,c,rfl,hR⟩:=iZ.1 h1
 exact(jb hR hl).mono fun v h' _ e=>⟨_,rfl,by rw [e];exact ba (h:=h')⟩
instance:Cn Tryz.prog 90 (type_of% @oL):=⟨@oL⟩
theorem mn (l:List UInt32) (hl:l.length≤4096):FnD Tryz.prog 25 [.ws l] (.nd (natN l)):=.mk fun h vs hT hd=>by
 obtain⟨v,rfl,h1⟩:=gJ hd
 obtain⟨a,c,rfl,hR⟩:=iZ.1 h1
 exact(dernat_fn hR hl).mono fun v h' _ ⟨cs,e,r⟩=>⟨_,rfl,by rw [e];exact(dk (h:=h')).2 ⟨cs,rfl,r⟩⟩
instance:Cn Tryz.prog 25 (type_of% @mn):=⟨@mn⟩
theorem rnat_d (l:List UInt32) (hl:l.length≤4096):FnD Tryz.prog 36 [.ws l] (.nd (natN l)):=.mk fun h vs hT hd=>by
 obtain⟨v,rfl,h1⟩:=gJ hd
 obtain⟨a,c,rfl,hR⟩:=iZ.1 h1
 exact(rnat_fn hR hl).mono fun v h' _ ⟨cs,e,r⟩=>⟨_,rfl,by rw [e];exact(dk (h:=h')).2 ⟨cs,rfl,r⟩⟩
instance:Cn Tryz.prog 36 (type_of% @rnat_d):=⟨@rnat_d⟩
theorem qk (n:Int) (h0:-9223372036854775808≤n) (h1:n≤9223372036854775807):FnD Tryz.prog 34 [.i n] (.nd (.mk 0 2 false (intB n) [])):=.mk fun h vs hT hd=>by
 obtain⟨v,rfl,h2⟩:=gJ hd
 rw [d9.1 h2]
 exact(rint_fn h0 h1).mono fun v h' _ ⟨cs,e,r⟩=>⟨_,rfl,by rw [e];exact(dk (h:=h')).2 ⟨cs,rfl,r⟩⟩
instance:Cn Tryz.prog 34 (type_of% @qk):=⟨@qk⟩
instance:Cn Tryz.prog 99 (type_of% @mc):=⟨@mc⟩
theorem p8 (x:Nd) (hz:x.sz≤1073741824):FnD Tryz.prog 101 [.nd x] (.tup [.ws x.natL,.b x.natOk]):=.mk fun h vs hT hd=>by
 obtain⟨v,rfl,h1⟩:=gJ hd
 obtain⟨cs,rfl,hR⟩:=dk.1 h1
 exact(natof_fn hR hT hz).mono fun v h' _ ⟨a,c,e,r⟩=>⟨_,rfl,by rw [e];exact fS (iZ.2 ⟨_,_,rfl,r⟩) ((dg (h:=h')).2 rfl)⟩
instance:Cn Tryz.prog 101 (type_of% @p8):=⟨@p8⟩
theorem qg (x:Nd) (hz:x.sz≤3000000):FnD Tryz.prog 52 [.nd x] (.tup [.ws x.natL,.b x.natOk]):=.mk fun h vs hT hd=>by
 obtain⟨v,rfl,h1⟩:=gJ hd
 obtain⟨cs,rfl,hR⟩:=dk.1 h1
 exact(rnatof_fn hR hz).mono fun v h' _ ⟨a,c,e,r⟩=>⟨_,rfl,by rw [e];exact fS (iZ.2 ⟨_,_,rfl,r⟩) ((dg (h:=h')).2 rfl)⟩
instance:Cn Tryz.prog 52 (type_of% @qg):=⟨@qg⟩
theorem rcmp_d (a b:List UInt32) (ha:a.length≤1000000) (hb:b.length≤1000000):FnD Tryz.prog 57 [.ws a,.ws b] (.i (cmpI3 (vL a) (vL b))):=.mk fun h vs hT hd=>by
 obtain⟨v,w,rfl,h1,h2⟩:=den2 hd
 obtain⟨_,_,rfl,hR⟩:=iZ.1 h1
 obtain⟨_,_,rfl,hR'⟩:=iZ.1 h2
 exact(rcmp_fn hR hR' ha hb).mono fun v h' _ e=>⟨_,rfl,by rw [e];exact ba (h:=h')⟩
end
section
set_option maxRecDepth 100000
set_option maxHeartbeats 4000000
def isS (P:Program) (t:Nat):Bool:=match P.underlying t with|some .string=>true|_=>false
def eq3T (P:Program) (T:Nat):Bool:=match P.underlying T with
 |some (.struct fs)=>match fs.toList with
  | [f, g, k] => f.name != "_" && (g.name != "_" && (k.name != "_" && (Nat.beq f.offset 0 && (Nat.beq g.offset 1 && (Nat.beq k.offset 2 && (isS P f.type && (isI P g.type && (isS P k.type && (!P.stoodInHeld T && !P.eqGuardType P.depth T)))))))))
  |_=>false
 |_=>false
theorem gS {P:Program}{t:Nat}(h:isS P t=true) (cs:Array Value) (o:Nat) (v:Value) (hv:cs[o]?=some v) (w:World):(part t cs o).run P w=.ok v w:=by
 unfold isS at h
 split at h
 ·rename_i hk
  simp [part,isAgg,run_underlying hk,hv]
 ·cases h
theorem run_eqS {P:Program}{t:Nat}(h:isS P t=true) (d:Nat) (a b:ByteArray) (w:World):(Op.equalIn (d+1) t (.string a) (.string b)).run P w=.ok (a.toList == b.toList) w:=by
 unfold isS at h
 split at h
 ·rename_i hk;exact run_equalIn_string w d t a b hk
 ·cases h
theorem run_eql3 {P:Program}{T:TypeId}{k:IntKind}{s t:ByteArray}{p:Int}(hT:eq3T P T=true) (w:World):(Op.equalIn 10000 T (.agg #[.string s,.int k p,.string t]) (.agg #[.string s,.int k p,.string t])).run P w=.ok true w∧P.eqGuardType P.depth T=false:=by
 unfold eq3T at hT
 split at hT<;>try cases hT
 rename_i fs hu
 split at hT<;>try cases hT
 rename_i fa ga ka hfs
 simp only [Bool.and_eq_true,Bool.not_eq_eq_eq_not,Bool.not_true,bne_iff_ne,ne_eq] at hT
 obtain⟨n1,n2,n3,o1,o2,o3,i1,i2,i3,hs,hg⟩:=hT
 have o1:=ah o1
 have o2:=ah o2
 have o3:=ah o3
 have hfo:P.fieldsOf T=fs:=by unfold Program.fieldsOf;rw [hu]
 refine⟨?_,hg⟩
 have e1:=run_eqS i1 9998 s s w
 have e2:=run_eqI i2 9998 k p p w
 have e3:=run_eqS i3 9998 t t w
 simp only [beq_self_eq_true] at e1 e2 e3
 rw [run_equalIn_struct w 9999 T _ _ (by rw [hfo];exact hu) hs,hfo,hfs]
 simp only [Op.eqFields,n1,n2,n3,ne_eq,not_false_eq_true,if_true,o1,o2,o3,Sem.run_bind]
 rw [gS i1 _ 0 (.string s) rfl]
 simp only [Result.andThen]
 rw [gS i1 _ 0 (.string s) rfl]
 simp only [Result.andThen]
 rw [e1]
 simp only [Result.andThen,Bool.not_true,bO,if_false,Sem.run_bind]
 rw [mN i2 _ 1 (.int k p) rfl]
 simp only [Result.andThen]
 rw [mN i2 _ 1 (.int k p) rfl]
 simp only [Result.andThen]
 rw [e2]
 simp only [Result.andThen,Bool.not_true,bO,if_false,Sem.run_bind]
 rw [gS i3 _ 2 (.string t) rfl]
 simp only [Result.andThen]
 rw [gS i3 _ 2 (.string t) rfl]
 simp only [Result.andThen]
 rw [e3]
 simp
theorem RunV.neq3 {f:Fr}{S:Sig}{h:Part}{L:List Ent}{ty T yt:TypeId}{xo yo:Operand}{k:IntKind}{s t:ByteArray}{p:Int}(hT:eq3T f.P T=true) (hx:ev S xo=some (.agg #[.string s,.int k p,.string t])) (hy:ev S yo=some (.agg #[.string s,.int k p,.string t])) :
 RunV f S h L (.binOp .neq T xo yo yt) ty (.bool false):=cv hx hy fun w=>by
 obtain⟨hkey,hg⟩:=run_eql3 (k:=k) (p:=p) (s:=s) (t:=t) hT w
 have hgd:=run_eqGuard_agg (P:=f.P) w .neq T xo yo #[.string s,.int k p,.string t] #[.string s,.int k p,.string t] hg
 simp only [Sem.run_bind,hgd,Result.andThen,run_neq_struct,hkey,Bool.not_true]
theorem den_at {h:Part}{a:At}{v:Value}(k0:Den (.st (At.enc a)) h v):v=.agg #[.string ⟨a.oid.toArray⟩,.int .i64 a.kind,.string ⟨a.text.toArray⟩]:=by
 obtain⟨cs,rfl,k⟩:=df.1 k0
 clear k0
 unfold At.enc at k
 unfold DenL at k;obtain⟨v1,t1,rfl,_,d1,k⟩:=k
 unfold DenL at k;obtain⟨v2,t2,rfl,_,d2,k⟩:=k
 unfold DenL at k;obtain⟨v3,t3,rfl,_,d3,k⟩:=k
 unfold DenL at k;subst k
 rw [d9.1 d1,d9.1 d2,d9.1 d3]
section
variable {P:Program} [Tb P] {F:Fd}{a:List (Nat×A)}{o:List (Nat×OE)}{ops:Array Oper}{d T:Nat}{ty yt:TypeId}{pos:String}{af:Array Edge}{g:Option (Nat×Bool)}{xo yo:Operand}{z:At}
theorem St1.neqA (hT:eq3T P T=true) (hx:evA a xo=some (.d (.st (At.enc z)))) (hy:evA a yo=some (.d (.st (At.enc z)))) (hg:gdB ops a g=some true) (hd:Nat.blt d F.m=true) :
 St1 P F ops a o ⟨some d,.binOp .neq T xo yo yt,ty,pos,af,g⟩ d (.d (.bq false)):=.run hg hd fun ρ h S L cz=>by
 obtain⟨v,h1,h2⟩:=cd cz hx
 obtain⟨w,h3,h4⟩:=cd cz hy
 rw [den_at h2] at h1
 rw [den_at h4] at h3
 exact⟨_,RunV.neq3 hT h1 h3,(dg (h:=h)).2 rfl⟩
end
theorem gq (l:List At) (hl:l.length≤1000000000000):FnD Tryz.prog 56 [.sl 3 At.enc l,.sl 3 At.enc l] (.b true):=by
 refine aB Tryz.func56 rfl Tryz.ntmps56 rfl (fun e=>?_)
 refine W ?_
 refine Ci rfl (fun h=>absurd rfl h) (fun h=>?_)
 refine W ?_
 refine Lp (γ:=Nat) (fun g=>g≤l.length) (fun g=>l.length+1-g) (fun g=>[(0,.d (.sl 3 At.enc l)),(1,.d (.sl 3 At.enc l)),(5,.d (.i (g:Int)))]) (fun _=>[]) 0 z2_ ⟨rfl,rfl,rfl,trivial⟩ trivial ?_
 intro g hg
 refine W ?_
 refine Ci rfl (fun h2=>?_) (fun h2=>?_)
 ·refine W ?_
  refine cF rfl (St1.neqA (z:=l.getD g default) cY rfl rfl rfl rfl) ?_
  refine W ?_
  exact⟨g+1,by omega,by omega,⟨rfl,rfl,rfl,trivial⟩,trivial⟩
 ·refine W ?_
  exact Rt rfl rfl rfl
instance:Cn Tryz.prog 56 (type_of% @gq):=⟨@gq⟩
end
section
set_option maxRecDepth 100000
set_option maxHeartbeats 4000000
def nsM (m:Int):List At→Int→Int
 |[],n=>n
 |a::r,n=>if n≤m then nsM m r (n+1+a.oid.length+a.text.length) else n
theorem nsM_stop (m n:Int) (h:m<n):∀ l,nsM m l n=n
 |[]=>rfl
 |_::_=>if_neg z2_
def AtB (a:At):Prop:=a.oid.length≤140737488355328∧a.text.length≤140737488355328
theorem iD (l:List At) (m:Int) (h0:0≤m) (h1:m≤1000000000000) (hl:l.length≤140737488355328) (hB:∀ a∈l,AtB a):FnD Tryz.prog 60 [.sl 3 At.enc l,.i m] (.i (nsM m l 0)):=by
 refine aB Tryz.func60 rfl Tryz.ntmps60 rfl (fun e=>?_)
 refine W ?_
 refine Lp (γ:=Nat×Int) (fun g=>g.1≤l.length∧0≤g.2∧g.2≤m+1+281474976710656∧nsM m l 0=nsM m (l.drop g.1) g.2) (fun g=>l.length+1-g.1) (fun g=>[(0,.d (.sl 3 At.enc l)),(1,.d (.i m)),(5,.d (.i g.2)),(6,.d (.i (g.1:Int)))]) (fun _=>[]) (0,0) ⟨by simp,by simp,by simp only;omega,rfl⟩ ⟨rfl,rfl,rfl,rfl,trivial⟩ trivial ?_
 rintro⟨g,n⟩ ⟨i0,i1,i2,i3⟩
 dsimp only at i0 i1 i2 i3
 show JD _ _ _ _ _ [(0,.d (.sl 3 At.enc l)),(1,.d (.i m)),(5,.d (.i n)),(6,.d (.i (g:Int)))] []
 have fin:m<n∨g=l.length→resD [.i n]=.i (nsM m l 0):=fun h=>by
  rw [i3]
  rcases h with h|h
  ·rw [nsM_stop m n h];rfl
  ·rw [h,List.drop_length];rfl
 refine W ?_
 refine Bg rfl rfl (fun h=>?_) (fun h=>?_)
 ·have hlt:g<l.length:=by omega
  obtain⟨b1,b2⟩:=hB _ (aL hlt)
  rw [← ce (z:=default) hlt] at b1 b2
  have hdr:l.drop g=l.getD g default::l.drop (g+1):=by rw [aT hlt,ce hlt]
  refine W ?_
  refine Ci rfl (fun h2=>?_) (fun h2=>?_)
  ·rw [hdr] at i3
   simp only [nsM,if_pos h2] at i3
   refine W ?_
   exact⟨(g+1,n+1+(l.getD g default).oid.length+(l.getD g default).text.length),by simp only;omega,⟨by simp only;omega,by simp only;omega,by simp only;omega,i3⟩,⟨rfl,rfl,rfl,rfl,trivial⟩,trivial⟩
  ·refine W ?_
   exact Rt rfl rfl (fin (.inl z2_))
 ·refine W ?_
  exact Rt rfl rfl (fin (.inr z2_))
instance:Cn Tryz.prog 60 (type_of% @iD):=⟨@iD⟩
theorem nsM_bd (m:Int):∀ (l:List At) (n:Int),(∀ a∈l,AtB a)→0≤n→n≤m+1+281474976710656→0≤nsM m l n∧nsM m l n≤m+1+281474976710656
 |[],n,_,h0,h1=>⟨h0,h1⟩
 |a::r,n,hB,h0,h1=>by
  obtain⟨b1,b2⟩:=hB a (aF ..)
  simp only [nsM]
  split
  ·exact nsM_bd m r _ (fun z hz=>hB z (aI _ hz)) z2_ z2_
  ·exact⟨h0,h1⟩
theorem fvM_bd (m:Int):∀ (l:List Txt) (n:Int),(∀ v∈l,v.length≤140737488355328)→0≤n→n≤m+1+140737488355328→0≤fvM m l n∧fvM m l n≤m+1+140737488355328
 |[],n,_,h0,h1=>⟨h0,h1⟩
 |a::r,n,hB,h0,h1=>by
  have b1:=hB a (aF ..)
  simp only [fvM]
  split
  ·exact fvM_bd m r _ (fun z hz=>hB z (aI _ hz)) z2_ z2_
  ·exact⟨h0,h1⟩
theorem nr (m:Int):∀ (l:List Fe) (n:Int),(∀ f∈l,FeB f)→0≤n→n≤m+1+140737488355328→0≤fsM m l n∧fsM m l n≤m+1+140737488355328
 |[],n,_,h0,h1=>⟨h0,h1⟩
 |a::r,n,hB,h0,h1=>by
  obtain⟨b1,_,b3⟩:=hB a (aF ..)
  simp only [fsM]
  split
  ·obtain⟨q1,q2⟩:=fvM_bd m a.vals (n+1+a.oid.length) b3 z2_ z2_
   exact nr m r _ (fun z hz=>hB z (aI _ hz)) q1 q2
  ·exact⟨h0,h1⟩
structure SgBd (s:Sg):Prop where
 isu:s.issuer.length≤140737488355328
 isuB:∀ a∈s.issuer,AtB a
 ser:s.serial.length≤140737488355328
 ski:s.ski.length≤140737488355328
 sgd:s.signed.length≤140737488355328
 sgdB:∀ f∈s.signed,FeB f
 sig:s.sig.length≤140737488355328
 uns:s.unsigned.length≤140737488355328
 unsB:∀ f∈s.unsigned,FeB f
def szS (m:Int) (s:Sg):Int:=0+1+s.ski.length+s.sig.length+4*s.serial.length+nsM m s.issuer 0+fsM m s.signed 0+fsM m s.unsigned 0
abbrev dS (s:Sg):List D:=[.s [],.b false,.bs [],.sl 11 Crt.enc [],.sl 6 Cl.enc [],.sl 7 Sg.enc [s]]
theorem q_ (m:Int):FnD Tryz.prog 59 [.sl 11 Crt.enc [],.sl 6 Cl.enc [],.i m] (.i 0):=by
 refine aB Tryz.func59 rfl Tryz.ntmps59 rfl (fun e=>?_)
 refine W ?_
 refine Lp (γ:=Unit) (fun _=>True) (fun _=>0) (fun _=>[(0,.d (.sl 11 Crt.enc [])),(1,.d (.sl 6 Cl.enc [])),(2,.d (.i m)),(7,.d (.i 0)),(8,.d (.i 0))]) (fun _=>[]) () trivial ⟨rfl,rfl,rfl,rfl,rfl,trivial⟩ trivial ?_
 rintro _ _
 refine W ?_
 refine Lp (γ:=Unit) (fun _=>True) (fun _=>0) (fun _=>[(1,.d (.sl 6 Cl.enc [])),(2,.d (.i m)),(7,.d (.i 0)),(9,.d (.i 0))]) (fun _=>[]) () trivial ⟨rfl,rfl,rfl,rfl,trivial⟩ trivial ?_
 rintro _ _
 refine W ?_
 exact Rt rfl rfl rfl
instance:Cn Tryz.prog 59 (type_of% @q_):=⟨@q_⟩
theorem mf:FnD Tryz.prog 14 [.sl 11 Crt.enc []] (.b false):=by
 refine aB Tryz.func14 rfl Tryz.ntmps14 rfl (fun e=>?_)
 refine W ?_
 refine Lp (γ:=Unit) (fun _=>True) (fun _=>0) (fun _=>[(0,.d (.sl 11 Crt.enc [])),(3,.d (.i 0))]) (fun _=>[]) () trivial ⟨rfl,rfl,trivial⟩ trivial ?_
 rintro _ _
 refine W ?_
 exact Rt rfl rfl rfl
instance:Cn Tryz.prog 14 (type_of% @mf):=⟨@mf⟩
theorem size_d (s:Sg) (m:Int) (h0:0≤m) (h1:m≤1000000000) (hB:SgBd s):FnD Tryz.prog 13 [.st (dS s),.i m] (.i (szS m s)):=by
 obtain⟨b1,b2,b3,b4,b5,b6,b7,b8,b9⟩:=hB
 have c1:=iD s.issuer m h0 z2_ b1 b2
 have c2:=eY s.signed m h0 z2_ b5 b6
 have c3:=eY s.unsigned m h0 z2_ b8 b9
 obtain⟨p1,p2⟩:=nsM_bd m s.issuer 0 b2 z2_ z2_
 obtain⟨p3,p4⟩:=nr m s.signed 0 b6 z2_ z2_
 obtain⟨p5,p6⟩:=nr m s.unsigned 0 b9 z2_ z2_
 have d4:(List.length ([s].getD 0 default).ski)≤140737488355328:=b4
 have d7:(List.length ([s].getD 0 default).sig)≤140737488355328:=b7
 have d3:([s].getD 0 default).serial.length≤140737488355328:=b3
 have e0:((([]:List UInt8).length:Nat):Int)=0:=rfl
 unfold szS
 refine aB Tryz.func13 rfl Tryz.ntmps13 rfl (fun e=>?_)
 refine W ?_
 refine Ci rfl (fun h=>absurd h (by show ¬ m<0+0;omega)) (fun _=>?_)
 refine W ?_
 refine Lp (γ:=Bool) (fun _=>True) (fun g=>if g then 1 else 2) (fun g=>[(1,.d (.i m)),(2,.own 0 0),(5,.d (.i (if g then 0+1+s.ski.length+s.sig.length+4*s.serial.length+nsM m s.issuer 0+fsM m s.signed 0+fsM m s.unsigned 0 else 0))),(6,.d (.i (if g then 1 else 0)))]) (fun _=>[(0,.whl 37 (.st (dS s)))]) false trivial ⟨rfl,rfl,rfl,rfl,trivial⟩ ⟨rfl,trivial⟩ ?_
 rintro(_|_) _
 ·show JD _ _ _ _ _ [(1,.d (.i m)),(2,.own 0 0),(5,.d (.i 0)),(6,.d (.i 0))] [(0,.whl 37 (.st (dS s)))]
  refine W ?_
  refine Ci rfl (fun _=>?_) (fun h=>absurd h0 h)
  refine W ?_
  refine cF rfl (St1.mul rfl rfl z2_ rfl rfl) ?_
  refine W ?_
  exact⟨true,by decide,trivial,⟨rfl,rfl,rfl,rfl,trivial⟩,⟨rfl,trivial⟩⟩
 ·show JD _ _ _ _ _ [(1,.d (.i m)),(2,.own 0 0),(5,.d (.i (0+1+s.ski.length+s.sig.length+4*s.serial.length+nsM m s.issuer 0+fsM m s.signed 0+fsM m s.unsigned 0))),(6,.d (.i 1))] [(0,.whl 37 (.st (dS s)))]
  refine W ?_
  exact Rt rfl rfl rfl
instance:Cn Tryz.prog 13 (type_of% @size_d):=⟨@size_d⟩
theorem pg (s:Sg) (hB:SgBd s):FnD Tryz.prog 4 [.st (dS s)] (.b (decide (12000<szS 12000 s))):=by
 have c1:=size_d s 12000 bJ bJ hB
 have c9:=mf
 refine aB Tryz.func4 rfl Tryz.ntmps4 rfl (fun e=>?_)
 refine W ?_
 refine Bg rfl rfl (fun h=>?_) (fun h=>?_)
 ·refine W ?_
  refine Rt rfl rfl ?_
  rw [an h];rfl
 ·refine W ?_
  refine Rt rfl rfl ?_
  rw [am h];rfl
instance:Cn Tryz.prog 4 (type_of% @pg):=⟨@pg⟩
structure SgS (s:Sg):Prop where
 isu:s.issuer.length≤12000
 isuB:∀ a∈s.issuer,a.oid.length≤12000∧a.text.length≤12000
 ser:s.serial.length≤3000
 ski:s.ski.length≤12000
 sgd:fW s.signed≤12000
 sig:s.sig.length≤12000
 uns:fW s.unsigned≤12000
theorem nsM_sum (m:Int):∀ (l:List At) (n:Int),0≤n→nsM m l n≤m→n+l.length≤nsM m l n∧∀ a∈l,a.oid.length+a.text.length≤nsM m l n
 |[],n,h0,_=>⟨by simp [nsM],fun v hv=>by cases hv⟩
 |v::r,n,h0,h=>by
  simp only [nsM] at h ⊢
  split at h
  ·rename_i hn
   rw [if_pos hn]
   obtain⟨h1,h2⟩:=nsM_sum m r (n+1+v.oid.length+v.text.length) z2_ h
   refine⟨by simp only [aA];omega,fun w hw=>?_⟩
   cases hw with
   |head=>omega
   |tail _ hw=>exact h2 w hw
  ·omega
theorem sgs_of {s:Sg}(hB:SgBd s) (h:¬ 12000<szS 12000 s):SgS s:=by
 obtain⟨p1,p2⟩:=nsM_bd 12000 s.issuer 0 hB.isuB z2_ z2_
 obtain⟨p3,p4⟩:=nr 12000 s.signed 0 hB.sgdB z2_ z2_
 obtain⟨p5,p6⟩:=nr 12000 s.unsigned 0 hB.unsB z2_ z2_
 unfold szS at h
 obtain⟨q1,q2⟩:=nsM_sum 12000 s.issuer 0 z2_ z2_
 have e1:=fsM_eq 12000 s.signed 0 z2_
 have e2:=fsM_eq 12000 s.unsigned 0 z2_
 exact⟨by omega,fun a ha=>by have:=q2 a ha;omega,by omega,by omega,by omega,by omega,by omega⟩
theorem fes_of {l:List Fe}(h:fW l≤12000):l.length≤12000∧∀ f∈l,FeS f:=by
 have h2:=fW_le l
 refine⟨by omega,fun f hf=>?_⟩
 have h3:=h2.2 f hf
 have h4:=vW_le f.vals
 have h5:=fh f.oid
 exact⟨⟨by omega,by omega⟩,by omega,fun v hv=>by have:=h4.2 v hv;omega⟩
end
section
open Go Go.RowKit Go.ChangeShapes Go.WideShapes Go.Lib Go.ChangeAt
set_option maxRecDepth 100000
theorem Opens.any {α:Type}{P:Program}{t:TypeId}{R:Rep α}{sz:Nat}{μ:α→Nat}(ho:∀ n,Opens P (n+1) t R sz μ) (n:Nat):Opens P n t R sz μ:=by
 cases n with
 |zero=>intro H enc W cs x h;simp [DataW.trod] at h
 |succ n=>exact ho n
theorem oD {α:Type}{R:Rep α}{sz:Nat}{h:Part}{cs:List Value}{l:List α}(k:slR R sz h cs l):l.length≤140737488355328∧∀ x∈l,∃ cs,R h cs x:=by
 obtain⟨a,c,rfl,r⟩:=k
 refine⟨r.big,fun x hx=>?_⟩
 obtain⟨i,hi,e⟩:=List.getElem_of_mem hx
 obtain⟨_,_,_,_,cs,_,_,_,h3⟩:=r.elt i x (by rw [aP hi,e])
 exact⟨cs,h3⟩
theorem lg:Tryz.prog.cellsOf 3=1:=by kernel_rfl
theorem sj:Tryz.prog.cellsOf 24=1:=by kernel_rfl
theorem nT:Tryz.prog.cellsOf 25=1:=by kernel_rfl
theorem cells_ats:Tryz.prog.cellsOf 22=1:=by kernel_rfl
theorem nS:Tryz.prog.cellsOf 26=1:=by kernel_rfl
theorem lh:Tryz.prog.cellsOf 126=3:=by kernel_rfl
theorem nP:Tryz.prog.cellsOf 28=7:=by kernel_rfl
theorem so:0<Tryz.prog.bytesOf 126:=by rw [show Tryz.prog.bytesOf 126=40 by kernel_rfl];decide
abbrev atR':Rep At:=fun h cs a=>encR At.enc h cs a∧AtB a
theorem opens_at (n:Nat):Opens Tryz.prog n 126 atR' 3 (fun _=>0):=by
 intro H enc W cs x h hw
 cases n with
 |zero=>simp [DataW.trod] at h
 |succ n =>
  obtain⟨xs,m,hm,rfl,hl,hxl,hall⟩:=DataW.trod_struct Tryz.underlying126 h
  rw [lh] at hl
  match cs,hl with
  |[v0,v1,v2],_ =>
  match xs,hxl with
  |[x0,x1,x2],_ =>
  have h0:DataW.trod enc Tryz.prog W 0 (fun _=>true) true m 9 ((List.drop 0 [v0,v1,v2]).take (Tryz.prog.cellsOf 9))=some x0:=hall 0 _ rfl
  rw [fV] at h0
  change DataW.trod enc Tryz.prog W 0 (fun _=>true) true m 9 [v0]=some x0 at h0
  have h1:DataW.trod enc Tryz.prog W 0 (fun _=>true) true m 3 ((List.drop 1 [v0,v1,v2]).take (Tryz.prog.cellsOf 3))=some x1:=hall 1 _ rfl
  rw [lg] at h1
  change DataW.trod enc Tryz.prog W 0 (fun _=>true) true m 3 [v1]=some x1 at h1
  have h2:DataW.trod enc Tryz.prog W 0 (fun _=>true) true m 9 ((List.drop 2 [v0,v1,v2]).take (Tryz.prog.cellsOf 9))=some x2:=hall 2 _ rfl
  rw [fV] at h2
  change DataW.trod enc Tryz.prog W 0 (fun _=>true) true m 9 [v2]=some x2 at h2
  simp only [DataW.weights,Tryz.underlying126,List.map_cons,List.map_nil,DataW.weightsEach,List.all_append,Bool.and_eq_true,List.append_nil] at hw
  obtain⟨w0,w1,w2⟩:=hw
  obtain⟨s,_,⟨e0,hs⟩,_⟩:=jN Tryz.underlying9 enc W _ _ h0 w0
  obtain⟨k,_,⟨e1,_⟩,_⟩:=mZ Tryz.underlying3 enc W _ _ h1 w1
  obtain⟨t,_,⟨e2,ht⟩,_⟩:=jN Tryz.underlying9 enc W _ _ h2 w2
  cases e0
  cases e1
  cases e2
  exact⟨⟨s,k,t⟩,rfl,⟨.c rfl (ba (h:=_)) (.c rfl (ba (h:=_)) (.c rfl (ba (h:=_)) .n)),Nat.le_trans hs bJ,Nat.le_trans ht bJ⟩,Nat.zero_le _⟩
theorem opens_ats (n:Nat):Opens Tryz.prog (n+1) 22 (slR atR' 3) 1 (fun l=>(l.map fun _=>0).sum+1):=dQ Tryz.underlying22 lh bJ so (opens_at n)
theorem fes_in {h:Part}{cs:List Value}{l:List Fe}(k:slR (fun h cs f=>encR Fe.enc h cs f∧f.oid.length≤140737488355328∧f.vals.length≤140737488355328∧∀ v∈f.vals,v.length≤140737488355328) 2 h cs l):∃ v,cs=[v]∧v.oneCell'=true∧Den (.sl 2 Fe.enc l) h v∧l.length≤140737488355328∧∀ f∈l,FeB f:=by
 obtain⟨v,e,o,d⟩:=lB (enc:=Fe.enc) (fun r=>r.1) k
 obtain⟨b1,b2⟩:=oD k
 exact⟨v,e,o,d,b1,fun f hf=>by obtain⟨_,h2⟩:=b2 f hf;exact h2.2⟩
theorem by_in {h:Part}{cs:List Value}{l:Txt}(k:slR u8R 1 h cs l):∃ v,cs=[v]∧v.oneCell'=true∧Den (.bs l) h v∧l.length≤140737488355328:=by
 obtain⟨a,c,rfl,r⟩:=k
 exact⟨_,rfl,rfl,(cV (h:=h)).2 ⟨_,_,rfl,r⟩,r.big⟩
theorem opens_sg (n:Nat):Opens Tryz.prog n 28 (fun h cs s=>encR Sg.enc h cs s∧SgBd s) 7 (fun _=>0):=by
 intro H enc W cs x h hw
 cases n with
 |zero=>simp [DataW.trod] at h
 |succ n =>
  obtain⟨xs,m,hm,rfl,hl,hxl,hall⟩:=DataW.trod_struct Tryz.underlying28 h
  rw [nP] at hl
  match cs,hl with
  |[v0,v1,v2,v3,v4,v5,v6],_ =>
  match xs,hxl with
  |[x0,x1,x2,x3,x4,x5,x6],_ =>
  have h0:DataW.trod enc Tryz.prog W 0 (fun _=>true) true m 22 ((List.drop 0 [v0,v1,v2,v3,v4,v5,v6]).take (Tryz.prog.cellsOf 22))=some x0:=hall 0 _ rfl
  rw [cells_ats] at h0
  change DataW.trod enc Tryz.prog W 0 (fun _=>true) true m 22 [v0]=some x0 at h0
  have h1:DataW.trod enc Tryz.prog W 0 (fun _=>true) true m 24 ((List.drop 1 [v0,v1,v2,v3,v4,v5,v6]).take (Tryz.prog.cellsOf 24))=some x1:=hall 1 _ rfl
  rw [sj] at h1
  change DataW.trod enc Tryz.prog W 0 (fun _=>true) true m 24 [v1]=some x1 at h1
  have h2:DataW.trod enc Tryz.prog W 0 (fun _=>true) true m 25 ((List.drop 2 [v0,v1,v2,v3,v4,v5,v6]).take (Tryz.prog.cellsOf 25))=some x2:=hall 2 _ rfl
  rw [nT] at h2
  change DataW.trod enc Tryz.prog W 0 (fun _=>true) true m 25 [v2]=some x2 at h2
  have h3:DataW.trod enc Tryz.prog W 0 (fun _=>true) true m 3 ((List.drop 3 [v0,v1,v2,v3,v4,v5,v6]).take (Tryz.prog.cellsOf 3))=some x3:=hall 3 _ rfl
  rw [lg] at h3
  change DataW.trod enc Tryz.prog W 0 (fun _=>true) true m 3 [v3]=some x3 at h3
  have h4:DataW.trod enc Tryz.prog W 0 (fun _=>true) true m 26 ((List.drop 4 [v0,v1,v2,v3,v4,v5,v6]).take (Tryz.prog.cellsOf 26))=some x4:=hall 4 _ rfl
  rw [nS] at h4
  change DataW.trod enc Tryz.prog W 0 (fun _=>true) true m 26 [v4]=some x4 at h4
  have h5:DataW.trod enc Tryz.prog W 0 (fun _=>true) true m 25 ((List.drop 5 [v0,v1,v2,v3,v4,v5,v6]).take (Tryz.prog.cellsOf 25))=some x5:=hall 5 _ rfl
  rw [nT] at h5
  change DataW.trod enc Tryz.prog W 0 (fun _=>true) true m 25 [v5]=some x5 at h5
  have h6:DataW.trod enc Tryz.prog W 0 (fun _=>true) true m 26 ((List.drop 6 [v0,v1,v2,v3,v4,v5,v6]).take (Tryz.prog.cellsOf 26))=some x6:=hall 6 _ rfl
  rw [nS] at h6
  change DataW.trod enc Tryz.prog W 0 (fun _=>true) true m 26 [v6]=some x6 at h6
  simp only [DataW.weights,Tryz.underlying28,List.map_cons,List.map_nil,DataW.weightsEach,List.all_append,Bool.and_eq_true,List.append_nil] at hw
  obtain⟨w0,w1,w2,w3,w4,w5,w6⟩:=hw
  obtain⟨l0,_,q0,_⟩:=Opens.any opens_ats m enc W _ _ h0 w0
  obtain⟨l1,_,q1,_⟩:=Opens.any opens_nat m enc W _ _ h1 w1
  obtain⟨l2,_,q2,_⟩:=lQ m enc W _ _ h2 w2
  obtain⟨k,_,⟨e3,_⟩,_⟩:=mZ Tryz.underlying3 enc W _ _ h3 w3
  obtain⟨l4,_,q4,_⟩:=Opens.any n5 m enc W _ _ h4 w4
  obtain⟨l5,_,q5,_⟩:=lQ m enc W _ _ h5 w5
  obtain⟨l6,_,q6,_⟩:=Opens.any n5 m enc W _ _ h6 w6
  obtain⟨u0,e0,o0,d0⟩:=lB (enc:=At.enc) (fun r=>r.1) q0
  obtain⟨b0,b0'⟩:=oD q0
  obtain⟨u1,e1,o1,d1⟩:=lB (enc:=u32E) (fun r=>ow.1 r) q1
  obtain⟨b1,_⟩:=oD q1
  obtain⟨u2,e2,o2,d2,b2⟩:=by_in q2
  obtain⟨u4,e4,o4,d4,b4,b4'⟩:=fes_in q4
  obtain⟨u5,e5,o5,d5,b5⟩:=by_in q5
  obtain⟨u6,e6,o6,d6,b6,b6'⟩:=fes_in q6
  cases e0
  cases e1
  cases e2
  cases e3
  cases e4
  cases e5
  cases e6
  exact⟨⟨l0,l1,l2,k,l4,l5,l6⟩,rfl,⟨.c o0 d0 (.c o1 d1 (.c o2 d2 (.c rfl (ba (h:=_)) (.c o4 d4 (.c o5 d5 (.c o6 d6 .n)))))),⟨b0,fun a ha=>by obtain⟨_,h2⟩:=b0' a ha;exact h2.2,b1,b2,b4,b4',b5,b6,b6'⟩⟩,Nat.zero_le _⟩
section
variable {H:Type}{enc:TypeId×Value→H}{W:World}{base:Nat}{v:Value}{d:DataW H}{ps:List MemPlace}
theorem arg_signer (hval:Value.okWide Tryz.prog W .any base 28 v) (hd:DataW.Trod enc Tryz.prog W 0 (fun _=>true) true 28 v d ps) (hw:(d.weights Tryz.prog 28).all (·≤reachBytes)=true) :
 ∃ s:Sg,Den (.st s.enc) (partOf W) v∧SgBd s:=by
 simp only [Value.okWide,Tryz.underlying28] at hval
 obtain⟨cs,rfl,_,_⟩:=hval
 obtain⟨n,hn⟩:=hd
 obtain⟨f,_,r,_⟩:=opens_sg n enc W _ _ hn hw
 exact⟨f,(df (h:=_)).2 ⟨_,rfl,r.1⟩,r.2⟩
end
def plainTsG:List TypeId:=[9,5,3,4,180,24,25,57,126,22,59,26,28,29,31]
theorem plainTsG_ok:plainB Tryz.prog plainTsG=true:=by kernel_rfl
end
section
set_option maxRecDepth 100000
set_option maxHeartbeats 4000000
theorem shaof_d (s:Txt):FnD Tryz.prog 103 [.s s] (.i (shaOf s)):=by
 unfold shaOf
 refine aB Tryz.func103 rfl Tryz.ntmps103 rfl (fun e=>?_)
 refine W ?_
 refine bi (St1.bAr (zs:=List.replicate 3 (.int .i64 0)) cY rfl rfl rfl rfl rfl) ?_
 refine W ?_
 refine Lp (fun g:Nat=>g≤3∧(1≤g→¬ oidH 256=s)∧(2≤g→¬ oidH 384=s)∧(3≤g→¬ oidH 512=s)) (fun g=>4-g)
  (fun g=>[(0,.d (.s s)),(5,.d (.st [.i 256,.i 384,.i 512])),(6,.d (.i (g:Int)))]) (fun _=>[]) 0 ⟨by omega,by omega,by omega,by omega⟩ ⟨rfl,rfl,rfl,trivial⟩ trivial ?_
 rintro g ⟨h0,h1,h2,h3⟩
 obtain rfl|rfl|rfl|rfl:g=0∨g=1∨g=2∨g=3:=by omega
 ·refine W ?_
  refine bi (St1.ixAr (len:=3) 0 cY rfl rfl rfl rfl rfl rfl rfl) ?_
  refine W ?_
  refine Ci rfl (fun hq=>?_) (fun hq=>?_)
  ·have hq:oidH 256=s:=hq
   refine W ?_
   refine Rt rfl rfl ?_
   rw [if_pos hq];rfl
  ·have hq:¬ oidH 256=s:=hq
   refine W ?_
   exact⟨1,by omega,⟨by omega,fun _=>hq,by omega,by omega⟩,⟨rfl,rfl,rfl,trivial⟩,trivial⟩
 ·refine W ?_
  refine bi (St1.ixAr (len:=3) 1 cY rfl rfl rfl rfl rfl rfl rfl) ?_
  refine W ?_
  have h1:=h1 z2_
  refine Ci rfl (fun hq=>?_) (fun hq=>?_)
  ·have hq:oidH 384=s:=hq
   refine W ?_
   refine Rt rfl rfl ?_
   rw [if_neg h1];rw [if_pos hq];rfl
  ·have hq:¬ oidH 384=s:=hq
   refine W ?_
   exact⟨2,by omega,⟨by omega,fun _=>h1,fun _=>hq,by omega⟩,⟨rfl,rfl,rfl,trivial⟩,trivial⟩
 ·refine W ?_
  refine bi (St1.ixAr (len:=3) 2 cY rfl rfl rfl rfl rfl rfl rfl) ?_
  refine W ?_
  have h1:=h1 z2_
  have h2:=h2 z2_
  refine Ci rfl (fun hq=>?_) (fun hq=>?_)
  ·have hq:oidH 512=s:=hq
   refine W ?_
   refine Rt rfl rfl ?_
   rw [if_neg h1];rw [if_neg h2];rw [if_pos hq];rfl
  ·have hq:¬ oidH 512=s:=hq
   refine W ?_
   exact⟨3,by omega,⟨by omega,fun _=>h1,fun _=>h2,fun _=>hq⟩,⟨rfl,rfl,rfl,trivial⟩,trivial⟩
 ·have h1:=h1 z2_
  have h2:=h2 z2_
  have h3:=h3 z2_
  refine W ?_
  refine Rt rfl rfl ?_
  rw [if_neg h1,if_neg h2,if_neg h3];rfl
instance:Cn Tryz.prog 103 (type_of% @shaof_d):=⟨@shaof_d⟩
theorem qc (s:Txt):FnD Tryz.prog 53 [.s s] (.i (shaOf s)):=by
 unfold shaOf
 refine aB Tryz.func53 rfl Tryz.ntmps53 rfl (fun e=>?_)
 refine W ?_
 refine bi (St1.litI (e:=3) (bytes:=8) [256,384,512] cY rfl rfl rfl rfl rfl) ?_
 refine W ?_
 refine Lp (fun g:Nat=>g≤3∧(1≤g→¬ oidH 256=s)∧(2≤g→¬ oidH 384=s)∧(3≤g→¬ oidH 512=s)) (fun g=>4-g)
  (fun g=>[(0,.d (.s s)),(3,.d (.sl 1 i64E [256,384,512])),(4,.d (.i (g:Int)))]) (fun _=>[]) 0 ⟨by omega,by omega,by omega,by omega⟩ ⟨rfl,rfl,rfl,trivial⟩ trivial ?_
 rintro g ⟨h0,h1,h2,h3⟩
 obtain rfl|rfl|rfl|rfl:g=0∨g=1∨g=2∨g=3:=by omega
 ·refine W ?_
  refine bi (St1.ixT (e:=3) 0 cY rfl rfl rfl bJ rfl rfl) ?_
  refine W ?_
  refine Ci rfl (fun hq=>?_) (fun hq=>?_)
  ·have hq:oidH 256=s:=hq
   refine W ?_
   refine bi (St1.ixT (e:=3) 0 cY rfl rfl rfl bJ rfl rfl) ?_
   refine W ?_
   refine Rt rfl rfl ?_
   rw [if_pos hq];rfl
  ·have hq:¬ oidH 256=s:=hq
   refine W ?_
   exact⟨1,by omega,⟨by omega,fun _=>hq,by omega,by omega⟩,⟨rfl,rfl,rfl,trivial⟩,trivial⟩
 ·refine W ?_
  have h1:=h1 z2_
  refine bi (St1.ixT (e:=3) 1 cY rfl rfl rfl bJ rfl rfl) ?_
  refine W ?_
  refine Ci rfl (fun hq=>?_) (fun hq=>?_)
  ·have hq:oidH 384=s:=hq
   refine W ?_
   refine bi (St1.ixT (e:=3) 1 cY rfl rfl rfl bJ rfl rfl) ?_
   refine W ?_
   refine Rt rfl rfl ?_
   rw [if_neg h1];rw [if_pos hq];rfl
  ·have hq:¬ oidH 384=s:=hq
   refine W ?_
   exact⟨2,by omega,⟨by omega,fun _=>h1,fun _=>hq,by omega⟩,⟨rfl,rfl,rfl,trivial⟩,trivial⟩
 ·refine W ?_
  have h1:=h1 z2_
  have h2:=h2 z2_
  refine bi (St1.ixT (e:=3) 2 cY rfl rfl rfl bJ rfl rfl) ?_
  refine W ?_
  refine Ci rfl (fun hq=>?_) (fun hq=>?_)
  ·have hq:oidH 512=s:=hq
   refine W ?_
   refine bi (St1.ixT (e:=3) 2 cY rfl rfl rfl bJ rfl rfl) ?_
   refine W ?_
   refine Rt rfl rfl ?_
   rw [if_neg h1];rw [if_neg h2];rw [if_pos hq];rfl
  ·have hq:¬ oidH 512=s:=hq
   refine W ?_
   exact⟨3,by omega,⟨by omega,fun _=>h1,fun _=>h2,fun _=>hq⟩,⟨rfl,rfl,rfl,trivial⟩,trivial⟩
 ·have h1:=h1 z2_
  have h2:=h2 z2_
  have h3:=h3 z2_
  refine W ?_
  refine Rt rfl rfl ?_
  rw [if_neg h1,if_neg h2,if_neg h3];rfl
instance:Cn Tryz.prog 53 (type_of% @qc):=⟨@qc⟩
theorem l7 (n:Nd) (hz:n.sz≤1073741824):FnD Tryz.prog 46 [.nd n] (.i (digOf n)):=by
 have k0:=cO n 0
 unfold digOf kd
 exact aB Tryz.func46 rfl Tryz.ntmps46 rfl (fun e=>Z)
instance:Cn Tryz.prog 46 (type_of% @l7):=⟨@l7⟩
theorem ph {k:Nd}(hz:k.sz≤8000) (h:(fieldOf k).2=true):FeS (fieldOf k).1:=by
 unfold fieldOf at h ⊢
 split at h
 ·rename_i hk
  rw [if_pos hk]
  obtain⟨h1,h2,h3⟩:=gE hk
  rw [← h3]
  have q0:(kd k 0).sz≤k.sz:=cO k 0
  have q1:(kd k 1).sz≤k.sz:=cO k 1
  have ol:=jc (kd k 0).bytes
  have kb:=c_ (kd k 0)
  have on:(oiN (fR k).oid).sz≤200000:=by
   unfold fieldN at h2
   rw [if_pos h1] at h2
   have:(oiN (fR k).oid).sz≤k.sz:=by
    have hh:=congrArg (fun z=>kd z 0) h2
    have hh:kd k 0=oiN (fR k).oid:=hh.symm
    rw [← hh];exact q0
   omega
  refine⟨⟨?_,on⟩,?_,fun v hv=>?_⟩
  ·show((oidT (kd k 0).bytes).getD []).length≤_;omega
  ·show(((kd k 1).kids.take 10).map _).length≤_
   rw [aK];have:=List.length_take_le 10 (kd k 1).kids;omega
  ·obtain⟨x,hx,rfl⟩:=List.mem_map.1 hv
   have h4:=jJ x
   have h5:=dh (List.mem_of_mem_take hx)
   have h6:Nd.szL (kd k 1).kids≤(kd k 1).sz:=by cases (kd k 1);simp only [Nd.kids,Nd.sz];omega
   omega
 ·cases h
theorem nd_szL (n:Nd):Nd.szL n.kids≤n.sz:=by cases n;simp only [Nd.kids,Nd.sz];omega
theorem kY (ks:List Nd) (hz:Nd.szL ks≤8000):FnD Tryz.prog 48 [.nds ks] (.tup [.sl 2 Fe.enc (fldsP ks).1,.b (fldsP ks).2]):=by
 have hlz:=dD ks
 have bad:ks.all (fun k=>(fieldOf k).2)=false→fldsP ks=([],false):=fun hb=>by
  unfold fldsP;rw [hb];rfl
 refine aB Tryz.func48 rfl Tryz.ntmps48 rfl (fun e=>?_)
 refine W ?_
 refine Rn (kS 2 Fe.enc) 4 59 rfl rfl ?_
 refine Lp (γ:=Nat) (fun g=>g≤ks.length∧(ks.take g).all (fun k=>(fieldOf k).2)=true) (fun g=>ks.length+1-g)
  (fun g=>[(4,.row 0),(9,.d (.nds ks)),(10,.d (.i (ks.length:Int))),(11,.d (.i (g:Int)))])
  (fun g=>[(0,.row 59 (.sl 2 Fe.enc ((ks.take g).map fun k=>(fieldOf k).1)))]) 0 ⟨by omega,rfl⟩ ⟨rfl,rfl,rfl,rfl,trivial⟩ ⟨rfl,trivial⟩ ?_
 rintro g ⟨hg,hall⟩
 have hml:((ks.take g).map fun k=>(fieldOf k).1).length≤8000:=by rw [aK];have:=List.length_take_le' g ks;omega
 refine W ?_
 refine Ci rfl (fun h=>?_) (fun h=>?_)
 ·have hl:g<ks.length:=by omega
  have hget:ks.getD g (.mk 0 0 false [] [])=ks[g]:=ce hl
  have hsz:=dh (aL hl)
  rw [← hget] at hsz
  have hc:=iN (ks.getD g (.mk 0 0 false [] [])) z2_
  refine W ?_
  refine Ci rfl (fun h4=>?_) (fun h4=>?_)
  ·refine W ?_
   refine Rt rfl rfl ?_
   rw [bad]
   ·rfl
   ·rw [List.all_eq_false]
    exact⟨ks[g],aL hl,by rw [← hget,h4];simp⟩
  refine W ?_
  refine bi (St1.litS (enc:=Fe.enc) [(fieldOf (ks.getD g (.mk 0 0 false [] []))).1] rfl rfl rfl rfl (fun _ _=>rfl) rfl rfl rfl rfl rfl) ?_
  refine W ?_
  have e1:(ks.take (g+1)).map (fun k=>(fieldOf k).1)=(ks.take g).map (fun k=>(fieldOf k).1)++[(fieldOf (ks.getD g (.mk 0 0 false [] []))).1]:=by
   rw [av hl,List.map_append,hget];rfl
  have e2:(ks.take (g+1)).all (fun k=>(fieldOf k).2)=true:=by
   rw [av hl,List.all_append,hall,← hget];simp only [List.all_cons,h4,List.all_nil];rfl
  refine⟨g+1,by omega,⟨by omega,e2⟩,⟨rfl,rfl,rfl,rfl,trivial⟩,?_⟩
  show WkO [(0,.row 59 (.sl 2 Fe.enc ((ks.take (g+1)).map fun k=>(fieldOf k).1)))] _
  rw [e1]
  exact⟨rfl,trivial⟩
 ·have hge:g=ks.length:=by omega
  subst hge
  rw [List.take_length] at hall
  rw [List.take_length]
  have hrf:=dF (ks.map fun k=>(fieldOf k).1) (by rw [aK];omega) (fun f hf=>by
   obtain⟨k,hk,rfl⟩:=List.mem_map.1 hf
   exact ph (by have:=dh hk;omega) (List.all_eq_true.1 hall k hk))
  refine Pb 0 rfl ?_
  refine W ?_
  refine Rt rfl rfl ?_
  unfold fldsP
  rw [if_pos hall];rfl
instance:Cn Tryz.prog 48 (type_of% @kY):=⟨@kY⟩
theorem mV (n:Nd) (hz:n.sz≤8000):FnD Tryz.prog 55 [.nd n] (.tup [.sl 2 Fe.enc (flR n.kids).1,.b (flR n.kids).2]):=by
 have hz2:=nd_szL n
 have hlz:=dD n.kids
 have bad:((decide ((n.kids.length:Int)≤16)&&n.kids.all (fun k=>(fieldOf k).2))=false)→flR n.kids=([],false):=fun hb=>by
  unfold flR;rw [hb];rfl
 refine aB Tryz.func55 rfl Tryz.ntmps55 rfl (fun e=>?_)
 refine W ?_
 refine Rn (kS 2 Fe.enc) 4 59 rfl rfl ?_
 refine Lp (γ:=Nat) (fun g=>g≤n.kids.length∧g≤16∧(n.kids.take g).all (fun k=>(fieldOf k).2)=true) (fun g=>n.kids.length+1-g)
  (fun g=>[(1,.own 0 0),(4,.row 1),(5,.d (.i (g:Int)))])
  (fun g=>[(1,.row 59 (.sl 2 Fe.enc ((n.kids.take g).map fun k=>(fieldOf k).1))),(0,.whl 31 (.nd n))]) 0 ⟨by omega,by omega,rfl⟩ ⟨rfl,rfl,rfl,trivial⟩ ⟨rfl,rfl,trivial⟩ ?_
 rintro g ⟨hg,hg16,hall⟩
 have hml:((n.kids.take g).map fun k=>(fieldOf k).1).length≤8000:=by rw [aK];have:=List.length_take_le' g n.kids;omega
 refine W ?_
 refine Ci rfl (fun h=>?_) (fun h=>?_)
 ·have hl:g<n.kids.length:=by omega
  have hget:n.kids.getD g (.mk 0 0 false [] [])=n.kids[g]:=ce hl
  have hsz:=dh (aL hl)
  rw [← hget] at hsz
  have hc:=iw (n.kids.getD g (.mk 0 0 false [] [])) z2_
  rw [← se] at hc
  refine W ?_
  refine Bg rfl rfl (fun h4=>?_) (fun h4=>?_)
  ·refine W ?_
   refine Rt rfl rfl ?_
   rw [bad]
   ·rfl
   ·rw [Bool.and_eq_false_iff];right
    rw [List.all_eq_false]
    exact⟨n.kids[g],aL hl,by rw [← hget];simp_all⟩
  refine W ?_
  refine Ci rfl (fun h5=>?_) (fun h5=>?_)
  ·refine W ?_
   refine Rt rfl rfl ?_
   rw [bad]
   ·rfl
   ·rw [am z2_,Bool.false_and]
  refine W ?_
  refine bi (St1.litS (enc:=Fe.enc) [(fieldOf (n.kids.getD g (.mk 0 0 false [] []))).1] rfl rfl rfl rfl (fun _ _=>rfl) rfl rfl rfl rfl rfl) ?_
  refine W ?_
  have h4':(fieldOf (n.kids.getD g (.mk 0 0 false [] []))).2=true:=by simp_all
  have e1:(n.kids.take (g+1)).map (fun k=>(fieldOf k).1)=(n.kids.take g).map (fun k=>(fieldOf k).1)++[(fieldOf (n.kids.getD g (.mk 0 0 false [] []))).1]:=by
   rw [av hl,List.map_append,hget];rfl
  have e2:(n.kids.take (g+1)).all (fun k=>(fieldOf k).2)=true:=by
   rw [av hl,List.all_append,hall,← hget];simp only [List.all_cons,h4',List.all_nil];rfl
  refine⟨g+1,by omega,⟨by omega,by omega,e2⟩,⟨rfl,rfl,rfl,trivial⟩,?_⟩
  show WkO [(1,.row 59 (.sl 2 Fe.enc ((n.kids.take (g+1)).map fun k=>(fieldOf k).1))),(0,.whl 31 (.nd n))] _
  rw [e1]
  exact⟨rfl,rfl,trivial⟩
 ·have hge:g=n.kids.length:=by omega
  subst hge
  rw [List.take_length] at hall
  rw [List.take_length]
  refine Pb 1 rfl ?_
  refine W ?_
  refine Rt rfl rfl ?_
  unfold flR
  rw [if_pos (by rw [hall,an (p:=(n.kids.length:Int)≤16) z2_];rfl)];rfl
instance:Cn Tryz.prog 55 (type_of% @mV):=⟨@mV⟩
end
end Go.Proofs.YtcnacdlfmbigaaaGreatDoor
