/- Parts. -/
import Derived.Laws.IdiomStrings
import Derived.Test.YtojokloclmcloaaGreatDoorQ2
set_option maxRecDepth 100000
set_option linter.unusedSimpArgs false
set_option linter.unusedVariables false
set_option linter.constructorNameAsVariable false
namespace Go.Proofs.YtojokloclmcloaaGreatDoor
open Go.Proofs.Tryz
open Go Go.RowKit
inductive AllP {α:Type _} (Q:α->Prop):List α->Prop where
 |nil:AllP Q []
 |cons {x:α} {l:List α} (h:Q x) (t:AllP Q l):AllP Q (x::l)
def findG {α:Type _}:List (Nat×α)->Nat->Option α
 |[],_=>none
 |(a,b)::r,k=>bif Nat.beq a k then some b else findG r k
theorem ju {α:Type _}{Q:Nat×α->Prop}{l:List (Nat×α)}(q:AllP Q l) {k:Nat}{v:α}(h:findG l k=some v):Q (k,v):=by
 induction q with
 |nil=>cases h
 |@cons x l hx _ ih =>
  obtain⟨a,b⟩:=x;simp only [findG] at h;cases hb:Nat.beq a k with
  |true =>
   obtain rfl:=aq hb;simp only [hb,cond_true,aB] at h;subst h;exact hx
  |false=>simp only [hb,cond_false] at h;exact ih h
theorem DenL.n {h:Part}:DenL [] h []:=by unfold DenL;rfl
theorem DenL.c {h:Part}{d:D}{r:List D}{v:Value}{t:LV}(h1:v.oneCell'=true) (h2:Den d h v) (h3:DenL r h t):DenL (d::r) h (v::t):=by unfold DenL;exact⟨v,t,U,h1,h2,h3⟩
theorem den_bq0 {h:Part}{b:Bool}:Den (.bq b) h (.bool b):=(dH (h:=h)).2 U
theorem sv {h:Part}:Den (.bs []) h (.slice none 0 0):=(dm (h:=h)).2 ⟨none,0,U,bu⟩
theorem oR {h:Part}:Den (.nds []) h (.slice none 0 0):=(dN (h:=h)).2 ⟨none,0,U,bu⟩
theorem fG {h:Part}{α:Type}{sz:Nat}{enc:α->List D}:Den (.sl sz enc []) h (.slice none 0 0):=(iE (h:=h)).2 ⟨none,0,U,bu⟩
abbrev Txt:=LB
abbrev D.s (s:Txt):D:=.v (.string ⟨s.toArray⟩)
abbrev D.i (i:Int):D:=.v (.int .i64 i)
abbrev D.b (b:Bool):D:=.bq b
def u32E (x:UInt32):List D:=[.v (.int .u32 (x.toNat:Int))]
abbrev D.ws (l:List UInt32):D:=.sl 1 u32E l
structure At where
 oid:Txt
 kind:Int
 text:Txt
instance:Inhabited At:=⟨⟨[],0,[]⟩⟩
def At.enc (a:At):List D:=[.s a.oid,.i a.kind,.s a.text]
structure Xt where
 oid:Txt
 crit:Bool
 val:Txt
instance:Inhabited Xt:=⟨⟨[],false,[]⟩⟩
def Xt.enc (e:Xt):List D:=[.s e.oid,.b e.crit,.bs e.val]
structure Ky where
 n:List UInt32
 e:List UInt32
 d:List UInt32
instance:Inhabited Ky:=⟨⟨[],[],[]⟩⟩
def Ky.enc (k:Ky):List D:=[.ws k.n,.ws k.e,.ws k.d]
structure Crt where
 serial:List UInt32
 hash:Int
 issuer:List At
 subject:List At
 frm:Int
 to_:Int
 key:Ky
 exts:List Xt
 sig:Txt
instance:Inhabited Crt:=⟨⟨[],0,[],[],0,0,default,[],[]⟩⟩
def Crt.enc (c:Crt):List D:=[.ws c.serial,.i c.hash,.sl 3 At.enc c.issuer,.sl 3 At.enc c.subject,.i c.frm,.i c.to_,.ws c.key.n,.ws c.key.e,.ws c.key.d,.sl 3 Xt.enc c.exts,.bs c.sig]
structure Fct where
 hasBasic:Bool
 ca:Bool
 path:Int
 hasUsage:Bool
 usage:Int
 uses:List Txt
 ski:Txt
def Fct.enc (f:Fct):List D:=[.b f.hasBasic,.b f.ca,.i f.path,.b f.hasUsage,.i f.usage,.sl 1 strE f.uses,.bs f.ski]
structure Flt where
 at_:Int
 code:Int
def Flt.enc (f:Flt):List D:=[.i f.at_,.i f.code]
def bE (b:Txt):List D:=[.bs b]
structure Fe where
 oid:Txt
 vals:List Txt
instance:Inhabited Fe:=⟨⟨[],[]⟩⟩
def Fe.enc (f:Fe):List D:=[.s f.oid,.sl 1 bE f.vals]
structure Sg where
 issuer:List At
 serial:List UInt32
 ski:Txt
 hash:Int
 signed:List Fe
 sig:Txt
 unsigned:List Fe
instance:Inhabited Sg:=⟨⟨[],[],[],0,[],[],[]⟩⟩
def Sg.enc (s:Sg):List D:=[.sl 3 At.enc s.issuer,.ws s.serial,.bs s.ski,.i s.hash,.sl 2 Fe.enc s.signed,.bs s.sig,.sl 2 Fe.enc s.unsigned]
structure Gn where
 serial:List UInt32
 at_:Int
instance:Inhabited Gn:=⟨⟨[],0⟩⟩
def Gn.enc (g:Gn):List D:=[.ws g.serial,.i g.at_]
structure Cl where
 hash:Int
 issuer:List At
 this:Int
 next:Int
 gone:List Gn
 sig:Txt
instance:Inhabited Cl:=⟨⟨0,[],0,0,[],[]⟩⟩
def Cl.enc (c:Cl):List D:=[.i c.hash,.sl 3 At.enc c.issuer,.i c.this,.i c.next,.sl 2 Gn.enc c.gone,.bs c.sig]
structure Sd where
 type:Txt
 has:Bool
 content:Txt
 certs:List Crt
 crls:List Cl
 signers:List Sg
instance:Inhabited Sd:=⟨⟨[],false,[],[],[],[]⟩⟩
def Sd.enc (s:Sd):List D:=[.s s.type,.b s.has,.bs s.content,.sl 11 Crt.enc s.certs,.sl 6 Cl.enc s.crls,.sl 7 Sg.enc s.signers]
def boD:D->Option Bool
 |.bq b=>some b
 |.v (.bool b)=>some b
 |_=>none
def bsD:D->Option Txt
 |.bs l=>some l
 |.v (.slice none 0 0)=>some []
 |_=>none
def ndsD:D->Option LN
 |.nds l=>some l
 |.v (.slice none 0 0)=>some []
 |_=>none
theorem uI {d:D}{b:Bool}{h:Part}{v:Value}(e:boD d=some b) (k:Den d h v):Den (.bq b) h v:=by
 unfold boD at e;split at e<;>cases e
 ·exact k
 ·rw [dB.1 k];exact(dH (h:=h)).2 U
theorem qP {d:D}{b:Txt}{h:Part}{v:Value}(e:bsD d=some b) (k:Den d h v):Den (.bs b) h v:=by
 unfold bsD at e;split at e<;>cases e
 ·exact k
 ·rw [dB.1 k];exact sv
theorem ndsD_ok {d:D}{b:LN}{h:Part}{v:Value}(e:ndsD d=some b) (k:Den d h v):Den (.nds b) h v:=by
 unfold ndsD at e;split at e<;>cases e
 ·exact k
 ·rw [dB.1 k];exact oR
def foldNd:List D->Option D
 |[.v (.int .i64 c),.v (.int .i64 t),k,b,l]=>match boD k,bsD b,ndsD l with
  |some k,some b,some l=>some (.nd (.mk c t k b l))
  |_,_,_=>none
 |_=>none
def foldAt:List D->Option D
 |[.v (.string ⟨⟨s⟩⟩),.v (.int .i64 k),.v (.string ⟨⟨t⟩⟩)]=>some (.st (At.enc ⟨s,k,t⟩))
 |_=>none
def foldXt:List D->Option D
 |[.v (.string ⟨⟨s⟩⟩),k,t]=>match boD k,bsD t with
  |some k,some t=>some (.st (Xt.enc ⟨s,k,t⟩))
  |_,_=>none
 |_=>none
def foldFlt:List D->Option D
 |[.v (.int .i64 s),.v (.int .i64 k)]=>some (.st (Flt.enc ⟨s,k⟩))
 |_=>none
def FoldOk (f:List D->Option D):Prop:=∀ {ds d},f ds=some d->∀ h cs,DenL ds h cs->Den d h (.agg cs.toArray)
theorem foldNd_ok:FoldOk foldNd:=by
 intro ds d hf h cs k;unfold foldNd at hf;split at hf
 ·split at hf<;>cases hf;rename_i e1 e2 e3;unfold DenL at k;obtain⟨v1,t1,rfl,o1,d1,k⟩:=k;unfold DenL at k;obtain⟨v2,t2,rfl,o2,d2,k⟩:=k;unfold DenL at k;obtain⟨v3,t3,rfl,o3,d3,k⟩:=k;unfold DenL at k;obtain⟨v4,t4,rfl,o4,d4,k⟩:=k;unfold DenL at k;obtain⟨v5,t5,rfl,o5,d5,k⟩:=k;exact(dP (h:=h)).2 ⟨_,U,qc.2 (.c o1 d1 (.c o2 d2 (.c o3 (uI e1 d3) (.c o4 (qP e2 d4) (.c o5 (ndsD_ok e3 d5) k)))))⟩
 ·cases hf
theorem foldAt_ok:FoldOk foldAt:=by
 intro ds d hf h cs k;unfold foldAt at hf;split at hf<;>cases hf;exact(dS (h:=h)).2 ⟨_,U,k⟩
theorem foldXt_ok:FoldOk foldXt:=by
 intro ds d hf h cs k;unfold foldXt at hf;split at hf
 ·split at hf<;>cases hf;rename_i e1 e2;unfold DenL at k;obtain⟨v1,t1,rfl,o1,d1,k⟩:=k;unfold DenL at k;obtain⟨v2,t2,rfl,o2,d2,k⟩:=k;unfold DenL at k;obtain⟨v3,t3,rfl,o3,d3,k⟩:=k;exact(dS (h:=h)).2 ⟨_,U,.c o1 d1 (.c o2 (uI e1 d2) (.c o3 (qP e2 d3) k))⟩
 ·cases hf
theorem vJ:FoldOk foldFlt:=by
 intro ds d hf h cs k;unfold foldFlt at hf;split at hf<;>cases hf;exact(dS (h:=h)).2 ⟨_,U,k⟩
def fold1:Option D->D->Option D
 |some e,.v (.slice none 0 0)=>some e
 |_,.v (.bool b)=>some (.bq b)
 |_,d=>some d
def foldC:List (Option D)->List D->Option (List D)
 |[],[]=>some []
 |t::ts,d::ds=>match fold1 t d,foldC ts ds with
  |some d',some r=>some (d'::r)
  |_,_=>none
 |_,_=>none
def foldT (t:List (Option D)) (ds:List D):Option D:=match foldC t ds with
 |some r=>some (.st r)
 |none=>none
theorem ul {h:Part}:∀ {t:List (Option D)}{ds r:List D}{cs:LV},AllP (λx=>∀ e,x=some e->∀ h,Den e h (.slice none 0 0)) t->foldC t ds=some r->DenL ds h cs->DenL r h cs
 |[],[],r,cs,_,e,k=>by cases e;exact k
 |t::ts,d::ds,r,cs,.cons ht hts,e,k=>by
  simp only [foldC] at e;split at e<;>cases e;rename_i d' r' h1 h2;unfold DenL at k |-
  obtain⟨v,s,rfl,o1,k1,k2⟩:=k;refine⟨v,s,U,o1,?_,ul hts h2 k2⟩;unfold fold1 at h1;split at h1<;>cases h1
  ·rw [dB.1 k1];exact ht _ U h
  ·rw [dB.1 k1];exact(dH (h:=h)).2 U
  ·exact k1
 |[],_::_,_,_,_,e,_=>by cases e
 |_::_,[],_,_,_,e,_=>by cases e
theorem eC {t:List (Option D)}(ht:AllP (λx=>∀ e,x=some e->∀ h,Den e h (.slice none 0 0)) t):FoldOk (foldT t):=by
 intro ds d hf h cs k;unfold foldT at hf;split at hf<;>cases hf;rename_i r hr;exact(dS (h:=h)).2 ⟨_,U,ul ht hr k⟩
def mapG {α:Type}(g:D->Option α):List D->Option (List α)
 |[]=>some []
 |d::r=>match g d,mapG g r with
  |some x,some l=>some (x::l)
  |_,_=>none
def LdOk {α:Type}(enc:α->List D) (sz:Nat) (g:D->Option α):Prop:=∀ {d:D}{x:α}{h:Part}{v:Value},g d=some x->Den d h v->v.cells.toList.length=sz/\DenL (enc x) h v.cells.toList
theorem tX {α:Type}{enc:α->List D}{sz:Nat}{g:D->Option α}(hg:LdOk enc sz g) {h:Part}:∀ {ds:List D}{vs:LV}{l:List α},mapG g ds=some l->DenT ds h vs->All2 (λ(y:α) (v:Value)=>v.cells.toList.length=sz/\encR enc h v.cells.toList y) l vs
 |[],vs,l,e,k=>by cases e;unfold DenT at k;subst k;exact .nil
 |d::r,vs,l,e,k=>by
  simp only [mapG] at e;split at e<;>cases e;rename_i x l h1 h2;unfold DenT at k;obtain⟨v,t,rfl,h3,h4⟩:=k;exact .cons (hg h1 h3) (tX hg h2 h4)
theorem lq {α:Type}{enc:α->List D}{sz:Nat}{g:D->Option α}(hg:LdOk enc sz g) (h0:0<sz) {h:Part}{ds:List D}{vs:LV}{l:List α}(e:mapG g ds=some l) (hn:0<ds.length) (k:DenT ds h vs):LitOk h (.sl sz enc l) vs:=by
 have h1:=tX hg e k;have h2:=k.len;have h3:=iC h1;refine⟨⟨U,by rw [h3],fB h1⟩,λc hc=>?_,by omega,h0⟩;have all:∀ {l:List α} {vs:LV},All2 (λ(y:α) (v:Value)=>v.cells.toList.length=sz/\encR enc h v.cells.toList y) l vs->∀ c∈vs,c.cells.toList.length=sz:=by
  intro l vs hh
  induction hh with
  |nil=>intro c hc;cases hc
  |cons hy _ ih =>
   intro c hc;cases hc with
   |head=>exact hy.1
   |tail _ hc=>exact ih c hc
 exact all h1 c hc
def atOf:D->Option At
 |.st [.v (.string ⟨⟨s⟩⟩),.v (.int .i64 k),.v (.string ⟨⟨t⟩⟩)]=>some ⟨s,k,t⟩
 |_=>none
def xtOf:D->Option Xt
 |.st [.v (.string ⟨⟨s⟩⟩),k,t]=>match boD k,bsD t with
  |some k,some t=>some ⟨s,k,t⟩
  |_,_=>none
 |_=>none
theorem atOf_ok:LdOk At.enc 3 atOf:=by
 intro d x h v e k;unfold atOf at e;split at e<;>cases e;obtain⟨cs,rfl,k2⟩:=dS.1 k;have:=k2.len;exact⟨by simpa [Value.cells] using this,show DenL _ h cs from k2⟩
theorem xtOf_ok:LdOk Xt.enc 3 xtOf:=by
 intro d x h v e k;unfold xtOf at e;split at e
 ·split at e<;>cases e;rename_i e1 e2;obtain⟨cs,rfl,k2⟩:=dS.1 k;have:=k2.len;have k:=k2;unfold DenL at k;obtain⟨v1,t1,rfl,o1,d1,k⟩:=k;unfold DenL at k;obtain⟨v2,t2,rfl,o2,d2,k⟩:=k;unfold DenL at k;obtain⟨v3,t3,rfl,o3,d3,k⟩:=k;exact⟨by simpa [Value.cells] using this,(.c o1 d1 (.c o2 (uI e1 d2) (.c o3 (qP e2 d3) k)):DenL (Xt.enc ⟨_,_,_⟩) h (v1::v2::v3::t3))⟩
 ·cases e
def oneE (p:Txt×Nd):List D:=.bs p.1::p.2.enc
def oneOf:D->Option (Txt×Nd)
 |.st [b,.v (.int .i64 c),.v (.int .i64 t),k,bb,l]=>match bsD b,boD k,bsD bb,ndsD l with
  |some b,some k,some bb,some l=>some (b,.mk c t k bb l)
  |_,_,_,_=>none
 |_=>none
theorem oneOf_ok:LdOk oneE 6 oneOf:=by
 intro d x h v e k;unfold oneOf at e;split at e
 ·split at e<;>cases e;rename_i e0 e1 e2 e3;obtain⟨cs,rfl,k2⟩:=dS.1 k;have:=k2.len;have k:=k2;unfold DenL at k;obtain⟨v0,t0,rfl,o0,d0,k⟩:=k;unfold DenL at k;obtain⟨v1,t1,rfl,o1,d1,k⟩:=k;unfold DenL at k;obtain⟨v2,t2,rfl,o2,d2,k⟩:=k;unfold DenL at k;obtain⟨v3,t3,rfl,o3,d3,k⟩:=k;unfold DenL at k;obtain⟨v4,t4,rfl,o4,d4,k⟩:=k;unfold DenL at k;obtain⟨v5,t5,rfl,o5,d5,k⟩:=k;exact⟨by simpa [Value.cells] using this,(.c o0 (qP e0 d0) (.c o1 d1 (.c o2 d2 (.c o3 (uI e1 d3) (.c o4 (qP e2 d4) (.c o5 (ndsD_ok e3 d5) k))))):DenL (oneE (_,.mk _ _ _ _ _)) h (v0::v1::v2::v3::v4::v5::t5))⟩
 ·cases e
def bsD1:D->Option Txt
 |.bs l=>some l
 |_=>none
theorem bsD1_ok:LdOk bE 1 bsD1:=by
 intro d x h v e k;unfold bsD1 at e;split at e<;>cases e;obtain⟨a,c,rfl,r⟩:=dm.1 k;exact⟨U,(.c U k .n:DenL (bE x) h [_])⟩
def litAX (ds:List D):Option D:=match mapG atOf ds with
 |some (x::l)=>some (.sl 3 At.enc (x::l))
 |_=>match mapG xtOf ds with
  |some (x::l)=>some (.sl 3 Xt.enc (x::l))
  |_=>match mapG oneOf ds with
   |some (x::l)=>some (.sl 6 oneE (x::l))
   |_=>match mapG bsD1 ds with
    |some (x::l)=>some (.sl 1 bE (x::l))
    |_=>none
theorem jp {α:Type}{g:D->Option α}:∀ {ds:List D}{l:List α},mapG g ds=some l->ds.length=l.length
 |[],l,e=>by cases e;rfl
 |d::r,l,e=>by
  simp only [mapG] at e;split at e<;>cases e;rename_i h2;simp [jp h2]
theorem litAX_ok {h:Part}{ds:List D}{vs:LV}{d:D}(e:litAX ds=some d) (k:DenT ds h vs):LitOk h d vs:=by
 unfold litAX at e;split at e
 ·cases e;rename_i hm;exact lq atOf_ok bT hm (by rw [jp hm];simp) k
 ·split at e
  ·cases e;rename_i hm;exact lq xtOf_ok bT hm (by rw [jp hm];simp) k
  ·split at e
   ·cases e;rename_i hm;exact lq oneOf_ok bT hm (by rw [jp hm];simp) k
   ·split at e<;>cases e;rename_i hm;exact lq bsD1_ok bT hm (by rw [jp hm];simp) k
structure Ef where
 us:List Nat
 rd:Option Nat
 dst:Option (Nat×A)
 key:Option (Nat×OE)
 isM:Bool
 new:Option Nat
abbrev eVal (us:List Nat) (rd:Option Nat) (d:Nat) (u:A):Ef:=⟨us,rd,some (d,u),none,false,none⟩
abbrev eMk (us:List Nat) (d k:Nat) (u:A) (e:OE):Ef:=⟨us,none,some (d,u),some (k,e),true,some k⟩
abbrev eSto (us:List Nat) (k:Nat) (e:OE):Ef:=⟨us,none,none,some (k,e),false,none⟩
abbrev eUpd (us:List Nat) (d k v:Nat) (e:OE):Ef:=⟨us,none,some (d,.row v),some (k,e),false,some v⟩
def Ef.put (f:Ef) (a:LO):LO:=match f.dst with
 |some y=>y::a
 |none=>a
def aR (p:Nat->Bool) (b:LO):List Ef->LO
 |[]=>b
 |f::r=>match f.dst with
  |some y=>bif p r.length then y::aR p b r else aR p b r
  |none=>aR p b r
def tR (p:Nat->Bool) (b:Nat->Option OE) (k:Nat):List Ef->Option OE
 |[]=>b k
 |f::r=>match f.key with
  |some (k',e)=>bif p r.length&&Nat.beq k' k then some e else tR p b k r
  |none=>tR p b k r
def oS (b:LQ):List Ef->LQ
 |[]=>b
 |f::r=>match f.key with
  |none=>oS b r
  |some (k,e)=>match f.isM with
   |true=>(k,e)::oS b r
   |false=>(k,e)::delO (oS b r) k
def aft (ops:Array Oper) (i j:Nat):Bool:=match ops[i]? with
 |some o=>o.after.toList.any λe=>Nat.beq e.on j&&Region.binds .any e
 |none=>false
def rch (ops:Array Oper):Nat->Nat->Nat->Bool
 |0,i,j=>aft ops i j
 |n+1,i,j=>aft ops i j||match ops[i]? with
  |some o=>o.after.toList.any λe=>Region.binds .any e&&rch ops n e.on j
  |none=>false
def nmA:A->Option Nat
 |.own k _=>some k
 |.row k=>some k
 |.recr _ k=>some k
 |.mp k=>some k
 |_=>none
def memO:Option Nat->Nat->Bool
 |some j,m=>Nat.beq j m
 |none,_=>false
def memL:List A->Nat->Bool
 |[],_=>false
 |x::r,m=>bif memO (nmA x) m then true else memL r m
def memE:OE->Nat->Bool
 |.var _ cs,m=>memL cs m
 |.rowv v _ _,m=>Nat.beq v m
 |.pin v _,m=>Nat.beq v m
 |_,_=>false
def Ef.says (f:Ef) (m:Nat):Bool:=(match f.dst with
 |some (_,u)=>memO (nmA u) m
 |none=>false)||(match f.key with
 |some (_,e)=>memE e m
 |none=>false)
def okQ (ops:Array Oper) (f:Ef) (i:Nat) (g:Ef) (j:Nat):Bool :=
 (match g.dst with
  |some (t,_)=>(bif memN f.us t then aft ops i j else true)&&(match f.dst with
   |some (d,_)=>!Nat.beq d t
   |none=>true)
  |none=>true) &&
 (match f.dst with
  |some (d,_)=>bif memN g.us d then aft ops i j else true
  |none=>true) &&
 (match f.key,g.key with
  |some (k,_),some (k',_)=>match f.isM,g.isM with
   |true,_=>!Nat.beq k k'
   |false,true=>bif Nat.beq k k' then aft ops i j else true
   |false,false=>bif Nat.beq k k' then aft ops i j else true
  |_,_=>true) &&
 (match g.new with
  |some m=>(bif f.says m then aft ops i j else true)&&(match f.new with
   |some m'=>!Nat.beq m' m
   |none=>true)
  |none=>true) &&
 (match f.new with
  |some m=>!g.says m
  |none=>true) &&
 (match f.rd,g.key with
  |some k,some (k',_)=>bif Nat.beq k k' then rch ops 40 i j else true
  |_,_=>true) &&
 (match g.rd,f.key with
  |some k,some (k',_)=>bif Nat.beq k k' then rch ops 40 i j else true
  |_,_=>true)
def okP (ops:Array Oper) (f:Ef) (i:Nat):List Ef->Bool
 |[]=>true
 |g::r=>okQ ops f i g r.length&&okP ops f i r
def okF (base:Nat) (f:Ef):Bool:=(match f.new with
 |some m=>Nat.ble base m
 |none=>true)&&(match f.key with
 |some (k,_)=>match f.isM,f.new with
  |true,some m=>Nat.beq m k
  |true,none=>false
  |false,_=>true
 |none=>!f.new.isSome)
def okK (base:Nat) (f:Ef) (r:List Ef):Bool:=match f.key with
 |some (k,_)=>f.isM||Nat.blt k base||r.any λg=>g.isM&&match g.key with
  |some (k',_)=>Nat.beq k' k
  |none=>false
 |none=>true
def okE (ops:Array Oper) (base:Nat):List Ef->Bool
 |[]=>true
 |f::r=>okP ops f r.length r&&okF base f&&okK base f r&&okE ops base r
section
variable {ops:Array Oper}{f g:Ef}{i j base:Nat}{t d k k' m m':Nat}{y z:A}{e e':OE}
theorem okQ_us (h:okQ ops f i g j=true) (hg:g.dst=some (t,y)) (ht:memN f.us t=true):aft ops i j=true:=by
 simp only [okQ,hg,ht,cond_true,Bool.and_eq_true] at h;exact h.1.1.1.1.1.1.1
theorem okQ_dd (h:okQ ops f i g j=true) (hg:g.dst=some (t,y)) (hf:f.dst=some (d,z)):Nat.beq d t=false:=by
 simp only [okQ,hg,hf,Bool.and_eq_true,Bool.not_eq_true'] at h;exact h.1.1.1.1.1.1.2
theorem okQ_an (h:okQ ops f i g j=true) (hf:f.dst=some (d,z)) (hg:memN g.us d=true):aft ops i j=true:=by
 simp only [okQ,hf,hg,cond_true,Bool.and_eq_true] at h;exact h.1.1.1.1.1.2
theorem okQ_kM (h:okQ ops f i g j=true) (hf:f.key=some (k,e)) (hM:f.isM=true) (hg:g.key=some (k',e')):Nat.beq k k'=false:=by
 simp only [okQ,hf,hg,hM,Bool.and_eq_true,Bool.not_eq_true'] at h;exact h.1.1.1.1.2
theorem okQ_kA (h:okQ ops f i g j=true) (hf:f.key=some (k,e)) (hM:f.isM=false) (hg:g.key=some (k,e')):aft ops i j=true:=by
 simp only [okQ,hf,hg,hM,Bool.and_eq_true] at h;have h3:=h.1.1.1.1.2;cases hG:g.isM<;>simpa [hG] using h3
theorem okQ_nm (h:okQ ops f i g j=true) (hg:g.new=some m) (hf:f.says m=true):aft ops i j=true:=by
 simp only [okQ,hg,hf,cond_true,Bool.and_eq_true] at h;exact h.1.1.1.2.1
theorem tK (h:okQ ops f i g j=true) (hg:g.new=some m) (hf:f.new=some m'):Nat.beq m' m=false:=by
 simp only [okQ,hg,hf,Bool.and_eq_true,Bool.not_eq_true'] at h;exact h.1.1.1.2.2
theorem okQ_no (h:okQ ops f i g j=true) (hf:f.new=some m):g.says m=false:=by
 simp only [okQ,hf,Bool.and_eq_true,Bool.not_eq_true'] at h;exact h.1.1.2
theorem okQ_rk (h:okQ ops f i g j=true) (hf:f.rd=some k) (hg:g.key=some (k,e)):rch ops 40 i j=true:=by
 simp only [okQ,hf,hg,Nat.beq_refl,cond_true,Bool.and_eq_true] at h;exact h.1.2
theorem okQ_kr (h:okQ ops f i g j=true) (hg:g.rd=some k) (hf:f.key=some (k,e)):rch ops 40 i j=true:=by
 simp only [okQ,hf,hg,Nat.beq_refl,cond_true,Bool.and_eq_true] at h;exact h.2
theorem rch_ok {p:Nat->Bool}(hc:∀ i j,p i=true->aft ops i j=true->p j=true):∀ (n i:Nat),p i=true->rch ops n i j=true->p j=true
 |0,i,hi,h=>hc i j hi h
 |n+1,i,hi,h=>by
  simp only [rch,Bool.or_eq_true] at h;rcases h with h|h
  ·exact hc i j hi h
  ·cases ho:ops[i]? with
   |none=>rw [ho] at h;cases h
   |some o =>
    rw [ho] at h;obtain⟨e,he,h2⟩:=List.any_eq_true.1 h;rw [Bool.and_eq_true] at h2;refine rch_ok hc n e.on (hc i e.on hi ?_) h2.2;simp only [aft,ho];exact List.any_eq_true.2 ⟨e,he,by simp [h2.1]⟩
theorem rch_dep {p:Nat->Bool}(hc:∀ i j,p i=true->aft ops i j=true->p j=true) (hd:∀ j,aft ops i j=true->p j=true):∀ (n:Nat),rch ops n i j=true->p j=true
 |0,h=>hd j h
 |n+1,h=>by
  simp only [rch,Bool.or_eq_true] at h;rcases h with h|h
  ·exact hd j h
  ·cases ho:ops[i]? with
   |none=>rw [ho] at h;cases h
   |some o =>
    rw [ho] at h;obtain⟨e,he,h2⟩:=List.any_eq_true.1 h;rw [Bool.and_eq_true] at h2;refine rch_ok hc n e.on (hd e.on ?_) h2.2;simp only [aft,ho];exact List.any_eq_true.2 ⟨e,he,by simp [h2.1]⟩
theorem okP_at:∀ {q r:List Ef},okP ops f i (q++g::r)=true->okQ ops f i g r.length=true
 |[],r,h=>by simp only [List.nil_append,okP,Bool.and_eq_true] at h;exact h.1
 |x::q,r,h=>by simp only [List.cons_append,okP,Bool.and_eq_true] at h;exact okP_at h.2
theorem eV:∀ {pre r:List Ef},okE ops base (pre++f::r)=true->okP ops f r.length r=true/\okF base f=true/\okK base f r=true/\okE ops base r=true
 |[],r,h=>by simp only [List.nil_append,okE,Bool.and_eq_true] at h;exact⟨h.1.1.1,h.1.1.2,h.1.2,h.2⟩
 |x::pre,r,h=>by simp only [List.cons_append,okE,Bool.and_eq_true] at h;exact eV h.2
theorem f4 {pre q r:List Ef}(h:okE ops base (pre++g::(q++f::r))=true):okQ ops g (q++f::r).length f r.length=true:=okP_at (eV h).1
theorem okF_ge (h:okF base f=true) (hn:f.new=some m):base<=m:=by
 simp only [okF,hn,Bool.and_eq_true] at h;exact Nat.le_of_ble_eq_true h.1
theorem tL (h:okF base f=true) (hk:f.key=some (k,e)) (hM:f.isM=true):f.new=some k:=by
 simp only [okF,hk,hM,Bool.and_eq_true] at h;cases hn:f.new with
 |none=>simp [hn] at h
 |some m=>rw [hn] at h;have:=aq h.2;rw [this]
end
def allT:Nat->Bool:=λ_=>true
theorem tZ {ops:Array Oper}{b:LO}{p:Nat->Bool}{base:Nat}{f:Ef}{r:List Ef}{t:Nat}(hp:p r.length=false) (hd:∀ j,aft ops r.length j=true->p j=true) (hc:∀ i j,p i=true->aft ops i j=true->p j=true) (ht:memN f.us t=true) :
 ∀ {pre:List Ef},okE ops base (pre++f::r)=true->lkA (aR p b (pre++f::r)) t=lkA (aR allT b r) t
 |[],ho=>by
  have hf:=(eV ho).1;have e0:aR p b (f::r)=aR p b r:=by
   simp only [aR,hp,cond_false];split<;>rfl
  rw [List.nil_append,e0];clear ho e0;have key:∀ q,okP ops f r.length q=true->lkA (aR p b q) t=lkA (aR allT b q) t:=by
   intro q
   induction q with
   |nil=>intro _;rfl
   |cons g q ih =>
    intro ho;simp only [okP,Bool.and_eq_true] at ho;obtain⟨h1,h4⟩:=ho;have ih:=ih h4;simp only [aR];split
    ·rename_i y hy;obtain⟨t',u⟩:=y;simp only [allT,cond_true];cases hb:Nat.beq t' t with
     |true =>
      obtain rfl:=aq hb;rw [hd _ (okQ_us h1 hy ht),cond_true];simp [lkA]
     |false =>
      cases hq:p q.length with
      |true=>simp only [cond_true,lkA,hb,cond_false];exact ih
      |false=>simp only [cond_false,lkA,hb];exact ih
    ·exact ih
  exact key r hf
 |g::pre,ho=>by
  have hpair:=f4 (pre:=[]) (q:=pre) ho;have ih:=tZ (b:=b) hp hd hc ht (eV (pre:=[]) ho).2.2.2;simp only [List.cons_append,aR];split
  ·rename_i y hy;obtain⟨t',u⟩:=y;cases hq:p (pre++f::r).length with
   |false=>rw [cond_false];exact ih
   |true =>
    rw [cond_true];cases hb:Nat.beq t' t with
    |false=>simp only [lkA,hb,cond_false];exact ih
    |true =>
     obtain rfl:=aq hb;have:=hc _ _ hq (okQ_an hpair hy ht);rw [hp] at this;cases this
  ·exact ih
def one (p:Nat->Bool) (i:Nat):Nat->Bool:=λj=>bif Nat.beq j i then true else p j
theorem one_i (p:Nat->Bool) (i:Nat):one p i i=true:=by simp [one]
theorem kX (p:Nat->Bool) {i j:Nat}(h:j≠i):one p i j=p j:=by
 unfold one;cases hb:Nat.beq j i with
 |true=>exact absurd (aq hb) h
 |false=>rfl
theorem aR_lt {b:LO}{p:Nat->Bool}{i:Nat}:∀ {r:List Ef},r.length<=i->aR (one p i) b r=aR p b r
 |[],_=>rfl
 |g::r,h=>by
  simp only [aC] at h;have ih:=aR_lt (b:=b) (p:=p) (i:=i) (r:=r) z2_;simp only [aR,ih,kX p (show r.length≠i by omega)]
theorem tR_lt {b:Nat->Option OE}{p:Nat->Bool}{i k:Nat}:∀ {r:List Ef},r.length<=i->tR (one p i) b k r=tR p b k r
 |[],_=>rfl
 |g::r,h=>by
  simp only [aC] at h;have ih:=tR_lt (b:=b) (p:=p) (i:=i) (k:=k) (r:=r) z2_;simp only [tR,ih,kX p (show r.length≠i by omega)]
theorem uV {ops:Array Oper}{b:LO}{p:Nat->Bool}{base:Nat}{f:Ef}{r:List Ef}{t:Nat}{y:A}(hp:p r.length=false) :
 ∀ {pre:List Ef},okE ops base (pre++f::r)=true->lkA (aR (one p r.length) b (pre++f::r)) t=some y->lkA (f.put (aR p b (pre++f::r))) t=some y
 |[],ho,hy=>by
  simp only [List.nil_append,aR,one_i,cond_true,aR_lt (aL r.length),hp,cond_false,Ef.put] at hy |-
  cases hf:f.dst with
  |none=>rw [hf] at hy;exact hy
  |some z=>rw [hf] at hy;exact hy
 |g::pre,ho,hy=>by
  have hpair:=f4 (pre:=[]) (q:=pre) ho;have h3:=(eV (pre:=[]) ho).2.2.2;have hne:(pre++f::r).length≠r.length:=by simp;omega
  have ih:=λhy=>uV (b:=b) (t:=t) (y:=y) hp h3 hy;simp only [List.cons_append,aR,kX p hne] at hy |-
  cases hz:g.dst with
  |none=>simp only [hz] at hy |-;exact ih hy
  |some z =>
   obtain⟨t',u'⟩:=z;simp only [hz] at hy |-;cases hq:p (pre++f::r).length with
   |false=>rw [hq,cond_false] at hy;rw [cond_false];exact ih hy
   |true =>
    rw [hq,cond_true] at hy;rw [cond_true];simp only [Ef.put] at ih |-
    cases hf:f.dst with
    |none =>
     simp only [hf,lkA] at hy ih |-
     cases hb:Nat.beq t' t with
     |true=>simpa [hb] using hy
     |false=>simp only [hb,cond_false] at hy |-;exact ih hy
    |some z =>
     obtain⟨d,u⟩:=z;have hdt:=okQ_dd hpair hf hz;simp only [hf,lkA] at hy ih |-;cases hb:Nat.beq t' t with
     |true =>
      obtain rfl:=aq hb;have:Nat.beq d t'=false:=by
       cases hc:Nat.beq d t' with
       |true=>have:=aq hc;subst this;simp at hdt
       |false=>rfl
      simp only [hb,cond_true,this,cond_false] at hy |-
      exact hy
     |false =>
      simp only [hb,cond_false] at hy |-
      exact ih hy
theorem tR_none {b:Nat->Option OE}{p:Nat->Bool}{f:Ef}{r:List Ef}{k:Nat}(hf:f.key=none):∀ {pre:List Ef},tR (one p r.length) b k (pre++f::r)=tR p b k (pre++f::r)
 |[]=>by simp only [List.nil_append,tR,hf,tR_lt (aL r.length)]
 |g::pre=>by
  have hne:(pre++f::r).length≠r.length:=by simp;omega
  simp only [List.cons_append,tR,kX p hne,tR_none hf (pre:=pre)]
theorem og {ops:Array Oper}{f g:Ef}{i j k:Nat}{e e':OE}(h:okQ ops g i f j=true) (hg:g.key=some (k,e')) (hf:f.key=some (k,e)):aft ops i j=true:=by
 cases hM:g.isM with
 |true=>have:=okQ_kM h hg hM hf;simp at this
 |false=>exact okQ_kA h hg hM hf
theorem tR_one {ops:Array Oper}{b:Nat->Option OE}{p:Nat->Bool}{base:Nat}{f:Ef}{r:List Ef}{k:Nat}{e:OE}(hf:f.key=some (k,e)) (hp:p r.length=false) (hc:∀ i j,p i=true->aft ops i j=true->p j=true) {k':Nat} :
 ∀ {pre:List Ef},okE ops base (pre++f::r)=true->tR (one p r.length) b k' (pre++f::r)=bif Nat.beq k k' then some e else tR p b k' (pre++f::r)
 |[],ho=>by
  simp only [List.nil_append,tR,hf,one_i,Bool.true_and,tR_lt (aL r.length),hp,Bool.false_and,cond_false]
 |g::pre,ho=>by
  have hpair:=f4 (pre:=[]) (q:=pre) ho;have h3:=(eV (pre:=[]) ho).2.2.2;have hne:(pre++f::r).length≠r.length:=by simp;omega
  have ih:=tR_one (b:=b) hf hp hc (k':=k') h3;simp only [List.cons_append,tR,kX p hne];split
  ·rename_i kg eg hg;cases hq:(p (pre++f::r).length&&Nat.beq kg k') with
   |false=>simp only [cond_false];exact ih
   |true =>
    simp only [cond_true];rw [Bool.and_eq_true] at hq;cases hb:Nat.beq k k' with
    |false=>rfl
    |true =>
     exfalso;obtain rfl:=aq hb;obtain rfl:=aq hq.2;have:=hc _ _ hq.1 (og hpair hg hf);rw [hp] at this;cases this
  ·exact ih
theorem lkO_mem {o:LQ}{k:Nat}{e:OE}(h:lkO o k=some e):(k,e)∈o:=by
 induction o with
 |nil=>cases h
 |cons y r ih =>
  obtain⟨i,u⟩:=y;simp only [lkO] at h;cases hb:Nat.beq i k with
  |true=>obtain rfl:=aq hb;simp only [hb,cond_true,aB] at h;subst h;exact aK ..
  |false=>simp only [hb,cond_false] at h;exact aP _ (ih h)
def NdO (o:LQ):Prop:=(o.map (·.1)).Nodup
theorem lkO_of {o:LQ}(hn:NdO o) {k:Nat}{e:OE}(h:(k,e)∈o):lkO o k=some e:=by
 induction o with
 |nil=>cases h
 |cons y r ih =>
  obtain⟨i,u⟩:=y;simp only [NdO,List.map_cons,List.nodup_cons] at hn;simp only [lkO];cases h with
  |head=>simp
  |tail _ h =>
   have:i≠k:=λe'=>hn.1 (List.mem_map.2 ⟨_,h,e'.symm⟩);cases hb:Nat.beq i k with
   |true=>exact absurd (aq hb) this
   |false=>exact ih hn.2 h
theorem sw {o:LQ}{k:Nat}{y:Nat×OE}(h:y∈delO o k):y∈o:=by
 induction o with
 |nil=>exact h
 |cons z r ih =>
  obtain⟨i,u⟩:=z;simp only [delO] at h;cases hb:Nat.beq i k with
  |true=>simp only [hb,cond_true] at h;exact aP _ h
  |false =>
   simp only [hb,cond_false] at h;cases h with
   |head=>exact aK ..
   |tail _ h=>exact aP _ (ih h)
theorem del_nd {o:LQ}{k:Nat}(hn:NdO o):NdO (delO o k)/\∀ e,(k,e) ∉ delO o k:=by
 induction o with
 |nil=>exact⟨hn,λe h=>by cases h⟩
 |cons z r ih =>
  obtain⟨i,u⟩:=z;simp only [NdO,List.map_cons,List.nodup_cons] at hn;obtain⟨h1,h2⟩:=ih hn.2;simp only [delO];cases hb:Nat.beq i k with
  |true =>
   obtain rfl:=aq hb;exact⟨hn.2,λe h=>hn.1 (List.mem_map.2 ⟨_,h,U⟩)⟩
  |false =>
   refine⟨?_,λe h=>?_⟩
   ·simp only [cond_false,NdO,List.map_cons,List.nodup_cons];refine⟨λhm=>?_,h1⟩;obtain⟨y,hy,e⟩:=List.mem_map.1 hm;exact hn.1 (List.mem_map.2 ⟨y,sw hy,e⟩)
   ·simp only [cond_false] at h;cases h with
    |head=>simp at hb
    |tail _ h=>exact h2 e h
theorem si {o:LQ}{k k':Nat}(hk:k≠k'):lkO (delO o k) k'=lkO o k':=by
 induction o with
 |nil=>rfl
 |cons z r ih =>
  obtain⟨i,u⟩:=z;simp only [delO,lkO];cases hb:Nat.beq i k with
  |true =>
   obtain rfl:=aq hb;cases hc:Nat.beq i k' with
   |true=>exact absurd (aq hc) hk
   |false=>rfl
  |false =>
   simp only [cond_false,lkO];cases Nat.beq i k' with
   |true=>rfl
   |false=>exact ih
theorem wkO_of:∀ {o' o:LQ},NdO o'->(∀ k e,(k,e)∈o'->lkO o k=some e)->WkO o' o
 |[],_,_,_=>trivial
 |(k,e)::r,o,hn,h=>by
  simp only [NdO,List.map_cons,List.nodup_cons] at hn;refine⟨h k e (aK ..),wkO_of hn.2 λk' e' hm=>?_⟩;rw [si (λhe=>hn.1 (List.mem_map.2 ⟨_,hm,he.symm⟩))];exact h k' e' (aP _ hm)
theorem oS_ok {ops:Array Oper}{base:Nat}{b:LQ}(hb:NdO b) (hk:∀ k e,(k,e)∈b->k<base):∀ {es:List Ef},okE ops base es=true->NdO (oS b es)/\∀ k,lkO (oS b es) k=tR allT (lkO b) k es/\((∃ e,(k,e)∈oS b es)->k<base\/∃ f∈es,∃ e,f.key=some (k,e))
 |[],_=>⟨hb,λk=>⟨U,λ⟨e,h⟩=>.inl (hk k e h)⟩⟩
 |f::r,ho=>by
  obtain⟨h1,h2,_,h3⟩:=eV (pre:=[]) ho;obtain⟨i1,i2⟩:=oS_ok hb hk h3;have i3:∀ k,(∃ e,(k,e)∈oS b r)->k<base\/∃ f'∈f::r,∃ e,f'.key=some (k,e):=λk h=>by
   rcases(i2 k).2 h with h|⟨f',hf',h⟩
   ·exact .inl h
   ·exact .inr ⟨f',aP _ hf',h⟩
  cases hf:f.key with
  |none =>
   simp only [oS,hf,tR];exact⟨i1,λk=>⟨(i2 k).1,i3 k⟩⟩
  |some y =>
   obtain⟨k,e⟩:=y;cases hM:f.isM with
   |true =>
    simp only [oS,hf,hM,tR];have hnew:∀ e',(k,e') ∉ oS b r:=λe' hm=>by
     rcases(i2 k).2 ⟨e',hm⟩ with h|⟨f',hf',e'',h⟩
     ·have:=okF_ge h2 (tL h2 hf hM);omega
     ·obtain⟨q,r',rfl⟩:=List.append_of_mem hf';have:=okQ_kM (okP_at h1) hf hM h;simp at this
    refine⟨?_,λk'=>⟨?_,λ⟨e',hm⟩=>?_⟩⟩
    ·simp only [NdO,List.map_cons,List.nodup_cons];exact⟨λhm=>by obtain⟨⟨_,e'⟩,hy,rfl⟩:=List.mem_map.1 hm;exact hnew e' hy,i1⟩
    ·simp only [lkO,allT,Bool.true_and];rw [(i2 k').1];try rfl
    ·cases hm with
     |head=>exact .inr ⟨f,aK ..,e,hf⟩
     |tail _ hm=>exact i3 k' ⟨e',hm⟩
   |false =>
    simp only [oS,hf,hM,tR];obtain⟨d1,d2⟩:=del_nd (k:=k) i1;refine⟨?_,λk'=>⟨?_,λ⟨e',hm⟩=>?_⟩⟩
    ·simp only [NdO,List.map_cons,List.nodup_cons];exact⟨λhm=>by obtain⟨⟨_,e'⟩,hy,rfl⟩:=List.mem_map.1 hm;exact d2 e' hy,d1⟩
    ·simp only [lkO,allT,Bool.true_and];cases hb:Nat.beq k k' with
     |true=>rfl
     |false =>
      simp only [cond_false];rw [si (λhh=>by subst hh;simp at hb),(i2 k').1];try rfl
    ·cases hm with
     |head=>exact .inr ⟨f,aK ..,e,hf⟩
     |tail _ hm=>exact i3 k' ⟨e',sw hm⟩
theorem memO_kA {x:A}{m:Nat}(h:memO (nmA x) m=true):kA x=m+1:=by
 cases x<;>simp only [nmA,memO,kA] at h |-<;>first|(rw [aq h])|cases h
theorem kA_memO {x:A}{m:Nat}(h:kA x=m+1):memO (nmA x) m=true:=by
 cases x with
 |own i f=>simp only [kA] at h;obtain rfl:i=m:=z2_;simp [nmA,memO]
 |row i=>simp only [kA] at h;obtain rfl:i=m:=z2_;simp [nmA,memO]
 |recr l i=>simp only [kA] at h;obtain rfl:i=m:=z2_;simp [nmA,memO]
 |mp i=>simp only [kA] at h;obtain rfl:i=m:=z2_;simp [nmA,memO]
 |d _=>simp [kA] at h
 |any=>simp [kA] at h
theorem memL_mem {l:List A}{m:Nat}{x:A}(h:memL l m=false) (hx:x∈l):kA x≠m+1:=λhe=>by
 induction l with
 |nil=>cases hx
 |cons y r ih =>
  simp only [memL] at h;cases hm:memO (nmA y) m with
  |true=>rw [hm] at h;cases h
  |false =>
   rw [hm,cond_false] at h;cases hx with
   |head=>rw [kA_memO he] at hm;cases hm
   |tail _ hx=>exact ih h hx
theorem memE_le {k:Nat}{e:OE}(h:kE e<=k):memE e k=false:=by
 cases e with
 |var t cs =>
  simp only [kE] at h;simp only [memE]
  induction cs with
  |nil=>rfl
  |cons x r ih =>
   simp only [topL] at h;have a1:=mx_l (kA x) (topL r);have a2:=mx_r (kA x) (topL r);simp only [memL];cases hm:memO (nmA x) k with
   |true=>have:=memO_kA hm;omega
   |false=>exact ih z2_
 |rowv v t d =>
  simp only [kE] at h;simp only [memE];cases hb:Nat.beq v k with
  |true=>have:=aq hb;omega
  |false=>rfl
 |pin v b =>
  simp only [kE] at h;simp only [memE];cases hb:Nat.beq v k with
  |true=>have:=aq hb;omega
  |false=>rfl
 |_=>rfl
theorem t7 {o:LQ}{k:Nat}{e:OE}(h:(k,e)∈o):k<topO o/\kE e<=topO o:=by
 induction o with
 |nil=>cases h
 |cons y r ih =>
  obtain⟨i,u⟩:=y;simp only [topO];have a1:=mx_l (mx (i+1) (kE u)) (topO r);have a2:=mx_r (mx (i+1) (kE u)) (topO r);have a3:=mx_l (i+1) (kE u);have a4:=mx_r (i+1) (kE u);cases h with
  |head=>exact⟨by omega,by omega⟩
  |tail _ h=>have:=ih h;exact⟨by omega,by omega⟩
def Rho.ofk (ρ ρ':Rho) (k:Nat):Prop:=∀ i,i≠k->ρ.b i=ρ'.b i/\ρ.a i=ρ'.a i/\ρ.c i=ρ'.c i/\ρ.n i=ρ'.n i
theorem Rho.ofk_setB (ρ:Rho) (k b:Nat):ρ.ofk (ρ.setB k b) k:=λi hi=>⟨by simp [Rho.setB,hi],U,U,U⟩
theorem Rho.ofk_setR (ρ:Rho) (k:Nat) (a:OA) (c n:Nat):ρ.ofk (ρ.setR k a c n) k:=λi hi=>by simp [Rho.setR,hi]
def FrA (k:Nat) (a:LO):Prop:=∀ t y,lkA a t=some y->kA y≠k+1
def FrO (k:Nat) (o:LQ):Prop:=∀ i e,(i,e)∈o->i≠k/\memE e k=false
theorem FrO.del {k k':Nat}{o:LQ}(h:FrO k o):FrO k (delO o k'):=λi e hm=>h i e (sw hm)
section
variable {P:Program} [Tb P] {ρ ρ':Rho}{h:Part}{k:Nat}{a:LO}{o:LQ}{S:Sig}{L:LE}
theorem DenA.fresh (w:ρ.ofk ρ' k) {x:A}{v:Value}(hk:kA x≠k+1) (q:DenA ρ h x v):DenA ρ' h x v:=by
 cases x with
 |d d=>exact q
 |own i off =>
  obtain⟨e,_⟩:=w i (λe=>hk (by rw [e];rfl));simp only [DenA] at q |-;rw [<- e];exact q
 |row i =>
  obtain⟨_,e1,e2,e3⟩:=w i (λe=>hk (by rw [e];rfl));simp only [DenA] at q |-;rw [<- e1,<- e2,<- e3];exact q
 |recr l i =>
  obtain⟨_,e1,e2,e3⟩:=w i (λe=>hk (by rw [e];rfl));simp only [DenA] at q |-;rw [<- e1,<- e2,<- e3];exact q
 |mp i =>
  obtain⟨e,_⟩:=w i (λe=>hk (by rw [e];rfl));simp only [DenA] at q |-;rw [<- e];exact q
 |any=>trivial
theorem DenAL.fresh (w:ρ.ofk ρ' k):∀ {l:List A}{cs:LV},(∀ x∈l,kA x≠k+1)->DenAL ρ h l cs->DenAL ρ' h l cs
 |[],_,_,q=>q
 |x::r,cs,hn,⟨v,t,e,h1,h2,h3⟩=>⟨v,t,e,h1,h2.fresh w (hn x (aK ..)),DenAL.fresh w (λy hy=>hn y (aP _ hy)) h3⟩
theorem DenE.fresh (w:ρ.ofk ρ' k) {i:Nat}{e:OE}{x:Ent}(hi:i≠k) (hn:memE e k=false) (q:DenE ρ h i e x):DenE ρ' h i e x:=by
 obtain⟨e1,e2,e3,e4⟩:=w i hi;cases e with
 |var t cs=>obtain⟨vs,rfl,hv⟩:=q;exact⟨vs,by rw [e1],hv.fresh w (λx hx=>memL_mem hn hx)⟩
 |whl t d'=>obtain⟨vs,rfl,hv⟩:=q;exact⟨vs,by rw [e1],hv⟩
 |row t d'=>obtain⟨xs,sz,rfl,hv⟩:=q;exact⟨xs,sz,by rw [e2,e3,e4],by rw [<- e4];exact hv⟩
 |rowv v t d' =>
  obtain⟨_,g2,g3,g4⟩:=w v (λe=>by subst e;simp [memE] at hn);obtain⟨xs,sz,rfl,hv⟩:=q;exact⟨xs,sz,by rw [g2,g3,g4],by rw [<- g4];exact hv⟩
 |pin v b =>
  obtain⟨g1,_⟩:=w v (λe=>by subst e;simp [memE] at hn);exact⟨by rw [<- g1];exact q.1,q.2⟩
 |set es=>obtain⟨arr,cl,rfl,hv⟩:=q;exact⟨arr,cl,by rw [e1],hv⟩
theorem DenO.fresh (w:ρ.ofk ρ' k):∀ {o:LQ}{L:LE},FrO k o->DenO ρ h o L->DenO ρ' h o L
 |[],_,_,q=>q
 |(i,e)::r,L,hn,⟨x,L',e1,h1,h2⟩=>by
  obtain⟨n1,n2⟩:=hn i e (aK ..);exact⟨x,L',e1,h1.fresh w n1 n2,DenO.fresh w (λi' e' hm=>hn i' e' (aP _ hm)) h2⟩
theorem Cz.fresh (w:ρ.ofk ρ' k) (hA:FrA k a) (hO:FrO k o) (c:Cz P ρ h a o S L):Cz P ρ' h a o S L :=
 ⟨c.t,λt x hx=>by obtain⟨v,h1,h2⟩:=c.s t x hx;exact⟨v,h1,h2.fresh w (hA t x hx)⟩,c.o.fresh w hO⟩
end
def topoB (ops:Array Oper):Nat->LR->Bool
 |_,[]=>true
 |i,o::r=>(o.after.toList.all λe=>!Region.binds .any e||Nat.blt e.on i)&&topoB ops (i+1) r
theorem sZ {ops:Array Oper}:∀ {l:LR}{i:Nat},topoB ops i l=true->∀ {j:Nat}{o:Oper},l[j]?=some o->∀ e∈o.after,Region.binds .any e=true->e.on<i+j
 |[],i,_,j,o,h,_,_,_=>by simp at h
 |p::r,i,ht,j,o,h,e,he,hb=>by
  simp only [topoB,Bool.and_eq_true] at ht;cases j with
  |zero =>
   simp only [List.getElem?_cons_zero,aB] at h;subst h;have:=List.all_eq_true.1 ht.1 e (by simpa using he);simp only [hb,Bool.not_true,Bool.false_or] at this;simpa using this
  |succ j =>
   simp only [List.getElem?_cons_succ] at h;have:=sZ ht.2 h e he hb;omega
def Obl (P:Program) [Tb P] (F:Fd) (ops:Array Oper) (x:Nat->PostD) (b:LO) (ob:LQ) (r:List Ef) (f:Ef) (op:Oper):Prop :=
 ∃ Au,keepA f.us (aR allT b r)=some Au/\match f.key with
 |none=>match f.rd with
  |none=>∀ (n:PostD) A' O',WkA Au A'->n (f.put A') O'->JLD P F ops n x [op] A' O'
  |some k=>∃ e0,lkO (oS ob r) k=some e0/\∀ (n:PostD) A' O',WkA Au A'->lkO O' k=some e0->n (f.put A') O'->JLD P F ops n x [op] A' O'
 |some (k,e)=>match f.isM with
  |true=>∀ (n:PostD) A' O',WkA Au A'->FrA k A'->FrO k O'->n (f.put A') ((k,e)::O')->JLD P F ops n x [op] A' O'
  |false=>∃ e0,lkO (oS ob r) k=some e0/\∀ (n:PostD) A' O',WkA Au A'->lkO O' k=some e0->(∀ m,f.new=some m->FrA m A'/\FrO m O')->n (f.put A') ((k,e)::delO O' k)->JLD P F ops n x [op] A' O'
def Obls (P:Program) [Tb P] (F:Fd) (ops:Array Oper) (x:Nat->PostD) (b:LO) (ob:LQ):List Ef->Prop
 |[]=>True
 |f::r=>(∃ op,ops[r.length]?=some op/\Obl P F ops x b ob r f op)/\Obls P F ops x b ob r
theorem qY {f:Fr}{ops:Array Oper}{n n':Post}{x:Nat->Post}{i:Nat}{o:Oper}{a:Act}{w:World}{K:Act->World->Prop}(hi:ops[i]?=some o) (hk:wpList f.P ops (f.Q n' x) [o] a w) (fin:∀ a w,f.Q n' x .normal a w->K a w):wpOp f.P ops (f.Q n x) i K a w:=by
 unfold wpList at hk;unfold wpOp;simp only [hi];split
 ·rename_i hw;rw [if_pos hw] at hk;rcases hk with hk|⟨_,a',w',hh⟩
  ·exact .inl (sU (λa w hq=>fin a w (by simpa [wpList] using hq)) (λc a w hq=>hq) (λa w hh=>hh) hk)
  ·exact hh.elim
 ·rename_i hw;rw [if_neg hw] at hk;exact fin _ _ (by simpa [wpList] using hk)
def cnt (l:Array Bool):Nat:=(l.toList.filter (!·)).length
theorem cnt_set {l:Array Bool}{i:Nat}(h:l.getD i true=false):cnt (l.setIfInBounds i true)+1=cnt l:=by
 obtain⟨l⟩:=l;simp only [cnt,List.setIfInBounds_toArray];have h':l[i]?=some false:=by
  cases hh:l[i]? with
  |none=>simp [hh] at h
  |some b=>simp [hh] at h;rw [h]
 clear h
 induction l generalizing i with
 |nil=>simp at h'
 |cons b r ih =>
  cases i with
  |zero=>simp only [List.getElem?_cons_zero,aB] at h';subst h';simp
  |succ i =>
   simp only [List.getElem?_cons_succ] at h';have:=ih h';cases b<;>simp at this |-<;>omega
theorem cnt_zero {l:Array Bool}(h:cnt l=0) (i:Nat):l.getD i true=true:=by
 obtain⟨l⟩:=l;simp only [cnt] at h;have h2:=List.eq_nil_of_length_eq_zero h;rw [List.filter_eq_nil_iff] at h2;cases hh:l[i]? with
 |none=>simp [hh]
 |some b=>have:=h2 b (List.mem_of_getElem? hh);simp [hh];simpa using this
def pOf (l:Array Bool):Nat->Bool:=λi=>l.getD i false
section
variable {P:Program} [Tb P] {F:Fd}{n:PostD}{x:Nat->PostD}{a:LO}{o:LQ}{l:LR}{es:List Ef}{base:Nat}
theorem obls_at {ops:Array Oper}:∀ {es:List Ef},Obls P F ops x a o es->∀ {i:Nat},i<es.length->∃ pre f r,es=pre++f::r/\r.length=i/\∃ op,ops[i]?=some op/\Obl P F ops x a o r f op
 |[],_,i,hi=>by simp at hi
 |f::r,ho,i,hi=>by
  rcases Nat.lt_or_ge i r.length with h|h
  ·obtain⟨pre,f',r',e1,e2,h3⟩:=obls_at ho.2 h;exact⟨f::pre,f',r',by rw [e1];rfl,e2,h3⟩
  ·have:r.length=i:=by simp at hi;omega
   subst this;exact⟨[],f,r,U,U,ho.1⟩
end
theorem suf {α:Type _}{pre pre':List α}{f f':α}{r r':List α}(h:pre++f::r=pre'++f'::r') (hl:r.length<r'.length):∃ q,r'=q++f::r:=by
 have h1:(f::r) <:+ (pre++f::r):=⟨pre,U⟩;have h2:r' <:+ (pre++f::r):=⟨pre'++[f'],by rw [h];simp⟩;obtain⟨q,hq⟩:=List.suffix_of_suffix_length_le h1 h2 (by simp;omega);exact⟨q,hq.symm⟩
theorem aR_at {p:Nat->Bool}{b:LO}:∀ {es:List Ef}{t:Nat}{y:A},lkA (aR p b es) t=some y->lkA b t=some y\/∃ pre f r t',es=pre++f::r/\f.dst=some (t',y)/\p r.length=true
 |[],t,y,h=>.inl h
 |f::r,t,y,h=>by
  have rest:lkA (aR p b r) t=some y->lkA b t=some y\/∃ pre f' r' t',f::r=pre++f'::r'/\f'.dst=some (t',y)/\p r'.length=true:=λh=>by
   rcases aR_at h with h|⟨pre,f',r',t',e1,e2⟩
   ·exact .inl h
   ·exact .inr ⟨f::pre,f',r',t',by rw [e1];rfl,e2⟩
  simp only [aR] at h;split at h
  ·rename_i z hz;obtain⟨d,u⟩:=z;cases hp:p r.length with
   |false=>rw [hp,cond_false] at h;exact rest h
   |true =>
    rw [hp,cond_true] at h;simp only [lkA] at h;cases hb:Nat.beq d t with
    |true=>simp only [hb,cond_true,aB] at h;subst h;exact .inr ⟨[],f,r,d,U,hz,hp⟩
    |false=>simp only [hb,cond_false] at h;exact rest h
  ·exact rest h
theorem tR_at {b:Nat->Option OE}{p:Nat->Bool}{k:Nat}{e:OE}:∀ {es:List Ef},tR p b k es=some e->b k=some e\/∃ pre f r,es=pre++f::r/\f.key=some (k,e)/\p r.length=true
 |[],h=>.inl h
 |f::r,h=>by
  have rest:tR p b k r=some e->b k=some e\/∃ pre f' r',f::r=pre++f'::r'/\f'.key=some (k,e)/\p r'.length=true:=λh=>by
   rcases tR_at h with h|⟨pre,f',r',e1,e2⟩
   ·exact .inl h
   ·exact .inr ⟨f::pre,f',r',by rw [e1];rfl,e2⟩
  simp only [tR] at h;split at h
  ·rename_i k' e' hk;cases hq:(p r.length&&Nat.beq k' k) with
   |true =>
    rw [hq,cond_true] at h;cases h;rw [Bool.and_eq_true] at hq;obtain rfl:=aq hq.2;exact .inr ⟨[],f,r,U,hk,hq.1⟩
   |false=>rw [hq,cond_false] at h;exact rest h
  ·exact rest h
theorem no_new {ops:Array Oper}{p:Nat->Bool}{base m:Nat}{f f':Ef}{r r' pre pre':List Ef}(chk:okE ops base (pre++f::r)=true) (hf:f.new=some m) (hp:p r.length=false) (hc:∀ i j,p i=true->aft ops i j=true->p j=true)
 (hes:pre++f::r=pre'++f'::r') (hp':p r'.length=true):f'.says m=false/\f'.new≠some m:=by
 rcases Nat.lt_trichotomy r.length r'.length with h|h|h
 ·obtain⟨q,rfl⟩:=suf hes h;rw [hes] at chk;have pr:=f4 chk;refine⟨?_,λhn=>by have:=tK pr hf hn;simp at this⟩;cases hs:f'.says m with
  |false=>rfl
  |true=>have:=hc _ _ hp' (okQ_nm pr hf hs);rw [hp] at this;cases this
 ·rw [h,hp'] at hp;cases hp
 ·obtain⟨q,rfl⟩:=suf hes.symm h;have pr:=f4 chk;exact⟨okQ_no pr hf,λhn=>by have:=tK pr hn hf;simp at this⟩
theorem no_key {ops:Array Oper}{p:Nat->Bool}{base m i:Nat}{f f':Ef}{r r' pre pre':List Ef}{e':OE}(chk:okE ops base (pre++f::r)=true) (hf:f.new=some m) (hp:p r.length=false) (hc:∀ i j,p i=true->aft ops i j=true->p j=true)
 (hes:pre++f::r=pre'++f'::r') (hk:f'.key=some (i,e')) (hp':p r'.length=true):i≠m:=λhim=>by
 subst him;have hn:=(no_new chk hf hp hc hes hp').2;have chk':=chk;rw [hes] at chk';obtain⟨_,h2,h3,h4⟩:=eV chk';have hbm:=okF_ge (eV chk).2.1 hf;cases hM:f'.isM with
 |true=>exact hn (tL h2 hk hM)
 |false =>
  simp only [okK,hk,hM,Bool.false_or,Bool.or_eq_true] at h3;rcases h3 with h3|h3
  ·have:i<base:=by simpa using h3
   omega
  ·obtain⟨g,hg,h5⟩:=List.any_eq_true.1 h3;rw [Bool.and_eq_true] at h5;obtain⟨q2,r2,rfl⟩:=List.append_of_mem hg;cases hgk:g.key with
   |none=>rw [hgk] at h5;simp at h5
   |some y =>
    obtain⟨k',e2⟩:=y;rw [hgk] at h5;obtain rfl:=aq h5.2;have hgn:=tL (eV h4).2.1 hgk h5.1;have hes2:pre++f::r=(pre'++f'::q2)++g::r2:=by rw [hes];simp
    rcases Nat.lt_trichotomy r.length r2.length with h|h|h
    ·obtain⟨q,rfl⟩:=suf hes2 h;rw [hes2] at chk;have:=tK (f4 chk) hf hgn;simp at this
    ·have:=hc _ _ hp' (og (f4 chk') hk hgk);rw [<- h,hp] at this;cases this
    ·obtain⟨q,rfl⟩:=suf hes2.symm h;have:=tK (f4 chk) hgn hf;simp at this
theorem t8 {ops:Array Oper}{b:Nat->Option OE}{p:Nat->Bool}{base:Nat}{f:Ef}{r:List Ef}{k:Nat}{e:OE}(hf:f.key=some (k,e)) (hM:f.isM=false) (hp:p r.length=false) (hd:∀ j,aft ops r.length j=true->p j=true) (hc:∀ i j,p i=true->aft ops i j=true->p j=true) :
 ∀ {pre:List Ef},okE ops base (pre++f::r)=true->tR p b k (pre++f::r)=tR allT b k r
 |[],ho=>by
  have hfo:=(eV ho).1;have e0:tR p b k (f::r)=tR p b k r:=by simp only [tR,hf,hp,Bool.false_and,cond_false]
  rw [List.nil_append,e0];clear ho e0;have key:∀ q,okP ops f r.length q=true->tR p b k q=tR allT b k q:=by
   intro q
   induction q with
   |nil=>intro _;rfl
   |cons g q ih =>
    intro ho;simp only [okP,Bool.and_eq_true] at ho;have ih:=ih ho.2;simp only [tR];split
    ·rename_i k' e' hg;simp only [allT,Bool.true_and];cases hb:Nat.beq k' k with
     |false=>simp only [Bool.and_false,cond_false];exact ih
     |true =>
      obtain rfl:=aq hb;rw [hd _ (okQ_kA ho.1 hf hM hg)];rfl
    ·exact ih
  exact key r hfo
 |g::pre,ho=>by
  have hpair:=f4 (pre:=[]) (q:=pre) ho;have ih:=t8 (b:=b) hf hM hp hd hc (eV (pre:=[]) ho).2.2.2;simp only [List.cons_append,tR];split
  ·rename_i k' e' hg;cases hq:(p (pre++f::r).length&&Nat.beq k' k) with
   |false=>rw [cond_false];exact ih
   |true =>
    exfalso;rw [Bool.and_eq_true] at hq;obtain rfl:=aq hq.2;have:=hc _ _ hq.1 (og hpair hg hf);rw [hp] at this;cases this
  ·exact ih
theorem tn {ops:Array Oper}{b:Nat->Option OE}{p:Nat->Bool}{base:Nat}{f:Ef}{r:List Ef}{k:Nat}(hf:f.rd=some k) (hp:p r.length=false) (hd:∀ j,aft ops r.length j=true->p j=true) (hc:∀ i j,p i=true->aft ops i j=true->p j=true) :
 ∀ {pre:List Ef},f.key=none->okE ops base (pre++f::r)=true->tR p b k (pre++f::r)=tR allT b k r
 |[],hn,ho=>by
  have hfo:=(eV ho).1;have e0:tR p b k (f::r)=tR p b k r:=by simp only [tR,hn]
  rw [List.nil_append,e0];clear ho e0;have key:∀ q,okP ops f r.length q=true->tR p b k q=tR allT b k q:=by
   intro q
   induction q with
   |nil=>intro _;rfl
   |cons g q ih =>
    intro ho;simp only [okP,Bool.and_eq_true] at ho;have ih:=ih ho.2;simp only [tR];split
    ·rename_i k' e' hg;simp only [allT,Bool.true_and];cases hb:Nat.beq k' k with
     |false=>simp only [Bool.and_false,cond_false];exact ih
     |true =>
      obtain rfl:=aq hb;rw [rch_dep hc hd _ (okQ_rk ho.1 hf hg)];rfl
    ·exact ih
  exact key r hfo
 |g::pre,hn,ho=>by
  have hpair:=f4 (pre:=[]) (q:=pre) ho;have ih:=tn (b:=b) hf hp hd hc hn (eV (pre:=[]) ho).2.2.2;simp only [List.cons_append,tR];split
  ·rename_i k' e' hg;cases hq:(p (pre++f::r).length&&Nat.beq k' k) with
   |false=>rw [cond_false];exact ih
   |true =>
    exfalso;rw [Bool.and_eq_true] at hq;obtain rfl:=aq hq.2;have:=rch_ok hc _ _ hq.1 (okQ_kr hpair hf hg);rw [hp] at this;cases this
  ·exact ih
theorem ud:∀ {us:List Nat}{B Au A':LO},keepA us B=some Au->(∀ t,memN us t=true->lkA A' t=lkA B t)->WkA Au A'
 |[],B,Au,A',h,_=>by simp only [keepA,aB] at h;subst h;exact trivial
 |t::us,B,Au,A',h,hl=>by
  simp only [keepA] at h;split at h
  ·rename_i v a1 hv h1;cases h;refine⟨(hl t (by simp [memN])).trans hv,ud h1 λs hs=>hl s ?_⟩;simp only [memN];cases Nat.beq t s with
   |true=>rfl
   |false=>exact hs
  ·cases h
theorem aR_all {p:Nat->Bool}{b:LO}:∀ {es:List Ef},(∀ i,i<es.length->p i=true)->aR p b es=aR allT b es
 |[],_=>rfl
 |f::r,h=>by
  have ih:=aR_all (b:=b) (p:=p) (es:=r) (λi hi=>h i (by simp;omega));simp only [aR,ih,h r.length (by simp),allT]
theorem tR_all {p:Nat->Bool}{b:Nat->Option OE}{k:Nat}:∀ {es:List Ef},(∀ i,i<es.length->p i=true)->tR p b k es=tR allT b k es
 |[],_=>rfl
 |f::r,h=>by
  have ih:=tR_all (b:=b) (k:=k) (p:=p) (es:=r) (λi hi=>h i (by simp;omega));simp only [tR,ih,h r.length (by simp),allT]
theorem pOf_set {l:Array Bool}{i:Nat}(hi:i<l.size):pOf (l.setIfInBounds i true)=one (pOf l) i:=by
 funext j
 unfold pOf one;cases hb:Nat.beq j i with
 |true=>obtain rfl:=aq hb;simp [hi]
 |false =>
  have:i≠j:=λe=>by subst e;simp at hb
  simp [Array.getElem?_setIfInBounds_ne this]
section
variable {P:Program} [Tb P] {F:Fd}{n:PostD}{x:Nat->PostD}{a:LO}{o:LQ}{l:LR}{es:List Ef}{base:Nat}
theorem drw_go (hlen:es.length=l.length) (htopo:topoB l.toArray 0 l=true) (chk:okE l.toArray base es=true) (hA:topA a<=base) (hO:topO o<=base) (hnd:NdO o) (ob:Obls P F l.toArray x a o es) (k:n (aR allT a es) (oS o es)) :
 ∀ (fuel:Nat) (listed:Array Bool) (ac:Act) (w:World),cnt listed=fuel->listed.size=l.length->(∀ i j,pOf listed i=true->aft l.toArray i j=true->pOf listed j=true) ->
 (∃ ρ h S L O',Sat (F.fr P).e (F.fr P).m S h L ac w/\Cz P ρ h (aR (pOf listed) a es) O' S L/\NdO O'/\∀ k,lkO O' k=tR (pOf listed) (lkO o) k es)->wpAny P .any l.toArray ((F.fr P).Q (up P n) (λi=>up P (x i))) fuel listed ac w:=by
 have hkb:∀ k e,(k,e)∈o->k<base:=λk e hm=>Nat.lt_of_lt_of_le (t7 hm).1 hO;have done:∀ (listed:Array Bool) (ac:Act) (w:World),listed.size=l.length->Region.ready .any l.toArray listed=[]->(∃ ρ h S L O',Sat (F.fr P).e (F.fr P).m S h L ac w/\Cz P ρ h (aR (pOf listed) a es) O' S L/\NdO O'/\∀ k,lkO O' k=tR (pOf listed) (lkO o) k es)->(F.fr P).Q (up P n) (λi=>up P (x i)) .normal ac w:=by
  rintro listed ac w hsz hready ⟨ρ,h,S,L,O',s,cz,hn,ht⟩;have all:∀ i,i<l.length->pOf listed i=true:=by
   intro i
   induction i using Nat.strongRecOn with
   |_ i ih =>
    intro hi;cases hq:pOf listed i with
    |true=>rfl
    |false =>
     exfalso;have:i∈Region.ready .any l.toArray listed:=by
      rw [mem_ready];refine⟨?_,l[i],by simp [hi],λe he hb=>?_⟩
      ·unfold pOf at hq;have:i<listed.size:=by omega
       simp [this] at hq |-;exact hq
      ·have:=sZ htopo (j:=i) (o:=l[i]) (by simp [hi]) e he hb;exact ih e.on z2_ z2_
     rw [hready] at this;cases this
  have all':∀ i,i<es.length->pOf listed i=true:=λi hi=>all i z2_;rw [aR_all all'] at cz;obtain⟨n1,n2⟩:=oS_ok hnd hkb chk;have hw:WkO (oS o es) O':=wkO_of n1 λk e hm=>by
   rw [ht k,tR_all all',<- (n2 k).1];exact lkO_of n1 hm
  obtain⟨L',Lr,p1,p2⟩:=hw.den cz.o;exact⟨S,h,L',s.with (p1.ok w s.ok),ρ,_,_,⟨cz.t,cz.s,p2⟩,k⟩
 intro fuel
 induction fuel with
 |zero =>
  intro listed ac w hcnt hsz hcl hinv;have hready:Region.ready .any l.toArray listed=[]:=by
   rw [List.eq_nil_iff_forall_not_mem];intro i hi;have:=(mem_ready.1 hi).1;rw [cnt_zero hcnt i] at this;cases this
  exact⟨hready,done listed ac w hsz hready hinv⟩
 |succ fuel ih =>
  intro listed ac w hcnt hsz hcl hinv;refine⟨λhready=>done listed ac w hsz hready hinv,λi hi=>?_⟩;obtain⟨hi0,op,hop,hdeps⟩:=mem_ready.1 hi;have hiN:i<listed.size:=by
   rcases Nat.lt_or_ge i listed.size with h|h
   ·exact h
   ·simp [Array.getElem?_eq_none h] at hi0
  have hpi:pOf listed i=false:=by unfold pOf;simp [hiN] at hi0 |-;exact hi0
  have hda:∀ j,aft l.toArray i j=true->pOf listed j=true:=λj hj=>by
   unfold aft at hj;rw [hop] at hj;obtain⟨e,he,h2⟩:=List.any_eq_true.1 hj;rw [Bool.and_eq_true] at h2;have:=aq h2.1;rw [<- this];exact hdeps e (by simpa using he) h2.2
  obtain⟨pre,f,r,hes,hri,op',hop',hob⟩:=obls_at ob (show i<es.length by omega);rw [hop] at hop';cases hop';subst hri;have hsets:pOf (listed.setIfInBounds r.length true)=one (pOf listed) r.length:=pOf_set hiN;have next:∀ ac w,(∃ ρ h S L O',Sat (F.fr P).e (F.fr P).m S h L ac w/\Cz P ρ h (aR (one (pOf listed) r.length) a es) O' S L/\NdO O'/\∀ k,lkO O' k=tR (one (pOf listed) r.length) (lkO o) k es)->wpAny P .any l.toArray ((F.fr P).Q (up P n) (λi=>up P (x i))) fuel (listed.setIfInBounds r.length true) ac w:=λac w hv=>by
   refine ih _ ac w (by have:=cnt_set hi0;omega) (by simp [hsz]) ?_ (by rw [hsets];exact hv);rw [hsets];intro i' j hi' hj;by_cases hij:i'=r.length
   ·subst hij;have:=hda j hj;by_cases hjr:j=r.length
    ·rw [hjr];exact one_i _ _
    ·rw [kX _ hjr];exact this
   ·rw [kX _ hij] at hi';have:=hcl i' j hi' hj;by_cases hjr:j=r.length
    ·rw [hjr];exact one_i _ _
    ·rw [kX _ hjr];exact this
  obtain⟨ρ,h,S,L,O',s,cz,hn,ht⟩:=hinv;obtain⟨Au,hAu,hob⟩:=hob;subst hes;have hwk:WkA Au (aR (pOf listed) a (pre++f::r)):=ud hAu λt htu=>tZ hpi hda hcl htu chk;have fresh:∀ m,f.new=some m->FrA m (aR (pOf listed) a (pre++f::r))/\FrO m O':=λm hm=>by
   have hbm:=okF_ge (eV chk).2.1 hm;refine⟨λt y hy he=>?_,λi e' hmem=>?_⟩
   ·rcases aR_at hy with h1|⟨pre',f',r',t',e1,e2,e3⟩
    ·have:=rh h1;omega
    ·have hs:=(no_new chk hm hpi hcl e1 e3).1;simp only [Ef.says,e2,Bool.or_eq_false_iff] at hs;rw [kA_memO he] at hs;exact absurd hs.1 bT
   ·have h1:=lkO_of hn hmem;rw [ht i] at h1;rcases tR_at h1 with h3|⟨pre',f',r',e1,e2,e3⟩
    ·have:=t7 (lkO_mem h3);exact⟨by omega,memE_le z2_⟩
    ·have hs:=(no_new chk hm hpi hcl e1 e3).1;simp only [Ef.says,e2,Bool.or_eq_false_iff] at hs;exact⟨no_key chk hm hpi hcl e1 e2 e3,hs.2⟩
  cases hk:f.key with
  |none =>
   have hob:JLD P F l.toArray (λa' o'=>a'=f.put (aR (pOf listed) a (pre++f::r))/\o'=O') x [op] (aR (pOf listed) a (pre++f::r)) O':=by
    cases hrd:f.rd with
    |none=>simp only [hk,hrd] at hob;exact hob _ _ _ hwk ⟨U,U⟩
    |some k =>
     simp only [hk,hrd] at hob;obtain⟨e0,h0,hob⟩:=hob;exact hob _ _ _ hwk (by rw [ht k,tn hrd hpi hda hcl hk chk,<- ((oS_ok hnd hkb (eV chk).2.2.2).2 k).1];exact h0) ⟨U,U⟩
   refine qY (n':=up P (λa' o'=>a'=f.put (aR (pOf listed) a (pre++f::r))/\o'=O')) hop (hob.k ρ h S L cz ac w s) ?_;rintro ac w ⟨S',h',L',s',ρ',_,_,cz',rfl,rfl⟩;refine next ac w ⟨ρ',h',S',L',_,s',⟨cz'.t,λt y hy=>cz'.s t y (uV hpi chk hy),cz'.o⟩,hn,λk=>?_⟩
   rw [ht k,tR_none hk]
  |some y =>
   obtain⟨k,e⟩:=y;cases hM:f.isM with
   |true =>
    simp only [hk,hM] at hob;have hnew:=tL (eV chk).2.1 hk hM;obtain⟨frA,frO⟩:=fresh k hnew;refine qY (n':=up P (λa' o'=>a'=f.put (aR (pOf listed) a (pre++f::r))/\o'=(k,e)::O')) hop ((hob _ _ _ hwk frA frO ⟨U,U⟩).k ρ h S L cz ac w s) ?_;rintro ac w ⟨S',h',L',s',ρ',_,_,cz',rfl,rfl⟩;refine next ac w ⟨ρ',h',S',L',_,s',⟨cz'.t,λt y hy=>cz'.s t y (uV hpi chk hy),cz'.o⟩,?_,λk'=>?_⟩
    ·simp only [NdO,List.map_cons,List.nodup_cons];exact⟨λhm=>by obtain⟨⟨_,e'⟩,hy,rfl⟩:=List.mem_map.1 hm;exact(frO _ _ hy).1 U,hn⟩
    ·rw [tR_one hk hpi hcl chk];simp only [lkO];rw [ht k']
   |false =>
    simp only [hk,hM] at hob;obtain⟨e0,h0,hob⟩:=hob;refine qY (n':=up P (λa' o'=>a'=f.put (aR (pOf listed) a (pre++f::r))/\o'=(k,e)::delO O' k)) hop ((hob _ _ _ hwk (by
     rw [ht k,t8 hk hM hpi hda hcl chk,<- ((oS_ok hnd hkb (eV chk).2.2.2).2 k).1];exact h0) fresh ⟨U,U⟩).k ρ h S L cz ac w s) ?_
    rintro ac w ⟨S',h',L',s',ρ',_,_,cz',rfl,rfl⟩;obtain⟨d1,d2⟩:=del_nd (k:=k) hn;refine next ac w ⟨ρ',h',S',L',_,s',⟨cz'.t,λt y hy=>cz'.s t y (uV hpi chk hy),cz'.o⟩,?_,λk'=>?_⟩
    ·simp only [NdO,List.map_cons,List.nodup_cons];exact⟨λhm=>by obtain⟨⟨_,e'⟩,hy,rfl⟩:=List.mem_map.1 hm;exact d2 e' hy,d1⟩
    ·rw [tR_one hk hpi hcl chk];simp only [lkO];cases hb:Nat.beq k k' with
     |true=>rfl
     |false=>simp only [cond_false];rw [si (λhh=>by subst hh;simp at hb),ht k']
theorem Drw {id:Nat}(hm:P.follows .mixedOrders=true) (hlen:es.length=l.length) (htopo:topoB l.toArray 0 l=true) (chk:okE l.toArray base es=true) (hA:topA a<=base) (hO:topO o<=base) (hnd:NdO o) (ob:Obls P F l.toArray x a o es) (k:n (aR allT a es) (oS o es)) :
 JD P F (.region id l.toArray true) n x a o:=.mk λρ h S L cz ac w s=>by
 refine wp_region_any hm ?_;have hp0:pOf (Array.replicate l.toArray.size false)=λ_=>false:=by
  funext i
  unfold pOf;simp only [Array.getD_eq_getD_getElem?,Array.getElem?_replicate];split<;>rfl
 have e1:∀ es:List Ef,aR (λ_=>false) a es=a:=by
  intro es
  induction es with
  |nil=>rfl
  |cons f r ih=>simp only [aR,cond_false,ih];split<;>rfl
 have e2:∀ (es:List Ef) k,tR (λ_=>false) (lkO o) k es=lkO o k:=by
  intro es k
  induction es with
  |nil=>rfl
  |cons f r ih=>simp only [tR,Bool.false_and,cond_false,ih];split<;>rfl
 refine drw_go hlen htopo chk hA hO hnd ob k _ _ ac _ (by simp [cnt]) (by simp) (by rw [hp0];intro i j hi;cases hi) ⟨ρ,h,S,L,o,⟨s.size,s.slot,s.ds,s.ok.drawn _⟩,by rw [hp0,e1];exact cz,hnd,λk=>by rw [hp0,e2]⟩
end
def gdB (ops:Array Oper) (a:LO):Option (Nat×Bool)->Option Bool
 |none=>some true
 |some (j,b)=>match dst1 ops.toList j with
  |some dj=>match lkA a dj with
   |some (.d (.v u))=>gd (some u) b
   |some (.d (.bq true))=>gd (some (.bool true)) b
   |some (.d (.bq false))=>gd (some (.bool false)) b
   |_=>none
  |none=>none
theorem gdA_B {ops:Array Oper}{a:LO}{g:Option (Nat×Bool)}{r:Bool}(h:gdA ops a g=some r):gdB ops a g=some r:=by
 unfold gdA at h;unfold gdB;split at h
 ·exact h
 ·split at h
  ·rename_i dj hj;simp only [hj];split at h
   ·rename_i hl;simp only [hl];exact h
   ·cases h
  ·cases h
section
variable {P:Program} [Tb P] {a:LO}{o:LQ}{ops:Array Oper}{g:Option (Nat×Bool)}
theorem gdB_t {ρ:Rho}{h:Part}{S:Sig}{L:LE}(c:Cz P ρ h a o S L) (hg:gdB ops a g=some true):g=none\/∃ j dj b,g=some (j,b)/\(ops[j]?).bind (·.dst)=some dj/\look S dj=some (.bool b):=by
 unfold gdB at hg;split at hg
 ·exact .inl U
 ·rename_i j b;split at hg
  ·rename_i dj hj;rw [iR,Array.getElem?_toList] at hj;split at hg
   ·rename_i v hl;obtain⟨w,h1,h2⟩:=c.s _ _ hl;have:=gd_t hg;cases this;rw [jy.1 h2] at h1;exact .inr ⟨j,dj,b,U,hj,h1⟩
   ·rename_i hl;obtain⟨w,h1,h2⟩:=c.s _ _ hl;have:=gd_t hg;cases this;rw [iT.1 h2] at h1;exact .inr ⟨j,dj,_,U,hj,h1⟩
   ·rename_i hl;obtain⟨w,h1,h2⟩:=c.s _ _ hl;have:=gd_t hg;cases this;rw [iT.1 h2] at h1;exact .inr ⟨j,dj,_,U,hj,h1⟩
   ·cases hg
  ·cases hg
theorem gdB_f {ρ:Rho}{h:Part}{S:Sig}{L:LE}(c:Cz P ρ h a o S L) (hg:gdB ops a g=some false):∃ j dj b,g=some (j,b)/\(ops[j]?).bind (·.dst)=some dj/\(look S dj=some (.bool (!b))\/∃ vs,look S dj=some (.tuple vs)):=by
 unfold gdB at hg;split at hg
 ·cases hg
 ·rename_i j b;split at hg
  ·rename_i dj hj;rw [iR,Array.getElem?_toList] at hj;split at hg
   ·rename_i v hl;obtain⟨w,h1,h2⟩:=c.s _ _ hl;rw [jy.1 h2] at h1;refine⟨j,dj,b,U,hj,?_⟩;rcases gd_f hg with hh|⟨vs,hh⟩
    ·cases hh;exact .inl h1
    ·cases hh;exact .inr ⟨vs,h1⟩
   ·rename_i hl;obtain⟨w,h1,h2⟩:=c.s _ _ hl;rw [iT.1 h2] at h1;refine⟨j,dj,b,U,hj,?_⟩;rcases gd_f hg with hh|⟨vs,hh⟩
    ·simp only [aB,Value.bool.injEq] at hh;exact .inl (by rw [<- hh];exact h1)
    ·cases hh
   ·rename_i hl;obtain⟨w,h1,h2⟩:=c.s _ _ hl;rw [iT.1 h2] at h1;refine⟨j,dj,b,U,hj,?_⟩;rcases gd_f hg with hh|⟨vs,hh⟩
    ·simp only [aB,Value.bool.injEq] at hh;exact .inl (by rw [<- hh];exact h1)
    ·cases hh
   ·cases hg
  ·cases hg
end
theorem bG {α:Type _}{l:List α}{m:Nat}{z:α}(h:m<l.length):l.getD m z=l[m]:=by simp [h]
theorem Parts.all:∀ {L:LE},Parts L L []
 |[]=>.nil
 |_::_=>.cons .here Parts.all
def St1 (P:Program) [Tb P] (F:Fd) (ops:Array Oper) (a:LO) (o:LQ) (op:Oper) (d:Nat) (u:A):Prop :=
 ∀ ρ h S L L' Lr,Parts L' L Lr->Cz P ρ h a o S L'->∀ (N:Post) (X:Nat->Post) rest,(∀ v h',h.le h'->DenA ρ h' u v->JL (F.fr P) ops N X rest ((d,v)::S) h' L)->JL (F.fr P) ops N X (op::rest) S h L
section
variable {P:Program} [Tb P] {F:Fd}{n:PostD}{x:Nat->PostD}{a:LO}{o:LQ}{ops:Array Oper}{rest:LR}
variable {d:Nat}{q:Op}{ty:TypeId}{pos:String}{af:Array Edge}{g:Option (Nat×Bool)}{u:A}{op:Oper}
theorem RunV.parts {f:Fr}{S:Sig}{h:Part}{L L' Lr:LE}{v:Value}(p:Parts L' L Lr) (r:RunV f S h L' q ty v):RunV f S h L q ty v:=λa w s=>r a w (s.with (p.ok w s.ok))
theorem St1.run (hg:gdB ops a g=some true) (hd:Nat.blt d F.m=true) (hv:∀ ρ h S L,Cz P ρ h a o S L->∃ v,RunV (F.fr P) S h L q ty v/\DenA ρ h u v):St1 P F ops a o ⟨some d,q,ty,pos,af,g⟩ d u:=λρ h S L L' Lr p cz N X rest k=>by
 obtain⟨v,h1,h2⟩:=hv ρ h S L' cz;rcases gdB_t cz hg with rfl|⟨j,dj,b,rfl,h3,h4⟩
 ·exact ah (h1.parts p) hd (k v h (aT h) h2)
 ·exact aQ h3 h4 (h1.parts p) hd (k v h (aT h) h2)
theorem St1.no (hg:gdB ops a g=some false) (hd:Nat.blt d F.m=true):St1 P F ops a o ⟨some d,q,ty,pos,af,g⟩ d (.d (.v undef)):=λρ h S L L' Lr p cz N X rest k=>by
 obtain⟨j,dj,b,rfl,h3,h4⟩:=gdB_f cz hg;exact JL.skipx h3 h4 hd (k _ h (aT h) (jy.2 U))
theorem St1.call {Fi:Nat}{os:Array Operand}{ts:Array TypeId}{ds:List D}{d':D}(ha:argsA P a os.toList ts.toList=some ds) (c:FnD P Fi ds d') (hF:callT P Fi=true) (hg:gdB ops a g=some true) (hd:Nat.blt d F.m=true) :
 St1 P F ops a o ⟨some d,.call { callee:=.value (.func Fi),args:=os,argTypes:=ts },ty,pos,af,g⟩ d (.d d'):=λρ h S L L' Lr p cz N X rest k=>by
 obtain⟨vs,h3,h4⟩:=f6 cz ha;obtain⟨os⟩:=os;rcases gdB_t cz hg with rfl|⟨j,dj,b,rfl,h5,h6⟩
 ·exact bL hF h3 (c.fn h vs cz.t h4) hd (λv h2 hle2 ⟨d',h7,h8⟩=>by subst h7;exact k v h2 hle2 h8)
 ·exact JL.callRg h5 h6 hF h3 (c.fn h vs cz.t h4) hd (λv h2 hle2 ⟨d',h7,h8⟩=>by subst h7;exact k v h2 hle2 h8)
def litI:Int->Option Nat
 |.ofNat n=>litN n
 |_=>none
omit [Tb P] in
theorem sn {α:Type}{R:Rep α}{l:List α}{T e sz m:Nat}{xo yo:Operand}{kk:IntKind}{i:Int}{aa:OA}{cc:Nat}{S:Sig}{h:Part}{L:LE}(hT:slT P T=some (e,sz)) (hx:ev S xo=some (.slice aa l.length cc)) (hy:ev S yo=some (.int kk i)) (hi:i=(m:Int)) (hR:SlR R sz h aa cc l) (h1:m<l.length) :
 ∃ v,RunV (F.fr P) S h L (.indexAddr T xo yo) ty v/\∃ b o,v=.pointer (some ⟨b,o,none⟩)/\∃ c cs,h b=some c/\Lies c o cs/\R h cs l[m]:=by
 obtain⟨v,h2,b,o',hi',rfl,c,cs,h3,h4,h5,h6⟩:=aI (f:=F.fr P) (L:=L) (ty:=ty) hT hx hy hi hR U h1;exact⟨_,h2,b,o',U,c,cs,h3,λj hj=>h5 j z2_,h6⟩
end
section
variable {P:Program} [Tbl P] [Tb P] {F:Fd}{n:PostD}{x:Nat->PostD}{a:LO}{o:LQ}{ops:Array Oper}{rest:LR}
variable {d:Nat}{q:Op}{ty:TypeId}{pos:String}{af:Array Edge}{g:Option (Nat×Bool)}{u:A}{op:Oper}{T:Nat}{xo yo:Operand}{kk:IntKind}{i:Int}{tt:Nat×Nat}
theorem St1.val2 (hv:val2 P a o q=some u) (hg:gdB ops a g=some true) (hd:Nat.blt d F.m=true):St1 P F ops a o ⟨some d,q,ty,pos,af,g⟩ d u:=.run hg hd λρ h S L cz=>val2_ok cz hv
def pk3 (a:LO):Op->Option A
 |.pick c x y=>match evA a c with
  |some (.d (.bq true))=>evA a x
  |some (.d (.bq false))=>evA a y
  |_=>none
 |_=>none
omit [Tbl P] in
theorem evA_q {ρ:Rho}{h:Part}{S:Sig}{L:LE}(c:Cz P ρ h a o S L) {y:Operand}{b:Bool}(hy:evA a y=some (.d (.bq b))):ev S y=some (.bool b):=by
 obtain⟨v,h1,h2⟩:=cE c hy;rw [iT.1 h2] at h1;exact h1
omit [Tbl P] in
theorem St1.pk (hv:pk3 a q=some u) (hg:gdB ops a g=some true) (hd:Nat.blt d F.m=true):St1 P F ops a o ⟨some d,q,ty,pos,af,g⟩ d u:=.run hg hd λρ h S L cz=>by
 unfold pk3 at hv;split at hv
 ·split at hv
  ·rename_i hc;obtain⟨v,h1,h2⟩:=cE cz hv;exact⟨v,cU (evA_q cz hc) h1,h2⟩
  ·rename_i hc;obtain⟨v,h1,h2⟩:=cE cz hv;exact⟨v,bp (evA_q cz hc) h1,h2⟩
  ·cases hv
 ·cases hv
theorem fg {i:Int}{m:Nat}(h:litI i=some m):i=(m:Int):=by
 unfold litI at h;split at h
 ·rw [litN_ok h];rfl
 ·cases h
theorem St1.ixN {l:LN}(m:Nat) (hx:evA a xo=some (.d (.nds l))) (hy:evA a yo=some (.d (.v (.int kk i)))) (hT:find1 (Tbl.sl P) T=some tt) (h5:Nat.beq tt.2 5=true) (hi:i=(m:Int)) (h1':i<(l.length:Int)) (hg:gdB ops a g=some true) (hd:Nat.blt d F.m=true) :
 St1 P F ops a o ⟨some d,.indexAddr T xo yo,ty,pos,af,g⟩ d (.d (.pnd (l.getD m (.mk 0 0 false [] [])))):=.run hg hd λρ h S L cz=>by
 have h1:m<l.length:=by omega
 rw [bG h1];obtain⟨v,h2,h3⟩:=cE cz hx;obtain⟨aa,cc,rfl,hR⟩:=dN.1 h3;have e5:=aq h5;have hT':=Tbl.slt hT;rw [show tt=(tt.1,5) by rw [<- e5]] at hT';obtain⟨w,h4,h6⟩:=sn (F:=F) (ty:=ty) (L:=L) hT' h2 (dv cz hy) hi hR h1;exact⟨w,h4,(mw (h:=h)).2 h6⟩
theorem St1.ixB {l:LB}(m:Nat) (hx:evA a xo=some (.d (.bs l))) (hy:evA a yo=some (.d (.v (.int kk i)))) (hT:find1 (Tbl.sl P) T=some tt) (h5:Nat.beq tt.2 1=true) (hi:i=(m:Int)) (h1':i<(l.length:Int)) (hg:gdB ops a g=some true) (hd:Nat.blt d F.m=true) :
 St1 P F ops a o ⟨some d,.indexAddr T xo yo,ty,pos,af,g⟩ d (.d (.ptr [.v (.int .u8 ((l.getD m 0).toNat:Int))])):=.run hg hd λρ h S L cz=>by
 have h1:m<l.length:=by omega
 rw [bG h1];obtain⟨v,h2,h3⟩:=cE cz hx;obtain⟨aa,cc,rfl,hR⟩:=dm.1 h3;have e5:=aq h5;have hT':=Tbl.slt hT;rw [show tt=(tt.1,1) by rw [<- e5]] at hT';obtain⟨w,h4,b,o',h6,c,cs,h7,h8,h9⟩:=sn (F:=F) (ty:=ty) (L:=L) hT' h2 (dv cz hy) hi hR h1;exact⟨w,h4,(gV (h:=h)).2 ⟨b,o',h6,c,cs,h7,h8,u8_enc.1 h9⟩⟩
theorem St1.ix {α:Type} [Inhabited α] {sz:Nat}{enc:α->List D}{l:List α}(m:Nat) (hx:evA a xo=some (.d (.sl sz enc l))) (hy:evA a yo=some (.d (.v (.int kk i)))) (hT:find1 (Tbl.sl P) T=some tt) (h5:Nat.beq tt.2 sz=true) (hi:i=(m:Int)) (h1':i<(l.length:Int)) (hg:gdB ops a g=some true) (hd:Nat.blt d F.m=true) :
 St1 P F ops a o ⟨some d,.indexAddr T xo yo,ty,pos,af,g⟩ d (.d (.ptr (enc (l.getD m default)))):=.run hg hd λρ h S L cz=>by
 have h1:m<l.length:=by omega
 rw [bG h1];obtain⟨v,h2,h3⟩:=cE cz hx;obtain⟨aa,cc,rfl,hR⟩:=iE.1 h3;have e5:=aq h5;have hT':=Tbl.slt hT;rw [show tt=(tt.1,sz) by rw [<- e5]] at hT';obtain⟨w,h4,b,o',h6,c,cs,h7,h8,h9⟩:=sn (F:=F) (ty:=ty) (L:=L) hT' h2 (dv cz hy) hi hR h1;exact⟨w,h4,(gV (h:=h)).2 ⟨b,o',h6,c,cs,h7,h8,h9⟩⟩
end
section
variable {P:Program} [Tb P] {F:Fd}{n:PostD}{x:Nat->PostD}{a:LO}{o:LQ}{ops:Array Oper}{rest:LR}
variable {d:Nat}{ty:TypeId}{pos:String}{af:Array Edge}{u:A}{op:Oper}
theorem St1.lit {T len e sz bytes:Nat}{ps:Array (Nat×Operand)}{ds ds':List D}{dd:D}(hp:evsA a 0 ps.toList=some ds) (hf:foldQ P e ds=some ds') (hl:litQ P ds'=some dd) (hT:findP (Tb.ap P) T=some (e,sz,bytes)) (h1:Nat.beq sz (szD dd)=true) (h2:Nat.beq len ds.length=true) (h3:Nat.ble (len*sz) 16777216=true)
 (hd:Nat.blt d F.m=true):St1 P F ops a o ⟨some d,.buildSlice T len ps,ty,pos,af,none⟩ d (.d dd):=λρ h S L L' Lr p cz N X rest k=>by
 obtain⟨vs,h4,h5⟩:=ki cz hp;obtain⟨h6,h7,h8,h9⟩:=sj hl (jt hf h5);have e1:=aq h1;have e2:=aq h2;have e3:=h5.len;have e4:len=vs.length:=by omega
 have e5:len*sz<=16777216:=by simpa using h3
 obtain⟨ps⟩:=ps;refine JL.litG vs (Tb.apt hT) h4 e4 (by rw [e1];exact h7) h3 (Nat.mul_pos z2_ z2_) hd (λb=>?_);have hlm:len<=140737488355328:=by
  have:len<=len*sz:=Nat.le_mul_of_pos_right _ z2_;omega
 cases dd<;>simp only [RowR] at h6
 ·obtain⟨_,hn,hc⟩:=h6;exact JL.pubB .here hc z2_ (λh' hle hS=>k _ h' hle (by rw [e4,hn];exact(dm (h:=h')).2 ⟨_,_,U,hS⟩))
 ·obtain⟨_,hn,hc⟩:=h6;exact JL.pubB .here hc z2_ (λh' hle hS=>k _ h' hle (by rw [e4,hn];exact(dN (h:=h')).2 ⟨_,_,U,hS⟩))
 ·obtain⟨_,hn,hc⟩:=h6;exact JL.pubB .here hc z2_ (λh' hle hS=>k _ h' hle (by rw [e4,hn];exact(iE (h:=h')).2 ⟨_,_,U,hS⟩))
theorem JLD.s1 (s:St1 P F ops a o op d u) (k:JLD P F ops n x rest ((d,u)::a) o):JLD P F ops n x (op::rest) a o:=.mk λρ h S L cz =>
 s ρ h S L L [] .all cz _ _ _ (λ_ h' hle hv=>k.k ρ h' _ L (eI (cz.mono hle) hv d))
abbrev bx:=@JLD.s1
theorem Obl.s1 {b:LO}{ob:LQ}{r:List Ef}{us:List Nat}{Au:LO}(hk:keepA us (aR allT b r)=some Au) (s:St1 P F ops Au [] op d u):Obl P F ops x b ob r (eVal us none d u) op :=
 ⟨Au,hk,λ_ A' O' hA hn=>.mk λρ h S L cz=>by
  obtain⟨L',Lr,h1,h2⟩:=cz.wk2 (o':=[]) hA trivial;exact s ρ h S L L' Lr h1 h2 _ _ _ (λv h' hle hv=>a_ ⟨ρ,_,_,eI (cz.mono hle) hv d,hn⟩)⟩
theorem Obl.s1r {b:LO}{ob:LQ}{r:List Ef}{us:List Nat}{Au:LO}{k:Nat}{e:OE}(hk:keepA us (aR allT b r)=some Au) (h0:lkO (oS ob r) k=some e) (s:St1 P F ops Au [(k,e)] op d u):Obl P F ops x b ob r (eVal us (some k) d u) op :=
 ⟨Au,hk,e,h0,λ_ A' O' hA hO hn=>.mk λρ h S L cz=>by
  obtain⟨L',Lr,h1,h2⟩:=cz.wk2 (o':=[(k,e)]) hA ⟨hO,trivial⟩;exact s ρ h S L L' Lr h1 h2 _ _ _ (λv h' hle hv=>a_ ⟨ρ,_,_,eI (cz.mono hle) hv d,hn⟩)⟩
end
def ObQ (P:Program) [Tb P] (F:Fd) (ops:Array Oper) (x:Nat->PostD) (b:LO) (ob:LQ) (es:List Ef):List Ef->Prop
 |[]=>True
 |f::r=>(∃ op,ops[(r++es).length]?=some op/\Obl P F ops x b ob (r++es) f op)/\ObQ P F ops x b ob es r
structure JX (P:Program) [Tb P] (F:Fd) (ops:Array Oper) (n:PostD) (x:Nat->PostD) (b:LO) (ob:LQ) (base:Nat) (es:List Ef) (l:LR) (a:LO) (o:LQ):Prop where
 k:(∀ i:Nat,l[i]?=ops[es.length+i]?)->a=aR allT b es->o=oS ob es->∃ q,q.length=l.length/\okE ops base (q++es)=true/\ObQ P F ops x b ob es q/\n (aR allT b (q++es)) (oS ob (q++es))
section
variable {P:Program} [Tb P] {F:Fd}{n:PostD}{x:Nat->PostD}{a b:LO}{o ob:LQ}{ops:Array Oper}{l rest:LR}{base:Nat}{es:List Ef}{op:Oper}
theorem ObQ.snoc {f:Ef}:∀ {q:List Ef},ObQ P F ops x b ob (f::es) q->(∃ op,ops[es.length]?=some op/\Obl P F ops x b ob es f op)->ObQ P F ops x b ob es (q++[f])
 |[],_,h=>⟨h,trivial⟩
 |g::q,h1,h=>by
  have e:q.append [f]++es=q++f::es:=by
   show q++[f]++es=_;simp
  refine⟨?_,ObQ.snoc h1.2 h⟩;rw [e];exact h1.1
theorem JX.put {f:Ef}{a':LO}{o':LQ}(h:a=aR allT b es->o=oS ob es->Obl P F ops x b ob es f op/\a'=aR allT b (f::es)/\o'=oS ob (f::es)) (k:JX P F ops n x b ob base (f::es) rest a' o'):JX P F ops n x b ob base es (op::rest) a o:=.mk λhl ha ho=>by
 obtain⟨h1,h2,h3⟩:=h ha ho;obtain⟨q,k1,k2,k4,k5⟩:=k.k (λi=>by have:=hl (i+1);simp only [List.getElem?_cons_succ,aC] at this |-;rw [this];congr 1;omega) h2 h3;have e:q++[f]++es=q++f::es:=by simp
 have hop:ops[es.length]?=some op:=by have:=hl 0;simpa using this.symm
 exact⟨q++[f],by simp [k1],by rw [e];exact k2,ObQ.snoc k4 ⟨op,hop,h1⟩,by rw [e];exact k5⟩
theorem JX.nil (chk:okE ops base es=true) (k:n a o):JX P F ops n x b ob base es [] a o:=.mk λ_ ha ho =>
 ⟨[],U,chk,trivial,by subst ha ho;exact k⟩
abbrev df:=@JX.nil
theorem JX.s1 {d:Nat}{u:A}(us:List Nat) {Au:LO}(hk:keepA us a=some Au) (s:St1 P F ops Au [] op d u) (k:JX P F ops n x b ob base (eVal us none d u::es) rest ((d,u)::a) o):JX P F ops n x b ob base es (op::rest) a o :=
 JX.put (λha ho=>by subst ha ho;exact⟨Obl.s1 hk s,U,U⟩) k
theorem JX.s1r {d:Nat}{u:A}(us:List Nat) {Au:LO}{kk:Nat}{e:OE}(hk:keepA us a=some Au) (h0:lkO o kk=some e) (s:St1 P F ops Au [(kk,e)] op d u) (k:JX P F ops n x b ob base (eVal us (some kk) d u::es) rest ((d,u)::a) o):JX P F ops n x b ob base es (op::rest) a o :=
 JX.put (λha ho=>by subst ha ho;exact⟨Obl.s1r hk h0 s,U,U⟩) k
def nodupB:LQ->Bool
 |[]=>true
 |(k,_)::r=>(r.all λy=>!Nat.beq y.1 k)&&nodupB r
theorem qb:∀ {o:LQ},nodupB o=true->NdO o
 |[],_=>List.nodup_nil
 |(k,e)::r,h=>by
  simp only [nodupB,Bool.and_eq_true] at h;simp only [NdO,List.map_cons,List.nodup_cons];refine⟨λhm=>?_,qb h.2⟩;obtain⟨⟨k',e'⟩,hy,rfl⟩:=List.mem_map.1 hm;have:=List.all_eq_true.1 h.1 _ hy;simp at this
theorem Xg {id:Nat}{l:LR}{base:Nat}(hm:P.follows .mixedOrders=true) (htopo:topoB l.toArray 0 l=true) (hnd:nodupB o=true) (hb:nextK a o=some base) (k:JX P F l.toArray n x a o base [] l a o):JD P F (.region id l.toArray true) n x a o:=by
 obtain⟨q,k1,k2,k4,k5⟩:=k.k (λi=>by simp) U U;have hb':=om hb;simp only [List.append_nil] at k2 k5;have hnd':=qb hnd;have conv:∀ {q:List Ef},ObQ P F l.toArray x a o [] q->Obls P F l.toArray x a o q:=by
  intro q
  induction q with
  |nil=>intro _;trivial
  |cons f r ih =>
   intro h;have h1:=h.1;simp only [List.append_nil] at h1;exact⟨h1,ih h.2⟩
 exact Drw hm k1 htopo k2 (by rw [hb'];exact mx_l _ _) (by rw [hb'];exact mx_r _ _) hnd' (conv k4) k5
end
def tm:Operand->List Nat
 |.tmp t=>[t]
 |_=>[]
def tms:List Operand->List Nat
 |[]=>[]
 |.tmp t::r=>t::tms r
 |_::r=>tms r
def tmp2:List (Nat×Operand)->List Nat
 |[]=>[]
 |(_,.tmp t)::r=>t::tmp2 r
 |_::r=>tmp2 r
def usesO:Op->List Nat
 |.move x=>tm x
 |.assign x=>tm x
 |.pick c x y=>tms [c,x,y]
 |.extract x _=>tm x
 |.nilCheck x=>tm x
 |.unOp _ _ x=>tm x
 |.binOp _ _ x y _=>tms [x,y]
 |.call c=>tms c.args.toList
 |.fieldAddr _ x _=>tm x
 |.load _ x=>tm x
 |.build _ ps=>tmp2 ps.toList
 |.buildSlice _ _ ps=>tmp2 ps.toList
 |.box _ x=>tm x
 |.store _ x y=>tms [x,y]
 |.indexAddr _ x y=>tms [x,y]
 |.convert _ _ x=>tm x
 |.slice _ x lo hi _=>tms (x::(lo.toList++hi.toList))
 |_=>[]
def usX (ops:Array Oper) (q:Op):Option (Nat×Bool)->List Nat
 |none=>usesO q
 |some (j,_)=>match dst1 ops.toList j with
  |some dj=>dj::usesO q
  |none=>usesO q
def rdX (a:LO):Op->Option Nat
 |.load _ x=>match evA a x with
  |some (.own k _)=>some k
  |_=>none
 |.call c=>match c.callee,c.args.toList with
  |.builtin .len,[x]=>match evA a x with
   |some (.row k)=>some k
   |_=>none
  |_,_=>none
 |_=>none
def stX (P:Program) [Tbl P] [Tb P] (m:Nat) (ops:Array Oper) (a:LO) (o:LQ):Oper->Option Ef
 |⟨some d,q,_,_,_,g⟩=>match keepA (usX ops q g) a with
  |some Au=>match gdA ops Au g with
   |some true=>bif Nat.blt d m then match rdX Au q with
    |some k=>match lkO o k with
     |some e=>match val2 P Au [(k,e)] q with
      |some u=>some ⟨usX ops q g,some k,some (d,u),none,false,none⟩
      |none=>none
     |none=>none
    |none=>match val2 P Au [] q with
     |some u=>some ⟨usX ops q g,none,some (d,u),none,false,none⟩
     |none=>match g,q with
      |none,.alloc T=>match nextK a o,Tb.zr P T with
       |some k,some zs=>match aOf zs with
        |some cs=>some ⟨usX ops q g,none,some (d,.own k 0),some (k,.var T cs),true,some k⟩
        |none=>none
       |_,_=>none
      |none,.buildSlice T len ps=>match evsA Au 0 ps.toList with
       |some ds=>match findP (Tb.ap P) T with
        |some (e,sz,_)=>match foldQ P e ds with
         |some ds'=>match litQ P ds' with
          |some dd=>bif Nat.beq sz (szD dd) then bif Nat.beq len ds.length then bif Nat.ble (len*sz) 16777216 then some ⟨usX ops q g,none,some (d,.d dd),none,false,none⟩ else none else none else none
          |none=>none
         |none=>none
        |none=>none
       |none=>none
      |_,_=>none
     else none
   |some false=>bif Nat.blt d m then some ⟨usX ops q g,none,some (d,.d (.v undef)),none,false,none⟩ else none
   |none=>none
  |none=>none
 |⟨none,.store T x y,_,_,_,none⟩=>match keepA (tms [x,y]) a with
  |some Au=>match stoX P Au o T x y with
   |some (k,e)=>some ⟨tms [x,y],none,none,some (k,e),false,none⟩
   |_=>none
  |none=>none
 |_=>none
def putO (f:Ef) (o:LQ):LQ:=match f.key with
 |none=>o
 |some (k,e)=>match f.isM with
  |true=>(k,e)::o
  |false=>(k,e)::delO o k
def runX (P:Program) [Tbl P] [Tb P] (m:Nat) (ops:Array Oper):Nat->List Ef->LO->LQ->LR->Option ((List Ef×LO×LQ)×LR)
 |0,es,a,o,l=>some ((es,a,o),l)
 |k+1,es,a,o,q::l=>match stX P m ops a o q with
  |some ⟨us,rd,some (d,u),none,i,nw⟩=>runX P m ops k (⟨us,rd,some (d,u),none,i,nw⟩::es) ((d,u)::a) o l
  |some ⟨us,rd,some (d,u),some (kk,e),true,nw⟩=>runX P m ops k (⟨us,rd,some (d,u),some (kk,e),true,nw⟩::es) ((d,u)::a) ((kk,e)::o) l
  |some ⟨us,rd,none,some (kk,e),false,nw⟩=>match delQ o kk with
   |some o'=>runX P m ops k (⟨us,rd,none,some (kk,e),false,nw⟩::es) a ((kk,e)::o') l
   |none=>none
  |_=>none
 |_+1,_,_,_,[]=>none
section
variable {P:Program} [Tbl P] [Tb P] {F:Fd}{n:PostD}{x:Nat->PostD}{a a' b:LO}{o o' ob:LQ}{ops:Array Oper}{l l' rest:LR}{base:Nat}{es es':List Ef}{op:Oper}
omit [Tbl P] in
theorem Obl.alloc {r:List Ef}{us:List Nat}{d T k:Nat}{ty:TypeId}{pos:String}{af:Array Edge}{zs:List D}{cs:List A}{Au:LO}(hk:keepA us (aR allT b r)=some Au) (hz:Tb.zr P T=some zs) (hc:aOf zs=some cs) (hd:Nat.blt d F.m=true) :
 Obl P F ops x b ob r (eMk us d k (.own k 0) (.var T cs)) ⟨some d,.alloc T,ty,pos,af,none⟩:=⟨Au,hk,λ_ A' O' _ hA hO hn=>.mk λρ h S L cz=>by
 obtain⟨zv,h1,h2⟩:=Tb.hzr hz;refine bI h1 hd (λbb=>?_);have cz':=cz.fresh (ρ.ofk_setB k bb) hA hO;refine a_ ⟨ρ.setB k bb,_,_,eI (u:=.own k 0) (⟨cz'.t,cz'.s,_,L,U,⟨zv,by rw [gK],gY hc (h2 h)⟩,cz'.o⟩:Cz P (ρ.setB k bb) h A' ((k,.var T cs)::O') S (.blk bb T zv::L)) (by show _=_;rw [gK]) d,hn⟩⟩
omit [Tbl P] in
theorem Obl.store {r:List Ef}{T k:Nat}{y z:Operand}{ty:TypeId}{pos:String}{af:Array Edge}{e:OE}{Au:LO}(hk:keepA (tms [y,z]) (aR allT b r)=some Au) (hs:stoX P Au (oS ob r) T y z=some (k,e)) :
 Obl P F ops x b ob r (eSto (tms [y,z]) k e) ⟨none,.store T y z,ty,pos,af,none⟩:=by
 obtain⟨e0,off,t,cs,u,h1,h2,h3,h5,h6⟩:=stoX_ok hs;refine⟨Au,hk,e0,h3,λ_ A' O' hA hO _ hn=>.mk λρ h S L cz=>?_⟩;obtain⟨w,L',hD,hE,hr⟩:=cz.o.get hO;obtain⟨vs,rfl,hcs⟩:=h6 ρ h w hE;have czu:=cz.wk hA;obtain⟨v,g1,g2⟩:=cE czu h1;cases g2;have hz:evA A' z=some u:=by
  cases z with
  |tmp tz=>exact hA.lk h2
  |_=>exact h2
 exact sto_ok cz g1 hz hD hcs hr h5 (JLD.nil hn)
theorem stX_ok {f:Ef}(hs:stX P F.m ops a o op=some f) (k:JX P F ops n x b ob base (f::es) rest (f.put a) (putO f o)):JX P F ops n x b ob base es (op::rest) a o:=by
 unfold stX at hs;split at hs
 ·rename_i d q ty pos af g;split at hs
  ·rename_i Au hAu;split at hs
   ·rename_i hg;cases hd:Nat.blt d F.m with
    |false=>rw [hd] at hs;cases hs
    |true =>
     rw [hd,cond_true] at hs;split at hs
     ·rename_i kk hrd;split at hs
      ·rename_i e0 hlk;split at hs<;>cases hs;rename_i u hv;exact JX.s1r _ hAu hlk (St1.val2 hv (gdA_B hg) hd) k
      ·cases hs
     split at hs
     ·rename_i u hv;cases hs;exact JX.s1 _ hAu (St1.val2 hv (gdA_B hg) hd) k
     ·split at hs
      ·rename_i T;split at hs
       ·rename_i kk zs hk hz;split at hs<;>cases hs;rename_i cs hc;exact JX.put (λha ho=>⟨Obl.alloc (by rw [<- ha];exact hAu) hz hc hd,by subst ha;rfl,by subst ho;rfl⟩) k
       ·cases hs
      ·rename_i T len ps x4 x5;split at hs
       ·rename_i ds hp;split at hs<;>try (cases hs;done)
        rename_i e sz _ hT;split at hs<;>try (cases hs;done)
        rename_i ds' hf;split at hs
        ·rename_i dd hl;cases h1:Nat.beq sz (szD dd) with
         |false=>rw [h1] at hs;cases hs
         |true =>
          rw [h1,cond_true] at hs;cases h2:Nat.beq len ds.length with
          |false=>rw [h2] at hs;cases hs
          |true =>
           rw [h2,cond_true] at hs;cases h3:Nat.ble (len*sz) 16777216 with
           |false=>rw [h3] at hs;cases hs
           |true=>rw [h3,cond_true] at hs;cases hs;exact JX.s1 _ hAu (St1.lit hp hf hl hT h1 h2 h3 hd) k
        ·cases hs
       ·cases hs
      ·cases hs
   ·rename_i hg;cases hd:Nat.blt d F.m with
    |false=>rw [hd] at hs;cases hs
    |true=>rw [hd,cond_true] at hs;cases hs;exact JX.s1 _ hAu (St1.no (gdA_B hg) hd) k
   ·cases hs
  ·cases hs
 ·rename_i T y z ty pos af;split at hs
  ·rename_i Au hAu;split at hs<;>cases hs;rename_i kk e hst;refine JX.put (λha ho=>⟨Obl.store (by rw [<- ha];exact hAu) (by rw [<- ho];exact hst),by subst ha;rfl,by subst ho;rfl⟩) k
  ·cases hs
 ·cases hs
def runY (P:Program) [Tbl P] [Tb P] (m:Nat) (ops:Array Oper):List Ef->LO->LQ->LR->Option ((List Ef×LO×LQ)×LR)
 |es,a,o,[]=>some ((es,a,o),[])
 |es,a,o,q::l=>match stX P m ops a o q with
  |some ⟨us,rd,some (d,u),none,i,nw⟩=>runY P m ops (⟨us,rd,some (d,u),none,i,nw⟩::es) ((d,u)::a) o l
  |some ⟨us,rd,some (d,u),some (kk,e),true,nw⟩=>runY P m ops (⟨us,rd,some (d,u),some (kk,e),true,nw⟩::es) ((d,u)::a) ((kk,e)::o) l
  |some ⟨us,rd,none,some (kk,e),false,nw⟩=>match delQ o kk with
   |some o'=>runY P m ops (⟨us,rd,none,some (kk,e),false,nw⟩::es) a ((kk,e)::o') l
   |none=>some ((es,a,o),q::l)
  |_=>some ((es,a,o),q::l)
theorem RY (hs:runY P F.m ops es a o l=some ((es',a',o'),l')) (kk:JX P F ops n x b ob base es' l' a' o'):JX P F ops n x b ob base es l a o:=by
 induction l generalizing es a o with
 |nil=>simp only [runY,aB,Prod.mk.injEq] at hs;obtain⟨⟨rfl,rfl,rfl⟩,rfl⟩:=hs;exact kk
 |cons q l ih =>
  simp only [runY] at hs;split at hs
  ·rename_i h1;exact stX_ok h1 (ih hs)
  ·rename_i h1;exact stX_ok h1 (ih hs)
  ·rename_i h1;split at hs
   ·rename_i o2 hq;obtain rfl:=gv hq;exact stX_ok h1 (ih hs)
   ·simp only [aB,Prod.mk.injEq] at hs;obtain⟨⟨rfl,rfl,rfl⟩,rfl⟩:=hs;exact kk
  ·simp only [aB,Prod.mk.injEq] at hs;obtain⟨⟨rfl,rfl,rfl⟩,rfl⟩:=hs;exact kk
theorem RX1 {q:Oper}(hs:runY P F.m ops es a o (q::l)=some ((es',a',o'),l')) (hp:Nat.ble l'.length l.length=true) (kk:JX P F ops n x b ob base es' l' a' o'):JX P F ops n x b ob base es (q::l) a o:=RY hs kk
end
section
variable {P:Program} [Tb P] {F:Fd}{n:PostD}{x:Nat->PostD}{a b Au:LO}{o ob:LQ}{ops:Array Oper}{rest:LR}{base:Nat}{es:List Ef}
variable {d Fi:Nat}{ty:TypeId}{pos:String}{af:Array Edge}{g:Option (Nat×Bool)}{os:Array Operand}{ts:Array TypeId}{ds:List D}{d':D}
theorem Cx (hk:keepA (usX ops (.call { callee:=.value (.func Fi),args:=os,argTypes:=ts }) g) a=some Au) (ha:argsA P Au os.toList ts.toList=some ds) (c:FnD P Fi ds d')
 (k:JX P F ops n x b ob base (eVal (usX ops (.call { callee:=.value (.func Fi),args:=os,argTypes:=ts }) g) none d (.d d')::es) rest ((d,.d d')::a) o)
 (hF:callT P Fi=true:=by kernel_rfl) (hg:gdB ops Au g=some true:=by rfl) (hd:Nat.blt d F.m=true:=by rfl) :
 JX P F ops n x b ob base es (⟨some d,.call { callee:=.value (.func Fi),args:=os,argTypes:=ts },ty,pos,af,g⟩::rest) a o :=
 JX.s1 _ hk (St1.call ha c hF hg hd) k
theorem BX {l:LR}{c:Bool}{p q:Prop} [s:Sp c p q] (k1:c=true->p->JX P F ops n x b ob base es l a o) (k2:c=false->q->JX P F ops n x b ob base es l a o):JX P F ops n x b ob base es l a o:=by
 cases hc:c with
 |true=>exact k1 hc (s.t hc)
 |false=>exact k2 hc (s.f hc)
theorem JX.s2 {q:Op}{u:A}(hk:keepA (usX ops q g) a=some Au) (s:St1 P F ops Au [] ⟨some d,q,ty,pos,af,g⟩ d u) (k:JX P F ops n x b ob base (eVal (usX ops q g) none d u::es) rest ((d,u)::a) o):JX P F ops n x b ob base es (⟨some d,q,ty,pos,af,g⟩::rest) a o:=JX.s1 _ hk s k
abbrev cK:=@JX.s2
end
section
variable {P:Program} [Tbl P] [Tb P] {F:Fd}{n:PostD}{x:Nat->PostD}{a b Au:LO}{o ob:LQ}{ops:Array Oper}{rest:LR}{base kk:Nat}{es:List Ef}
variable {d:Nat}{ty:TypeId}{pos:String}{af:Array Edge}{g:Option (Nat×Bool)}{q:Op}{u:A}{e:OE}
omit [Tbl P] in
theorem BXl {l:LR}(t:Nat) {c:Bool}{p q:Prop}(_:lkA a t=some (.d (.bq c))) [s:Sp c p q] (k1:c=true->p->JX P F ops n x b ob base es l a o) (k2:c=false->q->JX P F ops n x b ob base es l a o):JX P F ops n x b ob base es l a o:=BX k1 k2
theorem JX.s2r (hk:keepA (usX ops q g) a=some Au) (hr:rdX Au q=some kk) (h0:lkO o kk=some e) (hv:val2 P Au [(kk,e)] q=some u) (hg:gdB ops Au g=some true) (hd:Nat.blt d F.m=true) (k:JX P F ops n x b ob base (eVal (usX ops q g) (some kk) d u::es) rest ((d,u)::a) o):JX P F ops n x b ob base es (⟨some d,q,ty,pos,af,g⟩::rest) a o:=JX.s1r _ hk h0 (St1.val2 hv hg hd) k
end
theorem Ok.newpub {e:Env}{h:Part}{L:LE}{w:World}(k:Ok e h L w) (C:Array Value) (t:TypeId) (fr:Nat×Nat):h.le (h.add w.heap.size C)/\Ok e (h.add w.heap.size C) L (w.drew.alloc (.cells C t fr)):=by
 have hnone:h w.heap.size=none:=by
  cases hh:h w.heap.size with
  |none=>rfl
  |some c=>have:=k.sub.lt hh;omega
 have hle:h.le (h.add w.heap.size C):=λb c hc=>by
  unfold Part.add;split
  ·rename_i e';subst e';rw [hnone] at hc;cases hc
  ·exact hc
 have keepOld:∀ b,b<w.heap.size->(w.drew.alloc (.cells C t fr)).heap[b]?=w.heap[b]?:=λb hb=>Below.heap_alloc w.drew _ _ hb;have hnew:(w.drew.alloc (.cells C t fr)).heap[w.heap.size]?=some (.cells C t fr):=heap_alloc_new w.drew _;refine⟨hle,k.os,k.tape,k.output,?_,λb hb hm=>?_,λb c hc=>?_,k.le.trans hle,λb c hc=>?_,λx hx=>?_,λb hb=>?_,k.nodup⟩
 ·have:=k.size;show e.w0.heap.size<=(w.heap.push (.cells C t fr)).size;simp;omega
 ·rw [keepOld b (Nat.lt_of_lt_of_le hb k.size)];exact k.old b hb hm
 ·unfold Part.add at hc;split at hc
  ·rename_i e';subst e';cases hc;exact⟨t,fr,hnew⟩
  ·obtain⟨t',fr',he⟩:=k.sub b c hc;exact⟨t',fr',by rw [keepOld b (k.sub.lt hc)];exact he⟩
 ·unfold Part.add at hc;split at hc
  ·rename_i e';subst e';exact .inr (.inl k.size)
  ·exact k.fresh b c hc
 ·exact Ent.keep (k.own x hx) λb hb=>keepOld b (Ent.lt (k.own x hx) hb)
 ·refine⟨?_,(k.key b hb).2⟩;unfold Part.add;rw [if_neg (λe'=>by subst e';have:=k.klt hb;omega)];exact(k.key b hb).1
def bytT (P:Program) (src dst:Nat):Bool:=match P.underlying src,P.underlying dst with
 |some .string,some (.slice e)=>match P.underlying e with
  |some (.int .u8)=>true
  |_=>false
 |_,_=>false
theorem bytT_ok {P:Program}{src dst:Nat}(h:bytT P src dst=true):P.underlying src=some .string/\∃ e,P.underlying dst=some (.slice e)/\P.underlying e=some (.int .u8):=by
 unfold bytT at h;split at h
 ·rename_i e h1 h2;split at h
  ·rename_i h3;exact⟨h1,e,h2,h3⟩
  ·cases h
 ·cases h
section
variable {P:Program} [Tb P] {F:Fd}{n:PostD}{x:Nat->PostD}{a:LO}{o:LQ}{ops:Array Oper}{rest:LR}
variable {d:Nat}{ty:TypeId}{pos:String}{af:Array Edge}{g:Option (Nat×Bool)}{src dst:Nat}{xo yo:Operand}{l:LB}
theorem St1.strB (hx:evA a xo=some (.d (.bs l))) (hT:strT P src dst=true) (hg:gdB ops a g=some true) (hd:Nat.blt d F.m=true):St1 P F ops a o ⟨some d,.convert src dst xo,ty,pos,af,g⟩ d (.d (.v (.string ⟨l.toArray⟩))):=.run hg hd λρ h S L cz=>by
 obtain⟨v,h1,h2⟩:=cE cz hx;obtain⟨aa,cc,rfl,hR⟩:=dm.1 h2;exact⟨_,d7 hT h1 hR U,cj (h:=h)⟩
theorem St1.bytes (hx:evA a xo=some (.d (.v (.string ⟨⟨l⟩⟩)))) (hT:bytT P src dst=true) (hb:l.length<=140737488355328) (hd:Nat.blt d F.m=true):St1 P F ops a o ⟨some d,.convert src dst xo,ty,pos,af,none⟩ d (.d (.bs l)):=λρ h S L L' Lr p cz N X rest k ac w s=>by
 obtain⟨e1,e,e2,e3⟩:=bytT_ok hT;have hv:=dv cz hx;have hrun:=run_bytes_of_string (P:=P) w src dst e ⟨⟨l⟩⟩ e1 e2 e3;have hsz:ByteArray.size ⟨⟨l⟩⟩=l.length:=rfl;have hge:=grownCap_ge w l.length 0 e;have hlm:=grownCap_le_maxLen w l.length 0 e (by simp only [maxLen];omega);rw [hsz] at hrun;obtain⟨hle,hok⟩:=s.ok.newpub (bytesRow ⟨⟨l⟩⟩ (grownCap w l.length 0 e)) e ((bytesRow ⟨⟨l⟩⟩ (grownCap w l.length 0 e)).size,(bytesRow ⟨⟨l⟩⟩ (grownCap w l.length 0 e)).size+1);refine d8 (v:=.slice (some ⟨w.heap.size,0,none⟩) l.length (grownCap w l.length 0 e)) (w':=w.drew.alloc (.cells (bytesRow ⟨⟨l⟩⟩ (grownCap w l.length 0 e)) e ((bytesRow ⟨⟨l⟩⟩ (grownCap w l.length 0 e)).size,(bytesRow ⟨⟨l⟩⟩ (grownCap w l.length 0 e)).size+1))) U (by simp [execOp,s.eval hv,hrun]) ?_;refine k _ _ hle ((dm (h:=_)).2 ⟨_,_,U,hge,hlm,hb,(λhh=>by cases hh),λi x hx=>⟨w.heap.size,0,U,_,[.int .u8 (x.toNat:Int)],by simp [Part.add];rfl,U,λj hj=>?_,U⟩⟩) _ _ (s.put hd _ hok);have hi:=(List.getElem?_eq_some_iff.1 hx).1;have hj0:j=0:=by omega
 subst hj0;unfold bytesRow;rw [Array.getElem?_append_left (by simp;omega)];simp [hx]
end
section
variable {P:Program} [Tbl P] [Tb P] {F:Fd}{n:PostD}{x:Nat->PostD}{a:LO}{o:LQ}{ops:Array Oper}{rest:LR}
variable {d:Nat}{ty:TypeId}{pos:String}{af:Array Edge}{g:Option (Nat×Bool)}{T:Nat}{xo lo hi:Operand}{tt:Nat×Nat}{kk k2:IntKind}{i j:Int}
omit [Tb P] in
theorem cut_go {α:Type}{R:Rep α}{l:List α}{sz m:Nat}{S:Sig}{h:Part}{L:LE}{aa:OA}{cc:Nat}(hT:find1 (Tbl.sl P) T=some tt) (h5:Nat.beq tt.2 sz=true) (hx:ev S xo=some (.slice aa l.length cc)) (hR:SlR R sz h aa cc l) (hl:ev S lo=some (.int kk i)) (hi':i=(m:Int)) (h1:m<=l.length) :
 ∃ v,RunV (F.fr P) S h L (.slice T xo (some lo) none none) ty v/\∃ a' c',v=.slice a' (l.drop m).length c'/\SlR R sz h a' c' (l.drop m):=by
 have e5:=aq h5;have hT':=Tbl.slt hT;rw [show tt=(tt.1,sz) by rw [<- e5]] at hT';exact ei (f:=F.fr P) (L:=L) (ty:=ty) hT' hx hl hi' hR U h1
omit [Tb P] in
theorem cut_to {α:Type}{R:Rep α}{l:List α}{sz m:Nat}{S:Sig}{h:Part}{L:LE}{aa:OA}{cc:Nat}(hT:find1 (Tbl.sl P) T=some tt) (h5:Nat.beq tt.2 sz=true) (hx:ev S xo=some (.slice aa l.length cc)) (hR:SlR R sz h aa cc l) (hl:ev S hi=some (.int kk i)) (hi':i=(m:Int)) (h1:m<=l.length) :
 ∃ v,RunV (F.fr P) S h L (.slice T xo none (some hi) none) ty v/\∃ a' c',v=.slice a' (l.take m).length c'/\SlR R sz h a' c' (l.take m):=by
 have e5:=aq h5;have hT':=Tbl.slt hT;rw [show tt=(tt.1,sz) by rw [<- e5]] at hT';exact RunE.cut_h (f:=F.fr P) (L:=L) (ty:=ty) hT' hx hl hi' hR U h1
theorem St1.fromB {l:LB}(m:Nat) (hx:evA a xo=some (.d (.bs l))) (hl:evA a lo=some (.d (.v (.int kk i)))) (hT:find1 (Tbl.sl P) T=some tt) (h5:Nat.beq tt.2 1=true) (hi':i=(m:Int)) (h1:m<=l.length) (hg:gdB ops a g=some true) (hd:Nat.blt d F.m=true) :
 St1 P F ops a o ⟨some d,.slice T xo (some lo) none none,ty,pos,af,g⟩ d (.d (.bs (l.drop m))):=.run hg hd λρ h S L cz=>by
 obtain⟨v,h2,h3⟩:=cE cz hx;obtain⟨aa,cc,rfl,hR⟩:=dm.1 h3;obtain⟨w,h4,h6⟩:=cut_go (F:=F) (ty:=ty) (L:=L) hT h5 h2 hR (dv cz hl) hi' h1;exact⟨w,h4,(dm (h:=h)).2 h6⟩
theorem St1.fromN {l:LN}(m:Nat) (hx:evA a xo=some (.d (.nds l))) (hl:evA a lo=some (.d (.v (.int kk i)))) (hT:find1 (Tbl.sl P) T=some tt) (h5:Nat.beq tt.2 5=true) (hi':i=(m:Int)) (h1:m<=l.length) (hg:gdB ops a g=some true) (hd:Nat.blt d F.m=true) :
 St1 P F ops a o ⟨some d,.slice T xo (some lo) none none,ty,pos,af,g⟩ d (.d (.nds (l.drop m))):=.run hg hd λρ h S L cz=>by
 obtain⟨v,h2,h3⟩:=cE cz hx;obtain⟨aa,cc,rfl,hR⟩:=dN.1 h3;obtain⟨w,h4,h6⟩:=cut_go (F:=F) (ty:=ty) (L:=L) hT h5 h2 hR (dv cz hl) hi' h1;exact⟨w,h4,(dN (h:=h)).2 h6⟩
theorem St1.toB {l:LB}(m:Nat) (hx:evA a xo=some (.d (.bs l))) (hl:evA a hi=some (.d (.v (.int kk i)))) (hT:find1 (Tbl.sl P) T=some tt) (h5:Nat.beq tt.2 1=true) (hi':i=(m:Int)) (h1:m<=l.length) (hg:gdB ops a g=some true) (hd:Nat.blt d F.m=true) :
 St1 P F ops a o ⟨some d,.slice T xo none (some hi) none,ty,pos,af,g⟩ d (.d (.bs (l.take m))):=.run hg hd λρ h S L cz=>by
 obtain⟨v,h2,h3⟩:=cE cz hx;obtain⟨aa,cc,rfl,hR⟩:=dm.1 h3;obtain⟨w,h4,h6⟩:=cut_to (F:=F) (ty:=ty) (L:=L) hT h5 h2 hR (dv cz hl) hi' h1;exact⟨w,h4,(dm (h:=h)).2 h6⟩
end
section
variable {P:Program} [Tb P] {F:Fd}{n:PostD}{x:Nat->PostD}{a a' a1:LO}{o o' o1:LQ}{ops:Array Oper}{rest:LR}
variable {d:Nat}{ty T yt:TypeId}{pos:String}{af:Array Edge}{g:Option (Nat×Bool)}{xo yo:Operand}{p q:Int}
theorem St1.bin {k k' kr:IntKind}{r:Int}{bo:BinOp}(hx:evA a xo=some (.d (.v (.int k p)))) (hy:evA a yo=some (.d (.v (.int k' q)))) (hr:∀ S h L,ev S xo=some (.int k p)->ev S yo=some (.int k' q)->RunV (F.fr P) S h L (.binOp bo T xo yo yt) ty (.int kr r)) (hg:gdB ops a g=some true) (hd:Nat.blt d F.m=true) :
 St1 P F ops a o ⟨some d,.binOp bo T xo yo yt,ty,pos,af,g⟩ d (.d (.v (.int kr r))):=.run hg hd λρ h S L cz=>⟨_,hr S h L (dv cz hx) (dv cz hy),cj (h:=h)⟩
theorem St1.add (hx:evA a xo=some (.d (.v (.int .i64 p)))) (hy:evA a yo=some (.d (.v (.int .i64 q)))) (h0:-9223372036854775808<=p+q/\p+q<=9223372036854775807) (hg:gdB ops a g=some true) (hd:Nat.blt d F.m=true) :
 St1 P F ops a o ⟨some d,.binOp .add T xo yo yt,ty,pos,af,g⟩ d (.d (.v (.int .i64 (p+q)))):=.bin hx hy (λ_ _ _ h1 h2=>RunV.add_i64 h1 h2 h0.1 h0.2) hg hd
theorem St1.sub (hx:evA a xo=some (.d (.v (.int .i64 p)))) (hy:evA a yo=some (.d (.v (.int .i64 q)))) (h0:-9223372036854775808<=p-q/\p-q<=9223372036854775807) (hg:gdB ops a g=some true) (hd:Nat.blt d F.m=true) :
 St1 P F ops a o ⟨some d,.binOp .sub T xo yo yt,ty,pos,af,g⟩ d (.d (.v (.int .i64 (p-q)))):=.bin hx hy (λ_ _ _ h1 h2=>RunV.sub_i64 h1 h2 h0.1 h0.2) hg hd
theorem St1.mul (hx:evA a xo=some (.d (.v (.int .i64 p)))) (hy:evA a yo=some (.d (.v (.int .i64 q)))) (h0:-9223372036854775808<=p*q/\p*q<=9223372036854775807) (hg:gdB ops a g=some true) (hd:Nat.blt d F.m=true) :
 St1 P F ops a o ⟨some d,.binOp .mul T xo yo yt,ty,pos,af,g⟩ d (.d (.v (.int .i64 (p*q)))):=.bin hx hy (λ_ _ _ h1 h2=>RunV.mul_i64 h1 h2 h0.1 h0.2) hg hd
theorem St1.quo (hx:evA a xo=some (.d (.v (.int .i64 p)))) (hy:evA a yo=some (.d (.v (.int .i64 q)))) (h0:0<=p/\p<=9223372036854775807/\0<q) (hg:gdB ops a g=some true) (hd:Nat.blt d F.m=true) :
 St1 P F ops a o ⟨some d,.binOp .quo T xo yo yt,ty,pos,af,g⟩ d (.d (.v (.int .i64 (p / q)))):=.bin hx hy (λ_ _ _ h1 h2=>RunV.quo_i64 h1 h2 h0.1 h0.2.1 h0.2.2) hg hd
theorem St1.rem (hx:evA a xo=some (.d (.v (.int .i64 p)))) (hy:evA a yo=some (.d (.v (.int .i64 q)))) (h0:0<=p/\0<q) (hg:gdB ops a g=some true) (hd:Nat.blt d F.m=true) :
 St1 P F ops a o ⟨some d,.binOp .rem T xo yo yt,ty,pos,af,g⟩ d (.d (.v (.int .i64 (p % q)))):=.bin hx hy (λ_ _ _ h1 h2=>RunV.rem_i64 h1 h2 h0.1 h0.2) hg hd
theorem St1.cvI {src dst:TypeId}{kk:IntKind}(hx:evA a xo=some (.d (.v (.int kk p)))) (hc:convI P src dst=some .i64) (h0:-9223372036854775808<=p/\p<=9223372036854775807) (hg:gdB ops a g=some true) (hd:Nat.blt d F.m=true) :
 St1 P F ops a o ⟨some d,.convert src dst xo,ty,pos,af,g⟩ d (.d (.v (.int .i64 p))):=.run hg hd λρ h S L cz=>⟨_,RunV.conv_i64 hc (dv cz hx) h0.1 h0.2,cj (h:=h)⟩
theorem St1.cvU {src dst:TypeId}{kk:IntKind}(hx:evA a xo=some (.d (.v (.int kk p)))) (hc:convI P src dst=some .u64) (h0:0<=p/\p<=18446744073709551615) (hg:gdB ops a g=some true) (hd:Nat.blt d F.m=true) :
 St1 P F ops a o ⟨some d,.convert src dst xo,ty,pos,af,g⟩ d (.d (.v (.int .u64 p))):=.run hg hd λρ h S L cz=>⟨_,dJ hc (dv cz hx) h0.1 h0.2,cj (h:=h)⟩
theorem St1.cat {s t:LB}(hx:evA a xo=some (.d (.v (.string ⟨⟨s⟩⟩)))) (hy:evA a yo=some (.d (.v (.string ⟨⟨t⟩⟩)))) (hb:s.length+t.length<=9223372036854775807) (hg:gdB ops a g=some true) (hd:Nat.blt d F.m=true) :
 St1 P F ops a o ⟨some d,.binOp .add T xo yo yt,ty,pos,af,g⟩ d (.d (.v (.string ⟨(s++t).toArray⟩))):=.run hg hd λρ h S L cz=>⟨_,RunV.addS (dv cz hx) (dv cz hy) hb,cj (h:=h)⟩
def junA (k:Nat):LO->Option LO
 |[]=>some []
 |(t,x)::r=>match junA k r with
  |some r'=>match x with
   |.row j=>bif Nat.beq j k then some ((t,.any)::r') else some ((t,.row j)::r')
   |.recr l j=>bif Nat.beq j k then some ((t,.any)::r') else some ((t,.recr l j)::r')
   |x=>some ((t,x)::r')
  |none=>none
def junL (k:Nat):List A->Option (List A)
 |[]=>some []
 |x::r=>match junL k r with
  |some r'=>match x with
   |.row j=>bif Nat.beq j k then some (.any::r') else some (.row j::r')
   |.recr l j=>bif Nat.beq j k then some (.any::r') else some (.recr l j::r')
   |x=>some (x::r')
  |none=>none
def junO (k:Nat):LQ->Option LQ
 |[]=>some []
 |(i,e)::r=>match junO k r with
  |some r'=>bif Nat.beq i k then none else match e with
   |.var t cs=>match junL k cs with
    |some cs'=>some ((i,.var t cs')::r')
    |none=>none
   |.rowv v t d=>bif Nat.beq v k then none else some ((i,.rowv v t d)::r')
   |e=>some ((i,e)::r')
  |none=>none
theorem lT (ρ:Rho) {k i:Nat}(h:i≠k) (aa:OA) (c n:Nat):(ρ.setR k aa c n).b i=ρ.b i/\(ρ.setR k aa c n).a i=ρ.a i/\(ρ.setR k aa c n).c i=ρ.c i/\(ρ.setR k aa c n).n i=ρ.n i:=by simp [Rho.setR,h]
section
variable {ρ:Rho}{h:Part}{k:Nat}{aa:OA}{c nn:Nat}
theorem g_ {x:A}{v:Value}(hx:∀ j,x=.row j->j≠k) (hx2:∀ l j,x=.recr l j->j≠k) (q:DenA ρ h x v):DenA (ρ.setR k aa c nn) h x v:=by
 cases x with
 |recr l j=>obtain⟨_,e1,e2,e3⟩:=lT ρ (hx2 l j U) aa c nn;simp only [DenA] at q |-;rw [e1,e2,e3];exact q
 |d d=>exact q
 |mp i=>exact q
 |own i f=>exact q
 |row j=>obtain⟨_,e1,e2,e3⟩:=lT ρ (hx j U) aa c nn;simp only [DenA] at q |-;rw [e1,e2,e3];exact q
 |any=>trivial
theorem oF:∀ {a a':LO},junA k a=some a'->∀ {t:Nat}{x:A},lkA a' t=some x->∃ y,lkA a t=some y/\∀ v,DenA ρ h y v->DenA (ρ.setR k aa c nn) h x v
 |[],a',e,t,x,hx=>by cases e;cases hx
 |(i,y)::r,a',e,t,x,hx=>by
  simp only [junA] at e;split at e
  ·rename_i r' hr;have ih:=oF hr (t:=t) (x:=x);simp only [lkA];have key:∀ z,(∀ v,DenA ρ h y v->DenA (ρ.setR k aa c nn) h z v)->a'=(i,z)::r'->∃ w,(bif Nat.beq i t then some y else lkA r t)=some w/\∀ v,DenA ρ h w v->DenA (ρ.setR k aa c nn) h x v:=λz hz ha=>by
    subst ha;simp only [lkA] at hx;cases hb:Nat.beq i t with
    |true=>simp only [hb,cond_true,aB] at hx |-;subst hx;exact⟨y,U,hz⟩
    |false=>simp only [hb,cond_false] at hx |-;exact ih hx
   split at e
   ·rename_i j;cases hb:Nat.beq j k with
    |true=>rw [hb,cond_true] at e;exact key .any (λv hv=>trivial) (by simpa using e.symm)
    |false =>
     rw [hb,cond_false] at e;exact key _ (λv hv=>g_ (λj' e'=>by cases e';intro e2;subst e2;simp at hb) (λ_ _ e'=>by cases e') hv) (by simpa using e.symm)
   ·rename_i l j;cases hb:Nat.beq j k with
    |true=>rw [hb,cond_true] at e;exact key .any (λv hv=>trivial) (by simpa using e.symm)
    |false =>
     rw [hb,cond_false] at e;exact key _ (λv hv=>g_ (λ_ e'=>by cases e') (λl' j' e'=>by cases e';intro e2;subst e2;simp at hb) hv) (by simpa using e.symm)
   ·rename_i hne hne2;exact key _ (λv hv=>g_ (λj' e'=>absurd e' (hne j')) (λl' j' e'=>absurd e' (hne2 l' j')) hv) (by simpa using e.symm)
  ·cases e
theorem junL_ok:∀ {l l':List A}{cs:LV},junL k l=some l'->DenAL ρ h l cs->DenAL (ρ.setR k aa c nn) h l' cs
 |[],l',cs,e,hd=>by cases e;exact hd
 |y::r,l',cs,e,⟨v,t,e2,h1,h2,h3⟩=>by
  simp only [junL] at e;split at e
  ·rename_i r' hr;have ih:=junL_ok hr h3;split at e
   ·rename_i j;cases hb:Nat.beq j k with
    |true=>rw [hb,cond_true] at e;cases e;exact⟨v,t,e2,h1,trivial,ih⟩
    |false =>
     rw [hb,cond_false] at e;cases e;exact⟨v,t,e2,h1,g_ (λj' e'=>by cases e';intro e2;subst e2;simp at hb) (λ_ _ e'=>by cases e') h2,ih⟩
   ·rename_i l j;cases hb:Nat.beq j k with
    |true=>rw [hb,cond_true] at e;cases e;exact⟨v,t,e2,h1,trivial,ih⟩
    |false =>
     rw [hb,cond_false] at e;cases e;exact⟨v,t,e2,h1,g_ (λ_ e'=>by cases e') (λl' j' e'=>by cases e';intro e2;subst e2;simp at hb) h2,ih⟩
   ·rename_i hne hne2;cases e;exact⟨v,t,e2,h1,g_ (λj' e'=>absurd e' (hne j')) (λl' j' e'=>absurd e' (hne2 l' j')) h2,ih⟩
  ·cases e
theorem oE:∀ {o o':LQ}{L:LE},junO k o=some o'->DenO ρ h o L->DenO (ρ.setR k aa c nn) h o' L
 |[],o',L,e,hd=>by cases e;exact hd
 |(i,y)::r,o',L,e,⟨x,L',e2,h1,h2⟩=>by
  simp only [junO] at e;split at e
  ·rename_i r' hr;have ih:=oE hr h2;cases hb:Nat.beq i k with
   |true=>rw [hb] at e;cases e
   |false =>
    rw [hb,cond_false] at e;have hik:i≠k:=λe2=>by subst e2;simp at hb
    obtain⟨q1,q2,q3,q4⟩:=lT ρ hik aa c nn;split at e
    ·split at e<;>cases e;rename_i cs' hcs;obtain⟨vs,h3,h4⟩:=h1;exact⟨x,L',e2,⟨vs,by rw [q1];exact h3,junL_ok hcs h4⟩,ih⟩
    ·rename_i v t d;cases hv:Nat.beq v k with
     |true=>rw [hv] at e;cases e
     |false =>
      rw [hv,cond_false] at e;cases e;have hvk:v≠k:=λe2=>by subst e2;simp at hv
      obtain⟨w1,w2,w3,w4⟩:=lT ρ hvk aa c nn;obtain⟨xs,sz,h3,h4,h5⟩:=h1;exact⟨x,L',e2,⟨xs,sz,by rw [w2,w3,w4];exact h3,by rw [w4];exact h4,by rw [w4];exact h5⟩,ih⟩
    ·rename_i hne hne2;cases e;refine⟨x,L',e2,?_,ih⟩;cases y with
     |var t cs=>exact absurd U (hne t cs)
     |rowv v t d=>exact absurd U (hne2 v t d)
     |pin v b=>exact h1
     |set es=>exact h1
     |whl t d=>obtain⟨vs,h3,h4⟩:=h1;exact⟨vs,by rw [q1];exact h3,h4⟩
     |row t d=>obtain⟨xs,sz,h3,h4,h5⟩:=h1;exact⟨xs,sz,by rw [q2,q3,q4];exact h3,by rw [q4];exact h4,by rw [q4];exact h5⟩
  ·cases e
end
structure Kd (α:Type):Type 1 where
 f:List α->D
 R:Rep α
 sz:Nat
 mono:Mono R
 row:∀ {l h s n xs},RowR h (f l) s n xs<->s=sz/\n=l.length/\CellsR R sz h xs l
 den:∀ {l h v},Den (f l) h v<->∃ a c,v=.slice a l.length c/\SlR R sz h a c l
def kB:Kd UInt8:=⟨.bs,u8R,1,inferInstance,Iff.rfl,dm⟩
def kN:Kd Nd:=⟨.nds,NdR,5,inferInstance,Iff.rfl,dN⟩
def kS {α:Type}(sz:Nat) (enc:α->List D):Kd α:=⟨.sl sz enc,encR enc,sz,inferInstance,Iff.rfl,iE⟩
theorem ap_core {α:Type}(K:Kd α) {k e bytes:Nat}{l1 l2:List α}{d2:D}{ρ:Rho}{h:Part}{S:Sig}{L:LE}(cz:Cz P ρ h a1 o1 S L) (hx:evA a1 xo=some (.row k)) (hk:lkO o1 k=some (.row e (K.f l1))) (hy:evA a1 yo=some (.d d2)) (hd2:nilD P T d2=K.f l2) (hT:findP (Tb.ap P) T=some (e,K.sz,bytes))
 (hb:(l1.length+l2.length)*bytes<=140737488355328) (hb0:Nat.blt 0 bytes=true) (hja:junA k a1=some a') (hjo:junO k (delO o1 k)=some o') (hd:Nat.blt d F.m=true)
 (kk:JLD P F ops n x rest ((d,.row k)::a') ((k,.row e (K.f (l1++l2)))::o')) :
 JL (F.fr P) ops (up P n) (λi=>up P (x i)) (⟨some d,.call { callee:=.builtin .append,args:=#[xo,yo],argTypes:=#[T,T] },ty,pos,af,none⟩::rest) S h L:=by
 obtain⟨v,h1,h2⟩:=cE cz hx;cases h2;obtain⟨w,h3,h4⟩:=cE cz hy;have h5:=gR (P:=P) (T:=T) h w h4;rw [hd2] at h5;obtain⟨a2,c2,rfl,hR⟩:=K.den.1 h5;obtain⟨y,L',hD,⟨xs,sz,rfl,hRow,hbig⟩,hr⟩:=cz.o.get hk;obtain⟨rfl,hn,hc⟩:=K.row.1 hRow;have:=K.mono;refine bX (Tb.apt hT) h1 h3 hc hn hR U hD hb hd hb0 (λaN cN xsN hcN hbN=>?_);have hden:DenO (ρ.setR k aN cN (l1++l2).length) h ((k,.row e (K.f (l1++l2)))::o') (.row aN cN e K.sz (l1++l2).length xsN::L'):=by
  have en:(ρ.setR k aN cN (l1++l2).length).n k=(l1++l2).length:=by simp [Rho.setR]
  refine⟨_,L',U,⟨xsN,K.sz,by simp [Rho.setR],?_,by rw [en];exact hbN⟩,oE hjo hr⟩;rw [en];exact K.row.2 ⟨U,U,hcN⟩
 refine kk.k (ρ.setR k aN cN (l1++l2).length) h _ _ (eI (u:=.row k) ⟨cz.t,λt x hx=>?_,hden⟩ (by simp [Rho.setR,DenA]) d);obtain⟨y,g1,g2⟩:=oF hja hx;obtain⟨v,g3,g4⟩:=cz.s t y g1;exact⟨v,g3,g2 v g4⟩
theorem Ap {α:Type}(K:Kd α) {k e bytes:Nat}{l1 l2:List α}{d2:D}(hp:pubs (rowsA a [yo]) a o=some (a1,o1)) (hx:evA a1 xo=some (.row k)) (hk:lkO o1 k=some (.row e (K.f l1))) (hy:evA a1 yo=some (.d d2)) (hd2:nilD P T d2=K.f l2) (hT:findP (Tb.ap P) T=some (e,K.sz,bytes))
 (hb:(l1.length+l2.length)*bytes<=140737488355328) (hb0:Nat.blt 0 bytes=true) (hja:junA k a1=some a') (hjo:junO k (delO o1 k)=some o') (hd:Nat.blt d F.m=true)
 (kk:JLD P F ops n x rest ((d,.row k)::a') ((k,.row e (K.f (l1++l2)))::o')) :
 JLD P F ops n x (⟨some d,.call { callee:=.builtin .append,args:=#[xo,yo],argTypes:=#[T,T] },ty,pos,af,none⟩::rest) a o:=.mk λρ h S L cz ac w s=>by
 obtain⟨h',L',hle,hok,cz'⟩:=eY hp cz s.ok;exact ap_core K cz' hx hk hy hd2 hT hb hb0 hja hjo hd kk ac w (s.with hok)
theorem Ap0 {α:Type}(K:Kd α) {k e bytes:Nat}{l2:List α}{d2:D}(hp:pubs (rowsA a [yo]) a o=some (a1,o1)) (hx:evA a1 xo=some (.d (.v (.slice none 0 0)))) (hk:nextK a1 o1=some k) (hy:evA a1 yo=some (.d d2)) (hd2:nilD P T d2=K.f l2) (hT:findP (Tb.ap P) T=some (e,K.sz,bytes))
 (hb:l2.length*bytes<=140737488355328) (hb0:Nat.blt 0 bytes=true) (hd:Nat.blt d F.m=true)
 (kk:JLD P F ops n x rest ((d,.row k)::a1) ((k,.row e (K.f l2))::o1)) :
 JLD P F ops n x (⟨some d,.call { callee:=.builtin .append,args:=#[xo,yo],argTypes:=#[T,T] },ty,pos,af,none⟩::rest) a o:=.mk λρ h S L cz ac w s=>by
 obtain⟨h',L',hle,hok,cz'⟩:=eY hp cz s.ok;have h1:=dv cz' hx;obtain⟨w2,h3,h4⟩:=cE cz' hy;have h5:=gR (P:=P) (T:=T) h' w2 h4;rw [hd2] at h5;obtain⟨a2,c2,rfl,hR⟩:=K.den.1 h5;have:=K.mono;refine JL.own (L':=.row none 0 e K.sz 0 []::L') (λ_ hw=>hw.row_nil e K.sz) ?_ ac w (s.with hok);refine bX (l:=[]) (Tb.apt hT) h1 h3 bQ U hR U .here (by simpa using hb) hd hb0 (λaN cN xsN hcN hbN=>?_);have cN':=cz'.eqv hk (ρ.eqv_setR k aN cN l2.length);simp only [List.nil_append] at hcN hbN |-;have hden:DenO (ρ.setR k aN cN l2.length) h' ((k,.row e (K.f l2))::o1) (.row aN cN e K.sz l2.length xsN::L'):=by
  have en:(ρ.setR k aN cN l2.length).n k=l2.length:=by simp [Rho.setR]
  refine⟨_,L',U,⟨xsN,K.sz,by simp [Rho.setR],?_,by rw [en];exact hbN⟩,cN'.o⟩;rw [en];exact K.row.2 ⟨U,U,hcN⟩
 exact kk.k (ρ.setR k aN cN l2.length) h' _ _ (eI (u:=.row k) ⟨cN'.t,cN'.s,hden⟩ (by simp [Rho.setR,DenA]) d)
theorem Rn {α:Type}(K:Kd α) (t e:Nat) {k:Nat}{c:Code}(hx:lkA a t=some (.d (.v (.slice none 0 0)))) (hk:nextK a o=some k) (kk:JD P F c n x ((t,.row k)::a) ((k,.row e (K.f []))::o)):JD P F c n x a o:=.mk λρ h S L cz=>by
 have h1:look S t=some (.slice none 0 0):=dv (y:=.tmp t) cz hx;refine J.own (L':=.row none 0 e K.sz 0 []::L) (λ_ hw=>hw.row_nil e K.sz) ?_;have c':=cz.eqv hk (ρ.eqv_setR k none 0 0);refine kk.k (ρ.setR k none 0 0) h _ _ ⟨c'.t,λu y hy=>?_,_,L,U,⟨[],K.sz,by simp [Rho.setR],?_,by simp [Rho.setR]⟩,c'.o⟩
 ·simp only [lkA] at hy;cases hq:Nat.beq t u with
  |true =>
   obtain rfl:=aq hq;simp only [hq,cond_true,aB] at hy;subst hy;exact⟨_,h1,by simp [DenA,Rho.setR]⟩
  |false=>simp only [hq,cond_false] at hy;exact c'.s u y hy
 ·exact K.row.2 ⟨U,by simp [Rho.setR],bQ⟩
theorem St1.app0 {α:Type}(K:Kd α) {e bytes:Nat}{l2:List α}{d2:D}(hx:evA a xo=some (.d (.v (.slice none 0 0)))) (hy:evA a yo=some (.d d2)) (hd2:nilD P T d2=K.f l2) (hT:findP (Tb.ap P) T=some (e,K.sz,bytes))
 (hb:l2.length*bytes<=140737488355328) (hb0:Nat.blt 0 bytes=true) (hd:Nat.blt d F.m=true) :
 St1 P F ops a o ⟨some d,.call { callee:=.builtin .append,args:=#[xo,yo],argTypes:=#[T,T] },ty,pos,af,none⟩ d (.d (K.f l2)):=λρ h S L L' Lr p cz N X rest k=>by
 have h1:=dv cz hx;obtain⟨w2,h3,h4⟩:=cE cz hy;have h5:=gR (P:=P) (T:=T) h w2 h4;rw [hd2] at h5;obtain⟨a2,c2,rfl,hR⟩:=K.den.1 h5;have:=K.mono;refine JL.own (L':=.row none 0 e K.sz 0 []::L) (λ_ hw=>hw.row_nil e K.sz) ?_;refine bX (l:=[]) (Tb.apt hT) h1 h3 bQ U hR U .here (by simpa using hb) hd hb0 (λaN cN xsN hcN hbN=>?_);simp only [List.nil_append] at hcN hbN |-
 exact cW .here hcN U hbN (λh' hle hS=>k _ h' hle (K.den.2 ⟨_,_,U,hS⟩))
end
theorem mK:prog.follows .mixedOrders=true:=by kernel_rfl
def uzD:D->Value
 |.v u=>u
 |.bq b=>.bool b
 |_=>.nilIface
def smD:D->Bool
 |.v u=>u.oneCell'
 |.bq _=>true
 |_=>false
theorem zl_:∀ {ds:List D},ds.all smD=true->∀ h:Part,DenL ds h (ds.map uzD)
 |[],_,h=>.n
 |d::r,e,h=>by
  simp only [List.all_cons,Bool.and_eq_true] at e;obtain⟨e1,e2⟩:=e;cases d with
  |v u=>exact .c e1 cj (zl_ e2 h)
  |bq b=>exact .c U den_bq0 (zl_ e2 h)
  |_=>cases e1
theorem fT0:∀ d,(none:Option D)=some d->∀ h:Part,Den d h (.slice none 0 0):=λ_ e=>by cases e
theorem fTb:∀ d,some (D.bs [])=some d->∀ h:Part,Den d h (.slice none 0 0):=λ_ e=>by cases e;exact λ_=>sv
theorem fTn:∀ d,some (D.nds [])=some d->∀ h:Part,Den d h (.slice none 0 0):=λ_ e=>by cases e;exact λ_=>oR
theorem fTs {α:Type}{sz:Nat}{enc:α->List D}:∀ d,some (D.sl sz enc [])=some d->∀ h:Part,Den d h (.slice none 0 0):=λ_ e=>by cases e;exact λ_=>fG
def zs_:List (Nat×List D):=[(3,[.v (.int .i64 0)]),(27,[.v (.string ⟨⟨[]⟩⟩),.bq false,.v (.slice none 0 0),.v (.slice none 0 0),.v (.slice none 0 0),.v (.slice none 0 0)]),(30,[.v (.int .i64 0)]),(35,[.v (.int .i64 0),.v (.int .i64 0),.bq false,.v (.slice none 0 0),.v (.slice none 0 0)]),(48,[.v (.string ⟨⟨[]⟩⟩),.v (.slice none 0 0)]),(65,[.v (.slice none 0 0),.v (.slice none 0 0),.v (.slice none 0 0)]),(68,[.v (.slice none 0 0),.v (.int .i64 0),.v (.slice none 0 0),.v (.slice none 0 0),.v (.int .i64 0),.v (.int .i64 0),.v (.slice none 0 0),.v (.slice none 0 0),.v (.slice none 0 0),.v (.slice none 0 0),.v (.slice none 0 0)]),(72,[.v (.int .i64 0),.v (.slice none 0 0),.v (.int .i64 0),.v (.int .i64 0),.v (.slice none 0 0),.v (.slice none 0 0)]),(75,[.v (.slice none 0 0),.v (.slice none 0 0),.v (.slice none 0 0),.v (.int .i64 0),.v (.slice none 0 0),.v (.slice none 0 0),.v (.slice none 0 0)]),(102,[.v (.int .i64 0),.v (.int .i64 0)]),(110,[.v (.int .i64 0),.bq false]),(134,[.v (.string ⟨⟨[]⟩⟩),.v (.int .i64 0),.v (.string ⟨⟨[]⟩⟩)]),(138,[.v (.slice none 0 0),.v (.int .i64 0)]),(167,[.v (.slice none 0 0),.v (.int .i64 0),.v (.int .i64 0),.bq false,.v (.slice none 0 0),.v (.slice none 0 0)]),(173,[.v (.string ⟨⟨[]⟩⟩),.bq false,.v (.slice none 0 0)]),(176,[.v (.slice none 0 0),.v (.int .i64 0)]),(197,[.v (.int .i64 0),.v (.int .i64 0)]),(283,[.bq false,.bq false,.v (.int .i64 0),.bq false,.v (.int .i64 0),.v (.slice none 0 0),.v (.slice none 0 0)]),(286,[.v (.int .i64 0)]),(314,[.bq false,.bq false,.v (.int .i64 0),.bq false,.v (.int .i64 0),.v (.slice none 0 0),.v (.slice none 0 0)])]
theorem zs_ok:AllP (λx=>∃ zs,zeroT prog x.1=some zs/\∀ h,DenL x.2 h zs) zs_:=.cons ⟨_,by kernel_rfl,zl_ U⟩ <| .cons ⟨_,by kernel_rfl,zl_ rfl⟩ <| .cons ⟨_,by kernel_rfl,zl_ rfl⟩ <| .cons ⟨_,by kernel_rfl,zl_ rfl⟩ <| .cons ⟨_,by kernel_rfl,zl_ rfl⟩ <| .cons ⟨_,by kernel_rfl,zl_ rfl⟩ <| .cons ⟨_,by kernel_rfl,zl_ rfl⟩ <| .cons ⟨_,by kernel_rfl,zl_ rfl⟩ <| .cons ⟨_,by kernel_rfl,zl_ rfl⟩ <| .cons ⟨_,by kernel_rfl,zl_ rfl⟩ <| .cons ⟨_,by kernel_rfl,zl_ rfl⟩ <| .cons ⟨_,by kernel_rfl,zl_ rfl⟩ <| .cons ⟨_,by kernel_rfl,zl_ rfl⟩ <| .cons ⟨_,by kernel_rfl,zl_ rfl⟩ <| .cons ⟨_,by kernel_rfl,zl_ rfl⟩ <| .cons ⟨_,by kernel_rfl,zl_ rfl⟩ <| .cons ⟨_,by kernel_rfl,zl_ rfl⟩ <| .cons ⟨_,by kernel_rfl,zl_ rfl⟩ <| .cons ⟨_,by kernel_rfl,zl_ rfl⟩ <| .cons ⟨_,by kernel_rfl,zl_ rfl⟩ <| .nil
def fs_:List (Nat×(List D->Option D)):=[(35,foldNd),(102,foldFlt),(134,foldAt),(173,foldXt),(27,foldT [none,none,some (.bs []),some (.sl 11 Crt.enc []),some (.sl 6 Cl.enc []),some (.sl 7 Sg.enc [])]),(48,foldT [none,some (.sl 1 bE [])]),(65,foldT [some (.sl 1 u32E []),some (.sl 1 u32E []),some (.sl 1 u32E [])]),(68,foldT [some (.sl 1 u32E []),none,some (.sl 3 At.enc []),some (.sl 3 At.enc []),none,none,some (.sl 1 u32E []),some (.sl 1 u32E []),some (.sl 1 u32E []),some (.sl 3 Xt.enc []),some (.bs [])]),(72,foldT [none,some (.sl 3 At.enc []),none,none,some (.sl 2 Gn.enc []),some (.bs [])]),(75,foldT [some (.sl 3 At.enc []),some (.sl 1 u32E []),some (.bs []),none,some (.sl 2 Fe.enc []),some (.bs []),some (.sl 2 Fe.enc [])]),(110,foldT [none,none]),(138,foldT [some (.bs []),none]),(167,foldT [some (.bs []),none,none,none,some (.bs []),some (.nds [])]),(176,foldT [some (.sl 1 u32E []),none]),(283,foldT [none,none,none,none,none,some (.sl 1 strE []),some (.bs [])]),(314,foldT [none,none,none,none,none,some (.sl 1 strE []),some (.bs [])])]
theorem fs_ok:AllP (λx=>FoldOk x.2) fs_:=.cons foldNd_ok <| .cons vJ <| .cons foldAt_ok <| .cons foldXt_ok <| .cons (eC (.cons fT0 <| .cons fT0 <| .cons fTb <| .cons fTs <| .cons fTs <| .cons fTs <| .nil)) <| .cons (eC (.cons fT0 <| .cons fTs <| .nil)) <| .cons (eC (.cons fTs <| .cons fTs <| .cons fTs <| .nil)) <| .cons (eC (.cons fTs <| .cons fT0 <| .cons fTs <| .cons fTs <| .cons fT0 <| .cons fT0 <| .cons fTs <| .cons fTs <| .cons fTs <| .cons fTs <| .cons fTb <| .nil)) <| .cons (eC (.cons fT0 <| .cons fTs <| .cons fT0 <| .cons fT0 <| .cons fTs <| .cons fTb <| .nil)) <| .cons (eC (.cons fTs <| .cons fTs <| .cons fTb <| .cons fT0 <| .cons fTs <| .cons fTb <| .cons fTs <| .nil)) <| .cons (eC (.cons fT0 <| .cons fT0 <| .nil)) <| .cons (eC (.cons fTb <| .cons fT0 <| .nil)) <| .cons (eC (.cons fTb <| .cons fT0 <| .cons fT0 <| .cons fT0 <| .cons fTb <| .cons fTn <| .nil)) <| .cons (eC (.cons fTs <| .cons fT0 <| .nil)) <| .cons (eC (.cons fT0 <| .cons fT0 <| .cons fT0 <| .cons fT0 <| .cons fT0 <| .cons fTs <| .cons fTb <| .nil)) <| .cons (eC (.cons fT0 <| .cons fT0 <| .cons fT0 <| .cons fT0 <| .cons fT0 <| .cons fTs <| .cons fTb <| .nil)) <| .nil
def ps_:List (Nat×List (Nat×Nat)):=[(27,[(0,1),(1,1),(2,1),(3,1),(4,1),(5,1)]),(35,[(0,1),(1,1),(2,1),(3,1),(4,1)]),(48,[(0,1),(1,1)]),(68,[(0,1),(1,1),(2,1),(3,1),(4,1),(5,1),(6,3),(9,1),(10,1)]),(72,[(0,1),(1,1),(2,1),(3,1),(4,1),(5,1)]),(75,[(0,1),(1,1),(2,1),(3,1),(4,1),(5,1),(6,1)]),(102,[(0,1),(1,1)]),(110,[(0,1),(1,1)]),(134,[(0,1),(1,1),(2,1)]),(138,[(0,1),(1,1)]),(167,[(0,1),(1,5)]),(173,[(0,1),(1,1),(2,1)]),(176,[(0,1),(1,1)]),(197,[(0,2)]),(283,[(0,1),(1,1),(2,1),(3,1),(4,1),(5,1),(6,1)]),(286,[(0,1)]),(314,[(0,1),(1,1),(2,1),(3,1),(4,1),(5,1),(6,1)])]
theorem ps_ok:AllP (λx=>∃ zs ds,plT prog x.1=some (zs,x.2)/\findG zs_ x.1=some ds/\∀ h,DenL ds h zs) ps_:=.cons ⟨_,_,by kernel_rfl,U,zl_ U⟩ <| .cons ⟨_,_,by kernel_rfl,rfl,zl_ rfl⟩ <| .cons ⟨_,_,by kernel_rfl,rfl,zl_ rfl⟩ <| .cons ⟨_,_,by kernel_rfl,rfl,zl_ rfl⟩ <| .cons ⟨_,_,by kernel_rfl,rfl,zl_ rfl⟩ <| .cons ⟨_,_,by kernel_rfl,rfl,zl_ rfl⟩ <| .cons ⟨_,_,by kernel_rfl,rfl,zl_ rfl⟩ <| .cons ⟨_,_,by kernel_rfl,rfl,zl_ rfl⟩ <| .cons ⟨_,_,by kernel_rfl,rfl,zl_ rfl⟩ <| .cons ⟨_,_,by kernel_rfl,rfl,zl_ rfl⟩ <| .cons ⟨_,_,by kernel_rfl,rfl,zl_ rfl⟩ <| .cons ⟨_,_,by kernel_rfl,rfl,zl_ rfl⟩ <| .cons ⟨_,_,by kernel_rfl,rfl,zl_ rfl⟩ <| .cons ⟨_,_,by kernel_rfl,rfl,zl_ rfl⟩ <| .cons ⟨_,_,by kernel_rfl,rfl,zl_ rfl⟩ <| .cons ⟨_,_,by kernel_rfl,rfl,zl_ rfl⟩ <| .cons ⟨_,_,by kernel_rfl,rfl,zl_ rfl⟩ <| .nil
def nl_:List (Nat×D):=[(22,.bs []),(23,.sl 11 Crt.enc []),(24,.sl 6 Cl.enc []),(25,.sl 7 Sg.enc []),(33,.nds []),(44,.sl 2 Fe.enc []),(46,.sl 1 bE []),(62,.sl 1 u32E []),(63,.sl 3 At.enc []),(66,.sl 3 Xt.enc []),(70,.sl 2 Gn.enc []),(281,.sl 1 strE [])]
theorem nl_ok:AllP (λx=>∀ h,Den x.2 h (.slice none 0 0)) nl_:=.cons (λ_=>sv) <| .cons (λ_=>fG) <| .cons (λ_=>fG) <| .cons (λ_=>fG) <| .cons (λ_=>oR) <| .cons (λ_=>fG) <| .cons (λ_=>fG) <| .cons (λ_=>fG) <| .cons (λ_=>fG) <| .cons (λ_=>fG) <| .cons (λ_=>fG) <| .cons (λ_=>fG) <| .nil
instance tb_:Tb prog where
 T:=Tabs
 mono:=Tabs.mono
 ag:=[(2,none),(3,none),(4,none),(5,none),(9,none),(22,none),(23,none),(24,none),(25,none),(27,some 6),(30,none),(33,none),(35,some 5),(44,none),(46,none),(48,some 2),(62,none),(63,none),(65,some 3),(66,none),(68,some 11),(70,none),(72,some 6),(75,some 7),(102,some 2),(110,some 2),(134,some 3),(138,some 2),(167,some 6),(173,some 3),(176,some 2),(197,some 2),(281,none),(283,some 7),(286,some 1),(314,some 7)]
 hag:=by kernel_rfl
 zr:=findG zs_
 hzr:=λh=>ju zs_ok h
 lt:=litAX
 hlt:=litAX_ok
 fo t ds:=match findG fs_ t with
  |some f=>f ds
  |none=>none
 hfo:=λ{t ds d} e=>by
  cases hf:findG fs_ t with
  |none=>rw [hf] at e;cases e
  |some f=>rw [hf] at e;exact ju fs_ok hf e
 st:=[9]
 hst:=by kernel_rfl
 bt:=[4]
 hbt:=by kernel_rfl
 ap:=[(22,5,1,1),(23,68,11,216),(24,72,6,96),(25,75,7,152),(33,35,5,72),(44,48,2,40),(46,22,1,24),(63,134,3,40),(66,173,3,48),(70,176,2,32),(165,167,6,96),(281,9,1,16)]
 hap:=by kernel_rfl
 pl:=findG ps_
 hpl:=λe1 e2=>by
  obtain⟨zs,ds,h1,h2,h3⟩:=ju ps_ok e1;rw [h2] at e2;cases e2;exact⟨zs,h1,h3⟩
 nl:=findG nl_
 hnl:=λe=>ju nl_ok e
class Cn (P:Program) (Fi:Nat) (T:outParam Prop):Prop where
 c:T
section
variable {f:Fr}{n:Post}{x:Nat->Post}{S:Sig}{h:Part}{L:LE}{ops:Array Oper}{rest:LR}{d F:Nat}{ty:TypeId}{pos:String}{af:Array Edge}
theorem JL.callvR {R:Value->Part->Prop}{args:LV}{os:List Operand}{ts:Array TypeId}{fo:Operand}(hF:callT f.P F=true) (hf:ev S fo=some (.func (.func F) #[] #[])) (ha:evl S os=some args) (c:FnR f.P F args h R) (hd:Nat.blt d f.m=true) (k:∀ v h',h.le h'->R v h'->JL f ops n x rest ((d,v)::S) h' L) :
 JL f ops n x (⟨some d,.call { callee:=.value fo,args:=os.toArray,argTypes:=ts },ty,pos,af,none⟩::rest) S h L :=
 JL.callv (R:=Rets λu h' Lo=>Lo=[]/\R u h') (Li:=[]) (Lr:=L) hF hf ha (by have:=c;unfold FnR at this;simpa using this) .nil hd (λ_ _ ⟨_,hh,_⟩=>by cases hh) (λ_ _ _ _ ⟨_,hh,_⟩=>by cases hh) (λv h' Lo hle ⟨_,hh,h1,h2⟩=>by cases hh;subst h1;exact k v h' hle h2)
end
section
variable {f:Fr}{n:Post}{x:Nat->Post}{S:Sig}{h:Part}{L:LE}{ops:Array Oper}{rest:LR}{d F:Nat}{ty:TypeId}{pos:String}{af:Array Edge}{q:Op}{xo yo:Operand}
theorem JL.guarded {j dj:Nat}{b:Bool}(hj:(ops[j]?).bind (·.dst)=some dj) (hs:look S dj=some (.bool b)) (k:JL f ops n x (⟨some d,q,ty,pos,af,none⟩::rest) S h L):JL f ops n x (⟨some d,q,ty,pos,af,some (j,b)⟩::rest) S h L:=λa w s=>by
 have k1:=k a w s;unfold wpList at k1 |-
 rw [if_pos (by simp [Region.wanted])] at k1;rw [if_pos (by simp [Region.wanted,dK s hj hs])];exact k1
theorem RunV.max {T T':TypeId}{p q:Int}{k:IntKind}(hx:ev S xo=some (.int k p)) (hy:ev S yo=some (.int k q)):RunV f S h L (.call { callee:=.builtin .max,args:=#[xo,yo],argTypes:=#[T,T'] }) ty (.int k (max p q)):=λa w s _ _ _ _=>by
 have e:(if p<q then q else p)=Max.max p q:=by split<;>omega
 simp [execOp,resolve,s.eval hx,s.eval hy,invoke,builtin,Builtin.max_,Builtin.max2,e]
end
section
variable {P:Program} [Tb P] {F:Fd}{n:PostD}{x:Nat->PostD}{a a1 b Au:LO}{o o1 ob:LQ}{ops:Array Oper}{rest:LR}{base:Nat}{es:List Ef}
variable {d Fi:Nat}{ty:TypeId}{pos:String}{af:Array Edge}{os:Array Operand}{ts:Array TypeId}{ds:List D}{d':D}{T:Prop}{fo:Operand}
theorem St1.callV (hf:evA a fo=some (.d (.v (.func (.func Fi) #[] #[])))) (ha:argsA P a os.toList ts.toList=some ds) (c:FnD P Fi ds d') (hF:callT P Fi=true) (hd:Nat.blt d F.m=true) :
 St1 P F ops a o ⟨some d,.call { callee:=.value fo,args:=os,argTypes:=ts },ty,pos,af,none⟩ d (.d d'):=λρ h S L L' Lr p cz N X rest k=>by
 obtain⟨vs,h3,h4⟩:=f6 cz ha;obtain⟨os⟩:=os;exact JL.callvR hF (dv cz hf) h3 (c.fn h vs cz.t h4) hd (λv h2 hle2 ⟨d',h7,h8⟩=>by subst h7;exact k v h2 hle2 h8)
theorem St1.max {xo yo:Operand}{T T':TypeId}{p q:Int}(hx:evA a xo=some (.d (.v (.int .i64 p)))) (hy:evA a yo=some (.d (.v (.int .i64 q)))) (hd:Nat.blt d F.m=true) :
 St1 P F ops a o ⟨some d,.call { callee:=.builtin .max,args:=#[xo,yo],argTypes:=#[T,T'] },ty,pos,af,none⟩ d (.d (.v (.int .i64 (max p q)))):=.run U hd λρ h S L cz=>⟨_,RunV.max (dv cz hx) (dv cz hy),cj (h:=h)⟩
theorem St1.fld [Tbl P] {xo:Operand}{T i off:Nat}{dd:D}{l:List D}{u:D}{g:Option (Nat×Bool)}(hx:evA a xo=some (.d dd)) (_:find2 (Tbl.fo P) T i=some off) (hT:fld1 P T i=some off) (hl:cellsD dd=some l) (hu:nthG l off=some u) (hg:gdB ops a g=some true) (hd:Nat.blt d F.m=true):St1 P F ops a o ⟨some d,.field T xo i,ty,pos,af,g⟩ d (.d u):=.run hg hd λρ h S L cz=>by
 obtain⟨v,h1,h2⟩:=cE cz hx;obtain⟨cs,rfl,h3⟩:=(fe hl).1 h2;rw [iP] at hu;obtain⟨w,h4,_,h5⟩:=h3.nth hu;exact⟨w,RunV.field1 hT h1 h4,h5⟩
theorem CaV [c:Cn P Fi T] (hp:pubs (rowsA a os.toList) a o=some (a1,o1)) (hf:evA a1 fo=some (.d (.v (.func (.func Fi) #[] #[])))) (ha:argsA P a1 os.toList ts.toList=some ds) (cc:T->FnD P Fi ds d') (k:JLD P F ops n x rest ((d,.d d')::a1) o1)
 (hF:callT P Fi=true:=by kernel_rfl) (hd:Nat.blt d F.m=true:=by rfl):JLD P F ops n x (⟨some d,.call { callee:=.value fo,args:=os,argTypes:=ts },ty,pos,af,none⟩::rest) a o:=.mk λρ h S L cz ac w s=>by
 obtain⟨h',L',hle,hok,cz'⟩:=eY hp cz s.ok;exact(bx (St1.callV hf ha (cc c.c) hF hd) k).k ρ h' S L' cz' ac w (s.with hok)
theorem CxV [c:Cn P Fi T] (hk:keepA (tms (fo::os.toList)) a=some Au) (hf:evA Au fo=some (.d (.v (.func (.func Fi) #[] #[])))) (ha:argsA P Au os.toList ts.toList=some ds) (cc:T->FnD P Fi ds d')
 (k:JX P F ops n x b ob base (eVal (tms (fo::os.toList)) none d (.d d')::es) rest ((d,.d d')::a) o) (hF:callT P Fi=true:=by kernel_rfl) (hd:Nat.blt d F.m=true:=by rfl) :
 JX P F ops n x b ob base es (⟨some d,.call { callee:=.value fo,args:=os,argTypes:=ts },ty,pos,af,none⟩::rest) a o:=JX.s1 _ hk (St1.callV hf ha (cc c.c) hF hd) k
theorem u5 {α:Type}{enc:α->List D}{sz:Nat}(h0:0<sz) {h:Part}:∀ {l:List α}{ds:List D}{vs:LV},ds=l.map (λy=>.st (enc y))->(∀ y∈l,(enc y).length=sz)->DenT ds h vs->All2 (λ(y:α) (v:Value)=>v.cells.toList.length=sz/\encR enc h v.cells.toList y) l vs
 |[],ds,vs,e,_,k=>by subst e;unfold List.map DenT at k;subst k;exact .nil
 |y::l,ds,vs,e,hl,k=>by
  subst e;rw [List.map_cons] at k;unfold DenT at k;obtain⟨v,t,rfl,h1,h2⟩:=k;obtain⟨cs,rfl,h3⟩:=dS.1 h1;exact .cons ⟨by have:=h3.len;have:=hl y (aK ..);simp [Value.cells];omega,show DenL _ h _ from h3⟩ (u5 h0 U (λz hz=>hl z (aP _ hz)) h2)
theorem St1.litS {α:Type}{enc:α->List D}(l:List α) {T len e sz bytes:Nat}{ps:Array (Nat×Operand)}{ds ds':List D}(hT:findP (Tb.ap P) T=some (e,sz,bytes)) (hp:evsA a 0 ps.toList=some ds) (hf:foldQ P e ds=some ds') (hl:ds'=l.map (λy=>.st (enc y))) (hz:∀ y∈l,(enc y).length=sz) (h0:Nat.blt 0 sz=true) (h1:Nat.blt 0 len=true) (h2:Nat.beq len ds.length=true) (h3:Nat.ble (len*sz) 16777216=true)
 (hd:Nat.blt d F.m=true):St1 P F ops a o ⟨some d,.buildSlice T len ps,ty,pos,af,none⟩ d (.d (.sl sz enc l)):=λρ h S L L' Lr p cz N X rest k=>by
 obtain⟨vs,h4,h5⟩:=ki cz hp;have h6:=u5 (sz:=sz) (by simpa using h0) hl hz (jt hf h5);have e2:=aq h2;have e3:=h5.len;have e4:len=vs.length:=by omega
 have e5:len*sz<=16777216:=by simpa using h3
 have g0:0<sz:=by simpa using h0
 have g1:0<len:=by simpa using h1
 have e6:=iC h6;have all:∀ {l:List α} {vs:LV},All2 (λ(y:α) (v:Value)=>v.cells.toList.length=sz/\encR enc h v.cells.toList y) l vs->∀ c∈vs,c.cells.toList.length=sz:=by
  intro l vs hh
  induction hh with
  |nil=>intro c hc;cases hc
  |cons hy _ ih =>
   intro c hc;cases hc with
   |head=>exact hy.1
   |tail _ hc=>exact ih c hc
 obtain⟨ps⟩:=ps;refine JL.litG vs (Tb.apt hT) h4 e4 (all h6) h3 (Nat.mul_pos g1 g0) hd (λb=>?_);have hlm:len<=140737488355328:=by
  have:len<=len*sz:=Nat.le_mul_of_pos_right _ g0;omega
 exact JL.pubB .here (fB h6) z2_ (λh' hle hS=>k _ h' hle (by rw [e4,e6];exact(iE (h:=h')).2 ⟨_,_,U,hS⟩))
end
theorem z5_ {p:Prop}(u:p:=by first|omega|(simp only [aC,aU,aG];omega)|decide):p:=u
theorem z21_ {p:Prop}(u:p:=by intro h;first|assumption|(apply h<;>(first|assumption|omega|(simp only [Nd.szL,Nd.sz,aU,aC,aG];omega)))):p:=u
section
variable {P:Program} [Tb P] {F:Fd}{n:PostD}{x:Nat->PostD}{a a1 b Au:LO}{o o1 ob:LQ}{ops:Array Oper}{rest:LR}{base:Nat}{es:List Ef}
variable {d Fi:Nat}{ty:TypeId}{pos:String}{af:Array Edge}{g:Option (Nat×Bool)}{os:Array Operand}{ts:Array TypeId}{ds:List D}{d':D}{T:Prop}
theorem CaI [c:Cn P Fi T] (hp:pubs (rowsA a os.toList) a o=some (a1,o1)) (ha:argsA P a1 os.toList ts.toList=some ds) (cc:T->FnD P Fi ds d') (k:JLD P F ops n x rest ((d,.d d')::a1) o1)
 (hF:callT P Fi=true:=by kernel_rfl) (hg:gdA ops a1 g=some true:=by rfl) (hd:Nat.blt d F.m=true:=by rfl) :
 JLD P F ops n x (⟨some d,.call { callee:=.value (.func Fi),args:=os,argTypes:=ts },ty,pos,af,g⟩::rest) a o:=Ca hp ha (cc c.c) k hF hg hd
theorem CaB [c:Cn P Fi T] (ha:argsA P a os.toList ts.toList=some ds) (cc:T->FnD P Fi ds d') (hg:gdB ops a g=some true) (k:JLD P F ops n x rest ((d,.d d')::a) o) (hF:callT P Fi=true:=by kernel_rfl) (hd:Nat.blt d F.m=true:=by rfl) :
 JLD P F ops n x (⟨some d,.call { callee:=.value (.func Fi),args:=os,argTypes:=ts },ty,pos,af,g⟩::rest) a o:=bx (St1.call ha (cc c.c) hF hg hd) k
theorem CxI [c:Cn P Fi T] (hk:keepA (usX ops (.call { callee:=.value (.func Fi),args:=os,argTypes:=ts }) g) a=some Au) (ha:argsA P Au os.toList ts.toList=some ds) (cc:T->FnD P Fi ds d')
 (k:JX P F ops n x b ob base (eVal (usX ops (.call { callee:=.value (.func Fi),args:=os,argTypes:=ts }) g) none d (.d d')::es) rest ((d,.d d')::a) o)
 (hF:callT P Fi=true:=by kernel_rfl) (hg:gdB ops Au g=some true:=by rfl) (hd:Nat.blt d F.m=true:=by rfl) :
 JX P F ops n x b ob base es (⟨some d,.call { callee:=.value (.func Fi),args:=os,argTypes:=ts },ty,pos,af,g⟩::rest) a o:=Cx hk ha (cc c.c) k hF hg hd
end
section
variable {P:Program} [Tb P] {F:Fd}{n:PostD}{x:Nat->PostD}{a b:LO}{o ob:LQ}{ops:Array Oper}{l rest:LR}{base:Nat}{es:List Ef}{c:Code}
variable {dd:Option Nat}{ty T T2:TypeId}{pos:String}{af:Array Edge}{g:Option (Nat×Bool)}{os:Array Operand}{ts:Array TypeId}{y z:Operand}{lo hi mx':Option Operand}{bo:BinOp}
theorem KJ (k:JD P F c n x a o):JD P F c n x a o:=k
theorem KL (k:JLD P F ops n x l a o):JLD P F ops n x l a o:=k
theorem KX (k:JX P F ops n x b ob base es l a o):JX P F ops n x b ob base es l a o:=k
theorem KCall {v:Operand}(k:JLD P F ops n x (⟨dd,.call { callee:=.value v,args:=os,argTypes:=ts },ty,pos,af,g⟩::rest) a o):JLD P F ops n x (⟨dd,.call { callee:=.value v,args:=os,argTypes:=ts },ty,pos,af,g⟩::rest) a o:=k
theorem KAp (k:JLD P F ops n x (⟨dd,.call { callee:=.builtin .append,args:=os,argTypes:=ts },ty,pos,af,g⟩::rest) a o):JLD P F ops n x (⟨dd,.call { callee:=.builtin .append,args:=os,argTypes:=ts },ty,pos,af,g⟩::rest) a o:=k
theorem KFd {i:Nat}(k:JLD P F ops n x (⟨dd,.field T y i,ty,pos,af,g⟩::rest) a o):JLD P F ops n x (⟨dd,.field T y i,ty,pos,af,g⟩::rest) a o:=k
theorem KMx (k:JLD P F ops n x (⟨dd,.call { callee:=.builtin .max,args:=os,argTypes:=ts },ty,pos,af,g⟩::rest) a o):JLD P F ops n x (⟨dd,.call { callee:=.builtin .max,args:=os,argTypes:=ts },ty,pos,af,g⟩::rest) a o:=k
theorem KIx (k:JLD P F ops n x (⟨dd,.indexAddr T y z,ty,pos,af,g⟩::rest) a o):JLD P F ops n x (⟨dd,.indexAddr T y z,ty,pos,af,g⟩::rest) a o:=k
theorem KCv (k:JLD P F ops n x (⟨dd,.convert T T2 y,ty,pos,af,g⟩::rest) a o):JLD P F ops n x (⟨dd,.convert T T2 y,ty,pos,af,g⟩::rest) a o:=k
theorem KSl (k:JLD P F ops n x (⟨dd,.slice T y lo hi mx',ty,pos,af,g⟩::rest) a o):JLD P F ops n x (⟨dd,.slice T y lo hi mx',ty,pos,af,g⟩::rest) a o:=k
theorem KBin (k:JLD P F ops n x (⟨dd,.binOp bo T y z T2,ty,pos,af,g⟩::rest) a o):JLD P F ops n x (⟨dd,.binOp bo T y z T2,ty,pos,af,g⟩::rest) a o:=k
end
theorem vF (b:Bool):decide ((if b=true then(0:Int) else 20)=0)=b:=by cases b<;>rfl
structure Tg (q:Prop):Prop where
 k:q
theorem W {p q:Prop}(k:q) (h:Tg q->p:=by
 intro k
 repeat (first
  |(refine KL ?_;first
   |refine JLD.nil ?_
   |refine R3 rfl rfl ?_
   |(refine KCall ?_;first|refine CaI rfl rfl z21_ ?_|refine Ca rfl rfl z7_ ?_|refine CaV rfl rfl rfl z21_ ?_|refine bx (St1.call rfl z7_ cP rfl rfl) ?_|refine CaB rfl z21_ rfl ?_)
   |(refine KFd ?_;refine bx (St1.fld rfl rfl cP rfl rfl rfl rfl) ?_)
   |(refine KMx ?_;refine bx (St1.max rfl rfl rfl) ?_)
   |(refine KIx ?_;first|refine bx (St1.ixN _ rfl rfl rfl rfl (fg rfl) z5_ rfl rfl) ?_|refine bx (St1.ix _ rfl rfl rfl rfl (fg rfl) z5_ rfl rfl) ?_|refine bx (St1.ixB _ rfl rfl rfl rfl (fg rfl) z5_ rfl rfl) ?_|refine bx (St1.ixN _ rfl rfl rfl rfl rfl z5_ rfl rfl) ?_|refine bx (St1.ix _ rfl rfl rfl rfl rfl z5_ rfl rfl) ?_|refine bx (St1.ixB _ rfl rfl rfl rfl rfl z5_ rfl rfl) ?_|refine bx (St1.ixN (Int.toNat _) rfl rfl rfl rfl (Int.toNat_of_nonneg z2_).symm z5_ rfl rfl) ?_|refine bx (St1.ix (Int.toNat _) rfl rfl rfl rfl (Int.toNat_of_nonneg z2_).symm z5_ rfl rfl) ?_|refine bx (St1.ixB (Int.toNat _) rfl rfl rfl rfl (Int.toNat_of_nonneg z2_).symm z5_ rfl rfl) ?_)
   |(refine KCv ?_;first|refine bx (St1.cvI rfl (by decide +kernel) z2_ rfl rfl) ?_|refine bx (St1.cvU rfl (by decide +kernel) z2_ rfl rfl) ?_|refine bx (St1.strB rfl cP rfl rfl) ?_|refine bx (St1.bytes rfl cP z5_ rfl) ?_)
   |(refine KSl ?_;first|refine bx (St1.fromB _ rfl rfl rfl rfl rfl z5_ rfl rfl) ?_|refine bx (St1.fromN _ rfl rfl rfl rfl rfl z5_ rfl rfl) ?_)
   |(refine KBin ?_;first|refine bx (St1.add rfl rfl z2_ rfl rfl) ?_|refine bx (St1.sub rfl rfl z2_ rfl rfl) ?_|refine bx (St1.quo rfl rfl z2_ rfl rfl) ?_|refine bx (St1.rem rfl rfl z2_ rfl rfl) ?_|refine bx (St1.cat rfl rfl z5_ rfl rfl) ?_)
   |(refine KAp ?_;first|refine bx (St1.app0 kB rfl rfl rfl rfl z5_ rfl rfl) ?_|refine bx (St1.app0 kN rfl rfl rfl rfl z5_ rfl rfl) ?_|refine Ap kN rfl rfl rfl rfl rfl rfl z5_ rfl rfl rfl rfl ?_|refine Ap kB rfl rfl rfl rfl rfl rfl z5_ rfl rfl rfl rfl ?_|refine Ap (kS _ _) rfl rfl rfl rfl rfl rfl z5_ rfl rfl rfl rfl ?_))
   |refine bx (St1.pk rfl rfl rfl) ?_
   |refine bx (St1.no rfl rfl) ?_
   |refine bx (St1.val2 rfl rfl rfl) ?_
  |(refine KJ ?_;first
   |refine JD.seq ?_
   |refine JD.region ?_
   |refine Xg mK rfl rfl rfl ?_
   |refine JD.skip ?_
   |refine JD.block ?_
   |refine JD.exit ?_
   |refine Ct rfl ?_
   |refine Cf rfl ?_
   |refine Cqt rfl ?_
   |refine Cqf rfl ?_)
  |(refine KX ?_;first
   |refine df rfl ?_
   |refine RX1 rfl rfl ?_
   |refine CxI rfl rfl z21_ ?_
   |refine Cx rfl rfl z7_ ?_
   |refine CxV rfl rfl rfl z21_ ?_
   |refine cK rfl (St1.ixN _ rfl rfl rfl rfl (fg rfl) z5_ rfl rfl) ?_
   |refine cK rfl (St1.ix _ rfl rfl rfl rfl (fg rfl) z5_ rfl rfl) ?_
   |refine cK rfl (St1.ixB _ rfl rfl rfl rfl (fg rfl) z5_ rfl rfl) ?_
   |refine cK rfl (St1.ixN _ rfl rfl rfl rfl rfl z5_ rfl rfl) ?_
   |refine cK rfl (St1.ix _ rfl rfl rfl rfl rfl z5_ rfl rfl) ?_
   |refine cK rfl (St1.ixB _ rfl rfl rfl rfl rfl z5_ rfl rfl) ?_
   |refine cK rfl (St1.ixN (Int.toNat _) rfl rfl rfl rfl (Int.toNat_of_nonneg z2_).symm z5_ rfl rfl) ?_
   |refine cK rfl (St1.ix (Int.toNat _) rfl rfl rfl rfl (Int.toNat_of_nonneg z2_).symm z5_ rfl rfl) ?_
   |refine cK rfl (St1.ixB (Int.toNat _) rfl rfl rfl rfl (Int.toNat_of_nonneg z2_).symm z5_ rfl rfl) ?_
   |refine cK rfl (St1.strB rfl cP rfl rfl) ?_
   |refine cK rfl (St1.bytes rfl cP z5_ rfl) ?_
   |refine cK rfl (St1.fld rfl rfl cP rfl rfl rfl rfl) ?_
   |refine cK rfl (St1.pk rfl rfl rfl) ?_
   |refine cK rfl (St1.no rfl rfl) ?_
   |refine JX.s2r rfl rfl rfl rfl rfl rfl ?_
   |refine cK rfl (St1.val2 rfl rfl rfl) ?_
   |refine cK rfl (St1.add rfl rfl z2_ rfl rfl) ?_
   |refine cK rfl (St1.sub rfl rfl z2_ rfl rfl) ?_
   |refine cK rfl (St1.cvI rfl (by decide +kernel) z2_ rfl rfl) ?_
   |refine cK rfl (St1.cvU rfl (by decide +kernel) z2_ rfl rfl) ?_
   |refine cK rfl (St1.app0 kB rfl rfl rfl rfl z5_ rfl rfl) ?_
   |refine cK rfl (St1.app0 kN rfl rfl rfl rfl z5_ rfl rfl) ?_))
 exact k.k):p:=h ⟨k⟩
theorem Z {p:Prop}(h:p:=by
 repeat' (first
  |(refine KL ?_;first
   |refine JLD.nil ?_
   |refine R3 rfl rfl ?_
   |(refine KCall ?_;first|refine CaI rfl rfl z21_ ?_|refine Ca rfl rfl z7_ ?_|refine CaV rfl rfl rfl z21_ ?_|refine bx (St1.call rfl z7_ cP rfl rfl) ?_|refine CaB rfl z21_ rfl ?_)
   |(refine KFd ?_;refine bx (St1.fld rfl rfl cP rfl rfl rfl rfl) ?_)
   |(refine KMx ?_;refine bx (St1.max rfl rfl rfl) ?_)
   |(refine KIx ?_;first|refine bx (St1.ixN _ rfl rfl rfl rfl (fg rfl) z5_ rfl rfl) ?_|refine bx (St1.ix _ rfl rfl rfl rfl (fg rfl) z5_ rfl rfl) ?_|refine bx (St1.ixB _ rfl rfl rfl rfl (fg rfl) z5_ rfl rfl) ?_|refine bx (St1.ixN _ rfl rfl rfl rfl rfl z5_ rfl rfl) ?_|refine bx (St1.ix _ rfl rfl rfl rfl rfl z5_ rfl rfl) ?_|refine bx (St1.ixB _ rfl rfl rfl rfl rfl z5_ rfl rfl) ?_|refine bx (St1.ixN (Int.toNat _) rfl rfl rfl rfl (Int.toNat_of_nonneg z2_).symm z5_ rfl rfl) ?_|refine bx (St1.ix (Int.toNat _) rfl rfl rfl rfl (Int.toNat_of_nonneg z2_).symm z5_ rfl rfl) ?_|refine bx (St1.ixB (Int.toNat _) rfl rfl rfl rfl (Int.toNat_of_nonneg z2_).symm z5_ rfl rfl) ?_)
   |(refine KCv ?_;first|refine bx (St1.cvI rfl (by decide +kernel) z2_ rfl rfl) ?_|refine bx (St1.cvU rfl (by decide +kernel) z2_ rfl rfl) ?_|refine bx (St1.strB rfl cP rfl rfl) ?_|refine bx (St1.bytes rfl cP z5_ rfl) ?_)
   |(refine KSl ?_;first|refine bx (St1.fromB _ rfl rfl rfl rfl rfl z5_ rfl rfl) ?_|refine bx (St1.fromN _ rfl rfl rfl rfl rfl z5_ rfl rfl) ?_)
   |(refine KBin ?_;first|refine bx (St1.add rfl rfl z2_ rfl rfl) ?_|refine bx (St1.sub rfl rfl z2_ rfl rfl) ?_|refine bx (St1.quo rfl rfl z2_ rfl rfl) ?_|refine bx (St1.rem rfl rfl z2_ rfl rfl) ?_|refine bx (St1.cat rfl rfl z5_ rfl rfl) ?_)
   |(refine KAp ?_;first|refine bx (St1.app0 kB rfl rfl rfl rfl z5_ rfl rfl) ?_|refine bx (St1.app0 kN rfl rfl rfl rfl z5_ rfl rfl) ?_|refine Ap kN rfl rfl rfl rfl rfl rfl z5_ rfl rfl rfl rfl ?_|refine Ap kB rfl rfl rfl rfl rfl rfl z5_ rfl rfl rfl rfl ?_|refine Ap (kS _ _) rfl rfl rfl rfl rfl rfl z5_ rfl rfl rfl rfl ?_)
   |refine bx (St1.pk rfl rfl rfl) ?_
   |refine bx (St1.no rfl rfl) ?_
   |refine bx (St1.val2 rfl rfl rfl) ?_
   |refine Bg rfl rfl (λ_=>?_) (λ_=>?_)
   |refine Bp rfl (λ_=>?_) (λ_=>?_))
  |(refine KJ ?_;first
   |refine JD.seq ?_
   |refine JD.region ?_
   |refine Xg mK rfl rfl rfl ?_
   |refine JD.skip ?_
   |refine JD.block ?_
   |refine JD.exit ?_
   |refine Ct rfl ?_
   |refine Cf rfl ?_
   |refine Cqt rfl ?_
   |refine Cqf rfl ?_
   |refine Rt rfl rfl ?_
   |refine Ci rfl (λ_=>?_) (λ_=>?_))
  |(refine KX ?_;first
   |refine df rfl ?_
   |refine RX1 rfl rfl ?_
   |refine CxI rfl rfl z21_ ?_
   |refine Cx rfl rfl z7_ ?_
   |refine CxV rfl rfl rfl z21_ ?_
   |refine cK rfl (St1.ixN _ rfl rfl rfl rfl (fg rfl) z5_ rfl rfl) ?_
   |refine cK rfl (St1.ix _ rfl rfl rfl rfl (fg rfl) z5_ rfl rfl) ?_
   |refine cK rfl (St1.ixB _ rfl rfl rfl rfl (fg rfl) z5_ rfl rfl) ?_
   |refine cK rfl (St1.ixN _ rfl rfl rfl rfl rfl z5_ rfl rfl) ?_
   |refine cK rfl (St1.ix _ rfl rfl rfl rfl rfl z5_ rfl rfl) ?_
   |refine cK rfl (St1.ixB _ rfl rfl rfl rfl rfl z5_ rfl rfl) ?_
   |refine cK rfl (St1.ixN (Int.toNat _) rfl rfl rfl rfl (Int.toNat_of_nonneg z2_).symm z5_ rfl rfl) ?_
   |refine cK rfl (St1.ix (Int.toNat _) rfl rfl rfl rfl (Int.toNat_of_nonneg z2_).symm z5_ rfl rfl) ?_
   |refine cK rfl (St1.ixB (Int.toNat _) rfl rfl rfl rfl (Int.toNat_of_nonneg z2_).symm z5_ rfl rfl) ?_
   |refine cK rfl (St1.strB rfl cP rfl rfl) ?_
   |refine cK rfl (St1.bytes rfl cP z5_ rfl) ?_
   |refine cK rfl (St1.fld rfl rfl cP rfl rfl rfl rfl) ?_
   |refine cK rfl (St1.pk rfl rfl rfl) ?_
   |refine cK rfl (St1.no rfl rfl) ?_
   |refine JX.s2r rfl rfl rfl rfl rfl rfl ?_
   |refine cK rfl (St1.val2 rfl rfl rfl) ?_
   |refine cK rfl (St1.add rfl rfl z2_ rfl rfl) ?_
   |refine cK rfl (St1.sub rfl rfl z2_ rfl rfl) ?_
   |refine cK rfl (St1.cvI rfl (by decide +kernel) z2_ rfl rfl) ?_
   |refine cK rfl (St1.cvU rfl (by decide +kernel) z2_ rfl rfl) ?_
   |refine cK rfl (St1.app0 kB rfl rfl rfl rfl z5_ rfl rfl) ?_
   |refine cK rfl (St1.app0 kN rfl rfl rfl rfl z5_ rfl rfl) ?_)
  |rfl
  |(simp only [resD,nilD,vF];done)
  |(simp only [resD,nilD,vF, *,if_true,if_false,c_];done)
  |(simp [resD,nilD,vF, *];done)
  |(simp only [resD,nilD,vF];split<;>first|rfl|(simp_all;done)|(exfalso;simp_all;omega))
  |(simp_all [resD,nilD,vF];done)
  |(simp_all [resD,nilD,vF];omega))):p:=h
theorem gB {d:D}{h:Part}{vs:LV}(k:DenT [d] h vs):∃ v,vs=[v]/\Den d h v:=by
 unfold DenT at k;obtain⟨v,t,rfl,h1,k⟩:=k;unfold DenT at k;subst k;exact⟨v,U,h1⟩
theorem den2 {d e:D}{h:Part}{vs:LV}(k:DenT [d,e] h vs):∃ v w,vs=[v,w]/\Den d h v/\Den e h w:=by
 unfold DenT at k;obtain⟨v,t,rfl,h1,k⟩:=k;obtain⟨w,rfl,h2⟩:=gB k;exact⟨v,w,U,h1,h2⟩
theorem den3 {d e f:D}{h:Part}{vs:LV}(k:DenT [d,e,f] h vs):∃ v w x,vs=[v,w,x]/\Den d h v/\Den e h w/\Den f h x:=by
 unfold DenT at k;obtain⟨v,t,rfl,h1,k⟩:=k;obtain⟨w,x,rfl,h2,h3⟩:=den2 k;exact⟨v,w,x,U,h1,h2,h3⟩
theorem fU {d e:D}{h:Part}{v w:Value}(h1:Den d h v) (h2:Den e h w):Den (.tup [d,e]) h (.tuple #[v,w]):=(oQ (h:=h)).2 ⟨[v,w],U,by unfold DenT;exact⟨_,_,U,h1,by unfold DenT;exact⟨_,_,U,h2,by unfold DenT;rfl⟩⟩⟩
theorem Pure.d {P:Program} [Tb P] {Fi:Nat}{vs:LV}{h:Part}{u:Value}{d:D}(c:Pure P Fi vs h u) (hd:Den d h u):FnR P Fi vs h (λv h'=>∃ d',d'=d/\Den d' h' v):=Fn.mono c λ_ _ _ hle ⟨v,e,e1,e2,e3⟩=>⟨v,e,e3,d,U,by rw [e1];exact Den.mono hle d u hd⟩
theorem jC {c t:Int}{l:LN}(hz:Nd.szL l<=1099511627776):FnD prog 23 [.i c,.i t,.nds l] (.nd (.mk c t true [] l)):=.mk λh vs hT hd=>by
 obtain⟨v,w,x,rfl,h1,h2,h3⟩:=den3 hd;obtain⟨a,cc,rfl,hR⟩:=dN.1 h3;rw [dB.1 h1,dB.1 h2];exact(cons_fn hR hz).mono λv h' _ ⟨cs,e,r⟩=>⟨_,U,by rw [e];exact(dP (h:=h')).2 ⟨cs,U,r⟩⟩
theorem own_d {l:LN}(hz:Nd.szL l<=1099511627776):FnD prog 62 [.nds l] (.nds l):=.mk λh vs hT hd=>by
 obtain⟨v,rfl,h1⟩:=gB hd;obtain⟨a,cc,rfl,hR⟩:=dN.1 h1;exact(pV _ _ _ _ _ (aL _) hR hz).mono λv h' _ ⟨a',c',e,r⟩=>⟨_,U,by rw [e];exact(dN (h:=h')).2 ⟨_,_,U,r⟩⟩
theorem tG {t:Int}{l:LB}:FnD prog 24 [.i t,.bs l] (.nd (.mk 0 t false l [])):=.mk λh vs hT hd=>by
 obtain⟨v,w,rfl,h1,h2⟩:=den2 hd;obtain⟨a,cc,rfl,hR⟩:=dm.1 h2;rw [dB.1 h1];exact(rP hR).mono λv h' _ ⟨cs,e,r⟩=>⟨_,U,by rw [e];exact(dP (h:=h')).2 ⟨cs,U,r⟩⟩
theorem rD {n:Nd}(hz:n.sz<=1073741824):FnD prog 97 [.nd n] (.b n.put.isSome):=.mk λh vs hT hd=>by
 obtain⟨v,rfl,h1⟩:=gB hd;obtain⟨cs,rfl,hR⟩:=dP.1 h1;exact(tp hR hT hz).d (cj (h:=h))
theorem tO {s:Txt}(hs:s.length<=100000000000):FnD prog 61 [.s s] (.tup [.bs ((oidB s).getD []),.i (if(oidB s).isSome then 0 else 20)]):=.mk λh vs hT hd=>by
 obtain⟨v,rfl,h1⟩:=gB hd;rw [dB.1 h1];exact(obytes_fn hs).mono λv h' _ ⟨a,c,e,r⟩=>⟨_,U,by rw [e];exact fU ((dm (h:=h')).2 ⟨_,_,U,r⟩) (cj (h:=h'))⟩
theorem pW {l:Txt}(hb:l.length<=1073741824):FnD prog 147 [.bs l] (.tup [.s ((oidT l).getD []),.i (if(oidT l).isSome then 0 else 20)]):=.mk λh vs hT hd=>by
 obtain⟨v,rfl,h1⟩:=gB hd;obtain⟨a,cc,rfl,hR⟩:=dm.1 h1;exact(mX hR hb).d (fU (cj (h:=h)) (cj (h:=h)))
theorem utf8_d {s:Txt}(hs:s.length<=140737488355328):FnD prog 156 [.s s] (.b (runes (λc n=>!decide (c=65533/\n=1)) s 0)):=.mk λh vs hT hd=>by
 obtain⟨v,rfl,h1⟩:=gB hd;rw [dB.1 h1];exact(utf8_fn s h hT hs).d (cj (h:=h))
theorem ia5_d {s:Txt}(hs:s.length<=140737488355328):FnD prog 158 [.s s] (.b (runes (λc _=>decide (c<=127)) s 0)):=.mk λh vs hT hd=>by
 obtain⟨v,rfl,h1⟩:=gB hd;rw [dB.1 h1];exact(ia5_fn s h hs).d (cj (h:=h))
theorem m9 {s:Txt}(hs:s.length<=140737488355328):FnD prog 157 [.s s] (.b (runes (λc _=>prC c) s 0)):=.mk λh vs hT hd=>by
 obtain⟨v,rfl,h1⟩:=gB hd;rw [dB.1 h1];exact(kU s h hs).d (cj (h:=h))
instance:Cn prog 23 (type_of% @jC):=⟨@jC⟩
instance:Cn prog 62 (type_of% @own_d):=⟨@own_d⟩
instance:Cn prog 24 (type_of% @tG):=⟨@tG⟩
instance:Cn prog 97 (type_of% @rD):=⟨@rD⟩
instance:Cn prog 61 (type_of% @tO):=⟨@tO⟩
instance:Cn prog 147 (type_of% @pW):=⟨@pW⟩
instance:Cn prog 156 (type_of% @utf8_d):=⟨@utf8_d⟩
instance:Cn prog 158 (type_of% @ia5_d):=⟨@ia5_d⟩
instance:Cn prog 157 (type_of% @m9):=⟨@m9⟩
abbrev ndZ0:Nd:=.mk 0 0 false [] []
def isSeqB (n:Nd) (l m:Int):Bool:=decide (n.cls=0)&&decide (n.tag=16)&&n.cons&&decide (l<=n.kids.length)&&decide ((n.kids.length:Int)<=m)
instance (priority:=high) (n:Nd) (l m:Int):Sp (isSeqB n l m) (isSeqB n l m=true/\n.cls=0/\n.tag=16/\n.cons=true/\l<=n.kids.length/\(n.kids.length:Int)<=m) (isSeqB n l m=false):=⟨λh=>⟨h,by simpa [isSeqB,and_assoc] using h⟩,id⟩
theorem isseq_d (n:Nd) (l m:Int):FnD prog 194 [.nd n,.i l,.i m] (.b (isSeqB n l m)):=by
 unfold isSeqB;exact aE func194 U ntmps194 U (λe=>Z)
instance:Cn prog 194 (type_of% @isseq_d):=⟨@isseq_d⟩
def isB (n:Nd) (t:Int):Bool:=decide (n.cls=0)&&decide (n.tag=t)&&n.put.isSome
instance (priority:=high) (n:Nd) (t:Int):Sp (isB n t) (isB n t=true/\n.cls=0/\n.tag=t/\n.put.isSome=true) (isB n t=false):=⟨λh=>⟨h,by simpa [isB,and_assoc] using h⟩,id⟩
theorem jr {n:Nd}{t:Int}(h:isB n t=true) (hm:mayB 0 t true=false):n.cons=false/\n.kids=[]/\valB t n.bytes=true:=by
 simp only [isB,Bool.and_eq_true,ax] at h;obtain⟨⟨h1,h2⟩,h3⟩:=h;cases n with
 |mk c tt k b l =>
  simp only [Nd.cls,Nd.tag,Nd.cons,Nd.kids,Nd.bytes] at *;subst h1 h2;have hok:okN 0 tt k b l=true:=by
   simp only [Nd.put] at h3;split at h3
   ·assumption
   ·cases h3
  unfold okN at hok;simp only [Bool.and_eq_true] at hok;cases k with
  |true=>rw [hm] at hok;simp at hok
  |false=>simp at hok |-;exact⟨hok.2.1,hok.2.2⟩
instance (priority:=high+1) (n:Nd):Sp (isB n 1) (isB n 1=true/\n.bytes.length=1) (isB n 1=false):=⟨λh=>⟨h,by have:=(jr h bT).2.2;unfold valB at this;simp at this;omega⟩,id⟩
instance (priority:=high+1) (n:Nd):Sp (isB n 3) (isB n 3=true/\0<n.bytes.length) (isB n 3=false):=⟨λh=>⟨h,by
 have h3:=(jr h bT).2.2;unfold valB bitsB at h3;rw [if_neg bT,if_neg bT,if_pos rfl] at h3;have:=(of_decide_eq_true h3).1;have h0:n.bytes.length≠0:=λe=>this (.inl e);omega⟩,id⟩
theorem is_d (n:Nd) (t:Int) (hz:n.sz<=1073741824):FnD prog 195 [.nd n,.i t] (.b (isB n t)):=by
 unfold isB;exact aE func195 U ntmps195 U (λe=>Z)
instance:Cn prog 195 (type_of% @is_d):=⟨@is_d⟩
def oiN (s:Txt):Nd:=.mk 0 6 false ((oidB s).getD []) []
theorem oid_d (s:Txt) (hs:s.length<=50000000000):FnD prog 123 [.s s] (.tup [.nd (oiN s),.b (oidB s).isSome]):=by
 unfold oiN;exact aE func123 U ntmps123 U (λe=>Z)
instance:Cn prog 123 (type_of% @oid_d):=⟨@oid_d⟩
theorem jZ:∀ (s c:Txt) (l:List Nat),numsGo s c=some l->l.length<=s.length+1
 |[],c,l,h=>by
  unfold numsGo at h;cases hn:numB c with
  |none=>rw [hn] at h;cases h
  |some v=>rw [hn] at h;cases h;simp
 |x::r,c,l,h=>by
  unfold numsGo at h;split at h
  ·split at h
   ·cases h
   ·rename_i n hn;cases hr:numsGo r [] with
    |none=>rw [hr] at h;cases h
    |some l'=>rw [hr] at h;cases h;have:=jZ r [] l' hr;simp;omega
  ·have:=jZ r _ l h;simp;omega
theorem oidB_len (s:Txt):((oidB s).getD []).length<=11*s.length+22:=by
 unfold oidB;split
 ·simp
 ·rename_i l hl;have h1:=jZ s [] l hl;split
  ·have h2:=enc_lenY ((40*l.getD 0 0+l.getD 1 0)::l.drop 2);simp only [Option.getD_some,aC,bC] at h2 |-
   omega
  ·simp
theorem dZ (s:Txt):(oiN s).sz<=11*s.length+23:=by
 have:=oidB_len s;simp only [oiN,Nd.sz,Nd.szL];omega
theorem vi (l:LN) (hz:Nd.szL l<=1099511627776):FnD prog 66 [.nds l] (.nd (.mk 0 16 true [] l)):=by
 exact aE func66 U ntmps66 U (λe=>Z)
instance:Cn prog 66 (type_of% @vi):=⟨@vi⟩
def algO (h:Int):Txt:=if h=256 then [49,46,50,46,56,52,48,46,49,49,51,53,52,57,46,49,46,49,46,49,49] else if h=384 then [49,46,50,46,56,52,48,46,49,49,51,53,52,57,46,49,46,49,46,49,50] else if h=512 then [49,46,50,46,56,52,48,46,49,49,51,53,52,57,46,49,46,49,46,49,51] else []
theorem uS (h:Int):FnD prog 125 [.i h] (.s (algO h)):=by
 unfold algO;exact aE func125 U ntmps125 U (λe=>Z)
instance:Cn prog 125 (type_of% @uS):=⟨@uS⟩
theorem uT (h:Int):(algO h).length<=21:=by unfold algO;split<;>(try split)<;>(try split)<;>simp
def algN (h:Int):Nd:=if(oidB (algO h)).isSome then .mk 0 16 true [] [oiN (algO h),.mk 0 5 false [] []] else ndZ0
theorem alg_d (h:Int):FnD prog 68 [.i h] (.nd (algN h)):=by
 have:=uT h;have:=dZ (algO h);unfold algN;exact aE func68 U ntmps68 U (λe=>Z)
instance:Cn prog 68 (type_of% @alg_d):=⟨@alg_d⟩
def oidOf (n:Nd):Txt×Bool:=if isB n 6 then((oidT n.bytes).getD [],(oidT n.bytes).isSome) else([],false)
theorem dQ (n:Nd):n.bytes.length<n.sz:=by cases n;simp only [Nd.bytes,Nd.sz];omega
theorem oidof_d (n:Nd) (hz:n.sz<=1073741824):FnD prog 242 [.nd n] (.tup [.s (oidOf n).1,.b (oidOf n).2]):=by
 have:=dQ n;unfold oidOf;exact aE func242 U ntmps242 U (λe=>Z)
instance:Cn prog 242 (type_of% @oidof_d):=⟨@oidof_d⟩
theorem bits_d (b:Txt) (hb:b.length<=1000000000):FnD prog 69 [.bs b] (.nd (.mk 0 3 false (0::b) [])):=by
 exact aE func69 U ntmps69 U (λe=>Z)
instance:Cn prog 69 (type_of% @bits_d):=⟨@bits_d⟩
def rightAt (a:At):Bool:=if(oidB a.oid).isSome&&decide (a.text.length<=200) then(if a.kind=12 then runes (λc n=>!decide (c=65533/\n=1)) a.text 0 else if a.kind=19 then runes (λc _=>prC c) a.text 0 else if a.kind=22 then runes (λc _=>decide (c<=127)) a.text 0 else false) else false
theorem m5 (a:At) (h1:a.oid.length<=50000000000):FnD prog 126 [.st (At.enc a)] (.b (rightAt a)):=by
 unfold rightAt;exact aE func126 U ntmps126 U (λe=>Z)
instance:Cn prog 126 (type_of% @m5):=⟨@m5⟩
def extN (x:Xt):Nd:=if(oidB x.oid).isSome&&decide (x.val.length<=2000) then(if x.crit then .mk 0 16 true [] [oiN x.oid,.mk 0 1 false [255] [],.mk 0 4 false x.val []] else .mk 0 16 true [] [oiN x.oid,.mk 0 4 false x.val []]) else ndZ0
def extE (x:Xt):Int:=if(oidB x.oid).isSome&&decide (x.val.length<=2000) then 0 else 62
theorem jw (x:Xt) (h1:x.oid.length<=50000000000) (h2:x.val.length<=1000000000):FnD prog 124 [.st (Xt.enc x)] (.tup [.nd (extN x),.i (extE x)]):=by
 have:=dZ x.oid;unfold extN extE;exact aE func124 U ntmps124 U (λe=>Z)
instance:Cn prog 124 (type_of% @jw):=⟨@jw⟩
def kd (n:Nd) (i:Nat):Nd:=n.kids.getD i (.mk 0 0 false [] [])
theorem sz_pos (n:Nd):1<=n.sz:=by cases n;simp only [Nd.sz];omega
theorem qh (n:Nd) (i:Nat):(n.kids.getD i (.mk 0 0 false [] [])).sz<=n.sz:=by
 have h1:=sz_pos n;by_cases h:i<n.kids.length
 ·rw [bG h];have:=Nd.sz_le (aF h);cases n;simp only [Nd.kids,Nd.sz] at this |-
  omega
 ·rw [bi,cv z2_];simpa [Nd.sz,Nd.szL] using h1
theorem bool_len {b:Txt}(h:valB 1 b=true):b.length=1:=by
 unfold valB at h;simp at h;omega
theorem z37_ {p:Prop}(u:p:=by repeat (first|exact trivial|refine⟨rfl,?_⟩|refine⟨(by exact cQ (by first|omega|(unfold nC;(repeat' split)<;>omega)|(unfold vC;(repeat' split)<;>omega)|(unfold lC;(repeat' split)<;>omega))),?_⟩)):p:=u
theorem ca_218:callT prog 218=true:=by kernel_rfl
theorem fI:callT prog 219=true:=by kernel_rfl
theorem d9 (n lo hi:Int) (h:Part):Pure prog 219 [.int .i64 n,.int .i64 lo,.int .i64 hi] h (.bool (decide (lo<=n/\n<=hi))):=by
 refine aM func219 U ntmps219 U (λe he=>?_);refine bg [(0,_),(1,_),(2,_)] ⟨U,U,U,trivial⟩ ?_;refine Sr (Ru 1 U (a_ (Sr (Ru 4 U ?_))));apply An 10 14 4 [6] U U
 ·intro hb1 hc1;exact Ru 4 U (Ae (am_t hb1 U) U)
 ·exact λhb1 _=>Ru 4 U (Ae (am_f hb1 U) U)
 exact Ru 1 U (a_ (aH (ay U U) (by rw [Bool.decide_and]) U))
def nC (b:Nat):Int:=if 192<=b/\b<=223 then 2 else if 224<=b/\b<=239 then 3 else if 240<=b/\b<=247 then 4 else 0
def lC (b:Nat):Int:=if 192<=b/\b<=223 then 128 else if 224<=b/\b<=239 then 2048 else if 240<=b/\b<=247 then 65536 else 0
def vC (b:Nat):Int:=if 192<=b/\b<=223 then b-192 else if 224<=b/\b<=239 then b-224 else if 240<=b/\b<=247 then b-240 else b
def cont (s:LB) (v:Int):Nat->Int
 |0=>v
 |j+1=>cont s v j*64+byteAt s (j+1)-128
def contOk (s:LB):Nat->Bool
 |0=>true
 |j+1=>contOk s j&&decide (128<=byteAt s (j+1)/\byteAt s (j+1)<=191)
theorem cont_bd (s:LB) (v:Int) (h0:0<=v) (h1:v<=255):∀ j,j<=3->contOk s j=true->0<=cont s v j/\cont s v j+1<=300*64 ^ j
 |0,_,_=>by simp [cont];omega
 |j+1,hj,hk=>by
  simp only [contOk,Bool.and_eq_true,ax] at hk;have:=cont_bd s v h0 h1 j z2_ hk.1;have e:(64:Int) ^ (j+1)=64 ^ j*64:=by rw [Int.pow_succ]
  have hp:(1:Int)<=64 ^ j:=Int.pow_pos bT;have hb:=cx s (j+1);simp only [cont];omega
theorem qD (s:LB) {k:Nat}:∀ {m},k<=m->contOk s k=false->contOk s m=false
 |0,h,e=>by have:k=0:=z2_;subst this;exact e
 |m+1,h,e=>by
  by_cases hk:k=m+1
  ·subst hk;exact e
  ·simp only [contOk,qD s (k:=k) (m:=m) z2_ e,Bool.false_and]
theorem contOk_no (s:LB) (j:Nat) (h:¬ (128<=byteAt s (j+1)/\byteAt s (j+1)<=191)):contOk s (j+1)=false:=by
 simp only [contOk,au h,Bool.and_false]
def charM (s:LB):Int×Int :=
 if byteAt s 0<128 then(byteAt s 0,1) else if nC (byteAt s 0)=0\/(s.length:Int)<nC (byteAt s 0) then(0,0)
 else if contOk s (nC (byteAt s 0)-1).toNat=false then(0,0)
 else if cont s (vC (byteAt s 0)) (nC (byteAt s 0)-1).toNat<lC (byteAt s 0)\/1114111<cont s (vC (byteAt s 0)) (nC (byteAt s 0)-1).toNat\/(55296<=cont s (vC (byteAt s 0)) (nC (byteAt s 0)-1).toNat/\cont s (vC (byteAt s 0)) (nC (byteAt s 0)-1).toNat<=57343) then(0,0)
 else(cont s (vC (byteAt s 0)) (nC (byteAt s 0)-1).toNat,nC (byteAt s 0))
theorem dec_s (s:LB):Go.Lib.decodeL s=Go.Lib.decodeN s.length (byteAt s 0) (byteAt s 1) (byteAt s 2) (byteAt s 3):=by
 unfold Go.Lib.decodeL;rw [Go.Lib.decode_at];simp only [get!_list,l9,Nat.sub_zero,Nat.zero_add];rfl
def charR (s:LB):Int×Int:=if chr s=65533/\wid s=1 then(0,0) else(chr s,wid s)
theorem rQ {D:Nat×Nat}{a b:Nat}(h:D=(a,b)) (hb:b≠1):(if D.1=65533/\D.2=1 then((0,0):Int×Int) else(D.1,D.2))=((a:Int),(b:Int)):=by
 subst h;rw [if_neg (λk=>hb k.2)]
theorem m_ {D:Nat×Nat}(h:D=(65533,1)):(if D.1=65533/\D.2=1 then((0,0):Int×Int) else(D.1,D.2))=(0,0):=by
 subst h;rfl
theorem charM_eq (s:LB) (h:s≠[]):charM s=charR s:=by
 have hl:=List.length_pos_iff.2 h;have h0:=cx s 0;have h1:=cx s 1;have h2:=cx s 2;have h3:=cx s 3;unfold charR;simp only [chr,wid,dec_s];generalize hb0:byteAt s 0=b0 at *;generalize hb1:byteAt s 1=b1 at *;generalize hb2:byteAt s 2=b2 at *;generalize hb3:byteAt s 3=b3 at *;unfold charM;rw [hb0];by_cases c0:b0<128
 ·rw [if_pos c0];simp only [Go.Lib.decodeN,if_pos c0];rw [if_neg z2_];rfl
 ·rw [if_neg c0];by_cases c2:192<=b0/\b0<=223
  ·have hn:nC b0=2:=if_pos c2;have hv:vC b0=b0-192:=if_pos c2;have hll:lC b0=128:=if_pos c2;rw [hn,hv,hll];simp only [show((2:Int)-1).toNat=1 from rfl,contOk,cont,Bool.true_and,Nat.zero_add,hb1,decide_eq_false_iff_not];by_cases k1:1<s.length/\b1 / 64=2
   ·have e:b0 / 32=6/\1<s.length/\b1 / 64=2:=⟨by omega,k1⟩;by_cases g:b0 % 32*64+b1 % 64>=128
    ·rw [rQ (a:=b0 % 32*64+b1 % 64) (b:=2) (by unfold Go.Lib.decodeN;rw [if_neg c0,if_pos e,if_pos g]) bT,if_neg z2_,if_neg z2_,if_neg z2_];simp only [Prod.mk.injEq];omega
    ·rw [m_ (by unfold Go.Lib.decodeN;rw [if_neg c0,if_pos e,if_neg g]),if_neg z2_,if_neg z2_,if_pos z2_]
   ·rw [m_ (by unfold Go.Lib.decodeN;rw [if_neg c0,if_neg z2_,if_neg z2_,if_neg z2_])];split
    ·rfl
    ·rw [if_pos z2_]
  ·by_cases c3:224<=b0/\b0<=239
   ·have hn:nC b0=3:=by unfold nC;rw [if_neg c2,if_pos c3]
    have hv:vC b0=b0-224:=by unfold vC;rw [if_neg c2,if_pos c3]
    have hll:lC b0=2048:=by unfold lC;rw [if_neg c2,if_pos c3]
    rw [hn,hv,hll];simp only [show((3:Int)-1).toNat=2 from rfl,contOk,cont,Bool.true_and,Nat.zero_add,hb1,hb2,Bool.and_eq_false_iff,decide_eq_false_iff_not,Nat.reduceAdd];by_cases k1:(1<s.length/\b1 / 64=2)/\(2<s.length/\b2 / 64=2)
    ·have e:b0 / 16=14/\(1<s.length/\b1 / 64=2)/\(2<s.length/\b2 / 64=2):=⟨by omega,k1⟩;by_cases g:b0 % 16*4096+b1 % 64*64+b2 % 64>=2048/\(b0 % 16*4096+b1 % 64*64+b2 % 64<55296\/(57344<=b0 % 16*4096+b1 % 64*64+b2 % 64/\b0 % 16*4096+b1 % 64*64+b2 % 64<=1114111))
     ·rw [rQ (a:=b0 % 16*4096+b1 % 64*64+b2 % 64) (b:=3) (by unfold Go.Lib.decodeN;rw [if_neg c0,if_neg z2_,if_pos e,if_pos g]) bT,if_neg z2_,if_neg z2_,if_neg z2_];simp only [Prod.mk.injEq];omega
     ·rw [m_ (by unfold Go.Lib.decodeN;rw [if_neg c0,if_neg z2_,if_pos e,if_neg g]),if_neg z2_,if_neg z2_,if_pos z2_]
    ·rw [m_ (by unfold Go.Lib.decodeN;rw [if_neg c0,if_neg z2_,if_neg z2_,if_neg z2_])];split
     ·rfl
     ·rw [if_pos z2_]
   ·by_cases c4:240<=b0/\b0<=247
    ·have hn:nC b0=4:=by unfold nC;rw [if_neg c2,if_neg c3,if_pos c4]
     have hv:vC b0=b0-240:=by unfold vC;rw [if_neg c2,if_neg c3,if_pos c4]
     have hll:lC b0=65536:=by unfold lC;rw [if_neg c2,if_neg c3,if_pos c4]
     rw [hn,hv,hll];simp only [show((4:Int)-1).toNat=3 from rfl,contOk,cont,Bool.true_and,Nat.zero_add,hb1,hb2,hb3,Bool.and_eq_false_iff,decide_eq_false_iff_not,Nat.reduceAdd];by_cases k1:(1<s.length/\b1 / 64=2)/\(2<s.length/\b2 / 64=2)/\(3<s.length/\b3 / 64=2)
     ·have e:b0 / 8=30/\(1<s.length/\b1 / 64=2)/\(2<s.length/\b2 / 64=2)/\(3<s.length/\b3 / 64=2):=⟨by omega,k1⟩;by_cases g:b0 % 8*262144+b1 % 64*4096+b2 % 64*64+b3 % 64>=65536/\(b0 % 8*262144+b1 % 64*4096+b2 % 64*64+b3 % 64<55296\/(57344<=b0 % 8*262144+b1 % 64*4096+b2 % 64*64+b3 % 64/\b0 % 8*262144+b1 % 64*4096+b2 % 64*64+b3 % 64<=1114111))
      ·rw [rQ (a:=b0 % 8*262144+b1 % 64*4096+b2 % 64*64+b3 % 64) (b:=4) (by unfold Go.Lib.decodeN;rw [if_neg c0,if_neg z2_,if_neg z2_,if_pos e,if_pos g]) bT,if_neg z2_,if_neg z2_,if_neg z2_];simp only [Prod.mk.injEq];omega
      ·rw [m_ (by unfold Go.Lib.decodeN;rw [if_neg c0,if_neg z2_,if_neg z2_,if_pos e,if_neg g]),if_neg z2_,if_neg z2_,if_pos z2_]
     ·rw [m_ (by unfold Go.Lib.decodeN;rw [if_neg c0,if_neg z2_,if_neg z2_,if_neg z2_])];split
      ·rfl
      ·rw [if_pos z2_]
    ·have hn:nC b0=0:=by unfold nC;rw [if_neg c2,if_neg c3,if_neg c4]
     rw [hn,if_pos (.inl U),m_];unfold Go.Lib.decodeN;rw [if_neg c0,if_neg z2_,if_neg z2_,if_neg z2_]
theorem nC_bd (b:Nat) (h:b<256) (h1:128<=b):(nC b=0\/2<=nC b)/\nC b<=4/\0<=vC b/\vC b<=255/\0<=lC b/\lC b<=65536:=by
 unfold nC vC lC
 (repeat' split)<;>omega
theorem char_fn (s:LB) (h:Part) (hs:s≠[]) (hl:s.length<=140737488355328):Pure prog 218 [.string ⟨s.toArray⟩] h (.tuple #[.int .i64 (charR s).1,.int .i64 (charR s).2]):=by
 have hs1:=List.length_pos_iff.2 hs;have hb:=cx s 0;have hb0:byteAt s 0=(s.getD 0 0).toNat:=rfl;rw [<- charM_eq s hs];refine aM func218 U ntmps218 U (λe he=>?_);refine bg [(0,_)] ⟨U,trivial⟩ ?_;refine Sr (Ru 2 U (a_ (Sr (Ru 1 U (ah (bH dC U U (show _=((0:Nat):Int) from rfl) z2_) U ?_)))));refine ah lH U ?_;refine Ru 1 U (a_ (az (Sr (Ru 2 U (a_ (Cs U (λhc1=>?_) λhc1=>?_))))))
 ·have hcm:charM s=((byteAt s 0:Int),1):=(by unfold charM;rw [if_pos z2_]);exact Sr (Ru 3 U (Nk [3,2,4,0] U (aH (b_ U U U) (by rw [hcm];rfl) U)))
 have hnb:=nC_bd (byteAt s 0) hb z2_;refine aA (Kp [4,3,2,0] U (Sr (Ru 1 U ?_)));refine a_ (Sr (Ru 1 U (a_ (az (aJ (Sr (Ru 1 U (bh fI U (d9 _ _ _ _) U ?_))))))));refine Ru 1 U (a_ (cJ [(5,.int .i64 (nC (byteAt s 0))),(6,.int .i64 (lC (byteAt s 0))),(4,.int .i64 (vC (byteAt s 0)))] [(3,_),(2,_),(0,_)] ⟨U,U,U,trivial⟩ ?_ ?_))
 ·refine Cs U (λhc3=>?_) λhc3=>?_
  ·refine Rg (Ru 1 U (ah si_ U ?_));refine Ru 3 U (a_ (⟨U,U,?_⟩));exact z37_
  refine Sr (Ru 1 U (bh fI U (d9 _ _ _ _) U ?_));refine Ru 1 U (Nk [20,6,5,4,3,2,0] U (Cs U (λhc5=>?_) λhc5=>?_))
  ·refine Rg (Ru 1 U (ah si_ U ?_));refine Ru 3 U (a_ (⟨U,U,?_⟩));exact z37_
  refine Sr (Ru 1 U (bh fI U (d9 _ _ _ _) U ?_));refine Ru 1 U (a_ (Cs U (λhc7=>?_) λhc7=>?_))
  ·refine Rg (Ru 1 U (ah si_ U ?_));refine Ru 3 U (a_ (⟨U,U,?_⟩));exact z37_
  refine aA (⟨U,U,?_⟩);exact z37_
 refine az (Sr (Ru 3 U ?_));apply On 32 37 5 [5,6,4,3,2,0] U U
 rotate_left
 ·intro hb8 hc8;refine Ru 1 U (aQ U U  (cD dC U) U ?_);exact Ru 3 U (Ae (om_f hb8 U) U)
 rotate_right
 ·exact λhb8 _=>Ru 5 U (Ae (om_t hb8 U) U)
 refine a_ (Cs U (λhc9=>?_) λhc9=>?_)
 ·have hcm:charM s=(0,0):=(by unfold charM;rw [if_neg z2_,if_pos z2_]);exact Sr (Ru 2 U (a_ (aH (b_ U U U) (by rw [hcm]) U)))
 refine aA (az (Sr (Ru 1 U (a_ (aJ (bM (λt_ S_ h_ L_=>∃ (j:Nat),t_=5-j/\S_=[(0,.string ⟨s.toArray⟩),(4,.int .i64 (cont s (vC (byteAt s 0)) j)),(5,.int .i64 (nC (byteAt s 0))),(6,.int .i64 (lC (byteAt s 0))),(7,.int .i64 ((j:Int)+1))]/\h=h_/\L_=[]/\((j:Int)+1<=nC (byteAt s 0)/\contOk s j=true)) ⟨_,_,?_,⟨0,U,U,U,U,⟨by omega,U⟩⟩⟩ ?_))))))
 ·exact z6_
 rintro _ _ _ _ ⟨j,rfl,rfl,rfl,rfl,hj,hok⟩;have hcb:=cont_bd s (vC (byteAt s 0)) z2_ z2_ j z2_ hok;have hbj:=cx s (j+1);have hbj0:byteAt s (j+1)=(s.getD (j+1) 0).toNat:=rfl;have hp:(64:Int) ^ j<=262144:=(by have:j=0\/j=1\/j=2\/j=3:=z2_;rcases this with rfl|rfl|rfl|rfl<;>decide);refine az (Sr (Ru 3 U (a_ (Cs U (λhc10=>?_) λhc10=>?_))))
 ·refine aA (az (aJ (Sr (Ru 2 U (ah (bH (m:=j+1) dC U U z2_ z2_) U ?_)))));refine ah lH U ?_;refine Ru 1 U (a_ (az (Sr (Ru 1 U (bh fI U (d9 _ _ _ _) U ?_)))));refine Ru 1 U (a_ (Cs U (λhc12=>?_) λhc12=>?_))
  ·have hcm:charM s=(0,0):=(by unfold charM;rw [if_neg z2_,if_neg z2_,if_pos (qD s (k:=j+1) z2_ (contOk_no s j z2_))]);exact Sr (Ru 2 U (a_ (aH (b_ U U U) (by rw [hcm]) U)))
  refine aA (Rg (Ru 1 U (ah jM U ?_)));refine Ru 1 U (ah ai_ U ?_);refine ah si_ U ?_;refine Ru 1 U (a_ (Rg (Ru 1 U (ah ai_ U ?_))));refine Ru 1 U (a_ (⟨_,?_,_,?_,⟨j+1,U,U,U,U,⟨by omega,by simp only [contOk,hok,Bool.true_and];exact aj z2_⟩⟩⟩))
  ·omega
  exact z6_
 have hjn:(nC (byteAt s 0)-1).toNat=j:=z2_;refine bA (Kp [4,5,6] U (az (Sr (Ru 4 U ?_))));apply On 58 61 3 [4,5] U U
 rotate_left
 ·intro hb13 hc13;exact Ru 3 U (Ae (om_f hb13 U) U)
 rotate_right
 ·exact λhb13 _=>Ru 3 U (Ae (om_t hb13 U) U)
 refine Ru 1 U ?_;apply On 62 65 3 [4,5] U U
 rotate_left
 ·intro hb14 hc14;refine Ru 1 U (cG U U  fI U (d9 _ _ _ _) U ?_);exact Ru 1 U (Ae (om_f hb14 U) U)
 rotate_right
 ·exact λhb14 _=>Ru 3 U (Ae (om_t hb14 U) U)
 refine a_ (Cs U (λhc16=>?_) λhc16=>?_)
 ·have hcm:charM s=(0,0):=(by unfold charM;rw [if_neg z2_,if_neg z2_,hjn,if_neg (by rw [hok];decide),if_pos z2_]);exact Sr (Ru 2 U (a_ (aH (b_ U U U) (by rw [hcm]) U)))
 have hcm:charM s=(cont s (vC (byteAt s 0)) j,nC (byteAt s 0)):=(by unfold charM;rw [if_neg z2_,if_neg z2_,hjn,if_neg (by rw [hok];decide),if_neg z2_]);exact aA (Sr (Ru 4 U (Nk [3,2] U (aH (b_ U U U) (by rw [hcm]) U))))
theorem rutf8_fn (s:LB) (h:Part) (hl:s.length<=140737488355328):Pure prog 163 [.string ⟨s.toArray⟩] h (.bool (runes (λc n=>!decide (c=65533/\n=1)) s 0)):=by
 refine aM func163 U ntmps163 U (λe he=>?_);refine bg [(0,_)] ⟨U,trivial⟩ ?_;refine Sr (Ru 1 U (a_ (az (Sr (Ru 1 U (a_ (aJ (bM (λt_ S_ h_ L_=>∃ (p:Nat),t_=s.length-p/\S_=[(0,.string ⟨s.toArray⟩),(3,.int .i64 p)]/\h=h_/\L_=[]/\(p<=s.length/\runes (λc n=>!decide (c=65533/\n=1)) s 0=runes (λc n=>!decide (c=65533/\n=1)) (s.drop p) 0)) ⟨_,_,?_,⟨0,U,U,U,U,⟨by omega,U⟩⟩⟩ ?_))))))))
 ·exact g7
 rintro _ _ _ _ ⟨p,rfl,rfl,rfl,rfl,hp,hq⟩;refine az (Sr (Ru 2 U (ah (cD dC U) U ?_)));refine Ru 1 U (a_ (Cs U (λhc1=>?_) λhc1=>?_))
 ·have hne:s.drop p≠[]:=(by intro hh;have:=congrArg List.length hh;simp at this;omega);have hw:=jN (s.drop p);have hwl:=wid_le (s.drop p) hne;have hst:=cB (λc n=>!decide (c=65533/\n=1)) s p z2_;rw [bC] at hwl;obtain⟨cc,cn,hcr⟩:∃ a b,charR (s.drop p)=(a,b):=⟨_,_,U⟩;have hcr2:=hcr;unfold charR at hcr2;refine aA (aJ (Sr (Ru 2 U (ah (RunV.strCut_l dC U U z9_ z2_) U ?_))));refine bh ca_218 U (char_fn _ _ z7_ (by try (simp only [bC]);omega)) U ?_;rw [hcr];refine Ru 5 U (a_ (az (Sr (Ru 2 U (a_ (Cs U (λhc3=>?_) λhc3=>?_))))))
  ·have hz:chr (s.drop p)=65533/\wid (s.drop p)=1:=(by by_cases hz:chr (s.drop p)=65533/\wid (s.drop p)=1;exact hz;rw [if_neg hz] at hcr2;injection hcr2 with q1 q2;omega);exact Sr (Ru 1 U (a_ (aH (ay U U) (by rw [hq,hst,aj hz];rfl) U)))
  have hz:¬ (chr (s.drop p)=65533/\wid (s.drop p)=1):=(λhz=>by rw [if_pos hz] at hcr2;injection hcr2 with q1 q2;omega);rw [if_neg hz] at hcr2;injection hcr2 with q1 q2;refine aA (Rg (Ru 2 U (ah ai_ U ?_)));refine Ru 1 U (a_ (⟨_,?_,_,?_,⟨p+wid (s.drop p),U,U,U,U,⟨by omega,by rw [hq,hst,au hz];rfl⟩⟩⟩))
  ·omega
  exact g7
 exact bA (Kp [] U (Sr (Ru 1 U (a_ (aH (ay U U) (by rw [hq,fD _ _ _ z2_]) U)))))
theorem pA {P:Nat->Bool}(hP:∀ c,P c=true->c<128):∀ (n:Nat) (s:LB),s.length<=n->runes (λc _=>P c) s 0=s.all λb=>P b.toNat:=by
 intro n
 induction n with
 |zero=>intro s hs;have:s=[]:=List.eq_nil_of_length_eq_zero z2_;subst this;rfl
 |succ n ih =>
  intro s hs;cases s with
  |nil=>rfl
  |cons b r =>
   have h0:byteAt (b::r) 0=b.toNat:=rfl;by_cases hb:b.toNat<128
   ·have hd:Go.Lib.decodeL (b::r)=(b.toNat,1):=by rw [dec_s,h0];unfold Go.Lib.decodeN;rw [if_pos hb]
    have hc:chr (b::r)=b.toNat:=by show(Go.Lib.decodeL (b::r)).1=_;rw [hd]
    have hw:wid (b::r)=1:=by show(Go.Lib.decodeL (b::r)).2=_;rw [hd]
    simp only [runes,hc,hw,Nat.sub_self,List.all_cons];rw [ih r (by simp at hs;omega)]
   ·have hf:P b.toNat=false:=by
     cases hp:P b.toNat with
     |false=>rfl
     |true=>exact absurd (hP _ hp) hb
    have hc:128<=chr (b::r):=by
     show 128<=(Go.Lib.decodeL (b::r)).1;rw [dec_s,h0];unfold Go.Lib.decodeN;rw [if_neg hb]
     (repeat' split)<;>simp<;>omega
    have hf2:P (chr (b::r))=false:=by
     cases hp:P (chr (b::r)) with
     |false=>rfl
     |true=>have:=hP _ hp;omega
    simp only [runes,hf2,Bool.false_and,List.all_cons,hf]
theorem uQ (P:Nat->Bool) (s:LB) (p:Nat) (h:p<s.length):((s.drop p).all λb=>P b.toNat)=(P (byteAt s p)&&(s.drop (p+1)).all λb=>P b.toNat):=by
 rw [aX h,List.all_cons,bY s p h]
theorem ria5_fn (s:LB) (h:Part) (hl:s.length<=140737488355328):Pure prog 165 [.string ⟨s.toArray⟩] h (.bool (runes (λc _=>decide (c<=127)) s 0)):=by
 rw [pA (P:=λc=>decide (c<=127)) (λc hc=>by have:=of_decide_eq_true hc;omega) _ s (aL _)];refine aM func165 U ntmps165 U (λe he=>?_);refine bg [(0,_)] ⟨U,trivial⟩ ?_;refine Sr (Ru 1 U (a_ (az (Sr (Ru 1 U (a_ (aJ (bM (λt_ S_ h_ L_=>∃ (p:Nat),t_=s.length-p/\S_=[(0,.string ⟨s.toArray⟩),(3,.int .i64 p)]/\h=h_/\L_=[]/\(p<=s.length/\(s.all λb=>decide (b.toNat<=127))=(s.drop p).all λb=>decide (b.toNat<=127))) ⟨_,_,?_,⟨0,U,U,U,U,⟨by omega,U⟩⟩⟩ ?_))))))))
 ·exact z6_
 rintro _ _ _ _ ⟨p,rfl,rfl,rfl,rfl,hp,hq⟩;refine az (Sr (Ru 2 U (ah (cD dC U) U ?_)));refine Ru 1 U (a_ (Cs U (λhc1=>?_) λhc1=>?_))
 ·have hst:=uQ (λc=>decide (c<=127)) s p z2_;refine aA (az (aJ (Sr (Ru 2 U (ah (bH dC U U z9_ z2_) U ?_)))));refine Ru 1 U (a_ (Cs U (λhc2=>?_) λhc2=>?_))
  ·exact Sr (Ru 1 U (a_ (aH (ay U U) (by rw [hq,hst,au z2_];rfl) U)))
  refine aA (Rg (Ru 1 U (ah ai_ U ?_)));refine Ru 1 U (a_ (⟨_,?_,_,?_,⟨p+1,U,U,U,U,⟨by omega,by rw [hq,hst,aj z2_,Bool.true_and]⟩⟩⟩))
  ·omega
  exact z6_
 exact bA (Kp [] U (Sr (Ru 1 U (a_ (aH (ay U U) (by rw [hq,List.drop_of_length_le z2_];rfl) U)))))
theorem nu {p:Prop}(u:p:=by repeat (first|exact trivial|refine⟨rfl,?_⟩|refine⟨(by exact cV (by first|exact decide_eq_decide.2 z2_|exact(au z2_).symm|exact(aj z2_).symm)),?_⟩)):p:=u
theorem z20_ {p:Prop}(u:p:=by repeat (first|exact trivial|refine⟨rfl,?_⟩|refine⟨(by exact cV (by rw [tM];first|(have q0:=e0 z2_;have q1:=e1 z2_;first|exact decide_eq_decide.2 z2_|exact(au z2_).symm|exact(aj z2_).symm)|exact(au z2_).symm)),?_⟩)):p:=u
theorem z33_ {p:Prop}(u:p:=by repeat (first|exact trivial|refine⟨rfl,?_⟩|refine⟨(by exact cV (by first|exact decide_eq_decide.2 z2_|exact(au z2_).symm|exact(aj z2_).symm|(rw [eq_comm];exact aj z2_)|(rw [eq_comm];exact au z2_))),?_⟩)):p:=u
theorem z49_ {p:Prop}(u:p:=by repeat (first|exact trivial|refine⟨rfl,?_⟩|refine⟨(by exact cQ (by first|rfl|(rw [jk s i z2_];omega))),?_⟩)):p:=u
theorem ca_130:callT prog 130=true:=by kernel_rfl
theorem ca_131:callT prog 131=true:=by kernel_rfl
theorem ca_176:callT prog 176=true:=by kernel_rfl
theorem ca_217:callT prog 217=true:=by kernel_rfl
theorem ca_77:callT prog 77=true:=by kernel_rfl
theorem dgo_stop {f m len least:Nat}(h:¬ (0<m\/len<least)):dgo f m len least=[]:=oP h
theorem vv {n least:Nat}{h:Part}(hn:n<18446744073709551616) (hl:least<=20):Pure prog 217 [.int .u64 n,.int .i64 least] h (.string ⟨(dgs n least).toArray⟩):=by
 refine dY ?_;refine aM func217 U ntmps217 U (λe he=>?_);refine bg [(0,_),(1,_)] ⟨U,U,trivial⟩ ?_;have hh0:=aT h;refine Sr (Ru 1 U (a_ (Sr (Ru 1 U (a_ (az (aJ (bM (λt_ S_ h_ L_=>∃ (g:Part) (f m:Nat) (s:LB),t_=f+m/\S_=[(0,.int .u64 m),(1,.int .i64 least),(5,.string ⟨s.toArray⟩)]/\g=h_/\L_=[]/\(h.le g/\s.length+f=20/\m<18446744073709551616/\m<10 ^ f/\dgs n least=dgo f m s.length least++s)) ⟨_,_,?_,⟨_,20,n,[],U,U,U,U,⟨by assumption,U,hn,by simp only [Nat.reducePow];omega,by simp [dgs]⟩⟩⟩ ?_))))))))
 ·exact z6_
 rintro _ _ _ _ ⟨g,f,m,s,rfl,rfl,rfl,rfl,hhg,hf,hm1,hm,he⟩;refine az (az (cJ [(13,.bool (decide (0<m\/s.length<least)))] [(0,_),(1,_),(5,_)] ⟨U,U,U,trivial⟩ ?_ ?_))
 ·refine Rg (Ru 3 U (Bs 8 U (λhc1=>?_) λhc1=>?_))
  ·refine Ru 5 U (a_ (⟨U,U,?_⟩));exact nu
  refine Ru 1 U (aQ U U  (cD dC U) U ?_);refine Ru 3 U (a_ (⟨U,U,?_⟩));exact nu
 refine Cs U (λhc2=>?_) λhc2=>?_
 ·obtain⟨f',rfl⟩:∃ f',f=f'+1:=⟨f-1,by have:f≠0:=(by rintro rfl;simp at hm;omega);omega⟩;rw [Nat.pow_succ] at hm;refine aA (aJ (Sr (Ru 1 U (ah (by first|exact RunV.rem_u64 rfl rfl z2_ z2_|exact RunV.rem rfl rfl z2_) U ?_))));refine ah (by first|exact RunV.add_u64 rfl rfl z2_ z2_|exact RunV.add rfl rfl) U ?_;refine ah (cT (48+m % 10) fV U z2_) U ?_;refine cF dq pg U U U U U (λb3=>?_);refine JL.pubB (R:=u8R) (sz:=1) (l:=[UInt8.ofNat (48+m % 10)]) dl_ (qG (by first|kernel_rfl|rfl)) (by first|decide|omega|(simp;done)) (λh4 hle4 hQ=>?_)
  replace hhg:=hhg.mono hle4
  refine ah (d7 (l:=[UInt8.ofNat (48+m % 10)]) dM U hQ U) U ?_;refine Ru 1 U (ah (RunV.addS U U (by simp;omega)) U ?_);refine Ru 1 U (a_ (Rg (Ru 1 U (ah z35_ U ?_))));refine Ru 1 U (a_ (⟨_,?_,_,?_,⟨_,f',m / 10,[UInt8.ofNat (48+m % 10)]++s,U,U,U,U,⟨by assumption,by simp;omega,by omega,by omega,by rw [he,dgo,if_pos z2_];simp⟩⟩⟩))
  ·omega
  exact z6_
 have hds:dgs n least=s:=(by rw [he,dgo_stop z2_];rfl);exact bA (Sr (Ru 2 U (Nk [4] U (ew (ay U U) (by rw [hds])))))
theorem gk {n least:Nat}{N Q:Int}{h:Part}(hN:N=(n:Int)) (hQ:Q=(least:Int)) (hn:n<18446744073709551616) (hl:least<=20):Pure prog 217 [.int .u64 N,.int .i64 Q] h (.string ⟨(dgs n least).toArray⟩):=by
 subst hN hQ;exact vv hn hl
def numR (s:LB):Nat:=if numBad s||!s.all dig then 0 else numV s
theorem numR_bad {s:LB}(h:s.length=0\/19<s.length\/1<s.length/\byteAt s 0=48):numR s=0/\numB s=none:=by
 have hb:numBad s=true:=aj h;simp [numR,numB,hb]
theorem numR_no {s:LB}{i:Nat}(h:i<s.length) (hd:¬ (48<=byteAt s i/\byteAt s i<=57)):numR s=0/\numB s=none:=by
 have hb:s.all dig=false:=by
  rw [List.all_eq_false];refine⟨s[i],aF _,?_⟩;have e:=bY s i h;unfold dig;rw [au z2_];decide
 unfold numR numB;rw [hb];simp
theorem numR_ok {s:LB}(h:¬ (s.length=0\/19<s.length\/1<s.length/\byteAt s 0=48)) (hd:s.all dig=true):numR s=numV s/\(numB s).isSome=decide (numV s<9223372036854775808):=by
 have hb:numBad s=false:=au h;unfold numR numB;rw [hb,hd];simp only [Bool.not_true,Bool.or_self,c_,if_false];refine⟨trivial,?_⟩;split
 ·rename_i hh;rw [aj hh];rfl
 ·rename_i hh;rw [au hh];rfl
theorem jk (s:LB) (i:Nat) (h:i<s.length):numV (s.take (i+1))=numV (s.take i)*10+(byteAt s i-48):=by
 rw [am h,jl,bY s i h]
theorem pd (s:LB) (i:Nat) (h:i<s.length):(s.take (i+1)).all dig=((s.take i).all dig&&decide (48<=byteAt s i/\byteAt s i<=57)):=by
 rw [am h,List.all_append];simp [dig,bY s i h]
theorem vn (s:LB) (h:Part) (hl:s.length<=140737488355328):Pure prog 176 [.string ⟨s.toArray⟩] h (.tuple #[.int .u64 (numR s:Nat),.bool (numB s).isSome]):=by
 have hb0:byteAt s 0=(s.getD 0 0).toNat:=rfl;refine aM func176 U ntmps176 U (λe he=>?_);refine bg [(0,_)] ⟨U,trivial⟩ ?_;refine Sr (Ru 2 U (a_ (az (az (cJ [(23,.bool (decide (s.length=0\/19<s.length\/1<s.length/\byteAt s 0=48)))] [(3,_),(2,_),(0,_)] ⟨U,U,U,trivial⟩ ?_ ?_)))))
 ·refine Rg (Ru 1 U (ah (cD dC U) U ?_));refine Ru 2 U (Bs 9 U (λhc1=>?_) λhc1=>?_)
  ·refine Ru 14 U (a_ (⟨U,U,?_⟩));exact z33_
  refine Ru 1 U (aQ U U  (cD dC U) U ?_);refine Ru 3 U (Bs 14 U (λhc2=>?_) λhc2=>?_)
  ·refine Ru 9 U (a_ (⟨U,U,?_⟩));exact z33_
  refine Ru 1 U (aQ U U  (cD dC U) U ?_);refine Ru 2 U (Bs 18 U (λhc3=>?_) λhc3=>?_)
  ·refine Ru 1 U (aQ U U  (bH dC U U (show _=((0:Nat):Int) from rfl) z2_) U ?_);refine Ru 3 U (a_ (⟨U,U,?_⟩));exact z33_
  refine Ru 5 U (a_ (⟨U,U,?_⟩));exact z33_
 refine Cs U (λhc4=>?_) λhc4=>?_
 ·have hnr:=numR_bad hc4;exact Sr (Ru 2 U (a_ (aH (b_ U U U) (by rw [hnr.1,hnr.2];rfl) U)))
 have hok:=hc4;refine aA ?_;refine Sr (Ru 1 U (a_ (az (Sr (Ru 1 U (a_ (aJ (bM (λt_ S_ h_ L_=>∃ (i:Nat),t_=s.length-i/\S_=[(0,.string ⟨s.toArray⟩),(4,.int .u64 (numV (s.take i):Nat)),(5,.int .i64 i)]/\h=h_/\L_=[]/\(i<=s.length/\(s.take i).all dig=true/\numV (s.take i)<10 ^ i)) ⟨_,_,?_,⟨0,U,U,U,U,⟨by omega,by simp,by simp [numV]⟩⟩⟩ ?_))))))))
 ·exact z49_
 rintro _ _ _ _ ⟨i,rfl,rfl,rfl,rfl,hi,hd,hv⟩;refine az (Sr (Ru 2 U (ah (cD dC U) U ?_)));refine Ru 1 U (a_ (Cs U (λhc5=>?_) λhc5=>?_))
 ·have hi':i<s.length:=z2_;have hst:=jk s i hi';have hat:=pd s i hi';have hp:10 ^ i<=1000000000000000000:=Nat.le_trans (Nat.pow_le_pow_right bT (show i<=18 by omega)) bT;have hbl:=cx s i;have hbi:byteAt s i=(s.getD i 0).toNat:=rfl;refine aA (az (aJ (az (Sr (Ru 2 U (ah (bH (m:=i) dC U U z2_ z2_) U ?_))))));refine ah lH U ?_;refine bh fI U (d9 _ _ _ _) U ?_;refine Ru 1 U (a_ (Cs U (λhc7=>?_) λhc7=>?_))
  ·have hnr:=numR_no hi' (show ¬ (48<=byteAt s i/\byteAt s i<=57) by omega);exact Sr (Ru 2 U (a_ (aH (b_ U U U) (by rw [hnr.1,hnr.2];rfl) U)))
  refine aA (Rg (Ru 1 U (ah (by first|exact RunV.mul_u64 rfl rfl z2_ z2_|exact RunV.mul rfl rfl) U ?_)));refine Ru 2 U (ah (bH (m:=i) dC U U z2_ z2_) U ?_);refine ah (by first|exact RunV.sub_u8 rfl rfl z2_ z2_|exact dW rfl rfl) U ?_;refine ah (by first|exact RunV.convb_u64 fq rfl|exact dJ fq rfl z2_ z2_|exact cL fq rfl) U ?_;refine ah (by first|exact RunV.add_u64 rfl rfl z2_ z2_|exact RunV.add rfl rfl) U ?_;refine Ru 1 U (a_ (Rg (Ru 1 U (ah ai_ U ?_))));refine Ru 1 U (a_ (⟨_,?_,_,?_,⟨i+1,U,U,U,U,⟨by omega,by rw [hat,hd,aj z2_];rfl,by rw [hst,Nat.pow_succ];omega⟩⟩⟩))
  ·omega
  exact z49_
 have hie:s.take i=s:=aS z2_;rw [hie] at hd hv |-;have hnr:=numR_ok hok hd
 exact bA (Kp [4] U (Sr (Ru 5 U (a_ (aH (b_ U U U) (by rw [hnr.1,hnr.2];exact congrArg (λb=>Value.tuple #[.int .u64 (numV s:Nat),.bool b]) (decide_eq_decide.2 z2_)) U)))))
theorem rb128_fn {n:Nat}{h:Part}(hn:n<18446744073709551616):Fn prog 131 [.int .u64 n] h [] (Rets λv _ Lo=>∃ a c,v=.slice a (b128 n).length c/\Lo=[.row a c 5 1 (b128 n).length (u8s (b128 n))]):=by
 refine aM func131 U ntmps131 U (λe he=>?_);refine bg [(0,_)] ⟨U,trivial⟩ ?_;have hh0:=aT h;refine Sr (Ru 1 U (a_ (Sr (Ru 1 U (ah (by first|exact RunV.rem_u64 rfl rfl z2_ z2_|exact RunV.rem rfl rfl z2_) U ?_)))));refine ah (cT (n % 128) fV U z2_) U ?_;refine cF dq pg U U U U U (λb1=>?_);refine JL.rowB (b:=b1) dl_ ?_;refine Ru 1 U (a_ (az (Sr (Ru 1 U (ah z35_ U ?_)))));refine Ru 1 U (Nk [0,3,2] U (aJ (bM (λt_ S_ h_ L_=>∃ (g:Part) (f m:Nat) (out:LB) (la:OA) (lc:Nat),t_=m+1/\S_=[(0,.int .u64 m),(3,.slice la out.length lc)]/\g=h_/\L_=[.row la lc 5 1 out.length (u8s out)]/\(h.le g/\m<18446744073709551616/\out.length+f=11/\m<128 ^ f/\b128 n=hiB m++out)) ⟨_,_,?_,⟨_,10,n / 128,[UInt8.ofNat (n % 128)],_,_,U,U,U,U,⟨by assumption,by omega,U,by simp only [Nat.reducePow];omega,U⟩⟩⟩ ?_)))
 ·exact z6_
 rintro _ _ _ _ ⟨g,f,m,out,la,lc,rfl,rfl,rfl,rfl,hhg,hm,hol,hmf,he⟩;refine az (Sr (Ru 2 U (a_ (Cs U (λhc2=>?_) λhc2=>?_))))
 ·have hst:=oH m (by simp only [Nat.reducePow];omega) z2_;obtain⟨f',rfl⟩:∃ f',f=f'+1:=⟨f-1,by have:f≠0:=(by rintro rfl;simp at hmf;omega);omega⟩;rw [Nat.pow_succ] at hmf;refine aA (az (aJ (Sr (Ru 1 U (a_ (Sr (Ru 2 U (ah (by first|exact RunV.rem_u64 rfl rfl z2_ z2_|exact RunV.rem rfl rfl z2_) U ?_))))))));refine ah (cT (m % 128) fV U z2_) U ?_;refine ah (RunV.add_u8 U U (by rw [fa z2_];omega) (by rw [fa z2_];omega)) U ?_;rw [show((UInt8.ofNat (m % 128)).toNat:Int)+128=((UInt8.ofNat (m % 128+128)).toNat:Int) from by rw [fa z2_,fa z2_];omega];refine cF dq pg U U U U U (λb3=>?_);refine bZ 5 1 ?_;refine bV dq U U (bQ (R:=u8R)) U dl_ dl_ U (U) z3_ U U (λa4 c4 xs4 hC4 hN4=>?_);obtain rfl:=hC4.u8;refine Ru 1 U (a_ (Rg (Ru 2 U ?_)));refine cW (R:=u8R) (l:=out) dl_ bm U z2_ (λh9 hle9 hP9=>?_);replace hhg:=hhg.mono hle9;refine bX dq U U bm U z7_ U dl_ z3_ U U (λa5 c5 xs5 hC5 hN5=>?_);obtain rfl:=hC5.u8;refine Ru 1 U (a_ (Rg (Ru 1 U (ah z35_ U ?_))));refine Ru 1 U (a_ (⟨_,?_,_,?_,⟨_,f',m / 128,_,_,_,U,U,U,U,⟨by assumption,by omega,by simp;omega,by omega,by rw [he,hst];simp⟩⟩⟩))
  ·omega
  exact z6_
 have hm0:m=0:=z2_;have hbe:b128 n=out:=(by rw [he,hm0];rfl);refine bA (Sr (Ru 2 U (Nk [2] U ?_)));rw [hbe];exact dE ⟨_,[_],_,(ay U U),.cons .here .nil,_,U,_,_,U,U⟩
theorem pT {n:Nat}{N:Int}{h:Part}(hN:N=(n:Int)) (hn:n<18446744073709551616):Fn prog 131 [.int .u64 N] h [] (Rets λv _ Lo=>∃ a c,v=.slice a (b128 n).length c/\Lo=[.row a c 5 1 (b128 n).length (u8s (b128 n))]):=by
 subst hN;exact rb128_fn hn
theorem numB_some {s:LB}(h:(numB s).isSome=true):numB s=some (numR s)/\numR s<9223372036854775808:=by
 unfold numB numR at *;split at h
 ·cases h
 ·rename_i hb;split at h
  ·rename_i hh;rw [if_neg hb];simp only [if_neg hb,if_pos hh];exact⟨trivial,hh⟩
  ·cases h
theorem numB_none {s:LB}(h:(numB s).isSome=false):numB s=none:=by
 cases hn:numB s with
 |none=>rfl
 |some x=>rw [hn] at h;cases h
theorem rW (s cur:LB) (i:Nat) (h:i<s.length) (hc:byteAt s i≠46):numsGo (s.drop i) cur=numsGo (s.drop (i+1)) (cur++[s[i]]):=by
 rw [aX h,numsGo,if_neg];intro e;have:=bY s i h;rw [e] at this;exact hc this.symm
theorem mY (s cur:LB) (i:Nat) (h:i<s.length) (hc:byteAt s i=46):numsGo (s.drop i) cur=match numB cur with|none=>none|some n=>(numsGo (s.drop (i+1)) []).map (n::·):=by
 have:=bY s i h;rw [aX h,numsGo,if_pos (UInt8.toNat_inj.1 ((this.trans hc).trans U))]
 all_goals (cases numB cur<;>rfl)
theorem cur_next (s:LB) (fr i:Nat) (h:i<s.length) (hf:fr<=i):(s.drop fr).take (i+1-fr)=(s.drop fr).take (i-fr)++[s[i]]:=by
 have hl:i-fr<(s.drop fr).length:=by rw [bC];omega
 have e:(s.drop fr)[i-fr]'hl=s[i]:=by simp only [List.getElem_drop,show fr+(i-fr)=i by omega]
 rw [show i+1-fr=(i-fr)+1 by omega,am hl,e]
def numsL (s:LB):List Nat×Bool:=match numsGo s [] with
 |none=>([],false)
 |some l=>(l,oidOk l)
theorem tM (l:List Nat):oidOk l=decide (2<=l.length/\(l.getD 0 0=2/\l.getD 1 0<9223372036854775728\/l.getD 0 0<2/\l.getD 1 0<40)):=by
 unfold oidOk;rw [<- Bool.decide_or,<- Bool.decide_and]
def u64L (l:List Nat):List UInt64:=l.map UInt64.ofNat
theorem lN (l:List Nat) (i:Nat) (hl:∀ x∈l,x<9223372036854775808) (h:i<(u64L l).length):((u64L l)[i]'h).toNat=l.getD i 0:=by
 have hi:i<l.length:=by simpa [u64L] using h
 have:=hl l[i] (aF hi);simp only [u64L,List.getElem_map,UInt64.toNat_ofNat',bi,aW hi,Option.getD_some];omega
theorem ry (s:LB) (h:Part) (hl:s.length<=10000000000):FnR prog 130 [.string ⟨s.toArray⟩] h (λv h'=>∃ a c,v=.tuple #[.slice a (u64L (numsL s).1).length c,.bool (numsL s).2]/\SlR u64R 1 h' a c (u64L (numsL s).1)/\(∀ x∈(numsL s).1,x<9223372036854775808)/\(numsL s).1.length<=10000000001):=by
 refine aM func130 U ntmps130 U (λe he=>?_);refine bg [(0,_)] ⟨U,trivial⟩ ?_;have hh0:=aT h;refine Sr (Ru 2 U (a_ (Sr (bZ 161 1 ?_))));refine Ru 1 U (a_ ?_);refine Sr (Ru 1 U (a_ (az (Sr (Ru 1 U (a_ (aJ (bM (λt_ S_ h_ L_=>∃ (g:Part) (i fr:Nat) (acc:List Nat) (ao:OA) (co:Nat) (xs:LV),t_=s.length+1-i/\S_=[(0,.string ⟨s.toArray⟩),(4,.slice ao (u64L acc).length co),(5,.int .i64 fr),(6,.int .i64 i)]/\g=h_/\L_=[.row ao co 161 1 (u64L acc).length xs]/\(h.le g/\i<=s.length+1/\fr<=i/\acc.length<=i/\CellsR u64R 1 g xs (u64L acc)/\(∀ x∈acc,x<9223372036854775808)/\(i<=s.length->numsGo s []=(numsGo (s.drop i) ((s.drop fr).take (i-fr))).map (acc++·))/\(s.length<i->numsGo s []=some acc))) ⟨_,_,?_,⟨_,0,0,[],_,_,_,U,U,U,U,⟨by assumption,by omega,by omega,by simp,bQ,by simp,λ_=>by simp,λhh=>by omega⟩⟩⟩ ?_))))))))
 ·exact z6_
 rintro _ _ _ _ ⟨g,i,fr,acc,ao,co,xs,rfl,rfl,rfl,rfl,hhg,hi,hfr,hal,hC,hx,hq1,hq2⟩;have hul:(u64L acc).length=acc.length:=aD ..;refine az (Sr (Ru 2 U (ah (cD dC U) U ?_)));refine Ru 1 U (a_ (Cs U (λhc1=>?_) λhc1=>?_))
 ·refine aA (az (aJ (az (az (cJ [(25,.bool (decide (i<s.length/\byteAt s i≠46)))] [(13,_),(12,_),(11,_),(10,_),(0,_),(4,_),(5,_),(6,_)] ⟨U,U,U,U,U,U,U,U,trivial⟩ ?_ ?_)))))
  ·refine Rg (Ru 2 U (ah (cD dC U) U ?_));refine Ru 2 U (Bs 20 U (λhc2=>?_) λhc2=>?_)
   ·refine Ru 2 U (aQ U U  (bH (m:=i) dC U U z2_ z2_) U ?_);refine Ru 2 U (a_ (⟨U,U,?_⟩));exact nu
   refine Ru 5 U (a_ (⟨U,U,?_⟩));exact nu
  refine Cs U (λhc3=>?_) λhc3=>?_
  ·refine bA (Rg (Ru 1 U (ah ai_ U ?_)));refine Ru 1 U (a_ (⟨_,?_,_,?_,⟨_,i+1,fr,acc,_,_,_,U,U,U,U,⟨by assumption,by omega,by omega,by omega,by assumption,hx,λ_=>by rw [hq1 z2_,rW s _ i z2_ z2_,cur_next s fr i z2_ hfr],λhh=>by omega⟩⟩⟩))
   ·omega
   exact z6_
  obtain⟨cur,hcur⟩:∃ cur,cur=(s.drop fr).take (i-fr):=⟨_,U⟩;have hq:=hq1 z2_;rw [<- hcur] at hq;refine aA (Sr (Ru 3 U (ah (cC dC U U U z9_ z9_ z2_ z2_) U ?_)));refine bh ca_176 U (vn _ _ (by try (simp only [bz,bC]);omega)) U ?_;refine Ru 5 U (a_ (az (Sr (Ru 2 U (a_ (Cs U (λhc5=>?_) λhc5=>?_))))))
  ·have hnone:numsGo s []=none:=(by have hnb:=numB_none (s:=cur) (by rw [hcur];exact hc5);rw [hq];rcases Nat.lt_or_ge i s.length with hlt|hge;rw [mY s _ i hlt z2_,hnb];rfl;rw [List.drop_of_length_le hge,numsGo,hnb];rfl);have hnl:numsL s=([],false):=(by unfold numsL;rw [hnone]);refine Sr (Ru 2 U (a_ ?_));rw [hnl];exact bj (b_ U U U) ⟨none,0,U,bu,by simp,by simp⟩
  have hsome:=numB_some (s:=cur) (by rw [hcur];exact hc5);rw [hcur] at hsome;have hke:u64L acc++[UInt64.ofNat (numR ((s.drop fr).take (i-fr)))]=u64L (acc++[numR ((s.drop fr).take (i-fr))]):=(by simp [u64L]);refine aA (Sr (Ru 2 U (cF gC lF U U U U U (λb6=>?_))));refine bV gC U U z7_ U dl_ dl_ U ((by show _=_;rw [UInt64.toNat_ofNat',Nat.mod_eq_of_lt z2_]:u64R _ [.int .u64 (numR ((s.drop fr).take (i-fr)):Nat)] (UInt64.ofNat (numR ((s.drop fr).take (i-fr)))))) z3_ U U (λa7 c7 xs7 hC7 hN7=>?_);rw [hke] at *;refine Ru 1 U (a_ (Rg (Ru 1 U (ah ai_ U ?_))));refine Ru 1 U (a_ (Rg (Ru 1 U (ah ai_ U ?_))));refine Ru 1 U (a_ (⟨_,?_,_,?_,⟨_,i+1,i+1,acc++[numR ((s.drop fr).take (i-fr))],_,_,_,U,U,U,U,⟨by assumption,by omega,by omega,by simp;omega,by assumption,by (intro y hy;rcases List.mem_append.1 hy with hy|hy;exact hx y hy;simp at hy;subst hy;exact hsome.2),λhh=>by rw [hq,mY s _ i z2_ z2_,hcur,hsome.1];simp only [Nat.sub_self,List.take_zero,Option.map_map];congr 1;funext z;simp,λhh=>by rw [hq,List.drop_of_length_le z2_,numsGo,hcur,hsome.1];rfl⟩⟩⟩))
  ·omega
  exact z6_
 have hnl:numsL s=(acc,oidOk acc):=(by unfold numsL;rw [hq2 z2_]);refine J.pub (R:=u64R) dl_ hC U z2_ (λh9 hle9 hP9=>?_);have e0:=lN acc 0 hx;have e1:=lN acc 1 hx;refine bA (Kp [4] U (az (cJ [(9,.bool (oidOk acc))] [(4,_)] ⟨U,trivial⟩ ?_ ?_)))
 ·refine Rg (Ru 4 U (Bs 45 U (λhc8=>?_) λhc8=>?_))
  ·refine Ru 1 U (cH U U  (aI dk U U (show _=((0:Nat):Int) from rfl) z7_ U z2_) U ?_);rintro _ ⟨b9,o9,hi9,rfl,hE9⟩;refine aQ U U  (bU dy U z7_) U ?_;refine Ru 3 U (Bs 51 U (λhc11=>?_) λhc11=>?_)
   ·refine Ru 1 U (cH U U  (aI dk U U (show _=((0:Nat):Int) from rfl) z7_ U z2_) U ?_);rintro _ ⟨b12,o12,hi12,rfl,hE12⟩;refine aQ U U  (bU dy U z7_) U ?_;refine Ru 2 U (Bs 56 U (λhc14=>?_) λhc14=>?_)
    ·refine Ru 1 U (cH U U  (aI dk U U (show _=((1:Nat):Int) from rfl) z7_ U z2_) U ?_);rintro _ ⟨b15,o15,hi15,rfl,hE15⟩;refine aQ U U  (bU dy U z7_) U ?_;refine Ru 3 U (Bs 62 U (λhc17=>?_) λhc17=>?_)
     ·refine Ru 13 U (a_ (⟨U,U,?_⟩));exact z20_
     refine Ru 1 U (cH U U  (aI dk U U (show _=((0:Nat):Int) from rfl) z7_ U z2_) U ?_);rintro _ ⟨b18,o18,hi18,rfl,hE18⟩;refine aQ U U  (bU dy U z7_) U ?_;refine Ru 2 U (Bs 67 U (λhc20=>?_) λhc20=>?_)
     ·refine Ru 1 U (cH U U  (aI dk U U (show _=((1:Nat):Int) from rfl) z7_ U z2_) U ?_);rintro _ ⟨b21,o21,hi21,rfl,hE21⟩;refine aQ U U  (bU dy U z7_) U ?_;refine Ru 5 U (a_ (⟨U,U,?_⟩));exact z20_
     refine Ru 8 U (a_ (⟨U,U,?_⟩));exact z20_
    refine Ru 7 U (cH U U  (aI dk U U (show _=((0:Nat):Int) from rfl) z7_ U z2_) U ?_);rintro _ ⟨b23,o23,hi23,rfl,hE23⟩;refine aQ U U  (bU dy U z7_) U ?_;refine Ru 2 U (Bs 67 U (λhc25=>?_) λhc25=>?_)
    ·refine Ru 1 U (cH U U  (aI dk U U (show _=((1:Nat):Int) from rfl) z7_ U z2_) U ?_);rintro _ ⟨b26,o26,hi26,rfl,hE26⟩;refine aQ U U  (bU dy U z7_) U ?_;refine Ru 5 U (a_ (⟨U,U,?_⟩));exact z20_
    refine Ru 8 U (a_ (⟨U,U,?_⟩));exact z20_
   refine Ru 24 U (a_ (⟨U,U,?_⟩));exact z20_
  refine Ru 30 U (a_ (⟨U,U,?_⟩));exact z20_
 refine Sr (Ru 4 U (a_ ?_));rw [hnl];exact bj (b_ U U U) ⟨_,_,U,by assumption,hx,by simp only;omega⟩
theorem oK:∀ (l:List Nat),(enc l).length<=11*l.length
 |[]=>by simp [enc]
 |n::r=>by
  have h1:=oK r;have h2:∀ f m,(hiF f m).length<=f:=by
   intro f
   induction f with
   |zero=>intro m;simp [hiF]
   |succ f ih=>intro m;rw [hiF];split;simp;(have:=ih (m / 128);simp;omega)
  have h3:=h2 10 (n / 128);simp only [enc,b128,hiB,aU,aC,aG];omega
theorem vO (a b:List Nat):enc (a++b)=enc a++enc b:=by
 induction a with
 |nil=>rfl
 |cons n r ih=>simp only [List.cons_append,enc,ih,List.append_assoc]
theorem ve (l:List Nat) (i:Nat) (h2:2<=i) (hi:i<l.length):(l.drop 2).take (i+1-2)=(l.drop 2).take (i-2)++[l.getD i 0]:=by
 rw [show i+1-2=(i-2)+1 by omega,am (by rw [bC];omega),List.getElem_drop];congr 2;simp [show 2+(i-2)=i by omega,hi]
theorem gM (s:LB) (h:Part) (hl:s.length<=10000000000):FnR prog 77 [.string ⟨s.toArray⟩] h (λv h'=>∃ a c,v=.tuple #[.slice a ((oidB s).getD []).length c,.int .i64 (if(oidB s).isSome then 0 else 20)]/\SlR u8R 1 h' a c ((oidB s).getD [])):=by
 obtain⟨L,ok,hL⟩:∃ L ok,numsL s=(L,ok):=⟨_,_,U⟩;have hB:oidB s=if ok then some (enc ((40*L.getD 0 0+L.getD 1 0)::L.drop 2)) else none:=by
  unfold oidB;unfold numsL at hL;cases hn:numsGo s [] with
  |none=>rw [hn] at hL;simp only [Prod.mk.injEq] at hL;rw [<- hL.2];rfl
  |some l=>rw [hn] at hL;simp only [Prod.mk.injEq] at hL;obtain⟨rfl,rfl⟩:=hL;rfl
 have hok:ok=true->2<=L.length/\(L.getD 0 0=2/\L.getD 1 0<9223372036854775728\/L.getD 0 0<2/\L.getD 1 0<40):=λhk=>by
  unfold numsL at hL;cases hn:numsGo s [] with
  |none=>rw [hn] at hL;simp only [Prod.mk.injEq] at hL;rw [<- hL.2] at hk;cases hk
  |some l=>rw [hn] at hL;simp only [Prod.mk.injEq] at hL;obtain⟨rfl,rfl⟩:=hL;rw [tM] at hk;exact of_decide_eq_true hk
 have hul:(u64L L).length=L.length:=aD ..;refine aM func77 U ntmps77 U (λe he=>?_);refine bg [(0,_)] ⟨U,trivial⟩ ?_;have hh0:=aT h;refine Sr (Ru 2 U (a_ (Sr (Ru 1 U (bL ca_130 U (ry s _ z2_) U ?_)))));rintro _ h1 hle1 ⟨a2,c2,rfl,hS2,hx2,hn2⟩
 replace hh0:=hh0.mono hle1
 rw [hL] at hx2 hn2 hS2 |-;simp only at hx2 hn2 hS2 |-;have e1:=lN L 1 hx2;have e0:=lN L 0 hx2
 refine Ru 5 U (Nk [5,4,3,2] U (az (Sr (Ru 2 U (a_ (Cs U (λhc2=>?_) λhc2=>?_))))))
 ·have hb:oidB s=none:=(by rw [hB];simp_all);refine Sr (Ru 2 U (Nk [3,2,4] U ?_));rw [hb];exact bj (b_ U U U) ⟨none,0,U,bu⟩
 have hkt:ok=true:=(by simp_all);have hoo:=hok hkt;have hb:oidB s=some (enc ((40*L.getD 0 0+L.getD 1 0)::L.drop 2)):=(by rw [hB,hkt];rfl);have q0:=e0 z2_;have q1:=e1 z2_;refine aA (az (J.held ([]) 10 cM U (λh00=>?_)));refine Tk 0 U (aO U) ?_;refine Te 1 U (aI dk U U (show _=((0:Nat):Int) from rfl) z7_ U z2_) ?_;rintro _ ⟨b3,o3,hi3,rfl,hE3⟩;refine Tk 2 U (bU dy U z7_) ?_;refine Tk 3 U (by first|exact RunV.mul_u64 rfl rfl z2_ z2_|exact RunV.mul rfl rfl) ?_;refine Tk 4 U (aO U) ?_;refine Te 5 U (aI dk U U (show _=((1:Nat):Int) from rfl) z7_ U z2_) ?_;rintro _ ⟨b5,o5,hi5,rfl,hE5⟩;refine Tk 6 U (bU dy U z7_) ?_;refine Tk 7 U (by first|exact RunV.add_u64 rfl rfl z2_ z2_|exact RunV.add rfl rfl) ?_;refine Ta 8 U ?_;unfold One;refine d6 ca_131 U (pT (n:=40*L.getD 0 0+L.getD 1 0) z2_ z2_) pt_ U ?_;rintro _ h7 Lo7 hle7 ⟨a7,c7,rfl,rfl⟩
 replace hh0:=hh0.mono hle7
 replace hS2:=hS2.mono hle7
 refine a_ ⟨(br_ h00),?_⟩;refine Tk 9 U (bS U) ?_;refine cy cP ?_;refine Kp [6,4,3,2] U (az (Sr (Ru 1 U (a_ (aJ (bM (λt_ S_ h_ L_=>∃ (g:Part) (i:Nat) (out:LB) (la:OA) (lc:Nat),t_=L.length-i/\S_=[(4,.slice a2 (u64L L).length c2),(6,.slice la out.length lc),(7,.int .i64 i)]/\g=h_/\L_=[.row la lc 5 1 out.length (u8s out)]/\(h.le g/\SlR u64R 1 g a2 c2 (u64L L)/\2<=i/\i<=L.length/\out=enc ((40*L.getD 0 0+L.getD 1 0)::(L.drop 2).take (i-2)))) ⟨_,_,?_,⟨_,2,_,_,_,U,U,U,U,⟨by assumption,by assumption,by omega,by omega,by simp [enc]⟩⟩⟩ ?_))))))
 ·exact z6_
 rintro _ _ _ _ ⟨g,i,out,la,lc,rfl,rfl,rfl,rfl,hhg,hS2,hi2,hi,ho⟩;refine az (Sr (Ru 4 U (a_ (Cs U (λhc8=>?_) λhc8=>?_))))
 ·have hi':i<L.length:=z2_;have qi:=lN L i hx2 z2_;have hxi:=hx2 (L.getD i 0) (by simp [hi']);have htk:=ve L i hi2 hi';have hel:=oK ((40*L.getD 0 0+L.getD 1 0)::(L.drop 2).take (i-2));rw [<- ho] at hel;have hbl:(b128 (L.getD i 0)).length<=11:=(by have:=oK [L.getD i 0];simpa [enc] using this);refine aA (az (aJ (Rg (Ru 3 U (cm (aI dk U U z9_ z7_ U z2_) U ?_)))));rintro _ ⟨b9,o9,hi9,rfl,hE9⟩;refine ah (bU dy U z7_) U ?_;refine d6 ca_131 U (pT (n:=L.getD i 0) z2_ z2_) pt_ U ?_;rintro _ h11 Lo11 hle11 ⟨a11,c11,rfl,rfl⟩
  replace hhg:=hhg.mono hle11
  replace hS2:=hS2.mono hle11
  refine cW (R:=u8R) (l:=b128 (L.getD i 0)) dl_ bm U z2_ (λh9 hle9 hP9=>?_);replace hhg:=hhg.mono hle9;replace hS2:=hS2.mono hle9;simp only [aC,bz,bC] at hel;refine bX dq U U bm U z7_ U dl_ z3_ U U (λa12 c12 xs12 hC12 hN12=>?_);obtain rfl:=hC12.u8;refine Ru 1 U (a_ (Rg (Ru 1 U (ah ai_ U ?_))));refine Ru 1 U (a_ (⟨_,?_,_,?_,⟨_,i+1,_,_,_,U,U,U,U,⟨by assumption,by assumption,by omega,by omega,by rw [htk,ho,<- List.cons_append,vO];simp [enc]⟩⟩⟩))
  ·omega
  exact z6_
 have hob:out=enc ((40*L.getD 0 0+L.getD 1 0)::L.drop 2):=(by rw [ho,aS (by rw [bC];omega)]);have hel:=oK ((40*L.getD 0 0+L.getD 1 0)::L.drop 2);rw [<- hob] at hel;simp only [aC,bC] at hel;refine bA (Kp [6] U (Sr (Ru 1 U (cW (R:=u8R) (l:=out) dl_ bm U z2_ (λh9 hle9 hP9=>?_)))));refine Ru 2 U (a_ ?_);rw [hb,Option.getD_some,<- hob];exact bj (b_ U U U) ⟨_,_,U,by assumption⟩
theorem rj (l:List Nat) (n:Nat):tail46 (l++[n])=tail46 l++([46]++dgs n 1):=by
 induction l with
 |nil=>simp [tail46]
 |cons m r ih=>simp [tail46,ih]
theorem txtO_snoc (l:List Nat) (n:Nat) (h:l≠[]):txtO (l++[n])=txtO l++[46]++dgs n 1:=by
 cases l with
 |nil=>exact absurd U h
 |cons m r=>simp [txtO,rj]
theorem sX (l:List Nat):txtO l=[]<->l=[]:=by
 cases l with
 |nil=>simp [txtO]
 |cons m r=>simp [txtO]
theorem vr (b:LB) (i n long:Nat) (h:i<b.length):refGo (b.drop i) n long=if 9<long+1\/9223372036854775808<=n*128+byteAt b i % 128 then none else if 128<=byteAt b i then refGo (b.drop (i+1)) (n*128+byteAt b i % 128) (long+1) else(refGo (b.drop (i+1)) 0 0).map (λl=>(n*128+byteAt b i % 128)::l):=by
 rw [aX h,refGo,bY b i h]
theorem lX {a0:OA}{c0:Nat}{l:LB}{h:Part}(hl:SlR u8R 1 h a0 c0 l) (hb:l.length<=100000000) :
 Pure prog 162 [.slice a0 l.length c0] h (.tuple #[.string ⟨((oidT l).getD []).toArray⟩,.int .i64 (if(oidT l).isSome then 0 else 20)]):=by
 rw [refO_oidT];refine dY ?_;refine aM func162 U ntmps162 U (λe he=>?_);refine bg [(0,_)] ⟨U,trivial⟩ ?_;refine Sr (Ru 2 U (a_ (Sr (Ru 1 U (a_ (Sr (Ru 1 U (a_ ?_))))))));refine Sr (Ru 1 U (a_ (az (Sr (Ru 1 U (a_ (aJ (bM (λt_ S_ h_ L_=>∃ (i n long:Nat) (acc:List Nat) (s:LB),t_=l.length-i/\S_=[(0,.slice a0 l.length c0),(4,.string ⟨s.toArray⟩),(5,.int .u64 n),(6,.int .i64 long),(7,.int .i64 i)]/\h=h_/\L_=[]/\(i<=l.length/\n<128 ^ long/\long<=9/\s=txtO acc/\s.length<=42*i/\refGo l 0 0=(refGo (l.drop i) n long).map (acc++·)/\(∀ x∈acc,x<9223372036854775808))) ⟨_,_,?_,⟨0,0,0,[],[],U,U,U,U,⟨by omega,by simp,by omega,U,by simp,by simp,by simp⟩⟩⟩ ?_))))))))
 ·exact z6_
 rintro _ _ _ _ ⟨i,n,long,acc,s,rfl,rfl,rfl,rfl,hi,hn,hlg,hs,hsl,hq,hx⟩;have h128:long<=8->(128:Nat) ^ long<=72057594037927936:=(λhh=>Nat.le_trans (Nat.pow_le_pow_right bT hh) bT);refine az (Sr (Ru 4 U (a_ (Cs U (λhc1=>?_) λhc1=>?_))))
 ·have hi':i<l.length:=z2_;have hst:=vr l i n long hi';have hbt:=cx l i;have hbe:=bY l i hi';refine aA (az (aJ (Sr (Ru 1 U (ah (RunV.mul U U) U ?_)))));refine Ru 2 U (cm (aI cY U U z9_ z7_ U z2_) U ?_);rintro _ ⟨b2,o2,hi2,rfl,hE2⟩;refine ah (bv ff U z7_) U ?_;refine ah (RunV.rem_u8 U U z2_ z2_) U ?_;refine ah (by first|exact RunV.convb_u64 fq rfl|exact dJ fq rfl z2_ z2_|exact cL fq rfl) U ?_;refine ah (RunV.add U U) U ?_;rw [show IntKind.u64.wrap (IntKind.u64.wrap ((n:Int)*128)+(l[i].toNat:Int) % 128)=(((n*128+byteAt l i % 128) % 18446744073709551616:Nat):Int) from by rw [IntKind.wrap_u64,IntKind.wrap_u64,hbe];omega];refine Ru 1 U (a_ (Sr (Ru 1 U (ah ai_ U ?_))));refine Ru 1 U (a_ (az (az (cJ [(33,.bool (decide (9<long+1\/9223372036854775808<=(n*128+byteAt l i % 128) % 18446744073709551616)))] [(6,_),(27,_),(26,_),(5,_),(25,_),(24,_),(23,_),(22,_),(21,_),(20,_),(19,_),(18,_),(17,_),(14,_),(13,_),(12,_),(11,_),(0,_),(4,_),(7,_)] ⟨U,U,U,U,U,U,U,U,U,U,U,U,U,U,U,U,U,U,U,U,trivial⟩ ?_ ?_))))
  ·refine Rg (Ru 3 U (Bs 30 U (λhc4=>?_) λhc4=>?_))
   ·refine Ru 3 U (a_ (⟨U,U,?_⟩));exact nu
   refine Ru 3 U (a_ (⟨U,U,?_⟩));exact nu
  refine Cs U (λhc5=>?_) λhc5=>?_
  ·have hcz:9<long+1\/9223372036854775808<=n*128+byteAt l i % 128:=(by rcases Nat.lt_or_ge 8 long with hl8|hl8;left;omega;have:=h128 hl8;omega);have hro:refO l=none:=(by unfold refO;rw [hq,hst,if_pos hcz];rfl);exact Sr (Ru 2 U (a_ (ew (b_ U U U) (by rw [hro];rfl))))
  have hl8:long<=8:=z2_;have h12:=h128 hl8;have hcz:¬ (9<long+1\/9223372036854775808<=n*128+byteAt l i % 128):=z2_;rw [if_neg hcz] at hst;obtain⟨N,hN⟩:∃ N,N=n*128+byteAt l i % 128:=⟨_,U⟩;have hNm:(n*128+byteAt l i % 128) % 18446744073709551616=N:=z2_;rw [hNm];have hN63:N<9223372036854775808:=z2_;rw [<- hN] at hst;refine aA (az (Sr (Ru 2 U (cm (aI cY U U z9_ z7_ U z2_) U ?_))));rintro _ ⟨b6,o6,hi6,rfl,hE6⟩;refine ah (bv ff U z7_) U ?_;refine Ru 1 U (a_ (Cs U (λhc8=>?_) λhc8=>?_))
  ·refine bA (Rg (Ru 1 U (ah ai_ U ?_)));refine Ru 1 U (a_ (⟨_,?_,_,?_,⟨i+1,N,long+1,acc,s,U,U,U,U,⟨by omega,by rw [Nat.pow_succ];omega,by omega,hs,by omega,by rw [hq,hst,if_pos z2_],hx⟩⟩⟩))
   ·omega
   exact z6_
  rw [if_neg z2_] at hst;refine aA (az (Sr (Ru 1 U (ah (RunV.eqlS U U) U ?_))));refine a_ (Cs U (λhc9=>?_) λhc9=>?_)
  ·have ha0:acc=[]:=(sX acc).1 (by rw [<- hs];exact hc9);obtain⟨m2,hm2⟩:∃ m2:Nat,m2=N-40*min (N / 40) 2:=⟨_,U⟩;have hdl:=dp (min (N / 40) 2) 1;have hdl2:=dp m2 1;refine Sr (Ru 1 U (a_ (az (Sr (Ru 2 U (a_ (cJ [(8,.int .u64 (min (N / 40) 2:Nat))] [(41,_),(40,_),(39,_),(38,_),(37,_),(36,_),(35,_),(34,_),(33,_),(6,_),(27,_),(26,_),(5,_),(25,_),(24,_),(23,_),(22,_),(21,_),(20,_),(19,_),(18,_),(17,_),(14,_),(13,_),(12,_),(11,_),(0,_),(4,_),(7,_)] ⟨U,U,U,U,U,U,U,U,U,U,U,U,U,U,U,U,U,U,U,U,U,U,U,U,U,U,U,U,U,trivial⟩ ?_ ?_)))))))
   ·refine Cs U (λhc10=>?_) λhc10=>?_
    ·refine Rg (Ru 1 U (ah z35_ U ?_));refine Ru 1 U (a_ (⟨U,U,?_⟩));exact g7
    refine aA (⟨U,U,?_⟩);exact g7
   refine Sr (Ru 1 U (bh ca_217 U (gk (n:=min (N / 40) 2) (least:=1) z2_ U z2_ z2_) U ?_));refine Ru 1 U (a_ (Rg (Ru 2 U (ah (by first|exact RunV.mul_u64 rfl rfl z2_ z2_|exact RunV.mul rfl rfl) U ?_))));refine ah (by first|exact RunV.sub_u64 rfl rfl z2_ z2_|exact dW rfl rfl) U ?_;refine Ru 1 U (a_ (Sr (Ru 1 U (ah (RunV.addS U U z3_) U ?_))));refine Ru 1 U (bh ca_217 U (gk (n:=m2) (least:=1) z2_ U z2_ z2_) U ?_);refine ah (RunV.addS U U z3_) U ?_;refine Ru 1 U (a_ ?_);refine Sr (Ru 1 U (a_ (Rg (Ru 1 U (Nk [6,5,4,55,54,53,52,51,50,49,48,47,46,45,8,41,40,39,38,37,36,35,34,33,27,26,25,24,23,22,21,20,19,18,17,14,13,12,11,0,7] U (Rg (Ru 1 U (ah ai_ U ?_))))))));refine Ru 1 U (a_ (⟨_,?_,_,?_,⟨i+1,0,0,acc++[N],dgs (min (N / 40) 2) 1++[46]++dgs m2 1,U,U,U,U,⟨by omega,by simp,by omega,by rw [ha0,hm2];simp [txtO,tail46],by simp only [aU,aC,aG];omega,by rw [hq,hst,Option.map_map];congr 1;funext z;simp,by (intro y hy;rcases List.mem_append.1 hy with hy|hy;exact hx y hy;simp at hy;subst hy;exact hN63)⟩⟩⟩))
   ·omega
   exact z6_
  have ha0:acc≠[]:=(λe=>hc9 (by rw [hs];exact(sX acc).2 e));obtain⟨m2,hm2⟩:∃ m2:Nat,m2=N:=⟨_,U⟩;have hdl2:=dp m2 1;refine aA (Sr (Ru 1 U (ah (RunV.addS U U z3_) U ?_)));refine Ru 1 U (bh ca_217 U (gk (n:=m2) (least:=1) z2_ U z2_ z2_) U ?_);refine ah (RunV.addS U U z3_) U ?_;refine Ru 1 U (a_ ?_);refine Sr (Ru 1 U (Nk [5,4,55,54,53,52,51,40,39,38,37,36,35,34,33,6,27,26,25,24,23,22,21,20,19,18,17,14,13,12,11,0,7] U (Rg (Ru 1 U (a_ (Rg (Ru 1 U (ah ai_ U ?_))))))));refine Ru 1 U (a_ (⟨_,?_,_,?_,⟨i+1,0,0,acc++[N],s++[46]++dgs m2 1,U,U,U,U,⟨by omega,by simp,by omega,by rw [txtO_snoc _ _ ha0,hs,hm2],by simp only [aU,aC,aG];omega,by rw [hq,hst,Option.map_map];congr 1;funext z;simp,by (intro y hy;rcases List.mem_append.1 hy with hy|hy;exact hx y hy;simp at hy;subst hy;exact hN63)⟩⟩⟩))
  ·omega
  exact z6_
 have hrg:refGo l 0 0=some acc:=(by rw [hq,List.drop_of_length_le z2_,refGo];simp);have hro:refO l=if acc≠[]/\enc acc=l then some acc else none:=(by unfold refO;rw [hrg]);have hob:=tN acc hx;rw [<- hs] at hob;have hA:acc=[]->oidB s=none:=(λha=>by rw [hob,if_pos ha]);have hB:acc≠[]->oidB s=some (enc acc):=(λha=>by rw [hob,if_neg ha]);refine bA (Kp [0,4] U (Sr (Ru 1 U (bL ca_77 U (gM _ _ z2_) U ?_))));rintro _ h14 hle14 ⟨a14,c14,rfl,hS14⟩
 replace hl:=hl.mono hle14
 refine Ru 5 U (Nk [10,9,0,4] U (az (Sr (Ru 3 U (Bs 63 U (λhc15=>?_) λhc15=>?_)))))
 ·refine Ru 6 U (Nk [69,4] U (aY U (Sr (Ru 2 U (a_ ?_)))));exact ew (b_ U U U) (by
   rcases Classical.em (acc=[]) with ha|ha
   ·have hz:=hA ha;rw [hro,if_neg (λk=>k.1 ha)];first|rfl|(exfalso;simp_all;done)
   ·have hz:=hB ha;by_cases hq9:enc acc=l
    ·rw [hro,if_pos ⟨ha,hq9⟩];first|(rw [hs];rfl)|(exfalso;simp_all;done)
    ·rw [hro,if_neg (λk=>hq9 k.2)];first|rfl|(exfalso;simp_all;done))
 refine Ru 1 U (aQ U U  (d7 dM U z7_ U) U ?_);refine Ru 1 U (aQ U U  (d7 dM U z7_ U) U ?_);refine aQ U U  (RunV.neqS U U) U ?_;refine Ru 1 U (Nk [69,4] U (Cs U (λhc16=>?_) λhc16=>?_))
 ·refine Sr (Ru 2 U (a_ ?_));exact ew (b_ U U U) (by
   rcases Classical.em (acc=[]) with ha|ha
   ·have hz:=hA ha;rw [hro,if_neg (λk=>k.1 ha)];first|rfl|(exfalso;simp_all;done)
   ·have hz:=hB ha;by_cases hq9:enc acc=l
    ·rw [hro,if_pos ⟨ha,hq9⟩];first|(rw [hs];rfl)|(exfalso;simp_all;done)
    ·rw [hro,if_neg (λk=>hq9 k.2)];first|rfl|(exfalso;simp_all;done))
 refine aA (Sr (Ru 3 U (a_ ?_)));exact ew (b_ U U U) (by
  rcases Classical.em (acc=[]) with ha|ha
  ·have hz:=hA ha;rw [hro,if_neg (λk=>k.1 ha)];first|rfl|(exfalso;simp_all;done)
  ·have hz:=hB ha;by_cases hq9:enc acc=l
   ·rw [hro,if_pos ⟨ha,hq9⟩];first|(rw [hs];rfl)|(exfalso;simp_all;done)
   ·rw [hro,if_neg (λk=>hq9 k.2)];first|rfl|(exfalso;simp_all;done))
end Go.Proofs.YtojokloclmcloaaGreatDoor
