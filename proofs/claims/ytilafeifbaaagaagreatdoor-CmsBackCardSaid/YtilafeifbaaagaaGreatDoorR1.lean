/- Parts. -/
import Derived.OrdersHeld
import Derived.RangeFuncRecord
import Derived.TacticsIn
import Derived.Recover
import Derived.Test.YtilafeifbaaagaaGreatDoorR0
set_option maxRecDepth 100000
set_option linter.unusedSimpArgs false
set_option linter.unusedVariables false
set_option linter.constructorNameAsVariable false
namespace Go.Proofs.YtilafeifbaaagaaGreatDoor
open Go.Proofs.Tryz
open Go Go.RowKit
theorem m14 {p:Prop}(u:p:=by
 have fin:∀ l',IY l off sz=some l'->∀ u',(match Tb.fo P T l' with
  |some r'=>some (A.d r')
  |none=>some (A.d (.st l')))=some u'->∃ v,xG ⟨P,e,m,r,p⟩ S h L (.load T xo) ty v/\zN ρ h u' v:=λl' Ge u' hu'=>by
  obtain⟨h1,h2⟩:=mU _ _ _ _ Ge;obtain⟨v,h3,h4⟩:=key l' h1 h2;split at hu'
  ·rename_i r' J_;cases hu';obtain⟨Da,h5,h6⟩:=cA.1 h4;exact⟨v,h3,by rw [h5];exact Tb.J_ J_ _ _ h6⟩
  ·cases hu';exact⟨v,h3,h4⟩
 cases h0:(bif Nat.beq off 0 then Nat.beq l.length sz else false) with
 |true =>
  rw [h0,cond_true] at hu;cases hu;cases h1:Nat.beq off 0 with
  |false=>rw [h1] at h0;cases h0
  |true =>
   rw [h1,cond_true] at h0;obtain rfl:=am h1;have:=am h0;exact key l xE (by rw [C3,aD xE])
 |false =>
  rw [h0,cond_false] at hu;split at hu
  ·rename_i l' Ge;exact fin l' Ge u hu
  ·cases hu):p:=u
theorem m27 {p:Prop}(u:p:=by
 clear this;simp only [KE,Ep,kE,gA];have no:∀ {x y:Nat},Nat.ble x y=false->¬ x<=y:=λh hh=>by rw [Dw hh] at h;cases h
 cases hk:Nat.ble c k with
 |true =>
  have:=zY hk;dsimp only;cases hv:Nat.ble (k+1) v with
  |true=>have:=zY hv;dsimp only;rw [fS r];omega
  |false=>have:=no hv;dsimp only;rw [fS r];omega
 |false =>
  have:=no hk;dsimp only;cases hv:Nat.ble c v with
  |true=>have:=zY hv;dsimp only;rw [fS r];omega
  |false=>have:=no hv;dsimp only;rw [fS r];omega):p:=u
theorem m29 {p:Prop}(u:p:=by
 induction hh with
 |nil=>intro c hc;cases hc
 |cons hy _ ih =>
  intro c hc;cases hc with
  |head=>exact hy.1
  |tail _ hc=>exact ih c hc):p:=u
theorem m32 {p:Prop}(u:p:=by
 intro l
 induction l with
 |nil=>intro set last acc b _ hb;simp only [Nd.B0,au] at hb;subst hb;simp [Nd.yP]
 |cons y r ihr =>
  intro set last acc b hl hb;simp only [Nd.CO] at hl;simp only [Nd.B0] at hb;split at hb
  ·cases hb
  ·rename_i b1 H3;split at hb
   ·cases hb
   ·have h1:=ih y b1 xE H3;have h2:=ihr _ _ _ _ xE hb;simp only [Nd.yP,aF] at h2 |-
    omega):p:=u
theorem m39 {p:Prop}(u:p:=by
 unfold wpList at hk;unfold wpOp;simp only [hi];split
 ·rename_i hw;rw [xD hw] at hk;rcases hk with hk|⟨_,a',w',hh⟩
  ·exact .inl (u5 (λa w hq=>fin a w (by simpa [wpList] using hq)) (λc a w hq=>hq) (λa w hh=>hh) hk)
  ·exact hh.elim
 ·rename_i hw;rw [xC hw] at hk;exact fin _ _ (by simpa [wpList] using hk)):p:=u
theorem m40 {p:Prop}(u:p:=by
 first|exact cn (u:=.tuple #[.int .u64 0,.bool false]) (B7.two rfl rfl rfl) (by rw [U4];rfl) rfl|(have V8:s.take p=s:=aD xE;have U4:E6 s=(Ar s,true):=vd zL (by rw [<- V8];exact hd) (by rw [<- V8];exact hv);rw [V8];exact cn (u:=.tuple #[.int .u64 (Ar s:Nat),.bool true]) (B7.two rfl rfl rfl) (by rw [U4]) rfl)):p:=u
theorem m47 {p:Prop}(u:p:=by
 simp only [Nd.put] at hb;split at hb
 ·cases hp:Nd.B0 (decide (c=0)&&decide (t=17)) ks none bs with
  |none=>simp [hp] at hb
  |some b1 =>
   simp only [hp,AI,au] at hb;subst hb;have h1:=key ks _ _ _ _ xE hp;have h2:=i_ c t k b1.length;simp only [aF,Nd.sz];omega
 ·cases hb):p:=u
theorem m71 {p:Prop}(u:p:=by
 obtain⟨S',h',L',s',k'⟩:=hq;refine⟨[],h',L',⟨?_,λs v hv=>by simp [look] at hv,?_,s'.ok⟩,hp _ _ _ _ k'⟩
 ·have:=s'.size;simpa [Act.put] using this
 ·have:=s'.ds;simpa [Act.put] using this):p:=u
theorem m72 {p:Prop}(u:p:=by
 cases hh:h w.heap.size with
 |none=>rfl
 |some c=>have:=k.sub.lt hh;omega):p:=u
theorem m78 {p:Prop}(u:p:=by
 rename_i v hl;obtain⟨w,h1,h2⟩:=c.s _ _ hl;rw [jC.1 h2] at h1;refine⟨j,dj,b,U,hj,?_⟩;rcases Ua hg with hh|⟨vs,hh⟩
 ·cases hh;exact .inl h1
 ·cases hh;exact .inr ⟨vs,h1⟩):p:=u
theorem m105 {p:Prop}(u:p:=by
 constructor
 ·rintro rfl;exact⟨_,_,U,U,U,U⟩
 ·rintro⟨_,_,rfl,_,e1,e2⟩;unfold Den at e1;unfold yp at e2;subst e1 e2;rfl):p:=u
theorem m111 {p:Prop}(u:p:=by
 rename_i v hl;obtain⟨w,h1,h2⟩:=c.s _ _ hl;have:=U' hg;cases this;rw [jC.1 h2] at h1;exact .inr ⟨j,dj,b,U,hj,h1⟩):p:=u
theorem m133 {p:Prop}(u:p:=by
 repeat (first|exact trivial|refine⟨rfl,?_⟩|refine⟨(by first|exact ji xE|(rw [hcb.2])),?_⟩)):p:=u
theorem m156 {p:Prop}(u:p:=by
 exact JL.take_drop j _ fin (JL.EI t ht (λhb=>kT hb (s.t hb)) (λhb=>kF hb (s.f hb)))):p:=u
theorem m172 {p:Prop}(u:p:=by
 refine bz U U  (bG (y:=y) e_ U zL) U (Ru 3 U (aj (⟨U,U,?_⟩)));exact z7_):p:=u
theorem m177 {p:Prop}(u:p:=by
 split at h
 ·cases h;assumption
 ·cases h):p:=u
theorem m189 {p:Prop}(u:p:=by
 exact⟨t g',yJ,g',S',h',L2,U,hg',s'.with (h3.ok w' s'.ok),Ex,h4⟩):p:=u
theorem m190 {p:Prop}(u:p:=by
 exact⟨by rcases h2 with h2|h2;exact .inr h2;exact .inl h2.1,h1⟩):p:=u
theorem m191 {p:Prop}(u:p:=by
 simp only [aF,aw,ay] at this |-;omega):p:=u
theorem m192 {p:Prop}(u:p:=by
 simp [execOp,s.eval hx,s.eval hy,Instr.storeAt,Instr.sureAddr,hsv]):p:=u
theorem m195 {p:Prop}(u:p:=by
 exact⟨_,xG.len (e:=v'.1) (sz:=v'.2) (CY.slt hf) h1,bh (h:=h)⟩):p:=u
abbrev DX:=@Nat.sub_self
abbrev zS:=@List.mem_singleton
abbrev yu:=@Bool.or_eq_true
abbrev xZ:=@UInt8.toNat_ofNat'
abbrev yf:=@Nat.pow_le_pow_right
abbrev GY:=@Nat.pow_zero
abbrev SQ:=@List.foldl_append
abbrev Ds:=@Nat.mul_assoc
abbrev yM:=@List.all_eq_false
abbrev Kk:=@Nat.div_le_self
abbrev zm:=@Nat.div_div_eq_div_mul
abbrev Ak:=@List.append_nil
abbrev BP:=@Nat.div_eq_of_lt
abbrev SR:=@Function.comp_def
abbrev Ab:=@List.getElem?_cons_succ
abbrev A5:=@Bool.false_and
abbrev y':=@List.mem_map
abbrev y8:=@List.map_append
abbrev Lz:=@List.Perm.refl
abbrev FD:=@Bool.and_eq_false_iff
abbrev LC:=@Bool.or_eq_false_iff
abbrev Ew:=@Iff.rfl
abbrev zY:=@Nat.le_of_ble_eq_true
abbrev Dw:=@Nat.ble_eq_true_of_le
variable{w:World}
section
variable {f:Fr}{n:yF}{x:Nat->yF}{S:AH}{h:Part}{L L':LE}{ops:Array Oper}{rest:LR}
variable {ty:TypeId}{pos:String}{af:Array Edge}{d:Nat}{v:Value}{T:TypeId}{xo yo:Operand}
theorem To {g c t m sz i:Nat}{xs:LV}(hk:Ok f.e h L w) (hm:Br.row (some ⟨g,0,none⟩) c t sz m xs∈L) (hi:i<xs.length):w.cell? ⟨g,i,none⟩=xs[i]?:=by
 have F7:w.ownsRow 0 t sz (.slice (some ⟨g,0,none⟩) m c) m xs:=hk.own _ hm;exact m147
theorem xG.a6' {e g ln c m sz:Nat}{k:IntKind}{i:Int}(hT:Ig f.P T=some (e,sz)) (hx:ev S xo=some (.slice (some ⟨g,0,none⟩) ln c)) (hy:ev S yo=some (.int k i)) (hi:i=(m:Int)) (h1:m<ln) :
 xG f S h L (.indexAddr T xo yo) ty (.pointer (some ⟨g,m*sz,none⟩)):=λac w s _ _ _ _=>by
 exact m70
abbrev cv:=@xG.a6'
theorem xG.b05 {g c t m sz o:Nat}{xs:LV}(hT:AF f.P T=some (some sz)) (hx:ev S xo=some (.pointer (some ⟨g,o,none⟩))) (hm:Br.row (some ⟨g,0,none⟩) c t sz m xs∈L) (ho:o+sz<=xs.length):xG f S h L (.load T xo) ty (.agg ((xs.drop o).take sz).toArray):=λac w s _ _ _ _=>by
 have Ia:((xs.drop o).take sz).length=sz:=by simp;omega
 have V_:(loadCells ⟨g,o,none⟩ ((xs.drop o).take sz).length).run f.P w=.ok ((xs.drop o).take sz).toArray w:=run_loadCells_list (P:=f.P) w ⟨g,o,none⟩ _ (λj u hu=>by
  have yJ:j<sz:=by have:=(xS.1 hu).1;omega
  rw [zB,To s.ok hm xE];rw [yz,xD yJ,yC] at hu;exact hu)
 rw [Ia] at V_;exact m55
abbrev dK:=@xG.b05
theorem JL.Dh {g c t m sz o:Nat}{xs cs:LV}(hT:AF f.P T=some (some sz)) (hx:ev S xo=some (.pointer (some ⟨g,o,none⟩))) (hy:ev S yo=some (.agg cs.toArray)) (h1:∀ v∈cs,v.oneCell'=true) (hl:cs.length=sz) (u:Dt (.row (some ⟨g,0,none⟩) c t sz m xs) L L') (hi:o+sz<=xs.length)
 (k:JL f ops n x rest S h (.row (some ⟨g,0,none⟩) c t sz m (over xs o cs)::L')):JL f ops n x (⟨none,.store T xo yo,ty,pos,af,none⟩::rest) S h L:=λa w s=>by
 subst hl;have Gm:=s.ok.perm u.perm;have F7:w.ownsRow 0 t cs.length (.slice (some ⟨g,0,none⟩) m c) m xs:=Gm.own _ (aC ..);rcases F7.2 with ⟨V5,_⟩|⟨g',cap,cur,V5,hbg,hg,hh1,h2,h3,h4⟩
 ·cases V5
 ·injection V5 with e1 e2 e3;injection e1 with e1;injection e1 with e1;subst e1 e3;have O2:xs.length=m*cs.length:=by simpa using F7.1
  have hmc:m*cs.length<=cur.size:=by
   have:(cur.toList.take (m*cs.length)).length=m*cs.length:=by rw [h4,O2]
   simp at this;omega
  have DW:=run_storeCells_at (P:=f.P) g o t cs 0 cur w hg xE h1;have zt:Ok f.e h (.row (some ⟨g,0,none⟩) c t cs.length m (over xs o cs)::L') (w.setRow g (cur.toList.take o++cs++cur.toList.drop (o+cs.length)).toArray):=by
   refine Gm.MO U U U (by simp) (λb' _ D5=>setRow_other w g b' _ (λe=>D5 (by rw [e];rfl))) ?_ (λb' G5=>.inl G5);refine⟨by rw [iu xE];simpa using F7.1,.inr ⟨g,c,_,U,hbg,setRow_heap w g _ _ t _ hg,hh1,h2,?_,?_⟩⟩
   ·have:=h3;simp at this |-;omega
   ·rw [<- O2,T4 cur.toList cs o xs.length (by simpa [O2] using hmc) xE,O2,h4]
  refine ef (w':=w.setRow g (cur.toList.take o++cs++cur.toList.drop (o+cs.length)).toArray) U ?_ (k _ _ (s.with zt));simp only [DY] at DW;have hsv:(storeVar T ⟨g,o,none⟩ (.agg cs.toArray)).run f.P w=.ok () (w.setRow g (cur.toList.take o++cs++cur.toList.drop (o+cs.length)).toArray):=by
   have J8:=(dq hT w).2;unfold sizeOf typeInfo at J8;cases hq:f.P.info? T with
   |none=>simp [hq] at J8
   |some q =>
    simp [hq] at J8;simp [storeVar,sizeOf,typeInfo,hq,Value.cells,J8,DW]
  exact m192
theorem xG.OP {b t o sz:Nat}{cs:LV}(hT:AF f.P T=some (some sz)) (hx:ev S xo=some (.pointer (some ⟨b,o,none⟩))) (hm:Br.yY b t cs∈L) (ho:o+sz<=cs.length):xG f S h L (.load T xo) ty (.agg ((cs.drop o).take sz).toArray):=λac w s _ _ _ _=>by
 have Ia:((cs.drop o).take sz).length=sz:=by simp;omega
 have V_:(loadCells ⟨b,o,none⟩ ((cs.drop o).take sz).length).run f.P w=.ok ((cs.drop o).take sz).toArray w:=run_loadCells_list (P:=f.P) w ⟨b,o,none⟩ _ (λj u hu=>by
  have yJ:j<sz:=by have:=(xS.1 hu).1;omega
  rw [zB,lV s.ok hm];rw [yz,xD yJ,yC] at hu;simpa using hu)
 rw [Ia] at V_;exact m55
theorem JL.WJ {l0:LR}{a:OA}{c t sz m:Nat}{xs:LV}(hm:Br.row a c t sz m xs∈L) (h0:0<m) (k:∀ g,a=some ⟨g,0,none⟩->JL f ops n x l0 S h L):JL f ops n x l0 S h L:=λac w s=>by
 obtain⟨g,hg⟩:=s.ok.WK hm h0;exact k g hg ac w s
end
variable{h:Part}
theorem yl.set {α:Type}{R:DI α}{sz:Nat}{xs cs:LV}{l:List α}{i:Nat}{a:α}(k:yl R sz h xs l) (hi:i<l.length) (hl:cs.length=sz) (hR:R h cs a):yl R sz h (over xs (i*sz) cs) (l.set i a):=by
 have hb:i*sz+sz<=l.length*sz:=by rw [<- BI];exact aT sz hi
 have O2:=k.1;refine⟨by rw [iu xE,Gq];exact O2,λj y hj=>?_⟩;have hjl:j<l.length:=by have:=(xS.1 hj).1;simpa using this
 by_cases hij:i=j
 ·subst hij;rw [List.getElem?_set_self hi] at hj;injection hj with hj;subst hj;have e:((over xs (i*sz) cs).drop (i*sz)).take sz=cs:=by
   unfold over;rw [xW,List.drop_append_of_le_length (by simp;omega),List.drop_take,DX,EZ,xP,List.take_append_of_le_length xE,aD xE]
  rw [e];exact hR
 ·rw [List.getElem?_set_ne hij] at hj;have:=k.2 j y hj;have e:((over xs (i*sz) cs).drop (j*sz)).take sz=(xs.drop (j*sz)).take sz:=by
   apply DG;intro q;rw [yz,yz];split
   ·rename_i hq;rw [yC,yC];unfold over;rcases Nat.lt_or_gt_of_ne hij with h2|h2
    ·have:i*sz+sz<=j*sz:=by rw [<- BI];exact aT sz h2
     rw [C0 (by simp;omega),yC];congr 1;simp;omega
    ·have:j*sz+sz<=i*sz:=by rw [<- BI];exact aT sz h2
     rw [xW,Cd (by simp;omega),yz,xD xE]
   ·rfl
  rw [e];exact this
theorem yl.at {α:Type}{R:DI α}{sz:Nat}{xs:LV}{l:List α}{i:Nat}(k:yl R sz h xs l) (hi:i<l.length):R h ((xs.drop (i*sz)).take sz) l[i]/\i*sz+sz<=xs.length:=by
 refine⟨k.2 i _ (aH hi),?_⟩;rw [k.1,<- BI];exact aT sz hi
section
variable {f:Fr}{n:yF}{x:Nat->yF}{S:AH}{h:Part}{L L':LE}{ops:Array Oper}{rest:LR}
variable {ty:TypeId}{pos:String}{af:Array Edge}{d:Nat}{v:Value}{T:TypeId}{xo yo:Operand}
def arZ (P:Program) (T:Nat):Option (LV×Nat) :=
 match P.info? T,P.underlying T with
 |some it,some (.array _ e)=>match it.zero,P.info? e with
  |some z,some ie=>some (z.cells.toList,ie.size)
  |_,_=>none
 |_,_=>none
theorem xG.I2 {zs cs:LV}{vs:List (Nat×Value)}{ps:List (Nat×Operand)}(hT:arZ f.P T=some (zs,1)) (hp:Vh S ps=some vs) (hv:(vs.all λp=>p.2.oneCell'&&Nat.blt p.1 zs.length)=true) (hf:IL zs vs=cs) :
 xG f S h L (.build T ps.toArray) ty (.agg cs.toArray):=λa w s _ _ _ _=>by
 have hb:f.P.built T vs=some cs.toArray:=by
  unfold arZ at hT;unfold Program.built;split at hT<;>try cases hT
  rename_i it nn e hi hu;split at hT<;>try cases hT
  rename_i z ie hz YA;simp only [au,zu] at hT;obtain⟨rfl,h1⟩:=hT;simp only [hi,hu,hz,YA,h1];have:=pF vs _ hv;rw [hf] at this;exact m109
 exact m76
end
def JH (f:Fr) (ops:Array Oper) (n:yF) (x:Nat->yF) (h0:Part) (L0:LE) (fuel:Nat) (listed:Array Bool):yF:=λS h L =>
 ∀ a w,Sat f.e f.m S h L a w->wpAnyH f.P .any ops (f.Q n x) (λw=>Ok f.e h0 L0 w) fuel listed a w
theorem Ok.a7f {e:Env}{h h0:Part}{Li L Lr:LE}(p:zO Li L Lr) (hle:h0.le h) (CR:e.h0.le h0) (w:World) (k:Ok e h L w):Ok e h0 Li w:=(p.ok w k).shrink hle CR
variable{P:Program}{id:Nat}
section
variable {f:Fr}{n:yF}{x:Nat->yF}{S:AH}{h h0:Part}{L L0:LE}{ops:Array Oper}{fuel i j d:Nat}{listed:Array Bool}
variable {q:Op}{ty:TypeId}{pos:String}{af:Array Edge}{v:Value}{o o2:Oper}
theorem J.held {l:LR}(L0:LE) (N:Nat) (hm:f.P.follows .mixedOrders=true) (hN:l.length=N) (k:f.e.h0.le h->JH f l.toArray n x h L0 N (Array.replicate N false) S h L):J f (.region id l.toArray true) n x S h L:=λa w s=>by
 subst hN;refine wp_region_held (S:=λw=>Ok f.e h L0 w) hm ?_;have:=k s.ok.le a { w with drawn:=w.drawn+1 } (s.with (s.ok.drawn _));exact m109
theorem JH.take (i:Nat) (hi:ops[i]?=some ⟨some d,q,ty,pos,af,none⟩) (hs:Region.noSelect ops=true) (hf:Region.free .any ops listed i=true) (hr:(Region.ready .any ops listed).contains i=true)
 (hp:∀ c S h L,f.p c S h L->f.p c [] h L) (hb:∀ w,Ok f.e h L w->Ok f.e h0 L0 w) (r:xG f S h0 L0 q ty v) (hd:Nat.blt d f.m=true) (k:JH f ops n x h0 L0 fuel (listed.setIfInBounds i true) ((d,v)::S) h L) :
 JH f ops n x h0 L0 (fuel+1) listed S h L:=λa w s=>by
 refine wpAnyH_take (v:=v) hi hs hf hr (λc a w hq=>?_) ?_ (hb w s.ok) (k _ w (s.put hd v s.ok))
 ·exact m71
 ·exact .inl ⟨by simp [Region.wanted],λw' Mc=>r a w' (s.with Mc) _ _ _ _⟩
theorem JH.a7Q {V:Value->Prop}(i:Nat) (hi:ops[i]?=some ⟨some d,q,ty,pos,af,none⟩) (hs:Region.noSelect ops=true) (hf:Region.free .any ops listed i=true) (hr:(Region.ready .any ops listed).contains i=true)
 (hp:∀ c S h L,f.p c S h L->f.p c [] h L) (hb:∀ w,Ok f.e h L w->Ok f.e h0 L0 w) (r:AB f S h0 L0 q ty V) (hd:Nat.blt d f.m=true) (k:∀ v,V v->JH f ops n x h0 L0 fuel (listed.setIfInBounds i true) ((d,v)::S) h L) :
 JH f ops n x h0 L0 (fuel+1) listed S h L:=by
 obtain⟨v,r,hv⟩:=r;exact JH.take i hi hs hf hr hp hb r hd (k v hv)
theorem u5 {o:Oper}{a:Act}{K K':Act->World->Prop}{Q Q':Exit->Act->World->Prop}(hK:∀ a w,K a w->K' a w) (hp:∀ c a w,Q (.panic c) a w->Q' (.panic c) a w) (ho:∀ a w,¬ Q .outgrown a w) (hh:o.wp P a w K Q):o.wp P a w K' Q':=by
 unfold Oper.wp at *;generalize (execOp a.eval o).run P w=r at *;cases r with
 |ok n w' =>
  cases n<;>simp only [Oper.upon] at hh |- <;>
   first
    |exact hK _ _ hh
    |exact Calls.mono hh (λe VG he=>by cases e<;>first|exact hK _ _ he|exact hp _ _ _ he|exact(let ⟨a1,w1,h1⟩:=he;(ho a1 w1 h1).elim))
    |exact Rows.mono hh (λ_ _ he=>hK _ _ he)
    |exact hh
 |halt x w'=>cases x<;>simp only [Oper.upon] at hh |-<;>first|exact hp _ _ _ hh|exact(let ⟨a1,w1,h1⟩:=hh;(ho a1 w1 h1).elim)|exact hh
def One (f:Fr) (ops:Array Oper) (n:yF) (x:Nat->yF) (h0:Part) (L0:LE) (fuel:Nat) (listed:Array Bool) (i:Nat) (o:Oper):yF:=λS h L =>
 JL f ops (λS' h' L'=>(∀ w,Ok f.e h' L' w->Ok f.e h0 L0 w)/\JH f ops n x h0 L0 fuel (listed.setIfInBounds i true) S' h' L') x [o] S h L
theorem One.wp (hi:ops[i]?=some o) (k:One f ops n x h0 L0 fuel listed i o S h L) (a:Act) (w:World) (s:Sat f.e f.m S h L a w) :
 wpOp f.P ops (f.Q n x) i (λa' w'=>Ok f.e h0 L0 w'/\wpAnyH f.P .any ops (f.Q n x) (λw=>Ok f.e h0 L0 w) fuel (listed.setIfInBounds i true) a' w') a w:=by
 have hk:=k a w s;have fin:∀ a w,(f.Q (λS' h' L'=>(∀ w,Ok f.e h' L' w->Ok f.e h0 L0 w)/\JH f ops n x h0 L0 fuel (listed.setIfInBounds i true) S' h' L') x) .normal a w->Ok f.e h0 L0 w/\wpAnyH f.P .any ops (f.Q n x) (λw=>Ok f.e h0 L0 w) fuel (listed.setIfInBounds i true) a w:=λa w hq=>by
  obtain⟨S',h',L',s',hb,k'⟩:=hq;exact⟨hb w s'.ok,k' a w s'⟩
 exact m39
theorem JH.a0g (i:Nat) (hr:Region.ready .any ops listed=[i]) (hi:ops[i]?=some o) (k:One f ops n x h0 L0 fuel listed i o S h L):JH f ops n x h0 L0 (fuel+1) listed S h L:=λa w s =>
 wpAnyH_all hr (by simp) λi' Bx=>by
  simp only [zS] at Bx;subst Bx;exact k.wp hi a w s
theorem JH.PL (i j:Nat) (hr:Region.ready .any ops listed=[i,j]) (hi:ops[i]?=some o) (hj:ops[j]?=some o2) (k1:One f ops n x h0 L0 fuel listed i o S h L) (k2:One f ops n x h0 L0 fuel listed j o2 S h L):JH f ops n x h0 L0 (fuel+1) listed S h L:=λa w s =>
 wpAnyH_all hr (by simp) λi' Bx=>by
  simp only [zE,Vn,or_false] at Bx;rcases Bx with rfl|rfl
  ·exact k1.wp hi a w s
  ·exact k2.wp hj a w s
theorem JH.done (hr:Region.ready .any ops listed=[]) (k:n S h L):JH f ops n x h0 L0 fuel listed S h L:=λa w s=>wpAnyH_done hr ⟨S,h,L,s,k⟩ fuel
abbrev dJ:=@JH.done
end
theorem Dr {e:Env}{h h0:Part}{L Li Lr:LE}(CR:e.h0.le h0) (p:zO Li L Lr:=by repeat first|exact zO.nil|exact Dt.here|apply Dt.there|apply zO.cons) (q:h0.le h:=by first|exact aP _|assumption|(repeat (first|assumption|refine Part.le.trans zL ?_))):∀ w,Ok e h L w->Ok e h0 Li w:=Ok.a7f p q CR
section
variable {f:Fr}{n:yF}{x:Nat->yF}{S:AH}{h h0:Part}{L L0:LE}{ops:Array Oper}{fuel d:Nat}{listed:Array Bool}{q:Op}{ty:TypeId}{pos:String}{af:Array Edge}{v:Value}{o:Oper}{j dj:Nat}{b:Bool}
theorem Tk (i:Nat) (hi:ops[i]?=some ⟨some d,q,ty,pos,af,none⟩) (r:xG f S h0 L0 q ty v) (k:JH f ops n x h0 L0 fuel (listed.setIfInBounds i true) ((d,v)::S) h L) (hb:∀ w,Ok f.e h L w->Ok f.e h0 L0 w:=by exact Dr zL) (hs:Region.noSelect ops=true:=by kernel_rfl) (hf:Region.free .any ops listed i=true:=by kernel_rfl) (hr:(Region.ready .any ops listed).contains i=true:=by kernel_rfl) (hp:∀ c S h L,f.p c S h L->f.p c [] h L:=by exact λ_ _ _ _ hh=>hh) (hd:Nat.blt d f.m=true:=by rfl):JH f ops n x h0 L0 (fuel+1) listed S h L:=JH.take i hi hs hf hr hp hb r hd k
theorem Te {V:Value->Prop}(i:Nat) (hi:ops[i]?=some ⟨some d,q,ty,pos,af,none⟩) (r:AB f S h0 L0 q ty V) (k:∀ v,V v->JH f ops n x h0 L0 fuel (listed.setIfInBounds i true) ((d,v)::S) h L) (hb:∀ w,Ok f.e h L w->Ok f.e h0 L0 w:=by exact Dr zL) (hs:Region.noSelect ops=true:=by kernel_rfl) (hf:Region.free .any ops listed i=true:=by kernel_rfl) (hr:(Region.ready .any ops listed).contains i=true:=by kernel_rfl) (hp:∀ c S h L,f.p c S h L->f.p c [] h L:=by exact λ_ _ _ _ hh=>hh) (hd:Nat.blt d f.m=true:=by rfl):JH f ops n x h0 L0 (fuel+1) listed S h L:=JH.a7Q i hi hs hf hr hp hb r hd k
theorem Ta (i:Nat) (hi:ops[i]?=some o) (k:One f ops n x h0 L0 fuel listed i o S h L) (hr:Region.ready .any ops listed=[i]:=by kernel_rfl):JH f ops n x h0 L0 (fuel+1) listed S h L:=JH.a0g i hr hi k
end
section
variable {f:Fr}{S:AH}{h:Part}{L:LE}{ty T:TypeId}{xo:Operand}
def a6x (P:Program) (T i:Nat):Option Nat :=
 match P.underlying T with
 |some (.struct fs)=>match fs[i]? with
  |some g=>if AF P g.type == some none then some g.offset else none
  |none=>none
 |_=>none
theorem xG.Z6 {i o:Nat}{cs:LV}{v:Value}(hT:a6x f.P T i=some o) (hx:ev S xo=some (.agg cs.toArray)) (hv:cs[o]?=some v):xG f S h L (.field T xo i) ty v:=λa w s _ _ _ _=>by
 unfold a6x at hT;split at hT<;>try cases hT
 rename_i fs hu;split at hT<;>try cases hT
 rename_i g hg;split at hT<;>cases hT;rename_i he;have ⟨e1,e2⟩:=eP (by simpa using he:AF f.P g.type=some none) w;simp [execOp,s.eval hx,Instr.field,run_underlying hu,hg,part,e1,hv,asAgg]
end
def Wd (r:Option Nat):Fence:={ Fence.wide with round:=r }
def FP:LR->Bool
 |[]=>true
 |o::l=>(match o.op with|.defer _=>false|_=>true)&&FP l
theorem tj {P:Program}{ops:Array Oper}{Q:Exit->Act->World->Prop}(hQ:¬ LetsOut Q) (r:Option Nat):∀ (l:LR) (a:Act) (w:World),FP l=true->wpList P ops Q l a w->wpListIn (Wd r) 0 P ops Q l a w
 |[],_,_,_,h=>h
 |o::l,a,w,hn,h=>by
  have ih:=λa w=>tj (P:=P) (ops:=ops) hQ r l a w (by simp only [FP,xB] at hn;exact hn.2);have hd:∀ c,o.op≠.defer c:=λc hc=>by simp [FP,hc] at hn
  have b0F:∀ ro,o.semAt ro a.eval=execOp a.eval o:=λro=>Oper.semAt_eq _ _ _ hd;unfold wpList at h;unfold wpListIn;split at h
  ·rename_i hw;rw [xD hw];rcases h with h|⟨_,h⟩
   ·refine⟨λ_ _=>trivial,?_⟩;rw [b0F];unfold Oper.wp at h;generalize (execOp a.eval o).run P w=res at h |-
    cases res with
    |ok nx w' =>
     cases nx with
     |value v=>exact ih _ _ h
     |skip=>exact ih _ _ h
     |defer d=>exact ih _ _ h
     |enter f args =>
      refine⟨(λhh=>by cases hh),?_⟩;have hc:CallsIn Fence.wide 0 P f args w' (λe VG=>match e with
       |.returned v=>wpListIn (Wd r) 0 P ops Q l (a.put o.dst v) VG
       |.panicked chain=>Q (.panic chain) a VG
       |.outgrown=>LetsOut Q):=callsIn_wide.2 (Calls.mono h λe VG hh=>by
       cases e with
       |returned v=>exact ih _ _ hh
       |panicked c=>exact hh
       |outgrown=>exact hh)
      exact⟨trivial,λcs hr=>by
       obtain⟨e,VG,fr,hR,rest⟩:=hc.2 cs (room_wide _);refine⟨e,VG,fr,?_,rest⟩;cases e<;>exact hR⟩
     |row row args =>
      refine⟨(λhh=>by cases hh),?_⟩;exact λc cs hr=>by
       obtain⟨v,VG,hR,hs⟩:=h c cs;exact⟨v,VG,ih _ _ hR,stepsIn_wide.2 hs⟩
     |_=>exact h.elim
    |halt hl w' =>
     cases hl with
     |panic v=>exact h
     |_=>exact h.elim
   ·exact absurd h hQ
  ·rename_i hw;rw [xC hw];exact⟨λ_ _=>trivial,ih _ _ h⟩
theorem Fr.a3L (f:Fr) (n:yF) (x:Nat->yF):¬ LetsOut (f.Q n x):=λ⟨_,_,h⟩=>h
def JI (f:Fr) (ops:Array Oper) (n:yF) (x:Nat->yF) (l:LR):yF:=λS h L=>∀ a w,Sat f.e f.m S h L a w->wpListIn Fence.wide 0 f.P ops (f.Q n x) l a w
def JR (f:Fr) (l:Nat) (c:Code) (n:yF) (x:Nat->yF):yF:=λS h L=>∀ a w,Sat f.e f.m S h L a w->c.wpIn (Wd (some l)) 0 f.P (f.Q n x) a w
def Loop.after (r:Loop) (b:Bool):Loop:={ r with state:=bif b then .ready else .done,pending:=bif b then none else some .ret }
def Rd (P:Program) (l:Nat) (r:Loop) (v:Value) (h:Part) (Li:LE) (R:Bool->Part->LE->Prop):Prop :=
 ∀ w,Ok ⟨w,(·∈keys (.obj l (.loop r)::Li)),h,[]⟩ h (.obj l (.loop r)::Li) w->∀ p,r.params=#[p] ->
  RoundIn Fence.wide 0 P l r.fn (r.tmps.setIfInBounds p v) r.assign r.body w λe w'=>∃ b h' Lo,e=.returned (.bool b)/\R b h' Lo/\Ok ⟨w,(·∈keys (.obj l (.loop r)::Li)),h,[]⟩ h' (.obj l (.loop (Loop.after r b))::Lo) w'
variable{t:Nat}
section
variable {f:Fr}{n:yF}{x:Nat->yF}{S:AH}{h:Part}{L Li Lr:LE}{ops:Array Oper}{rest:LR}
variable {ty:TypeId}{pos:String}{af:Array Edge}{d:Nat}
theorem J.Qt {l:LR}(k:JI f l.toArray n x l S h L):J f (.region id l.toArray false) n x S h L:=λa w s=>(wpIn_wide (n:=0)).1 (wpIn_region_lit (k a w s))
theorem JI.of {l:LR}(hn:FP l=true) (k:JL f ops n x l S h L):JI f ops n x l S h L:=λa w s=>tj (f.a3L n x) none l a w hn (k a w s)
theorem JI.op {q:Op}{v:Value}(r:xG f S h L q ty v) (hd:Nat.blt d f.m=true) (k:JI f ops n x rest ((d,v)::S) h L):JI f ops n x (⟨some d,q,ty,pos,af,none⟩::rest) S h L:=λa w s=>by
 unfold wpListIn;rw [xD (by simp [Region.wanted])];refine⟨λ_ _=>trivial,?_⟩;have hr:(Oper.semAt Fence.wide.round a.eval ⟨some d,q,ty,pos,af,none⟩).run f.P w=.ok (.value v) w:=r a w s _ _ _ _;rw [hr];exact k _ w (s.put hd v s.ok)
theorem JI.yield {l:Nat}{r:Loop}{v:Value}{vo fo:Operand}{ts:Array TypeId}{p0:Tmp}{R:Bool->Part->LE->Prop}(hf:ev S fo=some (.func (.yield l) #[] #[])) (hv:ev S vo=some v) (hp:r.params=#[p0])
 (p:zO (.obj l (.loop r)::Li) L Lr) (c:Rd f.P l r v h Li R) (hd:Nat.blt d f.m=true)
 (k:∀ b h' Lo,h.le h'->R b h' Lo->JI f ops n x rest ((d,.bool b)::S) h' (.obj l (.loop (Loop.after r b))::(Lo++Lr))) :
 JI f ops n x (⟨some d,.call { callee:=.value fo,args:=#[vo],argTypes:=ts },ty,pos,af,none⟩::rest) S h L:=λa w s=>by
 unfold wpListIn;rw [xD (by simp [Region.wanted])];refine⟨λ_ _=>trivial,?_⟩;have Gm:=s.ok.perm p.perm;have hl:w.heap[l]?=some (.loop r):=Gm.own (.obj l (.loop r)) (by simp);have hy:=run_yield (P:=f.P) (args:=#[v]) hl (by rw [hp];rfl);have hr:(Oper.semAt Fence.wide.round a.eval ⟨some d,.call { callee:=.value fo,args:=#[vo],argTypes:=ts },ty,pos,af,none⟩).run f.P w=.ok (.round l r.fn (r.tmps.setIfInBounds p0 v) r.assign r.body) w:=by
  show(execOp a.eval ⟨some d,.call { callee:=.value fo,args:=#[vo],argTypes:=ts },ty,pos,af,none⟩).run f.P w=_;rw [hp] at hy;simpa [execOp,resolve,s.eval hf,s.eval hv,Deferred.ofValue,invoke] using hy
 rw [hr];refine⟨(λhh=>by cases hh),(c w Gm.enter p0 hp).mono λe w' hh=>?_⟩;obtain⟨b,h',Lo,rfl,hR,hO⟩:=hh;have okc:=Gm.call hO;exact k b h' Lo hO.le hR _ _ (s.put hd (.bool b) okc)
variable {l:Nat}
theorem JR.H0 {c:Code}(S':AH) (hw:IB S' S) (k:JR f l c n x S' h L):JR f l c n x S h L:=λa w s=>k a w (s.H0 hw)
theorem JR.skip (k:n S h L):JR f l .skip n x S h L:=λ_ _ s=>wpIn_skip ⟨_,_,_,s,k⟩
theorem JR.seq {c d:Code}(k:JR f l c (JR f l d n x) x S h L):JR f l (.seq c d) n x S h L:=λa w s=>by
 refine wpIn_seq (wpIn_mono (k a w s) (λex a' w' q=>?_));exact m165
theorem JR.ret (k:f.r S h L):JR f l .ret n x S h L:=λ_ _ s=>wpIn_ret ⟨_,_,_,s,k⟩
theorem JR.region {os:LR}(hn:FP os=true) (k:JL f os.toArray n x os S h L):JR f l (.region id os.toArray false) n x S h L:=λa w s=>wpIn_region_lit (tj (f.a3L n x) (some l) os a w hn (k a w s))
theorem JR.EI {c:Code}(t:Nat) {b:Bool}(ht:look S t=some (.bool b)) (k1:b=true->JR f l c n x ((t,.bool true)::S) h L) (k2:b=false->JR f l c n x ((t,.bool false)::S) h L):JR f l c n x S h L:=λa w s=>by
 exact m48
theorem JR.Py {t:Operand}{c d:Code}(ht:ev S t=some (.bool true)) (k1:JR f l c n x S h L):JR f l (.cond t c d) n x S h L:=λa w s=>wpIn_cond_true (s.eval ht) (k1 a w s)
theorem JR.Df {t:Operand}{c d:Code}(ht:ev S t=some (.bool false)) (k1:JR f l d n x S h L):JR f l (.cond t c d) n x S h L:=λa w s=>wpIn_cond_false (s.eval ht) (k1 a w s)
theorem JR.cs {b:Bool}{p q:Prop}{c d:Code}(ht:look S t=some (.bool b)) [s:Sp b p q] (k1:p->JR f l c n x ((t,.bool true)::S) h L) (k2:q->JR f l d n x ((t,.bool false)::S) h L):JR f l (.cond (.tmp t) c d) n x S h L :=
 JR.EI t ht (λhb=>JR.Py (by simp [ev,look]) (k1 (s.t hb))) (λhb=>JR.Df (by simp [ev,look]) (k2 (s.f hb)))
theorem JR.sr {d:Code}{os:LR}(hn:FP os=true) (k:JL f os.toArray (JR f l d n x) x os S h L):JR f l (.seq (.region id os.toArray false) d) n x S h L:=JR.seq (JR.region hn k)
theorem JR.kp {S':AH}{c:Code}(ks:List Nat) (hk:Fv ks S=some S') (k:JR f l c n x S' h L):JR f l c n x S h L:=JR.H0 S' (fJ hk) k
theorem JR.nk {S':AH}{c:Code}{x':Nat->yF}(ks:List Nat) (hk:Fv ks S=some S') (k:JR f l c n x S' h L):JL f ops (JR f l c n x) x' [] S h L:=aj (JR.H0 S' (fJ hk) k)
theorem JR.block {c:Code}(k:JR f l c n (λi=>bif Nat.beq i id then n else x i) S h L) (hid:Nat.blt id 1000000=true:=by rfl):JR f l (.block id c) n x S h L:=λa w s=>by
 refine wpIn_block (wpIn_mono (k a w s) (λex a' w' q=>?_));exact m23
def Lw (m:Nat) (S:AH) (tmps:Array Value):Prop:=tmps.size=m/\∀ s v,look S s=some v->tmps[s]?=some v
theorem Ok.putObj {e:Env}{b:Nat}{o:Obj}(k:Ok e h (.obj b o::L) w) (o':Obj):Ok e h (.obj b o'::L) (w.putObj b o'):=by
 have hl:w.heap[b]?=some o:=k.own _ (aC ..);refine k.MO U U U (by simp) (λb' _ D5=>World.putObj_heap_other (λe=>D5 (by rw [e];rfl))) (World.putObj_heap_same (Hn.1 hl).1) (λb' G5=>.inl G5)
theorem Rd.intro {r:Loop}{v:Value}{m:Nat}{A B:Code}{pp:Tmp}{R:Bool->Part->LE->Prop}(hA:r.assign=A) (hB:r.body=B) (hs:r.state=.ready) (V8:r.pending=none) (hpp:r.params=#[pp]) (yJ:Nat.blt pp m=true) (ht:Lw m S r.tmps)
 (k:∀ e:Env,e.ds=[]->∃ N:yF,JR ⟨P,e,m,λ_ _ _=>False,λ_ _ _ _=>False⟩ l A (λS1 h1 L1=>h1=h/\L1=.obj l (.loop r)::Li/\N S1 h1 (.obj l (.loop { r with state:=.busy })::Li)) Ei ((pp,v)::S) h (.obj l (.loop r)::Li) /\
  ∀ S1,N S1 h (.obj l (.loop { r with state:=.busy })::Li) ->
   JR ⟨P,e,m,λ_ h' L'=>∃ Lo Lr,zO (.obj l (.loop { r with state:=.busy })::Lo) L' Lr/\R false h' Lo,λ_ _ _ _=>False⟩ l B (λ_ h' L'=>∃ Lo Lr,zO (.obj l (.loop { r with state:=.busy })::Lo) L' Lr/\R true h' Lo) Ei S1 h (.obj l (.loop { r with state:=.busy })::Li)) :
 Rd P l r v h Li R:=λw hw p hp=>by
 rw [hpp] at hp;cases hp;obtain⟨N,kA,kB⟩:=k ⟨w,(·∈keys (.obj l (.loop r)::Li)),h,[]⟩ U;have b2':pp<m:=by simpa using yJ
 have s0:Sat ⟨w,(·∈keys (.obj l (.loop r)::Li)),h,[]⟩ m ((pp,v)::S) h (.obj l (.loop r)::Li) { tmps:=r.tmps.setIfInBounds pp v,defers:=[] } w:=by
  have s1:Sat ⟨w,(·∈keys (.obj l (.loop r)::Li)),h,[]⟩ m S h (.obj l (.loop r)::Li) { tmps:=r.tmps,defers:=[] } w:=⟨ht.1,λs v hv=>ht.2 s v hv,U,hw⟩;have:=s1.put yJ v s1.ok;simpa [Act.put] using this
 refine roundIn_of_wpIn trivial ?_;rw [hA,hB];refine wpIn_mono (kA _ _ s0) (λex a1 w1 q=>?_);cases ex with
 |normal =>
  obtain⟨S1,h1,L1,s1,rfl,rfl,hN⟩:=q;have P6:w1.heap[l]?=some (.loop r):=s1.ok.own (.obj l (.loop r)) (by simp);refine⟨_,run_beginRound P6 hs,?_⟩;refine wpIn_mono (kB S1 hN _ _ (s1.with (s1.ok.putObj _))) (λex2 a2 w2 q2=>?_);have fin:∀ (b:Bool) (jump:Option Code) (h':Part) (Lo Lr L2:LE) (S2:AH),jump=(bif b then none else some .ret)->Sat ⟨w,(·∈keys (.obj l (.loop r)::Li)),h1,[]⟩ m S2 h' L2 a2 w2->zO (.obj l (.loop { r with state:=.busy })::Lo) L2 Lr->R b h' Lo ->
   ∃ v w',(Instr.endRound l jump).run P w2=.ok v w'/\∃ b h' Lo,Ending.returned v=.returned (.bool b)/\R b h' Lo/\Ok ⟨w,(·∈keys (.obj l (.loop r)::Li)),h1,[]⟩ h' (.obj l (.loop (Loop.after r b))::Lo) w':=by
   intro b jump h' Lo Lr L2 S2 hj s2 hp hR;have ok2:=(s2.ok.perm hp.perm).drop (L':=.obj l (.loop { r with state:=.busy })::Lo) (by simp);have Lg:w2.heap[l]?=some (.loop { r with state:=.busy }):=ok2.own (.obj l (.loop { r with state:=.busy })) (by simp);refine⟨_,_,run_endRound jump Lg,b,h',Lo,?_,hR,?_⟩
   ·subst hj;cases b<;>rfl
   ·have:=ok2.putObj (.loop (Loop.after r b));subst hj;cases b<;>exact this
  cases ex2 with
  |normal=>obtain⟨S2,h',L2,s2,Lo,Lr,hp,hR⟩:=q2;exact fin true none h' Lo Lr L2 S2 U s2 hp hR
  |ret=>obtain⟨S2,h',L2,s2,Lo,Lr,hp,hR⟩:=q2;exact fin false (some .ret) h' Lo Lr L2 S2 U s2 hp hR
  |exit i=>obtain⟨_,_,_,_,hh⟩:=q2;exact hh.1.elim
  |panic c=>obtain⟨_,_,_,_,hh⟩:=q2;exact hh.elim
  |goto i=>obtain⟨_,_,_,_,hh⟩:=q2;exact hh.elim
  |outgrown=>exact q2.elim
 |ret=>obtain⟨_,_,_,_,hh⟩:=q;exact hh.elim
 |exit i=>obtain⟨_,_,_,_,hh⟩:=q;exact hh.1.elim
 |panic c=>obtain⟨_,_,_,_,hh⟩:=q;exact hh.elim
 |goto i=>obtain⟨_,_,_,_,hh⟩:=q;exact hh.elim
 |outgrown=>exact q.elim
def JG (f:Fr) (c:Code) (Q:Exit->Act->World->Prop):yF:=λS h L=>∀ a w,Sat f.e f.m S h L a w->c.wp f.P Q a w
def Fr.calm (f:Fr):Fr:=⟨f.P,f.e,f.m,λ_ _ _=>False,λ_ _ _ _=>False⟩
def JN (f:Fr) (Q:Exit->Act->World->Prop):yF:=λS h L=>∀ a w,Sat f.e f.m S h L a w->Q .normal a w
def JE (f:Fr) (Q:Exit->Act->World->Prop):yF:=λS h L=>∀ a w,Sat f.e f.m S h L a w->Q .ret a w
theorem JG.seq {c d:Code}{Q:Exit->Act->World->Prop}(k:J f.calm c (JG f d Q) Ei S h L):JG f (.seq c d) Q S h L:=λa w s=>by
 refine wp_seq (LG (k a w s) (λex a' w' q=>?_));cases ex with
 |normal=>obtain⟨S',h',L',s',k'⟩:=q;exact k' a' w' s'
 |exit i=>obtain⟨_,_,_,_,hh⟩:=q;exact hh.1.elim
 |ret=>obtain⟨_,_,_,_,hh⟩:=q;exact hh.elim
 |panic c=>obtain⟨_,_,_,_,hh⟩:=q;exact hh.elim
 |goto i=>obtain⟨_,_,_,_,hh⟩:=q;exact hh.elim
 |outgrown=>exact q.elim
def Fr.mark (f:Fr) (D:Nat):Fr:=⟨f.P,{ f.e with ds:=[{ target:=.collected D,args:=#[] }] },f.m,f.r,f.p⟩
def Loop.new (fn:Nat) (tmps:Array Value) (ps:Array Tmp) (A B:Code) (D:Nat):Loop:={ state:=.ready,pending:=none,fn:=fn,tmps:=tmps,params:=ps,assign:=A,body:=B,defers:=D }
theorem Ok.Kh {e:Env}(k:Ok e h L w) (o:Obj):Ok e h (.obj w.heap.size o::L) (w.alloc o):=by
 have C6:∀ b,b<w.heap.size->(w.alloc o).heap[b]?=w.heap[b]?:=λb hb=>IQ _ _ _ hb;refine⟨k.os,k.tape,k.output,by have:=k.size;simp;omega,λb hb hm=>?_,λb c hc=>?_,k.le,k.fresh,λx hx=>?_,λb hb=>?_,?_⟩
 ·rw [C6 b (zi hb k.size)];exact k.M1 b hb hm
 ·obtain⟨t',fr,he⟩:=k.sub b c hc;exact⟨t',fr,by rw [C6 b (k.sub.lt hc)];exact he⟩
 ·cases hx with
  |head=>exact World.alloc_heap_new w _
  |tail _ hx=>exact Br.P1 (k.own x hx) λb hb=>C6 b (Br.lt (k.own x hx) hb)
 ·simp only [keys,zF,Br.key,zE] at hb;rcases hb with rfl|hb
  ·refine⟨?_,.inl k.size⟩;exact m72
  ·exact k.key b hb
 ·simp only [keys,zF,Br.key];exact zy.2 ⟨λhm=>by have:=k.klt hm;omega,k.nodup⟩
theorem Ok.dsx {e:Env}(k:Ok e h L w) (ds:List Deferred):Ok { e with ds:=ds } h L w:=⟨k.os,k.tape,k.output,k.size,k.M1,k.sub,k.le,k.fresh,k.own,k.key,k.nodup⟩
theorem JG.range {g:Operand}{pp:Tmp}{A B:Code}{gf:Nat}{lb:LV}{Q:Exit->Act->World->Prop}(hg:ev S g=some (.func (.func gf) #[] lb.toArray)) (hF:yH f.P gf=true) (Va:f.e.ds=[])
 (k:∀ (D l fn:Nat) (tmps:Array Value),Lw f.m S tmps->∃ (Li Lr:LE) (R:Bool->Part->LE->Prop),zO Li L Lr /\
  Fn f.P gf (.func (.yield l) #[] #[]::lb) h (.obj l (.loop (Loop.new fn tmps #[pp] A B D))::Li) (Cb λ_ h' Lo=>∃ b Lo',Lo=.obj l (.loop (Loop.after (Loop.new fn tmps #[pp] A B D) b))::Lo'/\R b h' Lo') /\
  (∀ h' Lo,h.le h'->R true h' Lo->JN (f.mark D) Q S h' (.obj D (.deferred (some []))::(Lo++Lr))) /\
  (∀ h' Lo,h.le h'->R false h' Lo->JE (f.mark D) Q S h' (.obj D (.deferred (some []))::(Lo++Lr)))) :
 JG f (.rangeFunc g #[pp] A B) Q S h L:=λa w s=>by
 refine(wpIn_wide (n:=0)).1 (wpIn_rangeFunc λfn _=>?_);have hda:a.defers=[]:=by rw [s.ds,Va]
 obtain⟨Li,Lr,R,hp,hc,kt,kf⟩:=k w.heap.size (w.heap.size+1) fn a.tmps ⟨s.size,s.slot⟩;have ok1:=s.ok.Kh (.deferred (some []));have ok2:=ok1.Kh (.loop (Loop.new fn a.tmps #[pp] A B w.heap.size));rw [World.size_alloc] at ok2;have V4:∃ w2,w2=((w.alloc (.deferred (some []))).alloc (.loop (Loop.new fn a.tmps #[pp] A B w.heap.size))):=⟨_,U⟩;obtain⟨w2,V4⟩:=V4;rw [<- V4] at ok2;refine⟨w.heap.size+1,[{ target:=.collected w.heap.size,args:=#[] }],w2,{ target:=.fn (.func gf) lb.toArray,args:=#[.func (.yield (w.heap.size+1)) #[] #[]] },w2,gf,#[.func (.yield (w.heap.size+1)) #[] #[]]++lb.toArray,w2,
  by rw [V4];exact run_enterLoop_outer _ _ _ _ _,?_,λ_ _=>trivial,?_,(λhh=>by cases hh),?_⟩
 ·simp only [resolve,s.eval hg];simp [go_sem,Deferred.ofValue,Sem.run_pure,Act.eval]
 ·simp [invoke,eF hF]
 ·have hin:(w.heap.size+1)=(w.heap.size+1):=rfl;have Gm:Ok f.e h ((.obj (w.heap.size+1) (.loop (Loop.new fn a.tmps #[pp] A B w.heap.size))::Li)++(.obj w.heap.size (.deferred (some []))::Lr)) w2:=by
   refine ok2.perm ?_;have:=hp.perm;refine List.Perm.cons _ ((List.Perm.cons _ this).trans ?_);exact List.perm_middle.symm
  have hcc:=hc _ Gm.enter;have e0:(#[.func (.yield (w.heap.size+1)) #[] #[]]++lb.toArray:Array Value)=(.func (.yield (w.heap.size+1)) #[] #[]::lb).toArray:=by simp
  rw [e0];refine callsIn_wide.2 (hcc.mono λe w' hh=>?_);obtain⟨h',Lo,⟨v,rfl,b,Lo',rfl,hR⟩,hO⟩:=hh;have okc:=Gm.call hO;have hl:w'.heap[w.heap.size+1]?=some (.loop (Loop.after (Loop.new fn a.tmps #[pp] A B w.heap.size) b)):=okc.own (.obj _ _) (by simp);have okd:Ok f.e h' (.obj w.heap.size (.deferred (some []))::(Lo'++Lr)) (w'.putObj (w.heap.size+1) (.loop { Loop.after (Loop.new fn a.tmps #[pp] A B w.heap.size) b with state:=.exhausted })):=by
   have:=(okc.putObj (.loop { Loop.after (Loop.new fn a.tmps #[pp] A B w.heap.size) b with state:=.exhausted })).drop (L':=Lo'++(.obj w.heap.size (.deferred (some []))::Lr)) (by simp);exact this.perm List.perm_middle
  have sat:Sat (f.mark w.heap.size).e (f.mark w.heap.size).m S h' (.obj w.heap.size (.deferred (some []))::(Lo'++Lr)) { a with defers:=[{ target:=.collected w.heap.size,args:=#[] }]++a.defers } (w'.putObj (w.heap.size+1) (.loop { Loop.after (Loop.new fn a.tmps #[pp] A B w.heap.size) b with state:=.exhausted })) :=
   ⟨s.size,s.slot,by simp [Fr.mark,hda],okd.dsx _⟩
  refine⟨_,_,run_endLoop hl (by cases b<;>simp [Loop.after]),?_⟩;cases b with
  |true =>
   exact kt h' Lo' hO.le hR _ _ sat
  |false =>
   exact wpIn_ret (kf h' Lo' hO.le hR _ _ sat)
end
section
variable {f:Fr}{S:AH}{h:Part}{L:LE}
theorem JG.block {c:Code}{Q:Exit->Act->World->Prop}(k:JG f c (Exit.inBlock id Q) S h L):JG f (.block id c) Q S h L:=λa w s=>wp_block (k a w s)
theorem JG.split {c d:Code}{Q:Exit->Act->World->Prop}(k:JG f c (Exit.then (λa w=>d.wp f.P Q a w) Q) S h L):JG f (.seq c d) Q S h L:=λa w s=>wp_seq (k a w s)
theorem JN.yY {d:Code}{Q:Exit->Act->World->Prop}(k:JG f d Q S h L):JN f (Exit.inBlock id (Exit.then (λa w=>d.wp f.P Q a w) Q)) S h L:=λa w s=>k a w s
theorem JE.yY {d:Code}{Q:Exit->Act->World->Prop}(k:JE f Q S h L):JE f (Exit.inBlock id (Exit.then (λa w=>d.wp f.P Q a w) Q)) S h L:=λa w s=>k a w s
end
def a3m (w0:World) (h:Part) (Li:LE) (R:Ending->Part->LE->Prop):Ending->World->Prop:=λe w'=>∃ h' Lo,R e h' Lo/\Ok ⟨w0,(·∈keys Li),h,[]⟩ h' Lo w'
def a7B (w0:World) (h:Part) (Li:LE) (D:Nat):Env:=⟨w0,(·∈keys Li),h,[{ target:=.collected D,args:=#[] }]⟩
def NT (P:Program) (w0:World) (h:Part) (Li:LE) (D m:Nat) (fn:Func) (R:Ending->Part->LE->Prop):yF:=λS h' L'=>∃ L1 v Lo Lr,Dt (.obj D (.deferred (some []))) L' L1/\B7 P (a7B w0 h Li D) m fn S h' (.obj D (.deferred none)::L1) v/\zO Lo L1 Lr/\R (.returned v) h' Lo
theorem Fn.a67 {F m:Nat}{fn:Func}{c:Code}{args:LV}{Li:LE}{R:Ending->Part->LE->Prop}(hf:P.funcs[F]?=some fn) (hb:fn.body=some c) (hm:fn.ntmps=m) (hl:Nat.ble args.length m=true)
 (k:∀ w0,JG ⟨P,⟨w0,(·∈keys Li),h,[]⟩,m,λ_ _ _=>False,λ_ _ _ _=>False⟩ c (bodyPostM Fence.wide 0 P fn (a3m w0 h Li R)) (AL 0 args) h Li):Fn P F args h Li R:=λw hw=>by
 have Kt:args.length<=m:=by simpa using hl
 have hs:Sat ⟨w,(·∈keys Li),h,[]⟩ m (AL 0 args) h Li ⟨args.toArray++Array.replicate (fn.ntmps-args.toArray.size) undef,[]⟩ w:=by
  exact m205
 exact(callsIn_wide (n:=0)).1 (callsIn_of_wp_marks hf hb trivial (wpIn_wide.2 (k w _ w hs)))
theorem NT.end_ {w0:World}{Li:LE}{D m:Nat}{fn:Func}{R:Ending->Part->LE->Prop}{a':Act}{w':World} :
 (∃ S h' L',Sat (a7B w0 h Li D) m S h' L' a' w'/\NT P w0 h Li D m fn R S h' L')->LeavesInM Fence.wide 0 P fn a'.tmps (a3m w0 h Li R) a'.defers .returning w':=by
 rintro⟨S,h',L',s',L1,v,Lo,Lr,u,hv,hp,hR⟩;have hd:a'.defers=[{ target:=.collected D,args:=#[] }]:=s'.ds;rw [hd];have Gm:=s'.ok.perm u.perm;have hK:w'.heap[D]?=some (.deferred (some [])):=Gm.own (.obj D _) (by simp);have ok2:=Gm.putObj (.deferred none);refine⟨by simp,.inl ⟨D,_,U,run_takeDeferred hK,v,hv _ _ (s'.with ok2),h',Lo,hR,?_⟩⟩;exact hp.ok _ ((ok2.drop (L':=L1) (by simp)).dsx [])
variable{S:AH}
theorem JE.of {w0:World}{h h1:Part}{Li L:LE}{D m:Nat}{fn:Func}{R:Ending->Part->LE->Prop}{r:yF}{p:List PanicEntry->yF}(k:NT P w0 h Li D m fn R S h1 L) :
 JE (Fr.mark ⟨P,⟨w0,(·∈keys Li),h,[]⟩,m,r,p⟩ D) (bodyPostM Fence.wide 0 P fn (a3m w0 h Li R)) S h1 L:=λa w s=>NT.end_ ⟨S,h1,L,s,k⟩
theorem JG.ofJ {w0:World}{h h1:Part}{Li L:LE}{D m:Nat}{fn:Func}{c:Code}{R:Ending->Part->LE->Prop}{r:yF}{p:List PanicEntry->yF}
 (k:J ⟨P,a7B w0 h Li D,m,NT P w0 h Li D m fn R,λ_ _ _ _=>False⟩ c (NT P w0 h Li D m fn R) Ei S h1 L) :
 JG (Fr.mark ⟨P,⟨w0,(·∈keys Li),h,[]⟩,m,r,p⟩ D) c (bodyPostM Fence.wide 0 P fn (a3m w0 h Li R)) S h1 L:=λa w s=>by
 refine LG (k a w s) (λex a' w' q=>?_);cases ex with
 |normal=>exact NT.end_ q
 |ret=>exact NT.end_ q
 |panic c=>obtain⟨_,_,_,_,hh⟩:=q;exact hh.elim
 |exit i=>obtain⟨_,_,_,_,hh⟩:=q;exact hh.1.elim
 |goto l=>obtain⟨_,_,_,_,hh⟩:=q;exact hh.elim
 |outgrown=>exact False.elim q
variable{L:LE}
theorem pn {e:Env}{b T t:Nat}{v:Value}(hk:Ok e h L w) (hT:AF P T=some none) (hm:Br.yY b t [v]∈L):(loadVar T ⟨b,0,none⟩).run P w=.ok v w:=by
 have hb:w.heap[b]?=some (.cells [v].toArray t (0,0)):=hk.own _ hm;have hc:w.cell? ⟨b,0,none⟩=some v:=by rw [cell_of_row w b 0 _ t _ hb];rfl
 simp [loadVar,(eP hT w).1,load,Sem.run,hc]
theorem B7.Mo {e:Env}{m:Nat}{fn:Func}{t T b bt t' T' b' bt':Nat}{v v':Value}(hr:fn.results=#[.cell t T,.cell t' T']) (hv:look S t=some (.pointer (some ⟨b,0,none⟩))) (hT:AF P T=some none) (hm:Br.yY b bt [v]∈L)
 (hv':look S t'=some (.pointer (some ⟨b',0,none⟩))) (Ll:AF P T'=some none) (hm':Br.yY b' bt' [v']∈L):B7 P e m fn S h L (.tuple #[v,v']):=λa w s=>by
 simp [results,hr,s.slot t _ hv,s.slot t' _ hv',asAddr,pn s.ok hT hm,pn s.ok Ll hm']
abbrev aJ:=@List.getD_eq_getElem?_getD
def Bl:LB->Nat->Bool->Option (List Nat)
 |[],_,fresh=>if fresh then some [] else none
 |c::r,n,fresh=>if(fresh&&decide (c.toNat=128))||decide (72057594037927935<n) then none
  else if 127<c.toNat then Bl r (n*128+c.toNat % 128) false else(Bl r 0 true).map (λl=>(n*128+c.toNat % 128)::l)
def DK:LB->Nat->Nat->Option (List Nat)
 |[],_,_=>some []
 |c::r,n,long=>if 9<long+1\/9223372036854775808<=n*128+c.toNat % 128 then none
  else if 128<=c.toNat then DK r (n*128+c.toNat % 128) (long+1) else(DK r 0 0).map (λl=>(n*128+c.toNat % 128)::l)
def Ny:Nat->Nat->LB
 |0,_=>[]
 |f+1,n=>if n=0 then [] else Ny f (n / 128)++[UInt8.ofNat (n % 128+128)]
def O5 (n:Nat):LB:=Ny 10 n
def G1 (n:Nat):LB:=O5 (n / 128)++[UInt8.ofNat (n % 128)]
def enc:List Nat->LB
 |[]=>[]
 |n::r=>G1 n++enc r
theorem YD:∀ (f n:Nat),n<128 ^ f->Ny (f+1) n=Ny f n
 |0,n,h=>by have:n=0:=(by simpa using h);subst this;rfl
 |f+1,n,h=>by
  rw [Ny];conv=>rhs;rw [Ny]
  rw [YD f (n / 128) (by rw [yh] at h;omega)]
theorem pD (n:Nat) (h:n<128 ^ 10) (h0:n≠0):O5 n=O5 (n / 128)++[UInt8.ofNat (n % 128+128)]:=by
 have e:O5 (n / 128)=Ny 9 (n / 128):=YD 9 _ (by simp only [Nat.reducePow] at h |-;omega);rw [e];show Ny 10 n=_;rw [Ny,xC h0]
theorem a3_ {c:UInt8}{n:Nat}(h:127<c.toNat):(n*128+c.toNat % 128) % 128+128=c.toNat/\(n*128+c.toNat % 128) / 128=n:=by
 have:=zA c;omega
theorem pN:∀ (b:LB) (n:Nat) (fresh:Bool) (l:List Nat),(fresh=true->n=0)->(fresh=false->0<n)->Bl b n fresh=some l->O5 n++b=enc l/\∀ x∈l,x<9223372036854775808
 |[],n,fresh,l,h0,h1,h=>by
  cases fresh with
  |false=>simp [Bl] at h
  |true=>simp [Bl] at h;subst h;rw [h0 rfl];exact⟨U,by simp⟩
 |c::r,n,fresh,l,h0,h1,h=>by
  have hc:=zA c;rw [Bl] at h;split at h
  ·cases h
  ·rename_i hg;simp only [yu,xB,a_,not_or,not_and] at hg;split at h
   ·rename_i hh;have hn:n*128+c.toNat % 128≠0:=by
     cases fresh with
     |false=>have:=h1 U;omega
     |true=>have:=hg.1 U;omega
    obtain⟨e1,e2⟩:=pN r _ false l (λx=>by cases x) (λ_=>by omega) h;refine⟨?_,e2⟩;have hb:=a3_ (n:=n) hh;rw [pD _ (by simp only [Nat.reducePow];omega) hn,hb.1,hb.2] at e1;rw [<- e1];simp
   ·rename_i hh;rw [zl] at h;obtain⟨l',Kt,rfl⟩:=h;obtain⟨e1,e2⟩:=pN r 0 true l' (λ_=>rfl) (λx=>by cases x) Kt;have e3:(n*128+c.toNat % 128) / 128=n:=by omega
    have e4:(n*128+c.toNat % 128) % 128=c.toNat:=by omega
    refine⟨?_,λx hx=>?_⟩
    ·rw [enc,<- e1,G1,e3,e4];simp [show O5 0=[] from rfl]
    ·rcases zE.1 hx with rfl|hx
     ·omega
     ·exact e2 x hx
theorem Zj:∀ (f y:Nat) (t:LB),y<128 ^ f->y<9223372036854775808->Bl (Ny f y++t) 0 true=Bl t y (decide (y=0))
 |0,y,t,h,_=>by have:y=0:=(by simpa using h);subst this;rfl
 |f+1,y,t,h,h2=>by
  rw [Ny];split
  ·rename_i h0;subst h0;rfl
  ·rename_i h0;rw [xW,Zj f (y / 128) _ (by rw [yh] at h;omega) xE];simp only [xX,xP,Bl];have e:(UInt8.ofNat (y % 128+128)).toNat=y % 128+128:=by rw [xZ];omega
   rw [e,xC,xD xE]
   ·rw [show y / 128*128+(y % 128+128) % 128=y by omega,ah h0]
   ·simp only [yu,xB,a_,not_or,not_and];omega
theorem Zk (x:Nat) (r:LB) (h:x<9223372036854775808):Bl (G1 x++r) 0 true=(Bl r 0 true).map (x::·):=by
 unfold G1 O5;rw [xW,Zj 10 (x / 128) _ (by simp only [Nat.reducePow];omega) xE];simp only [xX,xP,Bl];have e:(UInt8.ofNat (x % 128)).toNat=x % 128:=by rw [xZ];omega
 rw [e,xC,xC xE]
 ·rw [show x / 128*128+x % 128 % 128=x by omega]
 ·simp only [yu,xB,a_,not_or,not_and];omega
theorem tw:∀ (l:List Nat),(∀ x∈l,x<9223372036854775808)->Bl (enc l) 0 true=some l
 |[],_=>rfl
 |n::r,h=>by
  rw [enc,Zk _ _ (h n (aC ..)),tw r (λx hx=>h x (aE _ hx))];rfl
theorem tG:∀ (b:LB) (n long:Nat) (fresh:Bool) (l:List Nat),(fresh=true->n=0/\long=0)->(fresh=false->128 ^ (long-1)<=n/\1<=long)->Bl b n fresh=some l->DK b n long=some l
 |[],n,long,fresh,l,h0,h1,h=>by
  cases fresh with
  |false=>simp [Bl] at h
  |true=>simpa [Bl,DK] using h
 |c::r,n,long,fresh,l,h0,h1,h=>by
  have hc:=zA c;rw [Bl] at h;rw [DK];split at h
  ·cases h
  ·rename_i hg;simp only [yu,xB,a_,not_or,not_and] at hg;have b1K:long<=8:=by
    cases fresh with
    |true=>have:=h0 U;omega
    |false =>
     obtain⟨q1,q2⟩:=h1 U;rcases A9 8 long with h9|h9
     ·have:(128:Nat) ^ 8<=128 ^ (long-1):=yf yD xE;simp only [Nat.reducePow] at this;omega
     ·exact h9
   rw [xC xE];split at h
   ·rename_i hh;rw [xD xE];refine tG r _ (long+1) false l (λx=>by cases x) (λ_=>⟨?_,by omega⟩) h;rw [Af];cases fresh with
    |true=>have:=h0 U;have:=hg.1 U;rw [(h0 U).2];simp only [GY];omega
    |false =>
     obtain⟨q1,q2⟩:=h1 U;obtain⟨j,rfl⟩:∃ j,long=j+1:=⟨long-1,by omega⟩;rw [Af] at q1;rw [yh];omega
   ·rename_i hh;rw [xC xE];rw [zl] at h;obtain⟨l',Kt,rfl⟩:=h;rw [tG r 0 0 true l' (λ_=>⟨U,U⟩) (λx=>by cases x) Kt];rfl
theorem OC:∀ (b:LB) (n long:Nat) (l:List Nat),DK b n long=some l->(∀ x∈l,x<9223372036854775808)/\l.length<=b.length
 |[],n,long,l,h=>by simp [DK] at h;subst h;simp
 |c::r,n,long,l,h=>by
  rw [DK] at h;split at h
  ·cases h
  ·split at h
   ·have:=OC r _ _ l h;exact⟨this.1,by simp;omega⟩
   ·rw [zl] at h;obtain⟨l',Kt,rfl⟩:=h;have:=OC r _ _ l' Kt;refine⟨λx hx=>?_,by simp;omega⟩;rcases zE.1 hx with rfl|hx
    ·omega
    ·exact this.1 x hx
def LX (b:LB):Option (List Nat):=match DK b 0 0 with
 |none=>none
 |some l=>if l≠[]/\enc l=b then some l else none
def Ur (b:LB):Option (List Nat):=match Bl b 0 true with
 |none=>none
 |some l=>if l=[] then none else some l
theorem Tt (b:LB):LX b=Ur b:=by
 unfold LX Ur;cases hd:Bl b 0 true with
 |some l =>
  have h1:=tG b 0 0 true l (λ_=>⟨U,U⟩) (λx=>by cases x) hd;have h2:=(pN b 0 true l (λ_=>rfl) (λx=>by cases x) hd).1;rw [h1];simp only [<- h2];by_cases hl:l=[]
  ·simp [hl]
  ·simp [hl,show O5 0=[] from rfl]
 |none =>
  cases hr:DK b 0 0 with
  |none=>rfl
  |some l =>
   simp only;rw [xC];rintro⟨_,he⟩;have:=tw l (OC b 0 0 l hr).1;rw [he,hd] at this;cases this
def BK:List Nat->LB
 |[]=>[]
 |n::r=>[46]++CS n 1++BK r
def DR:List Nat->LB
 |[]=>[]
 |n::r=>CS (min (n / 40) 2) 1++[46]++CS (n-40*min (n / 40) 2) 1++BK r
theorem ky:∀ (b out:LB) (n:Nat) (fresh:Bool),Em b out n fresh false=(Bl b n fresh).map (out++BK ·)
 |[],out,n,fresh=>by cases fresh<;>simp [Em,Bl,BK]
 |c::r,out,n,fresh=>by
  rw [Em,Bl];split
  ·rfl
  ·split
   ·exact ky r out _ _
   ·simp only [bg,if_false];rw [ky,Option.map_map];congr 1
    funext l
    simp [BK]
theorem mz:∀ (b out:LB) (n:Nat) (fresh:Bool),Em b out n fresh true=match Bl b n fresh with|none=>none|some l=>if l=[] then none else some (out++DR l)
 |[],out,n,fresh=>by cases fresh<;>simp [Em,Bl]
 |c::r,out,n,fresh=>by
  rw [Em,Bl];split
  ·rfl
  ·split
   ·exact mz r out _ _
   ·rw [xD U,ky];cases Bl r 0 true with
    |none=>rfl
    |some l=>simp [DR]
theorem oT (b:LB):AK b=(Ur b).map DR:=by
 unfold AK Ur;rw [mz];cases Bl b 0 true with
 |none=>rfl
 |some l=>by_cases h:l=[]<;>simp [h]
def FZ (c:UInt8):Bool:=decide (48<=c.toNat/\c.toNat<=57)
def Ar (s:LB):Nat:=s.foldl (λv c=>v*10+(c.toNat-48)) 0
def FN (s:LB):Bool:=decide (s.length=0\/19<s.length\/1<s.length/\(s.getD 0 0).toNat=48)
def BT (s:LB):Option Nat:=if FN s||!s.all FZ then none else if Ar s<9223372036854775808 then some (Ar s) else none
def zj:LB->LB->Option (List Nat)
 |[],cur=>(BT cur).map ([·])
 |c::r,cur=>if c=46 then(match BT cur with
  |none=>none
  |some n=>(zj r []).map (n::·)) else zj r (cur++[c])
def Fp (l:List Nat):Bool:=decide (2<=l.length)&&(decide (l.getD 0 0=2/\l.getD 1 0<9223372036854775728)||decide (l.getD 0 0<2/\l.getD 1 0<40))
def Ai (s:LB):Option LB:=match zj s [] with
 |none=>none
 |some l=>if Fp l then some (enc ((40*l.getD 0 0+l.getD 1 0)::l.drop 2)) else none
theorem fU (s:LB) (c:UInt8):Ar (s++[c])=Ar s*10+(c.toNat-48):=by simp [Ar]
theorem RX:∀ (f n len k:Nat),1<=len->n<10 ^ f->n<10 ^ k->Ar (Hh f n len 1)=n/\(Hh f n len 1).all FZ=true/\(Hh f n len 1).length<=k/\(n=0->Hh f n len 1=[])/\(0<n->0<(Hh f n len 1).length/\((Hh f n len 1).getD 0 0).toNat≠48)
 |0,n,len,k,h1,h,hk=>by
  have:n=0:=by simpa using h
  subst this;simp [Hh,Ar]
 |f+1,n,len,k,h1,h,hk=>by
  rw [Hh];by_cases h0:0<n
  ·rw [xD (.inl h0)];obtain⟨j,rfl⟩:∃ j,k=j+1:=⟨k-1,by
    cases k with
    |zero=>simp at hk;omega
    |succ k=>rfl⟩
   rw [yh] at h hk;obtain⟨i1,i2,i3,i4,i5⟩:=RX f (n / 10) (len+1) j xE xE xE;have e:(UInt8.ofNat (48+n % 10)).toNat=48+n % 10:=by rw [xZ];omega
   refine⟨by rw [fU,i1,e];omega,by simp [i2,FZ,e];omega,by simp;omega,λh=>by omega,λ_=>⟨by simp,?_⟩⟩;by_cases hn:0<n / 10
   ·have:=i5 hn;rw [aJ,Cd this.1,<- aJ];exact this.2
   ·rw [i4 xE];show(UInt8.ofNat (48+n % 10)).toNat≠48;omega
  ·have:n=0:=by omega
   subst this;rw [xC xE];simp [Ar]
theorem RV (n:Nat) (h:n<9223372036854775808):BT (CS n 1)=some n/\(CS n 1).all FZ=true:=by
 unfold CS;rw [Hh,xD (.inr yD)];obtain⟨i1,i2,i3,i4,i5⟩:=RX 19 (n / 10) 1 18 (aB _) (by simp only [Nat.reducePow];omega) (by simp only [Nat.reducePow];omega);have e:(UInt8.ofNat (48+n % 10)).toNat=48+n % 10:=by rw [xZ];omega
 rw [show 0+1=1 from rfl];have zX:(Hh 19 (n / 10) 1 1++[UInt8.ofNat (48+n % 10)]).all FZ=true:=by simp [i2,FZ,e];omega
 have hnv:Ar (Hh 19 (n / 10) 1 1++[UInt8.ofNat (48+n % 10)])=n:=by rw [fU,i1,e];omega
 refine⟨?_,zX⟩;unfold BT;have hb:FN (Hh 19 (n / 10) 1 1++[UInt8.ofNat (48+n % 10)])=false:=by
  refine ah ?_;simp only [aF,aw,ay];rintro(h1|h1|⟨h1,h2⟩)
  ·omega
  ·omega
  ·have hp:0<n / 10:=by
    rcases B_ (n / 10) with h0|h0
    ·rw [i4 h0] at h1;simp at h1
    ·exact h0
   have:=i5 hp;rw [aJ,Cd this.1,<- aJ] at h2;exact this.2 h2
 rw [hb,zX,xC yD,hnv,xD h]
theorem gy:∀ (s cur r:LB),s.all FZ=true->zj (s++r) cur=zj r (cur++s)
 |[],cur,r,_=>by simp
 |c::s,cur,r,h=>by
  simp only [ya,xB] at h;have hc:c≠46:=by
   rintro rfl;have:=h.1;simp [FZ] at this
  simp only [xX,zj];rw [xC hc,gy s _ r h.2];simp
theorem qW (n:Nat) (r:LB) (h:n<9223372036854775808):zj (CS n 1++[46]++r) []=(zj r []).map (n::·):=by
 have:=RV n h;rw [xW,gy _ _ _ this.2,xP];simp only [xX,xP,zj,xD];rw [this.1]
theorem qV:∀ (n:Nat) (l:List Nat),n<9223372036854775808->(∀ x∈l,x<9223372036854775808)->zj (CS n 1++BK l) []=some (n::l)
 |n,[],h,_=>by
  have:=RV n h;rw [BK,gy _ _ _ this.2,xP,zj,this.1];rfl
 |n,m::r,h,hl=>by
  rw [BK];have:=qW n (CS m 1++BK r) h;rw [xW] at this;rw [xW,this,qV m r (hl m (aC ..)) (λx hx=>hl x (aE _ hx))];rfl
theorem va (l:List Nat) (h:∀ x∈l,x<9223372036854775808):Ai (DR l)=if l=[] then none else some (enc l):=by
 cases l with
 |nil=>rfl
 |cons n r =>
  have hn:=h n (aC ..);have hr:=λx hx=>h x (aE n hx);have e:=qW (min (n / 40) 2) (CS (n-40*min (n / 40) 2) 1++BK r) xE;rw [qV _ r xE hr] at e;have et:DR (n::r)=CS (min (n / 40) 2) 1++[46]++(CS (n-40*min (n / 40) 2) 1++BK r):=by rw [DR];simp only [xW]
  unfold Ai;rw [et,e];simp only [AI];have zt:Fp (min (n / 40) 2::(n-40*min (n / 40) 2)::r)=true:=by
   unfold Fp;simp only [xB,yu,a_];refine⟨by simp,?_⟩;show(min (n / 40) 2=2/\n-40*min (n / 40) 2<9223372036854775728)\/(min (n / 40) 2<2/\n-40*min (n / 40) 2<40);omega
  rw [xD zt,xC (by simp)];congr 2;show _::r=n::r;congr 1;show 40*(min (n / 40) 2)+(n-40*min (n / 40) 2)=n;omega
theorem Tq (b:LB):AK b=(LX b).map DR:=by rw [oT,Tt]
theorem jI (b:UInt8) (r:LB) (h:b.toNat<128):Gi (b::r)=b.toNat/\wid (b::r)=1:=by
 have e:Go.Lib.decodeL (b::r)=(b.toNat,1):=by
  unfold Go.Lib.decodeL;rw [BR];have e0:(⟨(b::r).toArray⟩:ByteArray).get! 0=b:=by rw [GW];rfl
  rw [e0];unfold Go.Lib.decodeN;rw [xD h]
 exact⟨by show(Go.Lib.decodeL (b::r)).1=_;rw [e],by show(Go.Lib.decodeL (b::r)).2=_;rw [e]⟩
theorem Sn (b:UInt8) (r:LB) (h:Gi (b::r)<128):b.toNat<128:=by
 rcases A9 b.toNat 128 with hb|hb
 ·exact hb
 ·exfalso;have e:Gi (b::r)=(Go.Lib.decodeL (b::r)).1:=rfl;rw [e] at h;unfold Go.Lib.decodeL at h;rw [BR] at h;have e0:(⟨(b::r).toArray⟩:ByteArray).get! 0=b:=by rw [GW];rfl
  rw [e0] at h;unfold Go.Lib.decodeN at h;rw [xC xE] at h;split at h
  ·split at h<;>simp only at h<;>omega
  ·split at h
   ·split at h<;>simp only at h<;>omega
   ·split at h
    ·split at h<;>simp only at h<;>omega
    ·simp only at h;omega
theorem Sq (s:LB) (p:Nat) (hp:p<s.length):(48<=Gi (s.drop p)/\Gi (s.drop p)<=57<->48<=xF s p/\xF s p<=57)/\(48<=Gi (s.drop p)/\Gi (s.drop p)<=57->Gi (s.drop p)=xF s p/\wid (s.drop p)=1):=by
 have e:s.drop p=s[p]::s.drop (p+1):=aL hp;have eb:=bW s p hp;rw [e];constructor
 ·constructor
  ·intro h;have h1:=Sn s[p] (s.drop (p+1)) xE;rw [(jI _ _ h1).1,eb] at h;exact h
  ·intro h;rw [(jI _ _ xE).1,eb];exact h
 ·intro h;have h1:=Sn s[p] (s.drop (p+1)) xE;rw [(jI _ _ h1).1,(jI _ _ h1).2,eb];exact⟨U,U⟩
theorem sZ (a b:LB):Ar a<=Ar (a++b):=by
 have key:∀ (l:LB) (v:Nat),v<=l.foldl (λv (c:UInt8)=>v*10+(c.toNat-48)) v:=by
  intro l
  induction l with
  |nil=>intro v;exact aB _
  |cons c l ih=>intro v;exact xJ (show v<=v*10+(c.toNat-48) by omega) (ih _)
 unfold Ar;rw [SQ];exact key _ _
theorem qX (s:LB) (p:Nat):Ar (s.take p)<=Ar s:=by
 conv=>rhs;rw [<- AG p s]
 exact sZ _ _
theorem a1U (c:UInt8) (hc:49<=c.toNat):∀ (r:LB),10 ^ r.length<=Ar (c::r):=by
 have key:∀ (l:LB) (v:Nat),v*10 ^ l.length<=l.foldl (λv (c:UInt8)=>v*10+(c.toNat-48)) v:=by
  intro l
  induction l with
  |nil=>intro v;simp
  |cons c l ih =>
   intro v;refine xJ ?_ (ih _);rw [aw,yh,<- Ds,Nat.mul_right_comm];exact aT _ (show v*10<=v*10+(c.toNat-48) by omega)
 intro r;have:=key r (c.toNat-48);unfold Ar;rw [Cm];simp only [Jt,A0];refine xJ ?_ this;exact Nat.le_mul_of_pos_left _ xE
def E6 (s:LB):Nat×Bool:=match BT s with|some v=>(v,true)|none=>(0,false)
theorem XI {s:LB}(h:s.length=0\/1<s.length/\xF s 0=48):E6 s=(0,false):=by
 have hb:FN s=true:=ae (by unfold xF at h;omega);simp [E6,BT,hb]
theorem vc {s:LB}{p:Nat}(hp:p<s.length) (h:¬ (48<=xF s p/\xF s p<=57)):E6 s=(0,false):=by
 have hb:s.all FZ=false:=by
  rw [yM];refine⟨s[p],ax _,?_⟩;have e:=bW s p hp;unfold FZ;rw [ah xE];decide
 simp [E6,BT,hb]
theorem nD (s:LB) (i:Nat) (h:i<s.length):Ar (s.take (i+1))=Ar (s.take i)*10+(xF s i-48):=by
 rw [ai h,fU,bW s i h]
theorem UO (s:LB) (i:Nat) (h:i<s.length):(s.take (i+1)).all FZ=((s.take i).all FZ&&decide (48<=xF s i/\xF s i<=57)):=by
 rw [ai h,yr];simp [FZ,bW s i h]
theorem XH {s:LB}{p:Nat}(hp:p<s.length) (h:9223372036854775808<=Ar (s.take p)*10+(xF s p-48)):E6 s=(0,false):=by
 have h1:=qX s (p+1);rw [nD s p hp] at h1;unfold E6 BT;by_cases hb:(FN s||!s.all FZ)=true
 ·rw [xD hb]
 ·rw [xC hb,xC xE]
theorem vd {s:LB}(h0:¬ (s.length=0\/1<s.length/\xF s 0=48)) (hd:s.all FZ=true) (hv:Ar s<9223372036854775808):E6 s=(Ar s,true):=by
 have hl:s.length<=19:=by
  rcases A9 19 s.length with hl|hl
  ·exfalso;cases s with
   |nil=>simp at hl
   |cons c r =>
    simp only [aw] at hl h0;have hc:FZ c=true:=by simp only [ya,xB] at hd;exact hd.1
    unfold FZ at hc;have O6:=xV hc;have e:xF (c::r) 0=c.toNat:=rfl;rw [e] at h0;have:=a1U c xE r;have h2:10 ^ 19<=10 ^ r.length:=yf yD xE;simp only [Nat.reducePow] at h2;omega
  ·exact hl
 have hb:FN s=false:=ah (by unfold xF at h0;omega);unfold E6 BT;rw [hb,hd,xC yD,xD hv]
theorem a1X (s:LB):(E6 s).1<9223372036854775808:=by
 unfold E6 BT;split<;>rename_i h
 ·split at h
  ·cases h
  ·exact m177
 ·decide
theorem vu:O5 0=[]:=rfl
theorem a8N (n k:Nat) (hn:n<9223372036854775808) (h0:n / 128 ^ k≠0):O5 (n / 128 ^ k)=O5 (n / 128 ^ (k+1))++[UInt8.ofNat (n / 128 ^ k % 128+128)]:=by
 have yJ:n / 128 ^ k<=n:=Kk _ _;rw [pD _ (by simp only [Nat.reducePow];omega) h0,zm,yh]
theorem a3g (n:Nat):G1 n=O5 (n / 128 ^ (0+1))++[UInt8.ofNat (n % 128)]:=by
 unfold G1;simp
theorem nB:∀ (a cur r:LB),(∀ c∈a,c≠46)->zj (a++46::r) cur=match BT (cur++a) with|none=>none|some n=>(zj r []).map (n::·)
 |[],cur,r,_=>by
  simp only [xP,Ak,zj,if_true]<;>(cases BT cur<;>rfl)
 |c::a,cur,r,h=>by
  simp only [xX,zj];rw [xC (h c (aC ..)),nB a _ r (λx hx=>h x (aE _ hx))];simp
theorem mB:∀ (a cur:LB),(∀ c∈a,c≠46)->zj a cur=(BT (cur++a)).map ([·])
 |[],cur,_=>by simp [zj]
 |c::a,cur,h=>by
  simp only [zj];rw [xC (h c (aC ..)),mB a _ (λx hx=>h x (aE _ hx))];simp
theorem TI {s:LB}{v:Nat}(h:E6 s=(v,true)):BT s=some v:=by
 unfold E6 at h;exact m177
theorem TJ {s:LB}{v:Nat}(h:E6 s=(v,false)):BT s=none:=by
 unfold E6 at h;split at h
 ·cases h
 ·assumption
theorem vH:∀ (s:LB),(Go.Lib.indexByte s 46=-1/\∀ c∈s,c≠46)\/∃ k,k<s.length/\Go.Lib.indexByte s 46=(k:Int)/\s=s.take k++46::s.drop (k+1)/\∀ c∈s.take k,c≠46
 |[]=>.inl ⟨U,by simp⟩
 |c::r=>by
  rw [Go.Lib.indexByte];split
  ·rename_i hc;have hc:=eq_of_beq hc;subst hc;exact .inr ⟨0,by simp,by simp,by simp,by simp⟩
  ·rename_i hc;have hc:c≠46:=λe=>hc (by rw [e];rfl);rcases vH r with ⟨h1,h2⟩|⟨k,h1,h2,h3,h4⟩
   ·rw [h1];refine .inl ⟨U,λx hx=>?_⟩;rcases zE.1 hx with rfl|hx
    ·exact hc
    ·exact h2 x hx
   ·rw [h2];refine .inr ⟨k+1,by simp;omega,?_,?_,λx hx=>?_⟩
    ·rw [xC (by simp)];simp
    ·simp only [A7,AZ,xX];rw [<- h3]
    ·simp only [A7] at hx;rcases zE.1 hx with rfl|hx
     ·exact hc
     ·exact h4 x hx
theorem IE {p:Prop}(u:p:=by repeat (first|exact trivial|refine⟨rfl,?_⟩|refine⟨(by exact ji xE),?_⟩)):p:=u
theorem z7_ {p:Prop}(u:p:=by repeat (first|exact trivial|refine⟨rfl,?_⟩|refine⟨(by exact gQ (by first|exact y7.2 xE|exact(ae xE).symm|exact(ah xE).symm)),?_⟩)):p:=u
theorem a4o {p:Prop}(u:p:=by repeat (first|exact trivial|refine⟨rfl,?_⟩|refine⟨(by exact gQ (by first|exact y7.2 (by simp only [<- AQ] at *;omega)|exact(ae (by simp only [<- AQ] at *;omega)).symm|exact(ah (by simp only [<- AQ] at *;omega)).symm)),?_⟩)):p:=u
theorem Oc {p:Prop}(u:p:=by first|exact xG.QX rfl rfl xE xE|exact xG.mul rfl rfl):p:=u
theorem jD:Bz prog 21 213=some .u64:=by kernel_rfl
theorem wU {s:LB}(hs:s.length<=140737488355328):Pure prog 239 [.string ⟨s.toArray⟩] h (.tuple #[.int .u64 ((E6 s).1:Nat),.bool (E6 s).2]):=by
 have Ia:=ZK;refine aQ func239 U ntmps239 U (λe he=>?_);refine ba [(0,_)] y9 (Sr (Ru 2 U (aj (aK (aK (J.meet [(18,.bool (decide (s.length=0\/1<s.length/\xF s 0=48)))] [(3,_),(2,_),(0,_)] y9 ?_ ?_))))))
 ·refine Rg (Ru 1 U (aA (xG.a6B U U) U (Ru 1 U (Bs 9 U (λBy=>?_) λBy=>?_))))
  ·refine Ru 9 U (aj (⟨U,U,?_⟩));exact a4o
  refine Ru 1 U (bz U U  (xG.a2h xz U) U (Ru 2 U (Bs 13 U (λBO=>?_) λBO=>?_)))
  ·refine Ru 1 U (bz U U  (xG.JB xz U U (show _=((0:Nat):Int) from rfl) xE) U (Ru 3 U (aj (⟨U,U,?_⟩))));exact a4o
  refine Ru 5 U (aj (⟨U,U,?_⟩));exact a4o
 refine Cs U (λDv=>?_) λDv=>?_
 ·have P4:=XI Dv;exact Sr (Ru 2 U (aj (cn (u:=.tuple #[.int .u64 0,.bool false]) (B7.two U U U) (by rw [P4];rfl) U)))
 refine aO (Sr (Ru 1 U (aj (aK (Sr (Ru 1 U (JL.range xz U U (λb4=>?_))))))));refine aj (aV (bU (λt_ S_ h_ L_=>∃ (p:Nat),t_=s.length-p/\S_=[(0,.string ⟨s.toArray⟩),(4,.int .u64 (Ar (s.take p):Nat)),(20,.pointer (some ⟨b4,0,none⟩))]/\h=h_/\L_=[.it b4 s p]/\(p<=s.length/\(s.take p).all FZ=true/\Ar (s.take p)<9223372036854775808)) ⟨_,_,?_,⟨0,U,U,U,U,⟨by omega,by simp,by simp [Ar]⟩⟩⟩ ?_))
 ·exact m133
 rintro _ _ _ _ ⟨p,rfl,rfl,rfl,rfl,hp,hd,hv⟩;have hw:=jO (s.drop p);have hch:=ZK (s.drop p);refine Sr (JL.next U zW U (λhx5=>?_) (λhx5=>?_))
 ·refine Ru 1 U (aj (aK (bP U (aO (aV (Sr (Ru 2 U (aj (aK (aK (J.meet [(38,.bool (decide (¬ (48<=Gi (s.drop p)/\Gi (s.drop p)<=57)\/(9223372036854775807-(Gi (s.drop p)-48)) / 10<Ar (s.take p))))] [(6,_),(23,_),(22,_),(21,_),(0,_),(4,_),(20,_)] y9 ?_ ?_)))))))))))
  ·refine Rg (Ru 3 U (Bs 26 U (λLj=>?_) λLj=>?_))
   ·refine Ru 12 U (aj (⟨U,U,?_⟩));exact z7_
   refine Ru 4 U (Bs 30 U (λP'=>?_) λP'=>?_)
   ·refine Ru 8 U (aj (⟨U,U,?_⟩));exact z7_
   refine Ru 2 U (bz U U  (by first|exact xG.Q2 rfl rfl xE xE|exact xG.sub rfl rfl) U ?_);refine bz U U  (by first|exact xG.GH jD rfl xE xE|exact cB jD rfl) U ?_;refine bz U U  (by first|exact xG.Q0 rfl rfl xE xE|exact xG.sub rfl rfl) U ?_;refine bz U U  (by first|exact xG.ET rfl rfl xE xE xE|exact xG.quo rfl rfl xE) U ?_;refine Ru 2 U (aj (⟨U,U,?_⟩));exact z7_
  refine Cs U (λMB=>?_) λMB=>?_
  ·have U4:E6 s=(0,false):=(by have MA:=Sq s p xE;rcases MB with hq|hq;exact vc xE (λhh=>hq (MA.1.2 hh));by_cases V4:48<=Gi (s.drop p)/\Gi (s.drop p)<=57;exact XH (p:=p) xE (by have:=(MA.2 V4).1;omega);exact vc xE (λhh=>V4 (MA.1.2 hh)));refine Sr (Ru 2 U (aj ?_))
   exact m40
  have hdg:48<=Gi (s.drop p)/\Gi (s.drop p)<=57:=xE;have MA:=Sq s p xE;have hcb:=MA.2 hdg;have hbd:=MA.1.1 hdg;have DW:=nD s p xE;have hal:=UO s p xE;refine aO (Rg (Ru 1 U (aA (by first|exact xG.M7 rfl rfl xE xE|exact xG.mul rfl rfl) U ?_)));refine Ru 1 U (aA (by first|exact xG.Q2 rfl rfl xE xE|exact xG.sub rfl rfl) U ?_);refine aA (by first|exact xG.GH jD rfl xE xE|exact cB jD rfl) U ?_;refine aA (by first|exact xG.Jd rfl rfl xE xE|exact xG.add rfl rfl) U ?_;refine Ru 1 U (aj ?_);rw [hcb.2];refine⟨_,?_,_,?_,⟨p+1,U,U,U,U,⟨by omega,by rw [hal,hd,ae hbd];rfl,by omega⟩⟩⟩
  ·omega
  exact m133
 refine Ru 1 U (aj (aK (J.Df U (bJ (Sr (Ru 3 U (Nk [3,2] U ?_)))))))
 exact m40
theorem Tf (n j:Nat) (e:Int) (he:e=7*(j:Int)):(n:Int) / 2 ^ e.toNat=((n / 128 ^ j:Nat):Int):=by
 subst he;have h1:(7*(j:Int)).toNat=7*j:=by omega
 have h2:(128:Nat) ^ j=2 ^ (7*j):=by rw [CB]
 rw [h1,h2];simp
set_option maxRecDepth 100000 in
theorem a5B:∀ m:Fin 256,bits .or .u8 (m.val:Int) 128=((UInt8.ofNat (m.val % 128+128)).toNat:Int):=by decide
theorem xG.a8k {f:Fr}{ty T yt:TypeId}{x y:Operand}(m:Nat) (hx:ev S x=some (.int .u8 ((UInt8.ofNat m).toNat:Int))) (hy:ev S y=some (.int .u8 128)):xG f S h L (.binOp .or T x y yt) ty (.int .u8 ((UInt8.ofNat (m % 128+128)).toNat:Int)):=by
 have:=xG.or_ (f:=f) (h:=h) (L:=L) (ty:=ty) (T:=T) (yt:=yt) hx hy;have e:=a5B ⟨(UInt8.ofNat m).toNat,(UInt8.ofNat m).toNat_lt⟩;simp only at e;rw [e] at this;have e2:(UInt8.ofNat m).toNat % 128=m % 128:=by rw [xZ];omega
 rw [e2] at this;exact this
theorem xG.a7v {f:Fr}{ty T yt:TypeId}{x y:Operand}(m:Nat) (hx:ev S x=some (.int .u8 ((UInt8.ofNat m).toNat:Int))) (hy:ev S y=some (.int .u8 127)):xG f S h L (.binOp .and T x y yt) ty (.int .u8 ((UInt8.ofNat (m % 128)).toNat:Int)):=by
 have:=xG.N' (f:=f) (h:=h) (L:=L) (ty:=ty) (T:=T) (yt:=yt) 7 128 hx hy yD yD yD;have e2:((UInt8.ofNat m).toNat:Int) % 128=((UInt8.ofNat (m % 128)).toNat:Int):=by rw [xZ,xZ];omega
 rw [e2] at this;exact this
theorem QI {a:OA}{c:Nat}{l:LB}{n:Nat}(hn:n<9223372036854775808) (hb:l.length<=70368744177664) :
 Fn prog 240 [.slice a l.length c,.int .u64 n] h [.row a c 5 1 l.length (GO l)]
  (Cb λv _ Lo=>∃ a' c',v=.slice a' (l++G1 n).length c'/\Lo=[.row a' c' 5 1 (l++G1 n).length (GO (l++G1 n))]):=by
 have hp0:∀ k,n / 128 ^ (k+1)=n / 128 ^ k / 128:=λk=>by rw [zm,yh]
 have hp9:∀ k,9<=k->n / 128 ^ k=0:=λk hk=>by
  refine BP (zi (show n<128 ^ 9 by simp only [Nat.reducePow];omega) (yf yD hk))
 refine aQ func240 U ntmps240 U (λe he=>?_);refine ba [(0,_),(1,_)] y9 (Sr (Ru 1 U (aj (Sr (Ru 1 U (aj (aK (Sr (Ru 1 U (aA (xG.J3 128 U U yD yD yD) U (Ru 1 U (aj (aV (bU (λt_ S_ h_ L_=>∃ (k:Nat),t_=10-k/\S_=[(0,.slice a l.length c),(1,.int .u64 n),(5,.int .i64 k),(6,.int .u64 (n / 128 ^ (k+1):Nat))]/\h=h_/\L_=[.row a c 5 1 l.length (GO l)]/\(k<=9/\(k=0\/n / 128 ^ k≠0))) ⟨_,_,?_,⟨0,U,U,U,U,⟨by omega,.inl U⟩⟩⟩ ?_))))))))))))))
 ·exact IE
 rintro _ _ _ _ ⟨k,rfl,rfl,rfl,rfl,hk,HX⟩;have hq:=hp0 (k+1);have hq9:=hp9 (k+1);refine aK (Sr (Ru 2 U (aj (Cs U (λBy=>?_) λBy=>?_))))
 ·refine aO (aK (aV (Rg (Ru 1 U (aA Fc U (Ru 1 U (aj (Rg (Ru 1 U (aA (xG.J3 128 U U yD yD yD) U (Ru 1 U (aj (⟨_,?_,_,?_,⟨k+1,U,U,U,U,⟨by omega,.inr xE⟩⟩⟩)))))))))))))
  ·omega
  exact IE
 have hz0:n / 128 ^ (k+1)=0:=Nat.eq_zero_of_not_pos (λhh=>By (Int.natCast_pos.2 hh));refine bJ (aK (aV (bU (λt_ S_ h_ L_=>∃ (j:Nat) (out:LB) (a9:OA) (q:Nat),t_=j+1/\S_=[(0,.slice a9 out.length q),(1,.int .u64 n),(5,.int .i64 j)]/\h=h_/\L_=[.row a9 q 5 1 out.length (GO out)]/\(j<=9/\(j=0\/n / 128 ^ j≠0)/\out.length<=l.length+10-j/\out=l++O5 (n / 128 ^ (j+1)))) ⟨_,_,?_,⟨k,_,_,_,U,U,U,U,⟨by omega,by assumption,by omega,by rw [hz0,vu,Ak]⟩⟩⟩ ?_)))
 ·exact m61
 rintro _ _ _ _ ⟨j,out,a9,q,rfl,rfl,rfl,rfl,hj,P8,hol,he⟩;refine aK (Sr (Ru 2 U (aj (Cs U (λBO=>?_) λBO=>?_))))
 ·obtain⟨i,rfl⟩:∃ i,j=i+1:=⟨j-1,by omega⟩;have DW:=a8N n (i+1) hn xE;have hq:=hp0 i;refine aO (aK (aV (Rg (Ru 3 U (aA Oc U (aA (xG.shr U U xE (by show _<=((64:Nat):Int);omega)) U ?_))))));refine aA (xG.toByte (n / 128 ^ (i+1)) jE U (Tf n (i+1) _ xE)) U (aA (xG.a8k (n / 128 ^ (i+1)) U U) U (du tV a7F U U U U U (λb3=>?_)));refine di tV U U cJ U zW zW U (U) LD U U (λa4 c4 xs4 hC4 hN4=>?_);obtain rfl:=hC4.u8;refine Ru 1 U (aj (Rg (Ru 1 U (aA GP U (Ru 1 U (aj (⟨_,?_,_,?_,⟨i,_,_,_,U,U,U,U,⟨by omega,by omega,by simp;omega,by rw [DW,<- xW,<- he]⟩⟩⟩)))))))
  ·omega
  exact m61
 have P8:j=0:=xE;subst P8;refine bJ (Sr (Ru 2 U (aA (xG.toByte n jE U U) U (aA (xG.a7v n U U) U (du tV a7F U U U U U (λb5=>?_))))));refine di tV U U cJ U zW zW U (U) LD U U (λa6 c6 xs6 hC6 hN6=>?_);obtain rfl:=hC6.u8;refine Ru 1 U (Nk [4] U ?_);rw [a3g,<- xW,<- he];exact dm ⟨_,[_],_,(aW U U),.cons .here .nil,_,U,_,_,U,U⟩
theorem Td {s:LB}:Pure prog 342 [.string ⟨s.toArray⟩,.string ⟨#[46]⟩] h (.int .i64 (Go.Lib.indexByte s 46)) :=
 Pure.lib λw hw=>(Tryz.strings_Index_one ⟨s.toArray⟩ 46 w).mono λe w' ⟨he,hb⟩=>by
  subst hb;exact⟨he,Below.refl _ _⟩
theorem NS:AF prog 9=some none:=by kernel_rfl
theorem a6V:yH prog 309=true:=by kernel_rfl
theorem a6R:yH prog 342=true:=by kernel_rfl
theorem so {s sep:LB}{k:Int}:Fn prog 309 [.string ⟨s.toArray⟩,.string ⟨sep.toArray⟩,.int .i64 k] h [] (Cb λv h' Lo=>h'=h/\∃ b1 b2 b3,v=.func (.func 341) #[] #[.pointer (some ⟨b2,0,none⟩),.pointer (some ⟨b1,0,none⟩),.pointer (some ⟨b3,0,none⟩)] /\
 Lo=[.yY b3 3 [.int .i64 k],.yY b2 9 [.string ⟨sep.toArray⟩],.yY b1 9 [.string ⟨s.toArray⟩]]):=by
 refine aQ func309 U ntmps309 U (λe he=>?_);refine ba [(0,_),(1,_),(2,_)] y9 (Sr (JL.box U U U (λb1=>?_)));refine JL.box U U U (λb2=>?_);refine JL.box U U U (λb3=>?_);exact Ru 1 U (aj (Sr (aA (xG.makeFunc (os1:=[]) U U) U (Ru 1 U (Nk [6] U (dm ⟨_,[_,_,_],_,(aW U U),.cons .here (.cons .here (.cons .here .nil)),_,U,U,_,_,_,U,U⟩))))))
theorem tW {s sep:LB}:Fn prog 238 [.string ⟨s.toArray⟩,.string ⟨sep.toArray⟩] h [] (Cb λv h' Lo=>h'=h/\∃ b1 b2 b3,v=.func (.func 341) #[] #[.pointer (some ⟨b2,0,none⟩),.pointer (some ⟨b1,0,none⟩),.pointer (some ⟨b3,0,none⟩)] /\
 Lo=[.yY b3 3 [.int .i64 0],.yY b2 9 [.string ⟨sep.toArray⟩],.yY b1 9 [.string ⟨s.toArray⟩]]):=by
 refine aQ func238 U ntmps238 U (λe he=>?_);refine ba [(0,_),(1,_)] y9 (Sr (Ru 1 U (aj (Sr (Ru 2 U (cI a6V U (so) HC U ?_))))));rintro _ h1 Lo1 Gd ⟨rfl,b1,b2,b3,rfl,rfl⟩;exact Ru 1 U (Nk [4] U (dm ⟨_,[_,_,_],_,(aW U U),.cons .here (.cons .here (.cons .here .nil)),_,U,U,_,_,_,U,U⟩))
def OI (b2 b3 b4:Nat) (us:List UInt64) (L:LE):Prop:=∃ a c xs,(∀ h,yl C8 1 h xs us)/\L=[.yY b4 256 [.slice a us.length c],.row a c 213 1 us.length xs,.yY b2 22 [.slice none 0 0],.yY b3 34 [.int .i64 0]]
def a9K (b2 b3:Nat) (L:LE):Prop:=L=[.yY b2 22 [.slice none 0 0],.yY b3 34 [.int .i64 20]]
def PR (b2 b3 b4:Nat) (us:List UInt64) (s:LB) (h:Part) (b:Bool) (h':Part) (L:LE):Prop :=
 (b=true/\h'=h/\∃ v:UInt64,BT s=some v.toNat/\OI b2 b3 b4 (us++[v]) L)\/(b=false/\h'=h/\BT s=none/\a9K b2 b3 L)
theorem zO.app:∀ (A B:LE),zO A (A++B) B
 |[],_=>.nil
 |_::A,B=>.cons .here (zO.app A B)
theorem xx {r:Loop}(h1:r.state=.ready) (h2:r.pending=none):Loop.after r true=r:=by
 cases r;simp only at h1 h2;subst h1 h2;rfl
def ER (b2 b3 b4:Nat) (s:LB) (h:Part) (b:Bool) (h':Part) (L:LE):Prop :=
 (b=true/\h'=h/\∃ us:List UInt64,zj s []=some (us.map (·.toNat))/\us.length<=s.length+1/\OI b2 b3 b4 us L)\/(b=false/\h'=h/\zj s []=none/\a9K b2 b3 L)
theorem a2p {l b2 b3 b4 b5 b6 b7 p0:Nat}{r:Loop}{s:LB}(hp:r.params=#[p0]) (DW:r.state=.ready) (V8:r.pending=none) (hs:s.length<=100000000000)
 (V6:∀ (us:List UInt64) (t:LB) (a:OA) (c:Nat) (xs:LV),us.length<=100000000001->t.length<=100000000000->(∀ h,yl C8 1 h xs us) ->
  Rd prog l r (.string ⟨t.toArray⟩) h [.yY b4 256 [.slice a us.length c],.row a c 213 1 us.length xs,.yY b2 22 [.slice none 0 0],.yY b3 34 [.int .i64 0]] (PR b2 b3 b4 us t h)) :
 Fn prog 341 [.func (.yield l) #[] #[],.pointer (some ⟨b6,0,none⟩),.pointer (some ⟨b5,0,none⟩),.pointer (some ⟨b7,0,none⟩)] h
  (.obj l (.loop r)::[.yY b7 3 [.int .i64 0],.yY b6 9 [.string ⟨[46].toArray⟩],.yY b5 9 [.string ⟨s.toArray⟩],.yY b4 256 [.slice none 0 0],.row none 0 213 1 0 [],.yY b2 22 [.slice none 0 0],.yY b3 34 [.int .i64 0]])
  (Cb λ_ h' Lo=>∃ b Lo',Lo=.obj l (.loop (Loop.after r b))::Lo'/\ER b2 b3 b4 s h b h' Lo'):=by
 have hm:=Go.Lib.indexByte_ge;refine aQ func341 U ntmps341 U (λe he=>?_);refine ba [(0,_),(1,_),(2,_),(3,_)] y9 (aK (Sr (aA (aG NS U zV U) U (aA (xG.a2h xz U) U (Ru 1 U (aj (Cs U (λBy=>?_) λBy=>?_)))))))
 ·exfalso;simp at By
 refine aO (aK (aV (bU (λt_ S_ h_ L_=>∃ (us:List UInt64) (rest:LB) (a:OA) (c:Nat) (xs:LV),t_=rest.length+1/\S_=[(0,.func (.yield l) #[] #[]),(1,.pointer (some ⟨b6,0,none⟩)),(2,.pointer (some ⟨b5,0,none⟩)),(3,.pointer (some ⟨b7,0,none⟩))]/\h=h_/\L_=.obj l (.loop r)::[.yY b7 3 [.int .i64 0],.yY b6 9 [.string ⟨[46].toArray⟩],.yY b5 9 [.string ⟨rest.toArray⟩],.yY b4 256 [.slice a us.length c],.row a c 213 1 us.length xs,.yY b2 22 [.slice none 0 0],.yY b3 34 [.int .i64 0]]/\((∀ h,yl C8 1 h xs us)/\zj s []=(zj rest []).map (us.map (·.toNat)++·)/\us.length+rest.length<=s.length)) ⟨_,_,?_,⟨[],s,none,0,[],U,U,U,U,⟨λ_=>bQ,by simp,by simp⟩⟩⟩ ?_)))
 ·exact Du
 rintro _ _ _ _ ⟨us,rest,a,c,xs,rfl,rfl,rfl,rfl,KR,hng,hul⟩;have Va:=vH rest;have hmr:=hm rest 46;refine aV (Sr (aA (aG NS U zV U) U (aA (aG NS U zV U) U (cj a6R U (Td) U (Ru 1 U (aj (aK (Sr (Ru 2 U (aj (Cs U (λDv=>?_) λDv=>?_)))))))))))
 ·have U0:∀ c∈rest,c≠46:=(by rcases Va with hh|⟨k,_,hk,_⟩;exact hh.2;omega);have G4:=mB rest [] U0;rw [xP] at G4;refine bJ (Kp [0,2] U (J.Qt (JI.op (aY U) U (JI.op (aG NS U zV U) U (JI.yield U U zL HC (V6 us rest _ _ _ xE xE KR) U ?_)))));rintro _ h4 Lo4 Nt hRF;refine JI.of U (aj ?_)
  (rcases hRF with ⟨rfl,rfl,v,hv,hOI⟩|⟨rfl,rfl,hn,a6v⟩;exact⟨_,_,_,(df rfl),.cons .here (zO.app _ _),_,rfl,true,_,rfl,.inl ⟨rfl,rfl,us++[v],by rw [hng,G4,hv];simp,by simp;omega,hOI⟩⟩;exact⟨_,_,_,(df U),.cons .here (zO.app _ _),_,U,false,_,U,.inr ⟨U,U,by rw [hng,G4,hn];rfl,a6v⟩⟩)
 obtain⟨k,hk1,hk2,hk3,hk4⟩:∃ k,k<rest.length/\Go.Lib.indexByte rest 46=(k:Int)/\rest=rest.take k++46::rest.drop (k+1)/\∀ c∈rest.take k,c≠46:=(by rcases Va with ⟨hh,_⟩|hh;omega;exact hh);rw [hk2] at Dv;rw [hk2];have Ge:=nB (rest.take k) [] (rest.drop (k+1)) hk4;rw [<- hk3,xP] at Ge;refine aO (Sr (aA (aG NS U zV U) U (Ru 1 U (aA (aG fN U zV U) U (aA Fc U (aA (xG.MS (m:=k) xz U U xE xE) U (Ru 1 U (aj (aK (aK (J.Qt (JI.op (aY U) U (JI.op (aY U) U (JI.yield U U zL HC (V6 us (rest.take k) _ _ _ xE (by simp;omega) KR) U ?_))))))))))))));rintro _ h5 Lo5 Mh hR;refine JI.of U (Ru 1 U (aj (Cs U (λLj=>?_) λLj=>?_)))
 ·obtain⟨rfl,rfl,hn,a6v⟩:=hR.resolve_left (λhh=>by rw [hh.1] at Lj;cases Lj);exact dm ⟨_,_,_,(df U),.cons .here (zO.app _ _),_,U,false,_,U,.inr ⟨U,U,by rw [hng,Ge,hn];rfl,a6v⟩⟩
 obtain⟨rfl,rfl,v,hv,xa,xc,xxs,b0y,rfl⟩:=hR.resolve_right (λhh=>by rw [hh.1] at Lj;cases Lj);rw [xx DW V8];refine aO (Rg (aA (aG NS U zV U) U (Ru 1 U (aA (aG NS U zV U) U (aA (xG.a2h xz U) U (aA (xG.Mr (p:=(k:Int)) (q:=1) U U xE xE) U (aA (xG.JC (m:=k+1) xz U U xE xE) U (bj NS U U U zW iR (JL.Hx (.obj l (.loop r)::[.yY b7 3 [.int .i64 0],.yY b6 9 [.string ⟨[46].toArray⟩],.yY b5 9 [.string ⟨(rest.drop (k+1)).toArray⟩],.yY b4 256 [.slice xa (us++[v]).length xc],.row xa xc 213 1 (us++[v]).length xxs,.yY b2 22 [.slice none 0 0],.yY b3 34 [.int .i64 0]]) HC (aj (⟨_,?_,_,?_,⟨us++[v],rest.drop (k+1),_,_,_,U,U,U,U,⟨b0y,by rw [hng,Ge,hv];simp [SR],by simp;omega⟩⟩⟩)))))))))))
 ·simp;omega
 exact Du
def G2 (P:Program) (e:Env) (m:Nat) (fn:Func) (R:Ending->World->Prop) (d:Deferred) (u:FrameMode):yF:=λS h L=>∀ a w,Sat e m S h L a w->Leaves P fn a.tmps R [d] u w
def GN (w0:World) (h:Part) (Li:LE) (R:Ending->Part->LE->Prop):Ending->World->Prop:=λe w'=>∃ h' Lo,R e h' Lo/\Ok ⟨w0,(·∈keys Li),h,[]⟩ h' Lo w'
theorem Ok.ds {e:Env}(k:Ok e h L w) (ds:List Deferred):Ok { e with ds:=ds } h L w:=⟨k.os,k.tape,k.output,k.size,k.M1,k.sub,k.le,k.fresh,k.own,k.key,k.nodup⟩
theorem Fn.Yk {F m D t5 id:Nat}{fn:Func}{r0 rest:Code}{a3':Array Operand}{ty ty':TypeId}{pos pos':String}{af af':Array Edge}{args:LV}{Li:LE}{R:Ending->Part->LE->Prop}
 (hf:P.funcs[F]?=some fn) (hb:fn.body=some (.seq r0 (.seq (.region id #[⟨some t5,.makeFunc (.func D) #[] a3',ty,pos,af,none⟩,⟨none,.defer { callee:=.value (.tmp t5),args:=#[],argTypes:=#[] },ty',pos',af',none⟩] false) rest)))
 (hm:fn.ntmps=m) (hl:Nat.ble args.length m=true) (ht:Nat.blt t5 m=true)
 (k:∀ w0,J ⟨P,⟨w0,(·∈keys Li),h,[]⟩,m,λ_ _ _=>False,λ_ _ _ _=>False⟩ r0
  (λS1 h1 L1=>∃ vs,FY S1 a3'.toList=some vs /\
   J ⟨P,⟨w0,(·∈keys Li),h,[⟨.fn (.func D) vs.toArray,#[]⟩]⟩,m,G2 P ⟨w0,(·∈keys Li),h,[⟨.fn (.func D) vs.toArray,#[]⟩]⟩ m fn (GN w0 h Li R) ⟨.fn (.func D) vs.toArray,#[]⟩ .returning,
    λc=>G2 P ⟨w0,(·∈keys Li),h,[⟨.fn (.func D) vs.toArray,#[]⟩]⟩ m fn (GN w0 h Li R) ⟨.fn (.func D) vs.toArray,#[]⟩ (.panicking c)⟩ rest
    (G2 P ⟨w0,(·∈keys Li),h,[⟨.fn (.func D) vs.toArray,#[]⟩]⟩ m fn (GN w0 h Li R) ⟨.fn (.func D) vs.toArray,#[]⟩ .returning) Ei ((t5,.func (.func D) #[] vs.toArray)::S1) h1 L1) Ei (AL 0 args) h Li):Fn P F args h Li R:=λw hw=>by
 have Kt:args.length<=m:=by simpa using hl
 refine calls_of_wp_defers hf hb ?_;have hs:Sat ⟨w,(·∈keys Li),h,[]⟩ m (AL 0 args) h Li ⟨args.toArray++Array.replicate (fn.ntmps-args.toArray.size) undef,[]⟩ w:=by
  exact m205
 refine wp_seq (LG (k w _ w hs) (λex a' w' q=>?_));cases ex with
 |normal =>
  obtain⟨S1,h1,L1,s1,vs,hvs,k1⟩:=q;show Code.wp P _ _ a' w';refine wp_seq ?_;have b0X:a3'.map a'.eval=vs.toArray:=by
   have:=dI s1 hvs;rw [<- this];apply Jz;simp
  have b0H:=wp_region_lit (P:=P) (id:=id) (Q:=Exit.then (λa2 w2=>rest.wp P (bodyPostD P fn (GN w h Li R)) a2 w2) (bodyPostD P fn (GN w h Li R))) (a:=a') (w:=w')
   (l:=[⟨some t5,.makeFunc (.func D) #[] a3',ty,pos,af,none⟩,⟨none,.defer { callee:=.value (.tmp t5),args:=#[],argTypes:=#[] },ty',pos',af',none⟩]) ?_
  ·exact b0H
  ·refine cx (v:=.func (.func D) #[] vs.toArray) (w':=w') U ?_ ?_
   ·simp [execOp,Instr.makeFunc,b0X]
   ·unfold wpList;rw [xD (by simp [Region.wanted])];refine .inl ?_;have s2:=s1.put ht (.func (.func D) #[] vs.toArray) s1.ok;have ht5:(a'.put (some t5) (.func (.func D) #[] vs.toArray)).eval (.tmp t5)=.func (.func D) #[] vs.toArray:=s2.eval (x:=.tmp t5) (by simp [ev,look]);have hr:(execOp (a'.put (some t5) (.func (.func D) #[] vs.toArray)).eval ⟨none,.defer { callee:=.value (.tmp t5),args:=#[],argTypes:=#[] },ty',pos',af',none⟩).run P w'=.ok (.defer ⟨.fn (.func D) vs.toArray,#[]⟩) w':=by
     simp [execOp,resolve,ht5,Deferred.ofValue]
    simp only [Oper.wp,hr,Oper.upon];unfold wpList;show Code.wp P rest _ _ w';have s3:Sat ⟨w,(·∈keys Li),h,[⟨.fn (.func D) vs.toArray,#[]⟩]⟩ m ((t5,.func (.func D) #[] vs.toArray)::S1) h1 L1 ({ a'.put (some t5) (.func (.func D) #[] vs.toArray) with defers:=⟨.fn (.func D) vs.toArray,#[]⟩::(a'.put (some t5) (.func (.func D) #[] vs.toArray)).defers }.put none undef) w':=by
     exact⟨by simpa [Act.put] using s2.size,λs v hv=>by simpa [Act.put] using s2.slot s v hv,by have:=s2.ds;simpa [Act.put] using this,s2.ok.ds _⟩
    refine LG (k1 _ _ s3) (λex2 a2 w2 q2=>?_);cases ex2 with
    |normal=>obtain⟨S,h',L',s',hh⟩:=q2;have:=hh _ _ s';have e1:=s'.ds;simp only [bodyPostD,e1];exact this
    |ret=>obtain⟨S,h',L',s',hh⟩:=q2;have:=hh _ _ s';have e1:=s'.ds;simp only [bodyPostD,e1];exact this
    |panic c=>obtain⟨S,h',L',s',hh⟩:=q2;have:=hh _ _ s';have e1:=s'.ds;simp only [bodyPostD,e1];exact this
    |exit i=>obtain⟨_,_,_,_,hh⟩:=q2;exact hh.1.elim
    |goto l=>obtain⟨_,_,_,_,hh⟩:=q2;exact hh.elim
    |outgrown=>exact False.elim q2
 |ret=>obtain⟨_,_,_,_,hh⟩:=q;exact hh.elim
 |panic c=>obtain⟨_,_,_,_,hh⟩:=q;exact hh.elim
 |exit i=>obtain⟨_,_,_,_,hh⟩:=q;exact hh.1.elim
 |goto l=>obtain⟨_,_,_,_,hh⟩:=q;exact hh.elim
 |outgrown=>exact False.elim q
theorem J.a5y {e:Env}{m:Nat}{r:yF}{p:List PanicEntry->yF}{c:Code}{n:yF}{x:Nat->yF}(k:J ⟨P,e,m,r,λ_ _ _ _=>False⟩ c n x S h L):J ⟨P,e,m,r,p⟩ c n x S h L:=λa w s =>
 LG (k a w s) (λex a' w' q=>by
  cases ex with
  |panic c=>obtain⟨_,_,_,_,hh⟩:=q;exact hh.elim
  |_=>exact q)
inductive a7C:FrameMode->Value->FrameMode->Prop where
 |none:a7C .returning .nilIface .returning
 |some {v:Value}:a7C (.panicking [{ v:=v,recovered:=false }]) v (.panicking [{ v:=v,recovered:=true }])
variable{vs:LV}{x:Value}
theorem iG {D id t3 t2 m:Nat}{fn:Func}{rest:Code}{ty ty':TypeId}{pos pos':String}{af af':Array Edge}{e:Env}{u u':FrameMode}{post:yF}
 (hf:P.funcs[D]?=some fn) (hb:fn.body=some (.seq (.region id #[⟨some t3,.call { callee:=.builtin .recover,args:=#[],argTypes:=#[] },ty,pos,af,none⟩,⟨some t2,.assign (.tmp t3),ty',pos',af',none⟩] false) rest))
 (hm:fn.ntmps=m) (hr:fn.results=#[]) (hl:Nat.ble vs.length m=true) (ht3:Nat.blt t3 m=true) (ht2:Nat.blt t2 m=true) (hu:a7C u x u')
 (ok:Ok e h L w) (he:e.ds=[])
 (k:J ⟨P,e,m,λ_ _ _=>False,λ_ _ _ _=>False⟩ rest post Ei ((t2,x)::(t3,x)::AL 0 vs) h L) :
 CallsD P D vs.toArray u w (λe1 u1 w1=>(∃ v,e1=.returned v)/\u1=u'/\∃ S h1 L1,post S h1 L1/\Ok e h1 L1 w1):=by
 have Kt:vs.length<=m:=by simpa using hl
 refine callsD_of_wpS hf hb (λUs cs hc=>wpS_seq (wpS_region ?_));have s0:Sat e m (AL 0 vs) h L ⟨vs.toArray++Array.replicate (fn.ntmps-vs.toArray.size) undef,[]⟩ w:=by
  refine⟨by simp [hm];omega,λs v hv=>?_,by simp [he],ok⟩;exact m34
 generalize (⟨vs.toArray++Array.replicate (fn.ntmps-vs.toArray.size) undef,[]⟩:Act)=a0 at s0 |-
 have s1:=s0.put ht3 x s0.ok;have s2:=s1.put ht2 x s1.ok;have hx:(a0.put (some t3) x).eval (.tmp t3)=x:=s1.eval (x:=.tmp t3) (by simp [ev,look]);have fin:∀ Da,Da={ Us with mode:=u' }::cs->rest.wpS P (bodyPostS P fn Us cs (λe1 u1 w1=>(∃ v,e1=.returned v)/\u1=u'/\∃ S h1 L1,post S h1 L1/\Ok e h1 L1 w1)) ((a0.put (some t3) x).put (some t2) x) Da w:=λDa Dk=>by
  refine wpS_of_wp (LG (k _ _ s2) (λex a' w' q=>?_));cases ex with
  |normal =>
   obtain⟨S,h1,L1,s',hh⟩:=q;have hd:=s'.ds;simp only at hd;exact⟨by rw [hd,he],u',Dk,.tuple #[],results_none hr _ _ _,⟨_,U⟩,U,S,h1,L1,hh,s'.ok⟩
  |ret=>obtain⟨_,_,_,_,hh⟩:=q;exact hh.elim
  |panic c=>obtain⟨_,_,_,_,hh⟩:=q;exact hh.elim
  |exit i=>obtain⟨_,_,_,_,hh⟩:=q;exact hh.1.elim
  |goto l=>obtain⟨_,_,_,_,hh⟩:=q;exact hh.elim
  |outgrown=>exact False.elim q
 have hex:∀ a:Act,(execOp a.eval ⟨some t3,.call { callee:=.builtin .recover,args:=#[],argTypes:=#[] },ty,pos,af,none⟩).run P w=.ok .recover w:=λa=>by
  simp [execOp,resolve,invoke,builtin]
 have a8Q:(execOp (a0.put (some t3) x).eval ⟨some t2,.assign (.tmp t3),ty',pos',af',none⟩).run P w=.ok (.value x) w:=by simp [execOp,hx]
 show wpOpsS P _ _ [0,1] a0 (Us::cs) w;cases hu with
 |none =>
  have a6c:recoverD (Us::cs)=none:=by simp [recoverD,hc]
  simp only [wpOpsS,FA,ze,Ab,Region.wanted,hex,a6c,a8Q,Oper.upon,if_true];exact fin _ (by rw [<- hc])
 |some =>
  have a6c:recoverD (Us::cs)=some (x,{ Us with mode:=.panicking [{ v:=x,recovered:=true }] }::cs):=by simp [recoverD,hc]
  simp only [wpOpsS,FA,ze,Ab,Region.wanted,hex,a6c,a8Q,Oper.upon,if_true];exact fin _ U
section
variable {f:Fr}{n:yF}{x:Nat->yF}{S:AH}{h h0:Part}{L L0:LE}{ops:Array Oper}{fuel d:Nat}{listed:Array Bool}
variable {q:Op}{ty:TypeId}{pos:String}{af:Array Edge}{v:Value}{j dj:Nat}{b:Bool}
theorem JH.a8a (hp:∀ c S h L,f.p c S h L->f.p c [] h L) {c:_}(a:Act) (w:World) (hq:f.Q n x (.panic c) (a.put (some d) v) w):f.Q n x (.panic c) a w:=by
 exact m71
theorem JH.a7P (i:Nat) (hi:ops[i]?=some ⟨some d,q,ty,pos,af,some (j,b)⟩) (hj:(ops[j]?).bind (·.dst)=some dj) (O3:look S dj=some (.bool b)) (hs:Region.noSelect ops=true) (hf:Region.free .any ops listed i=true) (hr:(Region.ready .any ops listed).contains i=true)
 (hp:∀ c S h L,f.p c S h L->f.p c [] h L) (hb:∀ w,Ok f.e h L w->Ok f.e h0 L0 w) (r:xG f S h0 L0 q ty v) (hd:Nat.blt d f.m=true) (k:JH f ops n x h0 L0 fuel (listed.setIfInBounds i true) ((d,v)::S) h L) :
 JH f ops n x h0 L0 (fuel+1) listed S h L:=λa w s=>by
 refine wpAnyH_take (v:=v) hi hs hf hr (λc a w hq=>JH.a8a hp a w hq) ?_ (hb w s.ok) (k _ w (s.put hd v s.ok));exact .inl ⟨by simp [Region.wanted,cZ s hj O3],λw' Mc=>r a w' (s.with Mc) _ _ _ _⟩
theorem JH.skip (i:Nat) (hi:ops[i]?=some ⟨some d,q,ty,pos,af,some (j,b)⟩) (hj:(ops[j]?).bind (·.dst)=some dj) (O3:look S dj=some (.bool (!b))) (hs:Region.noSelect ops=true) (hf:Region.free .any ops listed i=true) (hr:(Region.ready .any ops listed).contains i=true)
 (hp:∀ c S h L,f.p c S h L->f.p c [] h L) (hb:∀ w,Ok f.e h L w->Ok f.e h0 L0 w) (hd:Nat.blt d f.m=true) (k:JH f ops n x h0 L0 fuel (listed.setIfInBounds i true) ((d,undef)::S) h L) :
 JH f ops n x h0 L0 (fuel+1) listed S h L:=λa w s=>by
 refine wpAnyH_take (v:=undef) hi hs hf hr (λc a w hq=>JH.a8a hp a w hq) ?_ (hb w s.ok) (k _ w (s.put hd undef s.ok));exact .inr ⟨by simp [Region.wanted,cZ s hj O3],U⟩
theorem Bh (t:Nat) {c:Bool}{p r:Prop}(ht:look S t=some (.bool c)) [s:Sp c p r] (k1:p->JH f ops n x h0 L0 fuel listed ((t,.bool true)::S) h L) (k2:r->JH f ops n x h0 L0 fuel listed ((t,.bool false)::S) h L):JH f ops n x h0 L0 fuel listed S h L:=λa w s2=>by
 cases hb:c with
 |true=>exact k1 (s.t hb) a w (s2.bool ht hb)
 |false=>exact k2 (s.f hb) a w (s2.bool ht hb)
end
section
variable {f:Fr}{n:yF}{x:Nat->yF}{S:AH}{h h0:Part}{L L0:LE}{ops:Array Oper}{fuel d:Nat}{listed:Array Bool}{q:Op}{ty:TypeId}{pos:String}{af:Array Edge}{v:Value}{o:Oper}{j dj:Nat}{b:Bool}
theorem TG (i:Nat) (hi:ops[i]?=some ⟨some d,q,ty,pos,af,some (j,b)⟩) (hj:(ops[j]?).bind (·.dst)=some dj) (O3:look S dj=some (.bool b)) (r:xG f S h0 L0 q ty v) (k:JH f ops n x h0 L0 fuel (listed.setIfInBounds i true) ((d,v)::S) h L) (hb:∀ w,Ok f.e h L w->Ok f.e h0 L0 w:=by exact Dr zL) (hs:Region.noSelect ops=true:=by kernel_rfl) (hf:Region.free .any ops listed i=true:=by kernel_rfl) (hr:(Region.ready .any ops listed).contains i=true:=by kernel_rfl) (hp:∀ c S h L,f.p c S h L->f.p c [] h L:=by exact λ_ _ _ _ hh=>hh) (hd:Nat.blt d f.m=true:=by rfl):JH f ops n x h0 L0 (fuel+1) listed S h L:=JH.a7P i hi hj O3 hs hf hr hp hb r hd k
theorem Ts (i:Nat) (hi:ops[i]?=some ⟨some d,q,ty,pos,af,some (j,b)⟩) (hj:(ops[j]?).bind (·.dst)=some dj) (O3:look S dj=some (.bool (!b))) (k:JH f ops n x h0 L0 fuel (listed.setIfInBounds i true) ((d,undef)::S) h L) (hb:∀ w,Ok f.e h L w->Ok f.e h0 L0 w:=by exact Dr zL) (hs:Region.noSelect ops=true:=by kernel_rfl) (hf:Region.free .any ops listed i=true:=by kernel_rfl) (hr:(Region.ready .any ops listed).contains i=true:=by kernel_rfl) (hp:∀ c S h L,f.p c S h L->f.p c [] h L:=by exact λ_ _ _ _ hh=>hh) (hd:Nat.blt d f.m=true:=by rfl):JH f ops n x h0 L0 (fuel+1) listed S h L:=JH.skip i hi hj O3 hs hf hr hp hb hd k
end
theorem e_:AF prog 213=some none:=by kernel_rfl
theorem dG:AF prog 256=some none:=by kernel_rfl
theorem lw:AF prog 34=some none:=by kernel_rfl
theorem iP:Mq prog 256=some (213,1,8):=by kernel_rfl
theorem a77:yH prog 238=true:=by kernel_rfl
theorem a74:yH prog 239=true:=by kernel_rfl
theorem ZX:yH prog 240=true:=by kernel_rfl
theorem dk:Ig prog 256=some (213,1):=by kernel_rfl
theorem n_:CH prog 213=some [.int .u64 0]:=by kernel_rfl
theorem a7G:CH prog 22=some [.slice none 0 0]:=by kernel_rfl
theorem a4l:CH prog 256=some [.slice none 0 0]:=by kernel_rfl
theorem a3o:CH prog 34=some [.int .i64 0]:=by kernel_rfl
theorem Lw.H0 {m:Nat}{S S':AH}{t:Array Value}(k:Lw m S t) (hw:IB S' S):Lw m S' t:=⟨k.1,λs v hv=>k.2 s v (hw.look hv)⟩
theorem RA:∀ (f n:Nat),(Ny f n).length<=f
 |0,_=>by simp [Ny]
 |f+1,n=>by
  rw [Ny];split
  ·simp
  ·have:=RA f (n / 128);simp;omega
theorem pV (n:Nat):(G1 n).length<=11:=by
 have:=RA 10 (n / 128);unfold G1 O5;simp;omega
theorem tx (a b:List Nat):enc (a++b)=enc a++enc b:=by
 induction a with
 |nil=>rfl
 |cons x r ih=>simp only [xX,enc,ih,xW]
theorem Z_ (a:List Nat):(enc a).length<=11*a.length:=by
 induction a with
 |nil=>simp [enc]
 |cons x r ih=>have:=pV x;simp only [enc,aF,aw];omega
theorem QP {s:LB}{v:Nat}(h:BT s=some v):v<9223372036854775808:=by
 unfold BT at h;split at h
 ·cases h
 ·exact m177
theorem gZ:∀ (s cur:LB) (l:List Nat),zj s cur=some l->∀ x∈l,x<9223372036854775808
 |[],cur,l,h,x,hx=>by
  rw [zj,zl] at h;obtain⟨v,hv,rfl⟩:=h;simp at hx;subst hx;exact QP hv
 |c::r,cur,l,h,x,hx=>by
  rw [zj] at h;split at h
  ·split at h
   ·cases h
   ·rename_i n hn;rw [zl] at h;obtain⟨l',Kt,rfl⟩:=h;rcases zE.1 hx with rfl|hx
    ·exact QP hn
    ·exact gZ r [] l' Kt x hx
  ·exact gZ r _ l h x hx
def OR_ (s:LB):Value->Part->Prop:=λv h'=>∃ a c,v=.tuple #[.slice a ((Ai s).getD []).length c,.int .i64 (if(Ai s).isSome then 0 else 20)]/\A3 DJ 1 h' a c ((Ai s).getD [])
theorem WL {l D fn q2 q3 q4:Nat}{tmps:Array Value}(ht:Lw 79 [(2,.pointer (some ⟨q2,0,none⟩)),(3,.pointer (some ⟨q3,0,none⟩)),(4,.pointer (some ⟨q4,0,none⟩))] tmps) {A B:Code}{r0 r1 r2 rest:Code}{g:Operand}
 (a8U:Tryz.f151.body=some (.seq r0 (.seq r1 (.seq (.seq r2 (.block 0 (.rangeFunc g #[13] A B))) rest))))
 (us:List UInt64) (t:LB) (a:OA) (c:Nat) (xs:LV) (hus:us.length<=100000000001) (htl:t.length<=100000000000) (KR:∀ h,yl C8 1 h xs us) :
 Rd prog l (Loop.new fn tmps #[13] A B D) (.string ⟨t.toArray⟩) h [.yY q4 256 [.slice a us.length c],.row a c 213 1 us.length xs,.yY q2 22 [.slice none 0 0],.yY q3 34 [.int .i64 0]] (PR q2 q3 q4 us t h):=by
 have BO:=a8U;unfold Tryz.f151 at BO;simp only [au,Code.seq.injEq,Code.block.injEq,Code.rangeFunc.injEq] at BO;obtain⟨-,-,⟨-,-,-,-,hA,hB⟩,-⟩:=BO;have hx1:=KR h;have hnl:=a1X t;refine Rd.intro (m:=79) hA.symm hB.symm U U U U ht (λe he=>⟨λS1 _ _=>S1=[(5,.string ⟨t.toArray⟩),(13,.string ⟨t.toArray⟩),(2,.pointer (some ⟨q2,0,none⟩)),(3,.pointer (some ⟨q3,0,none⟩)),(4,.pointer (some ⟨q4,0,none⟩))],?_,?_⟩)
 ·exact JR.region U (aA (xG.assign U) U (aj ⟨U,U,U⟩))
 ·rintro _ rfl;refine JR.block (JR.sr U (Ru 1 U (cj a74 U (wU xE) U (Ru 5 U (JR.nk [7,6,2,3,4] U (JR.seq (JR.sr U (Ru 2 U (aj (JR.cs U (λBO=>?_) λBO=>?_))))))))))
  ·have P4:BT t=none:=TJ (v:=(E6 t).1) (Prod.ext U (by simpa using BO));exact JR.sr U (bj eD U U U zW iR (bj lw U U U zW iR (aj (JR.ret ⟨[.yY q2 22 [.slice none 0 0],.yY q3 34 [.int .i64 20]],_,HC,.inr ⟨U,U,P4,U⟩⟩))))
  have P4:BT t=some (E6 t).1:=TI (Prod.ext U (by simpa using BO));have V5:(UInt64.ofNat (E6 t).1).toNat=(E6 t).1:=(by rw [UInt64.toNat_ofNat'];omega);refine JR.skip (JR.kp [6,4] U (JR.region U (aA (aG dG U zV U) U (Ru 1 U (du iP n_ U U U U U (λb3=>?_))))));refine di iP U U zL U zW zW U ((show C8 _ [.int .u64 ((E6 t).1:Nat)] (UInt64.ofNat (E6 t).1) by unfold C8;rw [V5])) LD U U (λa4 c4 xs4 hC4 hN4=>?_);exact bj dG U U U zW iR (aj (⟨[.yY q4 256 [_],.row _ _ 213 1 _ _,.yY q2 22 [.slice none 0 0],.yY q3 34 [.int .i64 0]],_,HC,.inl ⟨U,U,UInt64.ofNat (E6 t).1,by rw [P4,V5],_,_,_,λ_=>hC4,U⟩⟩))
theorem TF {s:LB}(hs:s.length<=100000000000):F1 prog 151 [.string ⟨s.toArray⟩] h (OR_ s):=by
 refine Fn.a67 (m:=79) func151 U ntmps151 U (λw0=>?_);refine JG.seq (J.region (bp a7G U (λq2=>?_)));refine bp a3o U (λq3=>?_);refine aj (JG.seq (J.region (bp a4l U (λq4=>?_))));refine dh 213 1 (aj (JG.split (JG.seq (J.region (Ru 1 U (cI a77 U (tW (s:=s) (sep:=[46])) HC U ?_))))));rintro _ h1 Lo1 Gd ⟨rfl,q5,q6,q7,rfl,rfl⟩;refine aj (JG.block (JG.range (lb:=[.pointer (some ⟨q6,0,none⟩),.pointer (some ⟨q5,0,none⟩),.pointer (some ⟨q7,0,none⟩)]) U cq U (λD l fn tmps ht=>⟨[.yY q7 3 [.int .i64 0],.yY q6 9 [.string ⟨[46].toArray⟩],.yY q5 9 [.string ⟨s.toArray⟩],.yY q4 256 [.slice none 0 0],.row none 0 213 1 0 [],.yY q2 22 [.slice none 0 0],.yY q3 34 [.int .i64 0]],[],ER q2 q3 q4 s h1,HC,?_,?_,?_⟩)))
 ·exact a2p U U U hs (λus t a c xs h2 h3 h4=>WL (ht.H0 y9) U us t a c xs h2 h3 h4)
 ·rintro h2 Lo zH hE;obtain⟨-,rfl,us,hng,hul,ua,uc,uxs,b0B,rfl⟩:=hE.resolve_right (λhh=>by cases hh.1);refine JN.yY (JG.ofJ ?_);have IV:Ai s=if Fp (us.map (·.toNat)) then some (enc ((40*(us.map (·.toNat)).getD 0 0+(us.map (·.toNat)).getD 1 0)::(us.map (·.toNat)).drop 2)) else none:=by unfold Ai;rw [hng]
  by_cases hu2:us.length<2
  ·have hz:Ai s=none:=by rw [IV,xC];unfold Fp;rw [ah (by simp;omega),A5];decide
   refine aK (Sr (aA (aG dG U zV U) U (Ru 3 U (Bs 28 U (λBy=>?_) λBy=>?_))))
   rotate_left
   ·exfalso;omega
   exact Ru 29 U (Nk [57,2,3,4] U (bP U (Sr (bj eD U U U zW iR (bj lw U U U zW iR (aj (dm ⟨_,_,[],_,by repeat (first|exact Dt.here|apply Dt.there),(B7.Mo U U eD zV U lw zV),.nil,_,U,U,none,0,by rw [hz];rfl,by rw [hz];exact bA⟩)))))))
  ·obtain⟨x,y,t,rfl⟩:∃ x y t,us=x::y::t:=by
    match us,hu2 with
    |x::y::t,_=>exact⟨x,y,t,U⟩
    |[],hh=>exact absurd (by simp) hh
    |[_],hh=>exact absurd (by simp) hh
   have O2:=x.toNat_lt;have hyl:=y.toNat_lt;have htl:t.length<=100000000000:=by simp at hul;omega
   have hx0:(x::y::t)[0]=x:=rfl;have hy1:(x::y::t)[1]=y:=rfl;have hnl:((x::y::t).length:Int)=t.length+2:=by simp;omega
   have zt:Fp ((x::y::t).map (·.toNat))=decide ((x.toNat=2/\y.toNat<9223372036854775728)\/(x.toNat<2/\y.toNat<40)):=by
    unfold Fp;rw [ae (by simp),xQ,<- Bool.decide_or];rfl
   rw [zt] at IV;refine J.LZ (R:=C8) (l:=x::y::t) zW (b0B _) U (by simp;omega) (λh9 FT hU=>?_);refine J.Hx [.obj D (.deferred (some [])),.yY q4 256 [.slice ua (x::y::t).length uc],.yY q2 22 [.slice none 0 0],.yY q3 34 [.int .i64 0]] HC (aK (aK (J.meet [(57,.bool (decide (¬ ((x.toNat=2/\y.toNat<9223372036854775728)\/(x.toNat<2/\y.toNat<40)))))] [(2,_),(3,_),(4,_)] y9 ?_ ?_)))
   ·refine Rg (aA (aG dG U zV U) U (Ru 3 U (Bs 28 U (λBy=>?_) λBy=>?_)))
    ·exfalso;(rw [hnl] at By;omega)
    refine bz U U  (aG dG U zV U) U (JL.FM U U  (aX dk U U (show _=((0:Nat):Int) from rfl) zL U xE) U ?_);rintro _ ⟨b2,o2,J8,rfl,hE2⟩;refine bz U U  (bG (y:=x) e_ U zL) U (Ru 3 U (Bs 34 U (λDv=>?_) λDv=>?_))
    ·refine Ru 23 U (aj (⟨U,U,?_⟩));exact z7_
    refine bz U U  (aG dG U zV U) U (JL.FM U U  (aX dk U U (show _=((0:Nat):Int) from rfl) zL U xE) U ?_);rintro _ ⟨b4,o4,hi4,rfl,hE4⟩;refine bz U U  (bG (y:=x) e_ U zL) U (Ru 2 U (Bs 39 U (λPa=>?_) λPa=>?_))
    ·refine bz U U  (aG dG U zV U) U (JL.FM U U  (aX dk U U (show _=((1:Nat):Int) from rfl) zL U xE) U ?_);rintro _ ⟨b6,o6,hi6,rfl,hE6⟩;refine bz U U  (bG (y:=y) e_ U zL) U (Ru 4 U (Bs 46 U (λP'=>?_) λP'=>?_))
     ·refine Ru 11 U (aj (⟨U,U,?_⟩));exact z7_
     refine bz U U  (aG dG U zV U) U (JL.FM U U  (aX dk U U (show _=((0:Nat):Int) from rfl) zL U xE) U ?_);rintro _ ⟨b8,o8,hi8,rfl,hE8⟩;refine bz U U  (bG (y:=x) e_ U zL) U (Ru 2 U (Bs 51 U (λU6=>?_) λU6=>?_))
     ·refine bz U U  (aG dG U zV U) U (JL.FM U U  (aX dk U U (show _=((1:Nat):Int) from rfl) zL U xE) U ?_);rintro _ ⟨b10,o10,b0T,rfl,b1i⟩;exact m172
     refine Ru 6 U (aj (⟨U,U,?_⟩));exact z7_
    refine Ru 7 U (bz U U  (aG dG U zV U) U (JL.FM U U  (aX dk U U (show _=((0:Nat):Int) from rfl) zL U xE) U ?_));rintro _ ⟨b11,o11,a6j,rfl,a6u⟩;refine bz U U  (bG (y:=x) e_ U zL) U (Ru 2 U (Bs 51 U (λPd=>?_) λPd=>?_))
    ·refine bz U U  (aG dG U zV U) U (JL.FM U U  (aX dk U U (show _=((1:Nat):Int) from rfl) zL U xE) U ?_);rintro _ ⟨b13,o13,b0S,rfl,b1h⟩;exact m172
    refine Ru 6 U (aj (⟨U,U,?_⟩));exact z7_
   refine Cs U (λKS=>?_) λKS=>?_
   ·have hz:Ai s=none:=(by rw [IV,ah KS];rfl);exact Sr (bj eD U U U zW iR (bj lw U U U zW iR (aj (dm ⟨_,_,[],_,by repeat (first|exact Dt.here|apply Dt.there),(B7.Mo U U eD zV U lw zV),.nil,_,U,U,none,0,by rw [hz];rfl,by rw [hz];exact bA⟩))))
   obtain⟨nv,hnv⟩:∃ nv,nv=40*x.toNat+y.toNat:=⟨_,U⟩;have hz:Ai s=some (enc (nv::t.map (·.toNat))):=(by rw [IV,ae xE,hnv];rfl);refine aO (aK (J.held ([.yY q4 256 [.slice ua (x::y::t).length uc]]) 10 dY U (λCR=>?_)));refine Tk 0 U (aG dG U zV U) (Te 1 U (aX dk U U (show _=((0:Nat):Int) from rfl) zL U xE) ?_);rintro _ ⟨b15,o15,b0R,rfl,b1g⟩;refine Tk 2 U (bG (y:=x) e_ U zL) (Tk 3 U (xG.M7 U U xE xE) (Tk 4 U (aG dG U zV U) (Te 5 U (aX dk U U (show _=((1:Nat):Int) from rfl) zL U xE) ?_)));rintro _ ⟨b16,o16,U3,rfl,b2x⟩;refine Tk 6 U (bG (y:=y) e_ U zL) (Tk 7 U (xG.Jd U U xE xE) (Ta 8 U ?_));unfold One;refine dh 5 1 ?_;rw [show(40:Int)*(x.toNat:Int)+(y.toNat:Int)=(nv:Int) by omega];refine cI ZX U (QI (a:=none) (c:=0) (l:=[]) (n:=nv) xE (by simp)) HC U ?_;rintro _ h17 b2K JZ ⟨b24,b21,rfl,rfl⟩
   replace hU:=hU.mono JZ
   refine aj ⟨(Dr CR),?_⟩;refine Tk 9 U (xG.assign U) (dJ cq (Kp [8,2,3,4] U (aK (Sr (aA (aG dG U zV U) U (cX (AB.S9 dk U U (show _=((2:Nat):Int) from rfl) hU U xE) U ?_))))));rintro _ ⟨ta,tc,rfl,hT⟩
   replace hT:A3 C8 1 _ ta tc t:=hT
   refine Ru 1 U ?_;rw [show((x::y::t).drop 2).length=t.length from rfl];refine Ru 1 U (aj (aV (bU (λt_ S_ h_ L_=>∃ (g:Part) (i:Nat) (out:LB) (ao:OA) (co:Nat),t_=t.length-i+1/\S_=[(2,.pointer (some ⟨q2,0,none⟩)),(3,.pointer (some ⟨q3,0,none⟩)),(8,.slice ao out.length co),(68,.slice ta t.length tc),(69,.int .i64 t.length),(70,.int .i64 i)]/\g=h_/\L_=[.row ao co 5 1 out.length (GO out),.obj D (.deferred (some [])),.yY q4 256 [.slice ua (x::y::t).length uc],.yY q2 22 [.slice none 0 0],.yY q3 34 [.int .i64 0]]/\(h9.le g/\A3 C8 1 g ta tc t/\i<=t.length/\out=enc (nv::(t.take i).map (·.toNat))/\out.length<=11*(i+1))) ⟨_,_,?_,⟨_,0,G1 nv,_,_,U,U,U,U,⟨by assumption,hT,by omega,by simp [enc],by have:=pV nv;simp;omega⟩⟩⟩ ?_)))
   ·exact Du
   rintro _ _ _ _ ⟨g,i,out,ao,co,rfl,rfl,rfl,rfl,J9,hT,hi,ho,hol⟩;have G4:A3 C8 1 _ ta tc t:=hT;refine Sr (Ru 1 U (aj (aK (Cs U (λMj=>?_) λMj=>?_))))
   ·have hti:t[i].toNat<9223372036854775808:=gZ _ _ _ hng _ (y'.2 ⟨t[i],by simp,U⟩);have Nz:=pV t[i].toNat;have hso:out++G1 t[i].toNat=enc (nv::(t.take (i+1)).map (·.toNat)):=(by rw [ai xE,y8,<- xX,tx,<- ho];simp [enc]);refine aO (aK (aV (Sr (cX (aX dk U U n7 zL U xE) U ?_))));rintro _ ⟨b20,o20,b2b,rfl,b2w⟩;refine aA (bG e_ U zL) U (Ru 1 U (aj (Rg (Ru 2 U (cI ZX U (QI (n:=t[i].toNat) hti xE) HC U ?_)))));rintro _ h22 b2J a3V ⟨b23,b1Z,rfl,rfl⟩
    replace hT:=hT.mono a3V
    replace J9:=J9.mono a3V
    refine Ru 1 U (aj (Rg (aA Fc U (Ru 1 U (aj (⟨_,?_,_,?_,⟨_,i+1,_,_,_,U,U,U,U,⟨by assumption,by assumption,by omega,hso,by simp;omega⟩⟩⟩))))))
    ·omega
    exact Du
   have hof:(Ai s).getD []=out:=(by rw [hz,ho,aD xE];rfl);have Mf:(if(Ai s).isSome=true then(0:Int) else 20)=0:=(by rw [hz];rfl);refine bJ (Kp [2,3,8] U (Sr (JL.LZ (R:=DJ) (l:=out) zW cJ U xE (λhp a6i hSp=>?_))));exact Ru 1 U (bj eD U U U zW iR (bj lw U U U zW iR (aj (dm ⟨_,_,[],_,by repeat (first|exact Dt.here|apply Dt.there),(B7.Mo U U eD zV U lw zV),.nil,_,U,U,_,_,by rw [hof,Mf],by rw [hof];exact hSp⟩))))
 ·rintro h2 Lo zH hE;obtain⟨-,rfl,hng,rfl⟩:=hE.resolve_left (λhh=>by cases hh.1);have hz:Ai s=none:=by unfold Ai;rw [hng]
  refine JE.yY (JE.of ⟨_,_,[],_,.here,B7.Mo U U eD zV U lw zV,.nil,_,U,U,none,0,by rw [hz];rfl,by rw [hz];exact bA⟩)
theorem qt (s:Sub h w) {a b:OA}{c d:Nat}{l r:LB}(hl:A3 DJ 1 h a c l) (hr:A3 DJ 1 h b d r) :
 (callFunc 227 #[.slice a l.length c,.slice b r.length d]).run prog w=.ok (.value (.int .i64 (Go.Lib.compareBytes l r))) w:=by
 rw [run_callFunc_extern func227 cq cq cq (e:=Extern.BytealgCompare.compare) cq,qs s hl hr];rfl
theorem fy {a b:OA}{c d:Nat}{l r:LB}(hl:A3 DJ 1 h a c l) (hr:A3 DJ 1 h b d r):Pure prog 126 [.slice a l.length c,.slice b r.length d] h (.int .i64 (Go.Lib.compareBytes l r)):=by
 refine aQ func126 U ntmps126 U (λe he=>?_);refine ba [(0,_),(1,_)] y9 (Sr (Ru 1 U (aj (Sr (Ru 2 U (aA (xG.a9r U (λw hw=>qt hw hl hr)) U ?_))))));exact Ru 1 U (Nk [4] U (cn (aW U U) U U))
def EU (c t:Int) (k:Bool) (bs:LB) (ks:LN):Bool :=
 B6 c t k&&(!(k&&decide (0<bs.length))&&(!(!k&&decide (0<ks.length))&&!(decide (c=0)&&(!k&&!AJ t bs))))
def GM:Option (LB)->LB->Bool
 |none,_=>false
 |some l,b=>decide (0<Go.Lib.compareBytes l b)
mutual
def Nd.put:Nd->Option LB
 |.mk c t k bs ks=>if EU c t k bs ks then(Nd.B0 (decide (c=0)&&decide (t=17)) ks none bs).map (λb=>BM c t k b.length++b) else none
def Nd.B0:Bool->LN->Option (LB)->LB->Option LB
 |_,[],_,acc=>some acc
 |set,x::r,last,acc=>match Nd.put x with
  |none=>none
  |some b=>if set&&GM last b then none else Nd.B0 set r (some b) (acc++b)
end
theorem i_ (c t:Int) (k:Bool) (n:Nat):2<=(BM c t k n).length/\(BM c t k n).length<=8:=by
 have:=mD n;unfold BM EL;split
 ·simp
 ·simp [lr];omega
theorem Nd.a1v:∀ (n:Nat) (x:Nd) (b:LB),x.rk<=n->x.put=some b->2<=b.length/\b.length<=8*x.sz:=by
 intro n
 induction n with
 |zero=>intro x b hx;cases x;simp [Nd.rk] at hx
 |succ n ih =>
  intro x b hx hb;cases x with
  |mk c t k bs ks =>
   simp only [Nd.rk] at hx;have key:∀ (l:LN) (set:Bool) (last:Option LB) (acc b:LB),Nd.CO l<=n->Nd.B0 set l last acc=some b->b.length<=acc.length+8*Nd.yP l:=by
    exact m32
   exact m47
abbrev dA:=@Nd.a1v
theorem Nd.MQ (l:LN) (i:Nat) (h:i<l.length):Nd.yP (l.take (i+1))=Nd.yP (l.take i)+l[i].sz:=by
 rw [ai h,Nd.Hp];simp [Nd.yP]
theorem Nd.Gv (l:LN) (i:Nat):Nd.yP (l.take i)<=Nd.yP l:=by
 have:=Nd.Hp (l.take i) (l.drop i);rw [AG] at this;omega
def b1C (x:Nd) (bw:Nat) (d0 deep:Int):Value->Part->LE->Prop:=λv h' Lo =>
 ∃ (b:LB) (a:OA) (c:Nat) (d1:Int) (bad:Bool),v=.slice a b.length c/\A3 DJ 1 h' a c b/\Lo=[.yY bw 132 [.int .i64 d1,.bool bad]] /\
  (bad=true->x.put=none)/\(bad=false->x.put=some b/\d1=max d0 (deep+x.rk-1))
theorem Nd.Lb (set:Bool) (ks:LN) (i:Nat) (last:Option LB) (acc:LB) (hi:i<ks.length) :
 Nd.B0 set (ks.drop i) last acc=match Nd.put ks[i] with
  |none=>none
  |some b=>if set&&GM last b then none else Nd.B0 set (ks.drop (i+1)) (some b) (acc++b):=by
 rw [aL hi];rfl
theorem lX (i:Nat) (l b:LB):GM (if i=0 then none else some l) b=(decide ((0:Int)<i)&&decide (0<Go.Lib.compareBytes l b)):=by
 by_cases h:i=0
 ·subst h;rfl
 ·rw [xC h,ae (show(0:Int)<i by omega)];rfl
theorem a1R {c t:Int}{k:Bool}{bs:LB}{ks:LN}(h:EU c t k bs ks=true):(c=0\/c=2)/\0<=t/\t<=30:=by
 unfold EU B6 at h;simp only [xB,yu,a_] at h;obtain⟨⟨h1,h2⟩,_⟩:=h;exact m190
def Nd.wr (x:Nd):LB×Int:=match x.put with
 |none=>([],34)
 |some b=>if 32<x.rk then([],33) else if 16777216<b.length then([],2) else(b,0)
theorem Nd.OY (l:LN):l.length<=Nd.yP l:=by
 induction l with
 |nil=>simp
 |cons x r ih=>cases x;simp only [aw,Nd.yP,Nd.sz];omega
abbrev bD:=@Nd.OY
theorem jl:∀ (l out:LB) (n:Nat) (fresh first:Bool) (s:LB),Em l out n fresh first=some s->s.length<=out.length+41*l.length
 |[],out,n,fresh,first,s,h=>by unfold Em at h;split at h<;>cases h;simp
 |c::r,out,n,fresh,first,s,h=>by
  have d:=λk m=>cG k m;unfold Em at h;split at h
  ·cases h
  ·split at h
   ·have:=jl r _ _ _ _ s h;simp only [aw];omega
   ·split at h
    ·have:=jl r _ _ _ _ s h;have d1:=d (min ((n*128+c.toNat % 128) / 40) 2) 1;have d2:=d (n*128+c.toNat % 128-40*min ((n*128+c.toNat % 128) / 40) 2) 1;exact m191
    ·have:=jl r _ _ _ _ s h;have d1:=d (n*128+c.toNat % 128) 1;exact m191
theorem lE (l:LB):((AK l).getD []).length<=41*l.length:=by
 cases h:AK l with
 |none=>simp
 |some s=>have:=jl l [] 0 true true s h;simpa using this
theorem B7.PB {e:Env}{m:Nat}{fn:Func}{t T b bt sz t':Nat}{cs:LV}{v':Value}(hr:fn.results=#[.cell t T,.tmp t']) (hv:look S t=some (.pointer (some ⟨b,0,none⟩))) (hT:AF P T=some (some sz)) (hm:Br.yY b bt cs∈L) (hl:cs.length=sz)
 (hv':look S t'=some v'):B7 P e m fn S h L (.tuple #[.agg cs.toArray,v']):=λa w s=>by
 simp [results,hr,s.slot t _ hv,s.slot t' _ hv',asAddr,gB s.ok hT hm hl]
section
open Go Go.RowKit Go.ChangeShapes Go.WideShapes Go.Lib Go.ChangeAt
theorem Uy:prog.cellsOf 278=1:=by kernel_rfl
theorem UE:0<prog.bytesOf 278:=Nat.lt_of_lt_of_eq (by decide:0<4) (show 4=prog.bytesOf 278 by kernel_rfl)
theorem TA (n:Nat):EJ prog (n+1) 49 (slR Bf 1) 1 (λl=>(l.map λ_=>1).sum+1):=iY Tryz.underlying49 Uy yD UE (Ty Tryz.underlying278)
end
section
variable {α:Type}(z:α)
def gg (l:List α) (i:Nat):α:=l.getD i z
def PZ (l:List α) (i j:Nat):List α:=(l.set i (gg z l j)).set j (gg z l i)
theorem ri {l:List α}{i:Nat}(h:i<l.length):gg z l i=l[i]:=by unfold gg;simp [h]
theorem a0J (l:List α) (i j:Nat):(PZ z l i j).length=l.length:=by simp [PZ]
theorem YU {l:List α}{i k:Nat}{x:α}(hi:i<l.length):gg z (l.set i x) k=if k=i then x else gg z l k:=by
 unfold gg;rw [aJ,aJ,SP];by_cases h:i=k
 ·subst h;simp [hi]
 ·rw [xC h,xC (λe=>h e.symm)]
theorem a6w {l:List α}{i j k:Nat}(hi:i<l.length) (hj:j<l.length):gg z (PZ z l i j) k=if k=j then gg z l i else if k=i then gg z l j else gg z l k:=by
 unfold PZ;rw [YU z (by simpa using hj),YU z hi]
theorem W1 {l:List α}{i j:Nat}(hi:i<l.length) (hj:j<l.length):(PZ z l i j).Perm l:=by
 unfold PZ;rw [ri z hi,ri z hj];exact List.set_set_perm hi hj
inductive Sw (a b:Nat):List α->List α->Prop where
 |refl (l:List α):Sw a b l l
 |step {l l':List α} {i j:Nat} (h:Sw a b l l') (h1:a<=i) (h2:i<b) (h3:a<=j) (h4:j<b) (h5:i<l'.length) (h6:j<l'.length):Sw a b l (PZ z l' i j)
theorem Sw.len {a b:Nat}{l l':List α}(h:Sw z a b l l'):l'.length=l.length:=by
 induction h with
 |refl=>rfl
 |step _ _ _ _ _ _ _ ih=>rw [a0J,ih]
theorem Sw.perm {a b:Nat}{l l':List α}(h:Sw z a b l l'):l'.Perm l:=by
 induction h with
 |refl=>exact Lz _
 |step _ _ _ _ _ h5 h6 ih=>exact(W1 z h5 h6).trans ih
variable (lt:α->α->Bool)
def So (l:List α) (a b:Nat):Prop:=∀ i j,a<=i->i<j->j<b->lt (gg z l j) (gg z l i)=false
structure Ord:Prop where
 tr:∀ x y w,lt y x=false->lt w y=false->lt w x=false
 asy:∀ x y,lt x y=true->lt y x=false
variable {lt}
theorem So.sub {l:List α}{a b a' b':Nat}(h:So z lt l a b) (h1:a<=a') (h2:b'<=b):So z lt l a' b':=λi j x y w=>h i j xE y xE
theorem So.one {l:List α}{a b:Nat}(h:b<=a+1):So z lt l a b:=λi j x y w=>by omega
theorem Ord.re (o:Ord lt) (x:α):lt x x=false:=by
 cases h:lt x x with
 |false=>rfl
 |true=>have:=o.asy x x h;rw [h] at this;cases this
theorem So.le (o:Ord lt) {l:List α}{a b i j:Nat}(h:So z lt l a b) (h1:a<=i) (h2:i<=j) (h3:j<b):lt (gg z l j) (gg z l i)=false:=by
 rcases Nat.eq_or_lt_of_le h2 with h4|h4
 ·subst h4;exact o.re _
 ·exact h i j h1 h4 h3
theorem lQ {l l2:List α}{a i m:Nat}(h:So z lt l a m) (ha:a<=i) (hi:i<=m) (h1:i=a\/lt (gg z l m) (gg z l (i-1))=false) (h2:i=m\/lt (gg z l m) (gg z l i)=true) (o:Ord lt)
 (e:∀ k,gg z l2 k=gg z l (if k=i then m else if i<k/\k<=m then k-1 else k)):So z lt l2 a (m+1):=λp q x y w=>by
 rw [e p,e q];by_cases hp:p<i
 ·rw [xC (show ¬ p=i by omega),xC (show ¬ (i<p/\p<=m) by omega)];by_cases hq:q<i
  ·rw [xC xE,xC xE];exact h _ _ x y xE
  ·by_cases hq2:q=i
   ·rw [xD hq2];have q3:lt (gg z l m) (gg z l (i-1))=false:=by
     rcases h1 with c|c
     ·omega
     ·exact c
    exact o.tr _ _ _ (h.le z o (i:=p) (j:=i-1) x xE xE) q3
   ·rw [xC hq2,xD xE];exact h _ _ x xE xE
 ·by_cases Me:p=i
  ·rw [xD Me,xC xE,xD xE];have q3:lt (gg z l m) (gg z l i)=true:=by
    rcases h2 with c|c
    ·omega
    ·exact c
   exact o.tr _ _ _ (o.asy _ _ q3) (h.le z o xE xE xE)
  ·rw [xC Me,xD (show i<p/\p<=m by omega),xC (show ¬ q=i by omega),xD (show i<q/\q<=m by omega)];exact h _ _ xE xE xE
end
variable{u:Option Value}
theorem a9C {b y:Bool}(hb:b=true) (h:u=some (.bool y)):u=some (.bool (b&&y)):=by subst hb;rw [xQ];exact h
theorem a9D {b y:Bool}(hb:b=false) (h:u=some (.bool false)):u=some (.bool (b&&y)):=by subst hb;exact h
theorem a1P {b y:Bool}(hb:b=false) (h:u=some (.bool y)):u=some (.bool (b||y)):=by subst hb;rw [BN];exact h
theorem a1O {b y:Bool}(hb:b=true) (h:u=some (.bool true)):u=some (.bool (b||y)):=by subst hb;exact h
instance (priority:=high) Sp.UN (a b:Bool) (p q p' q':Prop) [s:Sp a p q] [s':Sp b p' q']:Sp (a&&b) (p/\p') (q\/q'):=⟨λh=>by
 rw [xB] at h;exact⟨s.t h.1,s'.t h.2⟩,λh=>by
 rw [FD] at h;exact h.imp s.f s'.f⟩
instance (priority:=high) Sp.or_ (a b:Bool) (p q p' q':Prop) [s:Sp a p q] [s':Sp b p' q']:Sp (a||b) (p\/p') (q/\q'):=⟨λh=>by
 rw [yu] at h;exact h.imp s.t s'.t,λh=>by
 rw [LC] at h;exact⟨s.f h.1,s'.f h.2⟩⟩
section
variable {f:Fr}{n:yF}{x:Nat->yF}{S:AH}{h:Part}{L:LE}{ops:Array Oper}{b:Bool}{p q:Prop}{c d:Code}{l:LR}
def Am (h:Part) (L:LE) (d:Nat) (v:Bool) (ks:List Nat) (K:AH):yF:=λS1 h1 L1=>h1=h/\L1=L/\look S1 d=some (.bool v)/\Fv ks S1=some K
theorem JL.take_drop (j:Nat) (M:yF) (hM:∀ S' h' L',M S' h' L'->JL f ops n x (l.drop j) S' h' L') (k:JL f ops M x (l.take j) S h L):JL f ops n x l S h L:=λa w s=>by
 have key:∀ (l1 l2:LR),(∀ S' h' L',M S' h' L'->JL f ops n x l2 S' h' L')->∀ (a:Act) (w:World),wpList f.P ops (f.Q M x) l1 a w->wpList f.P ops (f.Q n x) (l1++l2) a w:=by
  intro l1 l2 hM
  induction l1 with
  |nil=>intro a w hh;obtain⟨S',h',L',s',k'⟩:=hh;exact hM _ _ _ k' a w s'
  |cons o r ih =>
   intro a w hh;unfold wpList at hh;rw [xX];unfold wpList;split
   ·rename_i hw;rw [xD hw] at hh;rcases hh with hh|⟨h1,a',w',hh⟩
    ·refine .inl ?_;unfold Oper.wp at *;generalize (execOp a.eval o).run f.P w=rr at *;cases rr with
     |ok nx w' =>
      cases nx<;>simp only [Oper.upon] at hh |-<;>first
       |exact ih _ _ hh
       |exact Calls.mono hh (λe VG he=>by cases e<;>first|exact ih _ _ he|exact he)
       |exact Rows.mono hh (λ_ _ he=>ih _ _ he)
       |exact hh
     |halt z w'=>cases z<;>simp only [Oper.upon] at hh |-<;>exact hh
    ·exact hh.elim
   ·rename_i hw;rw [xC hw] at hh;exact ih _ _ hh
 have:=key (l.take j) (l.drop j) hM a w (k a w s);rwa [AG] at this
theorem An {y:Bool}(t d j:Nat) (ks:List Nat) {K:AH}(ht:look S t=some (.bool b)) (hk:Fv ks S=some K) [s:Sp b p q]
 (kT:b=true->p->JL f ops (Am h L d (b&&y) ks K) x (l.take j) ((t,.bool true)::S) h L) (kF:b=false->q->JL f ops (Am h L d (b&&y) ks K) x (l.take j) ((t,.bool false)::S) h L)
 (k:JL f ops n x (l.drop j) ((d,.bool (b&&y))::K) h L):JL f ops n x l S h L:=by
 have fin:∀ S1 h1 L1,Am h L d (b&&y) ks K S1 h1 L1->JL f ops n x (l.drop j) S1 h1 L1:=λS1 h1 L1 ⟨e1,e2,e3,e4⟩=>by
  subst e1 e2;exact JL.H0 ((d,.bool (b&&y))::K) ⟨e3,fJ e4⟩ k
 exact m156
theorem On {y:Bool}(t d j:Nat) (ks:List Nat) {K:AH}(ht:look S t=some (.bool b)) (hk:Fv ks S=some K) [s:Sp b p q]
 (kT:b=true->p->JL f ops (Am h L d (b||y) ks K) x (l.take j) ((t,.bool true)::S) h L) (kF:b=false->q->JL f ops (Am h L d (b||y) ks K) x (l.take j) ((t,.bool false)::S) h L)
 (k:JL f ops n x (l.drop j) ((d,.bool (b||y))::K) h L):JL f ops n x l S h L:=by
 have fin:∀ S1 h1 L1,Am h L d (b||y) ks K S1 h1 L1->JL f ops n x (l.drop j) S1 h1 L1:=λS1 h1 L1 ⟨e1,e2,e3,e4⟩=>by
  subst e1 e2;exact JL.H0 ((d,.bool (b||y))::K) ⟨e3,fJ e4⟩ k
 exact m156
theorem Ae {v:Bool}{d:Nat}{ks:List Nat}{K S1:AH}(h1:look S1 d=some (.bool v)) (h2:Fv ks S1=some K):JL f ops (Am h L d v ks K) x [] S1 h L:=aj ⟨U,U,h1,h2⟩
end
inductive D:Type 1 where
 |v (u:Value)
 |bq (b:Bool)
 |bs (l:LB)
 |AX (l:LN)
 |sl {α:Type} (sz:Nat) (enc:α->List D) (l:List α)
 |st (l:List D)
 |nd (n:Nd)
 |zZ (l:List D)
 |ptr (l:List D)
 |pnd (n:Nd)
def UQ (c:Array Value) (o:Nat) (cs:LV):Prop:=∀ j,j<cs.length->c[o+j]?=cs[j]?
mutual
/-- The value is that datum. -/
def Den:D->Part->Value->Prop
 |.v u,_,x=>x=u
 |.bq b,_,x=>x=.bool b
 |.bs l,h,x=>∃ a c,x=.slice a l.length c/\A3 DJ 1 h a c l
 |.AX l,h,x=>∃ a c,x=.slice a l.length c/\A3 B9 5 h a c l
 |.sl sz enc l,h,x=>∃ a c,x=.slice a l.length c/\A3 (λh' cs y=>yp (enc y) h' cs) sz h a c l
 |.st l,h,x=>∃ cs:LV,x=.agg cs.toArray/\yp l h cs
 |.nd n,h,x=>∃ cs:LV,x=.agg cs.toArray/\B9 h cs n
 |.zZ l,h,x=>∃ cs:LV,x=.tuple cs.toArray/\yT l h cs
 |.ptr l,h,x=>∃ b o,x=.pointer (some ⟨b,o,none⟩)/\∃ c cs,h b=some c/\UQ c o cs/\yp l h cs
 |.pnd n,h,x=>∃ b o,x=.pointer (some ⟨b,o,none⟩)/\∃ c cs,h b=some c/\UQ c o cs/\B9 h cs n
/-- Cells. -/
def yp:List D->Part->LV->Prop
 |[],_,cs=>cs=[]
 |d::r,h,cs=>∃ v t,cs=v::t/\v.oneCell'=true/\Den d h v/\yp r h t
/-- Values side by side. -/
def yT:List D->Part->LV->Prop
 |[],_,cs=>cs=[]
 |d::r,h,cs=>∃ v t,cs=v::t/\Den d h v/\yT r h t
end
theorem A3.imp {α β:Type}{R:DI α}{R':DI β}{sz:Nat}{h h':Part}{a:OA}{c:Nat}{l:List α}{l':List β}(hl:l'.length=l.length) (hle:h.le h') (hR:∀ (i:Nat) (x:α) (y:β) (cs:LV),l[i]?=some x->l'[i]?=some y->R h cs x->R' h' cs y) (k:A3 R sz h a c l):A3 R' sz h' a c l' :=
 ⟨by rw [hl];exact k.len,k.cap,by rw [hl];exact k.GX,k.nil,λi y hy=>by
  have hi:i<l.length:=by rw [<- hl];exact(xS.1 hy).1
  obtain⟨b,o,h1,cc,cs,h2,h3,h4,h5⟩:=k.Z' i l[i] (aH hi);exact⟨b,o,h1,cc,cs,hle _ _ h2,h3,h4,hR i _ y cs (aH hi) hy h5⟩⟩
mutual
theorem Den.mono {h h':Part}(hle:h.le h'):∀ (d:D) (x:Value),Den d h x->Den d h' x
 |.v u,x,k=>by unfold Den at k |-;exact k
 |.bq u,x,k=>by unfold Den at k |-;exact k
 |.bs l,x,k=>by unfold Den at k |-;obtain⟨a,c,e,r⟩:=k;exact⟨a,c,e,r.mono hle⟩
 |.AX l,x,k=>by unfold Den at k |-;obtain⟨a,c,e,r⟩:=k;exact⟨a,c,e,r.mono hle⟩
 |.sl sz enc l,x,k=>by
  unfold Den at k |-
  obtain⟨a,c,e,r⟩:=k;exact⟨a,c,e,r.imp U hle (λi p q cs h1 h2 h3=>by rw [h1] at h2;cases h2;exact yp.mono hle (enc p) cs h3)⟩
 |.st l,x,k=>by unfold Den at k |-;obtain⟨cs,e,r⟩:=k;exact⟨cs,e,yp.mono hle l cs r⟩
 |.nd n,x,k=>by unfold Den at k |-;obtain⟨cs,e,r⟩:=k;exact⟨cs,e,r.mono hle⟩
 |.pnd n,x,k=>by unfold Den at k |-;obtain⟨b,o,e,c,cs,h1,h2,r⟩:=k;exact⟨b,o,e,c,cs,hle _ _ h1,h2,r.mono hle⟩
 |.zZ l,x,k=>by unfold Den at k |-;obtain⟨cs,e,r⟩:=k;exact⟨cs,e,yT.mono hle l cs r⟩
 |.ptr l,x,k=>by unfold Den at k |-;obtain⟨b,o,e,c,cs,h1,h2,r⟩:=k;exact⟨b,o,e,c,cs,hle _ _ h1,h2,yp.mono hle l cs r⟩
theorem yp.mono {h h':Part}(hle:h.le h'):∀ (l:List D) (cs:LV),yp l h cs->yp l h' cs
 |[],cs,k=>by unfold yp at k |-;exact k
 |d::r,cs,k=>by unfold yp at k |-;obtain⟨v,t,e,h1,h2,h3⟩:=k;exact⟨v,t,e,h1,Den.mono hle d v h2,yp.mono hle r t h3⟩
theorem yT.mono {h h':Part}(hle:h.le h'):∀ (l:List D) (cs:LV),yT l h cs->yT l h' cs
 |[],cs,k=>by unfold yT at k |-;exact k
 |d::r,cs,k=>by unfold yT at k |-;obtain⟨v,t,e,h2,h3⟩:=k;exact⟨v,t,e,Den.mono hle d v h2,yT.mono hle r t h3⟩
end
def IW {α:Type}(enc:α->List D):DI α:=λh cs y=>yp (enc y) h cs
theorem yp.one {h:Part}:∀ {l:List D}{cs:LV},yp l h cs->∀ u∈cs,u.oneCell'=true
 |[],cs,k,u,hu=>by unfold yp at k;subst k;cases hu
 |d::r,cs,k,u,hu=>by
  unfold yp at k;obtain⟨v,t,rfl,h1,_,h3⟩:=k;cases hu with
  |head=>exact h1
  |tail _ hu=>exact yp.one h3 u hu
theorem yp.len {h:Part}:∀ {l:List D}{cs:LV},yp l h cs->cs.length=l.length
 |[],cs,k=>by unfold yp at k;subst k;rfl
 |d::r,cs,k=>by
  unfold yp at k;obtain⟨v,t,rfl,_,_,h3⟩:=k;simp [yp.len h3]
theorem yT.len {h:Part}:∀ {l:List D}{cs:LV},yT l h cs->cs.length=l.length
 |[],cs,k=>by unfold yT at k;subst k;rfl
 |d::r,cs,k=>by
  unfold yT at k;obtain⟨v,t,rfl,_,h3⟩:=k;simp [yT.len h3]
instance {α:Type}(enc:α->List D):CF (IW enc):=⟨λhle k=>yp.mono hle _ _ k,λk=>yp.one k⟩
theorem yp.nth {h:Part}:∀ {l:List D}{cs:LV}{i:Nat}{d:D},yp l h cs->l[i]?=some d->∃ v,cs[i]?=some v/\v.oneCell'=true/\Den d h v
 |[],cs,i,d,k,hd=>by simp at hd
 |d::r,cs,i,d',k,hd=>by
  unfold yp at k;obtain⟨v,t,rfl,h1,h2,h3⟩:=k;cases i with
  |zero=>simp only [ze,au] at hd;subst hd;exact⟨v,U,h1,h2⟩
  |succ i=>simp only [Ab] at hd |-;exact yp.nth h3 hd
theorem yT.nth {h:Part}:∀ {l:List D}{cs:LV}{i:Nat}{d:D},yT l h cs->l[i]?=some d->∃ v,cs[i]?=some v/\Den d h v
 |[],cs,i,d,k,hd=>by simp at hd
 |d::r,cs,i,d',k,hd=>by
  unfold yT at k;obtain⟨v,t,rfl,h2,h3⟩:=k;cases i with
  |zero=>simp only [ze,au] at hd;subst hd;exact⟨v,U,h2⟩
  |succ i=>simp only [Ab] at hd |-;exact yT.nth h3 hd
theorem yp.drop {h:Part}:∀ {l:List D}{cs:LV}(i:Nat),yp l h cs->yp (l.drop i) h (cs.drop i)
 |[],cs,i,k=>by unfold yp at k;subst k;simp [yp]
 |d::r,cs,0,k=>k
 |d::r,cs,i+1,k=>by
  unfold yp at k;obtain⟨v,t,rfl,_,_,h3⟩:=k;exact yp.drop i h3
theorem yp.take {h:Part}:∀ {l:List D}{cs:LV}(i:Nat),yp l h cs->yp (l.take i) h (cs.take i)
 |[],cs,i,k=>by unfold yp at k;subst k;simp [yp]
 |d::r,cs,0,k=>by simp [yp]
 |d::r,cs,i+1,k=>by
  unfold yp at k;obtain⟨v,t,rfl,h1,h2,h3⟩:=k;rw [A7,A7];unfold yp;exact⟨v,_,U,h1,h2,yp.take i h3⟩
theorem yp.app {h:Part}:∀ {l l':List D}{cs Da:LV},yp l h cs->yp l' h Da->yp (l++l') h (cs++Da)
 |[],l',cs,Da,k,k'=>by unfold yp at k;subst k;exact k'
 |d::r,l',cs,Da,k,k'=>by
  unfold yp at k;obtain⟨v,t,rfl,h1,h2,h3⟩:=k;exact⟨v,t++Da,U,h1,h2,yp.app h3 k'⟩
def Nd.enc (n:Nd):List D:=[.v (.int .i64 n.cls),.v (.int .i64 n.tag),.bq n.cons,.bs n.bytes,.AX n.kids]
theorem r8 {cs:LV}{n:Nd}:B9 h cs n<->yp n.enc h cs:=by
 cases n with
 |mk c t k b ks =>
  constructor
  ·intro r;obtain⟨a,ca,b',cb,rfl,ha,hb⟩:=r.inv;exact⟨_,_,U,U,U,_,_,U,U,U,_,_,U,U,U,_,_,U,U,⟨_,_,U,ha⟩,_,_,U,U,⟨_,_,U,hb⟩,U⟩
  ·rintro⟨_,_,rfl,_,e1,_,_,rfl,_,e2,_,_,rfl,_,e3,_,_,rfl,_,⟨_,_,rfl,ha⟩,_,_,rfl,_,⟨_,_,rfl,hb⟩,e4⟩;unfold Den at e1 e2 e3;unfold yp at e4;subst e1 e2 e3 e4;exact B9.of ha hb
def u8E (x:UInt8):List D:=[.v (.int .u8 (x.toNat:Int))]
theorem a4E {cs:LV}{x:UInt8}:DJ h cs x<->yp (u8E x) h cs:=by
 exact m105
theorem ig {α:Type}{sz:Nat}{enc:α->List D}:Den (.sl sz enc []) h (.slice none 0 0):=⟨none,0,U,bA⟩
inductive Fa {α β:Type _} (R:α->β->Prop):List α->List β->Prop where
 |nil:Fa R [] []
 |cons {x:α} {y:β} {l:List α} {r:List β} (h:R x y) (t:Fa R l r):Fa R (x::l) (y::r)
inductive A:Type 1 where
 |d (d:D)
 |own (k off:Nat)
 |row (k:Nat)
 |CJ (l:List D) (k:Nat)
 |mp (k:Nat)
 |any
abbrev LO:=List (Nat×A)
inductive OE:Type 1 where
 |var (t:TypeId) (cs:List A)
 |B1 (t:TypeId) (d:D)
 |row (t:TypeId) (d:D)
 |F3 (v:Nat) (t:TypeId) (d:D)
 |Fo (v b:Nat)
 |set (es:LV)
abbrev LQ:=List (Nat×OE)
structure Ac where
 b:Nat->Nat
 a:Nat->OA
 c:Nat->Nat
 n:Nat->Nat
def zN (ρ:Ac) (h:Part):A->Value->Prop
 |.d d,x=>Den d h x
 |.own k o,x=>x=.pointer (some ⟨ρ.b k,o,none⟩)
 |.row k,x=>x=.slice (ρ.a k) (ρ.n k) (ρ.c k)
 |.CJ l k,x=>∃ cs:LV,x=.agg (cs++[Value.slice (ρ.a k) (ρ.n k) (ρ.c k)]).toArray/\yp l h cs
 |.mp k,x=>x=.map (some (ρ.b k))
 |.any,_=>True
def yZ (ρ:Ac) (h:Part):List A->LV->Prop
 |[],cs=>cs=[]
 |x::r,cs=>∃ v t,cs=v::t/\v.oneCell'=true/\zN ρ h x v/\yZ ρ h r t
def J2 (h:Part):D->Nat->Nat->LV->Prop
 |.bs l,sz,n,xs=>sz=1/\n=l.length/\yl DJ 1 h xs l
 |.AX l,sz,n,xs=>sz=5/\n=l.length/\yl B9 5 h xs l
 |.sl s enc l,sz,n,xs=>sz=s/\n=l.length/\yl (IW enc) s h xs l
 |_,_,_,_=>False
def Gl (ρ:Ac) (h:Part) (k:Nat):OE->Br->Prop
 |.var t cs,x=>∃ vs,x=.yY (ρ.b k) t vs/\yZ ρ h cs vs
 |.B1 t d,x=>∃ vs,x=.yY (ρ.b k) t vs/\Den d h (.agg vs.toArray)
 |.row t d,x=>∃ xs sz,x=.row (ρ.a k) (ρ.c k) t sz (ρ.n k) xs/\J2 h d sz (ρ.n k) xs/\ρ.n k<=140737488355328
 |.F3 v t d,x=>∃ xs sz,x=.row (ρ.a v) (ρ.c v) t sz (ρ.n v) xs/\J2 h d sz (ρ.n v) xs/\ρ.n v<=140737488355328
 |.Fo v b,x=>ρ.b v=b/\x=.row none 0 0 0 0 []
 |.set es,x=>∃ (arr:Array MapEntry) (cl:Nat),x=.obj (ρ.b k) (.map arr cl)/\arr.toList.map (λe=>(e.key,e.val))=es.map (λv=>(v,Value.bool true))
def Bi (ρ:Ac) (h:Part):LQ->LE->Prop
 |[],L=>L=[]
 |(k,e)::r,L=>∃ x L',L=x::L'/\Gl ρ h k e x/\Bi ρ h r L'
def BF:LO->Nat->Option A
 |[],_=>none
 |(k,x)::r,t=>bif Nat.beq k t then some x else BF r t
def BH:LQ->Nat->Option OE
 |[],_=>none
 |(k,x)::r,t=>bif Nat.beq k t then some x else BH r t
def D9:LQ->Nat->LQ
 |[],_=>[]
 |(k,x)::r,t=>bif Nat.beq k t then r else(k,x)::D9 r t
def W4 (P:Program) (t:Nat):Bool:=match P.underlying t with
 |some .string=>true
 |_=>false
theorem W3 (h:W4 P t=true):P.underlying t=some .string:=by
 unfold W4 at h;split at h
 ·assumption
 ·cases h
def a04 (P:Program) (t:Nat):Bool:=match P.underlying t with
 |some .bool=>true
 |_=>false
theorem a03 (h:a04 P t=true):P.underlying t=some .bool:=by
 unfold a04 at h;split at h
 ·assumption
 ·cases h
def PY:D->Nat
 |.bs _=>1
 |.AX _=>5
 |.sl s _ _=>s
 |_=>0
def NU (h:Part) (d:D) (vs:LV):Prop:=J2 h d (PY d) vs.length (vs.map (·.cells.toList)).flatten/\(∀ c∈vs,c.cells.toList.length=PY d)/\0<vs.length/\0<PY d
class Tb (P:Program) where
 T:Part->Prop
 mono:∀ {h h':Part},T h->h.le h'->T h'
 ag:List (Nat×Option Nat)
 hag:(ag.all λt=>AF P t.1 == some t.2)=true
 zr:Nat->Option (List D)
 hzr:∀ {t ds},zr t=some ds->∃ zs,CH P t=some zs/\∀ h,yp ds h zs
 fo:Nat->List D->Option D
 J_:∀ {t ds d},fo t ds=some d->∀ h cs,yp ds h cs->Den d h (.agg cs.toArray)
 st:List Nat
 DW:(st.all λt=>W4 P t)=true
 bt:List Nat
 hbt:(bt.all λt=>a04 P t)=true
 ap:List (Nat×Nat×Nat×Nat)
 hap:(ap.all λt=>Mq P t.1 == some t.2)=true
 pl:Nat->Option (List (Nat×Nat))
 nl:Nat->Option D
 hnl:∀ {t d},nl t=some d->∀ h,Den d h (.slice none 0 0)
 lt:List D->Option D
 yJ:∀ {h ds vs d},lt ds=some d->yT ds h vs->NU h d vs
 Le:∀ {t p ds},pl t=some p->zr t=some ds->∃ zs,OO P t=some (zs,p)/\∀ h,yp ds h zs
def Hf:List (Nat×Option Nat)->Nat->Option (Option Nat)
 |[],_=>none
 |(a,b)::r,k=>bif Nat.beq a k then some b else Hf r k
theorem Ug {l:List (Nat×Option Nat)}{k:Nat}{v:Option Nat}(h:Hf l k=some v):(k,v)∈l:=by
 induction l with
 |nil=>cases h
 |cons x r ih =>
  obtain⟨a,b⟩:=x;simp only [Hf] at h;exact m36
def Eh:List Nat->Nat->Bool
 |[],_=>false
 |a::r,k=>bif Nat.beq a k then true else Eh r k
theorem vk {l:List Nat}{k:Nat}(h:Eh l k=true):k∈l:=by
 induction l with
 |nil=>cases h
 |cons a r ih =>
  simp only [Eh] at h;cases hb:Nat.beq a k with
  |true=>obtain rfl:=am hb;exact aC ..
  |false=>simp only [hb,cond_false] at h;exact aE _ (ih h)
section
variable {P:Program} [Tb P]
theorem Tb.agg {v:Option Nat}(h:Hf (Tb.ag P) t=some v):AF P t=some v:=by
 have:=xH.1 (Tb.hag (P:=P)) _ (Ug h);exact m109
def Cy:List (Nat×Nat×Nat×Nat)->Nat->Option (Nat×Nat×Nat)
 |[],_=>none
 |(a,b)::r,k=>bif Nat.beq a k then some b else Cy r k
omit [Tb P] in
theorem Uf {l:List (Nat×Nat×Nat×Nat)}{k:Nat}{v:Nat×Nat×Nat}(h:Cy l k=some v):(k,v)∈l:=by
 induction l with
 |nil=>cases h
 |cons x r ih =>
  obtain⟨a,b⟩:=x;simp only [Cy] at h;exact m36
theorem Tb.UM {v:Nat×Nat×Nat}(h:Cy (Tb.ap P) t=some v):Mq P t=some v:=by
 have:=xH.1 (Tb.hap (P:=P)) _ (Uf h);exact m109
theorem Tb.bool (h:Eh (Tb.bt P) t=true):P.underlying t=some .bool:=a03 (xH.1 (Tb.hbt (P:=P)) _ (vk h))
theorem Tb.a9Y (h:Eh (Tb.st P) t=true):P.underlying t=some .string:=W3 (xH.1 (Tb.DW (P:=P)) _ (vk h))
end
structure Cz (P:Program) [Tb P] (ρ:Ac) (h:Part) (a:LO) (o:LQ) (S:AH) (L:LE):Prop where
 t:Tb.T P h
 s:∀ t x,BF a t=some x->∃ v,look S t=some v/\zN ρ h x v
 o:Bi ρ h o L
def z' (a:LO):Operand->Option A
 |.tmp t=>BF a t
 |.const c=>some (.d (.v c))
 |x=>match ev [] x with
  |some v=>some (.d (.v v))
  |none=>none
def FO {α:Type _}:List α->Nat->Option α
 |[],_=>none
 |x::_,0=>some x
 |_::r,i+1=>FO r i
theorem iZ {α:Type _}:∀ (l:List α) (i:Nat),FO l i=l[i]?
 |[],_=>by simp [FO]
 |v::_,0=>by simp [FO]
 |_::r,i+1=>by simp [FO,iZ r i]
def IY {α:Type _}:List α->Nat->Nat->Option (List α)
 |_,0,0=>some []
 |x::r,0,n+1=>match IY r 0 n with
  |some l=>some (x::l)
  |none=>none
 |_::r,i+1,n=>IY r i n
 |[],_,_=>none
theorem mU {α:Type _}:∀ (l:List α) (i n:Nat) (r:List α),IY l i n=some r->i+n<=l.length/\r=(l.drop i).take n
 |l,0,0,r,h=>by unfold IY at h;cases h;simp
 |x::t,0,n+1,r,h=>by
  unfold IY at h;split at h
  ·rename_i l hl;cases h;obtain⟨h1,h2⟩:=mU t 0 n l hl;simp only [aw,C3,A7] at *;exact⟨by omega,by rw [h2]⟩
  ·cases h
 |x::t,i+1,n,r,h=>by
  unfold IY at h;obtain⟨h1,h2⟩:=mU t i n r h;simp only [aw,AZ];exact⟨by omega,h2⟩
 |[],i+1,n,r,h=>by unfold IY at h;cases h
 |[],0,n+1,r,h=>by unfold IY at h;cases h
def Uj:D->Option Nat
 |.bs l=>some l.length
 |.AX l=>some l.length
 |.sl _ _ l=>some l.length
 |.v (.slice _ n _)=>some n
 |_=>none
def Kb:List A->Option (List D)
 |[]=>some []
 |.d d::r=>match Kb r with
  |some l=>some (d::l)
  |none=>none
 |_::_=>none
def F':D->Option (List D)
 |.st l=>some l
 |.nd n=>some n.enc
 |_=>none
def a5P (o k:Nat):Nat:=bif Nat.beq o 0 then k else o+k
def a9n:BinOp->LB->LB->Option A
 |.eql,p,q=>some (.d (.bq (decide (p=q))))
 |.neq,p,q=>some (.d (.bq (decide (p≠q))))
 |.lss,p,q=>some (.d (.bq (Go.Op.bytesLess p q)))
 |_,_,_=>none
def bB:D->Option Bool
 |.bq b=>some b
 |.v (.bool b)=>some b
 |_=>none
def a9o:BinOp->Bool->Bool->Option A
 |.eql,p,q=>some (.d (.bq (p == q)))
 |.neq,p,q=>some (.d (.bq (!(p == q))))
 |_,_,_=>none
def ldD (P:Program) [Tb P] (T:Nat) (l:List D) (o:Nat):Option A :=
 match Hf (Tb.ag P) T with
 |some none=>match FO l o with
  |some d=>some (.d d)
  |none=>none
 |some (some sz)=>bif (bif Nat.beq o 0 then Nat.beq l.length sz else false) then some (.d (.st l)) else match IY l o sz with
  |some r=>match Tb.fo P T r with
   |some r'=>some (.d r')
   |none=>some (.d (.st r))
  |none=>none
 |none=>none
def ldO (P:Program) [Tb P] (T:Nat) (cs:List A) (o:Nat):Option A :=
 match Hf (Tb.ag P) T with
 |some none=>FO cs o
 |some (some sz)=>match IY cs o sz with
  |some r=>match Kb r with
   |some ds=>match Tb.fo P T ds with
    |some r'=>some (.d r')
    |none=>some (.d (.st ds))
   |none=>none
  |none=>none
 |none=>none
def a2I (a:LO):List (Nat×Operand)->Option (List (Nat×D))
 |[]=>some []
 |(i,x)::r=>match z' a x,a2I a r with
  |some (.d d),some l=>some ((i,d)::l)
  |_,_=>none
def OR:D->Bool
 |.v u=>u.oneCell'
 |.bq _=>true
 |.bs _=>true
 |.AX _=>true
 |.sl _ _ _=>true
 |.ptr _=>true
 |.pnd _=>true
 |_=>false
def KF {α:Type _}:List α->Nat->List α->Option (List α)
 |l,0,[]=>some l
 |_::r,0,y::l'=>match KF r 0 l' with
  |some l=>some (y::l)
  |none=>none
 |x::r,i+1,l'=>match KF r i l' with
  |some l=>some (x::l)
  |none=>none
 |[],_,_=>none
theorem og {α:Type _}:∀ (l:List α) (i:Nat) (l' r:List α),KF l i l'=some r->i+l'.length<=l.length/\r=l.take i++l'++l.drop (i+l'.length)
 |l,0,[],r,h=>by unfold KF at h;cases h;simp
 |x::t,0,y::l',r,h=>by
  unfold KF at h;split at h
  ·rename_i l hl;cases h;obtain⟨h1,h2⟩:=og t 0 l' l hl;simp only [A0,EZ,xP,aw] at *;exact⟨by omega,by rw [h2];simp⟩
  ·cases h
 |x::t,i+1,l',r,h=>by
  unfold KF at h;split at h
  ·rename_i l hl;cases h;obtain⟨h1,h2⟩:=og t i l' l hl;simp only [aw];refine⟨by omega,?_⟩;rw [h2,A7,show i+1+l'.length=(i+l'.length)+1 by omega,AZ];rfl
  ·cases h
 |[],i+1,l',r,h=>by unfold KF at h;cases h
 |[],0,y::l',r,h=>by unfold KF at h;cases h
def PA (d:D):Option (List D):=match F' d with
 |some l=>some l
 |none=>bif OR d then some [d] else none
def RO (pl:List (Nat×Nat)):List D->List (Nat×D)->Option (List D)
 |cs,[]=>some cs
 |cs,(i,d)::r=>match FO pl i,PA d with
  |some (o,n),some l=>bif Nat.beq l.length n then match KF cs o l with
   |some Da=>RO pl Da r
   |none=>none else none
  |_,_=>none
def FJ (P:Program) [CY P] [Tb P] (a:LO) (o:LQ):Op->Option A
 |.move x=>z' a x
 |.assign x=>z' a x
 |.pick c x y=>match z' a c with
  |some (.d (.v (.bool true)))=>z' a x
  |some (.d (.v (.bool false)))=>z' a y
  |_=>none
 |.extract x i=>match z' a x with
  |some (.d (.zZ l))=>match FO l i with
   |some d=>some (.d d)
   |none=>none
  |some (.d (.v (.tuple vs)))=>match FO vs.toList i with
   |some v=>some (.d (.v v))
   |none=>none
  |_=>none
 |.nilCheck x=>match z' a x with
  |some (.own k o)=>some (.own k o)
  |some (.d (.ptr l))=>some (.d (.ptr l))
  |some (.d (.pnd l))=>some (.d (.pnd l))
  |_=>none
 |.unOp .not _ x=>match z' a x with
  |some (.d (.v (.bool true)))=>some (.d (.v (.bool false)))
  |some (.d (.v (.bool false)))=>some (.d (.v (.bool true)))
  |some (.d (.bq b))=>some (.d (.bq (!b)))
  |_=>none
 |.binOp op T x y _=>match z' a x,z' a y with
  |some (.d (.v (.int k p))),some (.d (.v (.int k' q)))=>match a33 op k k' p q with
   |some (.bool b)=>some (.d (.bq b))
   |_=>none
  |some (.d (.v (.string ⟨⟨p⟩⟩))),some (.d (.v (.string ⟨⟨q⟩⟩)))=>a9n op p q
  |some (.d d),some (.d d')=>match bB d,bB d' with
   |some b,some b'=>match Eh (Tb.bt P) T with
    |true=>a9o op b b'
    |false=>none
   |_,_=>none
  |_,_=>none
 |.call c=>match c.callee,c.args.toList,c.argTypes.toList with
  |.builtin .len,[x],[T]=>match z' a x with
   |some (.d (.v (.string ⟨⟨p⟩⟩)))=>bif Eh (Tb.st P) T then some (.d (.v (.int .i64 (p.length:Int)))) else none
   |some (.d d)=>match EG (CY.sl P) T,Uj d with
    |some _,some n=>some (.d (.v (.int .i64 (n:Int))))
    |_,_=>none
   |some (.row k)=>match BH o k with
    |some (.row _ d)=>match EG (CY.sl P) T,Uj d with
     |some _,some n=>some (.d (.v (.int .i64 (n:Int))))
     |_,_=>none
    |_=>none
   |_=>none
  |_,_,_=>none
 |.fieldAddr T x i=>match z' a x,K5 (CY.fo P) T i with
  |some (.own k o),some off=>some (.own k (a5P o off))
  |some (.d (.ptr l)),some off=>some (.d (.ptr (l.drop off)))
  |some (.d (.pnd n)),some off=>some (.d (.ptr (n.enc.drop off)))
  |_,_=>none
 |.build T ps=>match Tb.pl P T,Tb.zr P T,a2I a ps.toList with
  |some pl,some ds,some l=>match RO pl ds l with
   |some cs=>some (.d (.st cs))
   |none=>none
  |_,_,_=>none
 |.load T x=>match z' a x with
  |some (.own k off)=>match BH o k with
   |some (.var _ cs)=>ldO P T cs off
   |some (.B1 _ d)=>match F' d with
    |some l=>bif Nat.beq off 0 then match Hf (Tb.ag P) T with
     |some (some sz)=>bif Nat.beq l.length sz then some (.d d) else ldD P T l off
     |_=>ldD P T l off
     else ldD P T l off
    |none=>none
   |_=>none
  |some (.d (.ptr l))=>ldD P T l 0
  |some (.d (.pnd n))=>match Hf (Tb.ag P) T with
   |some (some sz)=>bif Nat.beq sz 5 then some (.d (.nd n)) else none
   |some none=>ldD P T n.enc 0
   |none=>none
  |_=>none
 |_=>none
theorem Bi.get {ρ:Ac}{h:Part}{k:Nat}{e:OE}:∀ {o:LQ}{L:LE},Bi ρ h o L->BH o k=some e->∃ x L',Dt x L L'/\Gl ρ h k e x/\Bi ρ h (D9 o k) L'
 |[],L,c,hk=>by cases hk
 |(k',e')::r,L,c,hk=>by
  obtain⟨x,L',rfl,he,hr⟩:=c;simp only [BH,D9] at hk |-;cases hb:Nat.beq k' k with
  |true =>
   obtain rfl:=am hb;simp only [hb,cond_true,au] at hk |-;subst hk;exact⟨x,L',.here,he,hr⟩
  |false =>
   simp only [hb,cond_false] at hk |-
   obtain⟨y,L2,hd,hy,h2⟩:=Bi.get hr hk;exact⟨y,x::L2,.there hd,hy,x,L2,U,he,h2⟩
theorem yZ.nth {ρ:Ac}{h:Part}:∀ {l:List A}{cs:LV}{i:Nat}{x:A},yZ ρ h l cs->FO l i=some x->∃ v,cs[i]?=some v/\v.oneCell'=true/\zN ρ h x v
 |[],cs,i,x,k,hd=>by simp [FO] at hd
 |y::r,cs,i,x,k,hd=>by
  obtain⟨v,t,rfl,h1,h2,h3⟩:=k;cases i with
  |zero=>simp only [FO,au] at hd;subst hd;exact⟨v,U,h1,h2⟩
  |succ i=>simp only [FO] at hd;simp only [Ab];exact yZ.nth h3 hd
theorem yZ.len {ρ:Ac}{h:Part}:∀ {l:List A}{cs:LV},yZ ρ h l cs->cs.length=l.length
 |[],cs,k=>by simp only [yZ] at k;subst k;rfl
 |d::r,cs,k=>by
  obtain⟨v,t,rfl,_,_,h3⟩:=k;simp [yZ.len h3]
theorem yZ.drop {ρ:Ac}{h:Part}:∀ {l:List A}{cs:LV}(i:Nat),yZ ρ h l cs->yZ ρ h (l.drop i) (cs.drop i)
 |[],cs,i,k=>by simp only [yZ] at k;subst k;simp [yZ]
 |d::r,cs,0,k=>k
 |d::r,cs,i+1,k=>by
  obtain⟨v,t,rfl,_,_,h3⟩:=k;exact yZ.drop i h3
theorem yZ.take {ρ:Ac}{h:Part}:∀ {l:List A}{cs:LV}(i:Nat),yZ ρ h l cs->yZ ρ h (l.take i) (cs.take i)
 |[],cs,i,k=>by simp only [yZ] at k;subst k;simp [yZ]
 |d::r,cs,0,k=>by simp [yZ]
 |d::r,cs,i+1,k=>by
  obtain⟨v,t,rfl,h1,h2,h3⟩:=k;rw [A7,A7];exact⟨v,_,U,h1,h2,yZ.take i h3⟩
theorem yZ.ds {ρ:Ac}{h:Part}:∀ {l:List A}{cs:LV}{ds:List D},yZ ρ h l cs->Kb l=some ds->yp ds h cs
 |[],cs,ds,k,hd=>by simp only [yZ] at k;cases hd;subst k;simp [yp]
 |.d x::r,cs,ds,k,hd=>by
  obtain⟨v,t,rfl,h1,h2,h3⟩:=k;simp only [Kb] at hd;split at hd
  ·rename_i l hl;cases hd;unfold yp;exact⟨v,t,U,h1,h2,yZ.ds h3 hl⟩
  ·cases hd
 |.own _ _::r,cs,ds,k,hd=>by simp [Kb] at hd
 |.row _::r,cs,ds,k,hd=>by simp [Kb] at hd
 |.CJ _ _::r,cs,ds,k,hd=>by simp [Kb] at hd
 |.mp _::r,cs,ds,k,hd=>by simp [Kb] at hd
 |.any::r,cs,ds,k,hd=>by simp [Kb] at hd
theorem cY {u x:Value}:Den (.v u) h x<->x=u:=by unfold Den;exact Ew
theorem cC {b:Bool}:Den (.bq b) h x<->x=.bool b:=by unfold Den;exact Ew
variable{l:List D}
theorem cA :Den (.st l) h x<->∃ cs:LV,x=.agg cs.toArray/\yp l h cs:=by unfold Den;exact Ew
theorem fw {n:Nd}:Den (.nd n) h x<->∃ cs:LV,x=.agg cs.toArray/\B9 h cs n:=by unfold Den;exact Ew
theorem kJ :Den (.zZ l) h x<->∃ cs:LV,x=.tuple cs.toArray/\yT l h cs:=by unfold Den;exact Ew
theorem gE :Den (.ptr l) h x<->∃ b o,x=.pointer (some ⟨b,o,none⟩)/\∃ c cs,h b=some c/\UQ c o cs/\yp l h cs:=by unfold Den;exact Ew
theorem mP {n:Nd}:Den (.pnd n) h x<->∃ b o,x=.pointer (some ⟨b,o,none⟩)/\∃ c cs,h b=some c/\UQ c o cs/\B9 h cs n:=by unfold Den;exact Ew
theorem AU {l:LB}:Den (.bs l) h x<->∃ a c,x=.slice a l.length c/\A3 DJ 1 h a c l:=by unfold Den;exact Ew
theorem dy {l:LN}:Den (.AX l) h x<->∃ a c,x=.slice a l.length c/\A3 B9 5 h a c l:=by unfold Den;exact Ew
theorem iN {α:Type}{sz:Nat}{enc:α->List D}{l:List α}:Den (.sl sz enc l) h x<->∃ a c,x=.slice a l.length c/\A3 (IW enc) sz h a c l:=by unfold Den;exact Ew
theorem eX {d:D}(hc:F' d=some l):Den d h x<->∃ cs:LV,x=.agg cs.toArray/\yp l h cs:=by
 cases d<;>simp only [F',au,reduceCtorEq] at hc
 ·subst hc;exact cA
 ·subst hc;rw [fw];exact⟨λ⟨cs,e,r⟩=>⟨cs,e,r8.1 r⟩,λ⟨cs,e,r⟩=>⟨cs,e,r8.2 r⟩⟩
theorem a2M {d:D}{n:Nat}(hd:Uj d=some n) (hx:Den d h x):∃ a c,x=.slice a n c:=by
 unfold Uj at hd;split at hd<;>cases hd
 ·obtain⟨a,c,e,_⟩:=AU.1 hx;exact⟨a,c,e⟩
 ·obtain⟨a,c,e,_⟩:=dy.1 hx;exact⟨a,c,e⟩
 ·obtain⟨a,c,e,_⟩:=iN.1 hx;exact⟨a,c,e⟩
 ·exact⟨_,_,cY.1 hx⟩
theorem sR {d:D}{v:Value}(hd:OR d=true) (k:Den d h v):v.oneCell'=true:=by
 cases d<;>simp only [OR,reduceCtorEq] at hd
 ·rw [cY.1 k];exact hd
 ·rw [cC.1 k];rfl
 ·obtain⟨_,_,rfl,_⟩:=AU.1 k;rfl
 ·obtain⟨_,_,rfl,_⟩:=dy.1 k;rfl
 ·obtain⟨_,_,rfl,_⟩:=iN.1 k;rfl
 ·obtain⟨_,_,rfl,_⟩:=gE.1 k;rfl
 ·obtain⟨_,_,rfl,_⟩:=mP.1 k;rfl
theorem mw {v:Value}(h:v.oneCell'=true):v.cells=#[v]:=by cases v<;>first|rfl|(simp [Value.oneCell'] at h)
theorem UC {d:D}{v:Value}(hc:PA d=some l) (k:Den d h v):yp l h v.cells.toList:=by
 unfold PA at hc;split at hc
 ·rename_i l' hl;cases hc;obtain⟨cs,rfl,h2⟩:=(eX hl).1 k;simpa [Value.cells] using h2
 ·cases hb:OR d with
  |true =>
   rw [hb,cond_true] at hc;cases hc;have h1:=sR hb k;rw [mw h1];unfold yp;exact⟨v,[],U,h1,k,by unfold yp;rfl⟩
  |false=>rw [hb] at hc;cases hc
theorem vB {pl:List (Nat×Nat)}{h:Part}:∀ {l:List (Nat×D)}{vs:List (Nat×Value)}{ds r:List D}{cs:LV},Fa (λ(x:Nat×D) (y:Nat×Value)=>x.1=y.1/\Den x.2 h y.2) l vs->yp ds h cs->RO pl ds l=some r->∃ Da,K6 pl cs vs=some Da/\yp r h Da
 |[],vs,ds,r,cs,hf,hd,e=>by cases hf;cases e;exact⟨cs,U,hd⟩
 |(i,d)::l,vs,ds,r,cs,hf,hd,e=>by
  cases hf with
  |cons h1 h2 =>
   rename_i y vs;obtain⟨j,v⟩:=y;obtain⟨rfl,h3⟩:=h1;simp only [RO] at e;split at e
   ·rename_i o n l' hn hc;cases hb:Nat.beq l'.length n with
    |false=>rw [hb] at e;cases e
    |true =>
     rw [hb,cond_true] at e;split at e
     ·rename_i Iu hs;have h4:=UC hc h3;obtain⟨h5,h6⟩:=og _ _ _ _ hs;have h7:=h4.len;have h8:=hd.len;have h9:=am hb;have CL:yp Iu h (cs.take o++v.cells.toList++cs.drop (o+n)):=by
       rw [h6,h9];exact((hd.take o).app h4).app (hd.drop (o+n))
      obtain⟨Da,K2,Vd⟩:=vB h2 CL e;refine⟨Da,?_,Vd⟩;rw [iZ] at hn;simp only [K6,hn];rw [xD ⟨h7.trans h9,by rw [h8];omega⟩];exact K2
     ·cases e
   ·cases e
theorem a1f {d:D}{n sz nn:Nat}{xs:LV}(hd:Uj d=some n) (hx:J2 h d sz nn xs):nn=n:=by
 cases d<;>simp only [J2] at hx<;>simp only [Uj,au] at hd
 ·exact hx.2.1.trans hd
 ·exact hx.2.1.trans hd
 ·exact hx.2.1.trans hd
theorem jC {ρ:Ac}{u x:Value}:zN ρ h (.d (.v u)) x<->x=u:=cY (h:=h)
theorem ja {ρ:Ac}{b:Bool}:zN ρ h (.d (.bq b)) x<->x=.bool b:=cC (h:=h)
theorem bh {u:Value}:Den (.v u) h u:=(cY (h:=h)).2 U
variable{T:TypeId}
section
variable {P:Program} [CY P] [Tb P] {e:Env}{m:Nat}{r:yF}{p:List PanicEntry->yF}{S:AH}{h:Part}{L:LE}{ρ:Ac}{a:LO}{o:LQ}{ty:TypeId}
omit [CY P] in
theorem bv (c:Cz P ρ h a o S L) {y:Operand}{u:A}(hy:z' a y=some u):∃ v,ev S y=some v/\zN ρ h u v:=by
 cases y with
 |tmp t=>exact c.s t u hy
 |const k=>simp only [z',au] at hy;subst hy;exact⟨k,U,bh (h:=h)⟩
 |global g=>simp only [z'] at hy;split at hy<;>cases hy;rename_i v hv;exact⟨v,hv,bh (h:=h)⟩
 |func g=>simp only [z'] at hy;split at hy<;>cases hy;rename_i v hv;exact⟨v,hv,bh (h:=h)⟩
omit [CY P] in
theorem bR (c:Cz P ρ h a o S L) {y:Operand}{v:Value}(hy:z' a y=some (.d (.v v))):ev S y=some v:=by
 obtain⟨u,h1,h2⟩:=bv c hy;rw [h1,jC.1 h2]
omit [CY P] in
theorem vq {xo:Operand}{off:Nat}{u:A}{b o':Nat}{cc:Array Value}{cs:LV}(hx:ev S xo=some (.pointer (some ⟨b,o'+off,none⟩))) (hb:h b=some cc) (hl:UQ cc o' cs) (hd:yp l h cs) (hu:ldD P T l off=some u):∃ v,xG ⟨P,e,m,r,p⟩ S h L (.load T xo) ty v/\zN ρ h u v:=by
 have hlen:=hd.len;unfold ldD at hu;split at hu
 ·rename_i ha;split at hu<;>cases hu;rename_i d hn;rw [iZ] at hn;obtain⟨v,h1,h2,h3⟩:=hd.nth hn;have hi:off<cs.length:=(xS.1 h1).1;have hE:I_ (λ_ c (_:Unit)=>c=[v]) 1 h b (o'+off) ():=⟨cc,[v],hb,U,λj hj=>by
   have:j=0:=by omega
   subst this;rw [DY,hl _ hi,h1];rfl,U⟩
  obtain⟨w,h4,h5⟩:=AB.R5 (f:=⟨P,e,m,r,p⟩) (S:=S) (L:=L) (ty:=ty) (Tb.agg ha) hx hE;cases h5;exact⟨_,h4,h3⟩
 ·rename_i sz ha;have key:∀ l',off+sz<=l.length->l'=(l.drop off).take sz->∃ v,xG ⟨P,e,m,r,p⟩ S h L (.load T xo) ty v/\Den (.st l') h v:=λl' h1 h2=>by
   subst h2;have hE:I_ (λ_ c (_:Unit)=>c=(cs.drop off).take sz) sz h b (o'+off) ():=⟨cc,(cs.drop off).take sz,hb,by simp;omega,λj hj=>by
    rw [yz,xD hj,yC,CG,hl _ xE],U⟩
   obtain⟨w,h4,Da,h5,h6⟩:=AB.Na (f:=⟨P,e,m,r,p⟩) (S:=S) (L:=L) (ty:=ty) (Tb.agg ha) hx hE;exact⟨w,h4,cA.2 ⟨Da,h5,by rw [h6];exact(hd.drop off).take sz⟩⟩
  exact m14
 ·cases hu
omit [CY P] in
theorem a61 {xo:Operand}{cs:List A}{off b t:Nat}{u:A}(hx:ev S xo=some (.pointer (some ⟨b,off,none⟩))) (hm:Br.yY b t vs∈L) (hd:yZ ρ h cs vs) (hu:ldO P T cs off=some u):∃ v,xG ⟨P,e,m,r,p⟩ S h L (.load T xo) ty v/\zN ρ h u v:=by
 have hlen:=hd.len;unfold ldO at hu;split at hu
 ·rename_i ha;obtain⟨v,h1,h2,h3⟩:=hd.nth hu;exact⟨v,aG (Tb.agg ha) hx hm h1,h3⟩
 ·rename_i sz ha;split at hu
  ·rename_i l Ge;obtain⟨h1,h2⟩:=mU _ _ _ _ Ge;split at hu
   ·rename_i ds Va;have hL:yp ds h ((vs.drop off).take sz):=((hd.drop off).take sz).ds (by rw [<- h2];exact Va);refine⟨_,xG.OP (Tb.agg ha) hx hm xE,?_⟩;split at hu<;>cases hu
    ·rename_i r' J_;exact Tb.J_ J_ _ _ hL
    ·exact(cA (h:=h)).2 ⟨_,U,hL⟩
   ·cases hu
  ·cases hu
 ·cases hu
omit [CY P] in
theorem a60 {xo:Operand}{off b t:Nat}{u:A}(hx:ev S xo=some (.pointer (some ⟨b,off,none⟩))) (hm:Br.yY b t vs∈L) (hd:yp l h vs) (hu:ldD P T l off=some u):∃ v,xG ⟨P,e,m,r,p⟩ S h L (.load T xo) ty v/\zN ρ h u v:=by
 have hlen:=hd.len;unfold ldD at hu;split at hu
 ·rename_i ha;split at hu<;>cases hu;rename_i d hn;rw [iZ] at hn;obtain⟨v,h1,h2,h3⟩:=hd.nth hn;exact⟨v,aG (Tb.agg ha) hx hm h1,h3⟩
 ·rename_i sz ha;have key:∀ l',off+sz<=l.length->l'=(l.drop off).take sz->∃ v,xG ⟨P,e,m,r,p⟩ S h L (.load T xo) ty v/\Den (.st l') h v:=λl' h1 h2=>by
   subst h2;exact⟨_,xG.OP (Tb.agg ha) hx hm xE,(cA (h:=h)).2 ⟨_,U,(hd.drop off).take sz⟩⟩
  exact m14
 ·cases hu
theorem a1S (o k:Nat):a5P o k=o+k:=by
 unfold a5P;cases h:Nat.beq o 0 with
 |true=>have:=am h;simp [this]
 |false=>rfl
omit [Tb P] in
theorem CY.off {T i off:Nat}(h:K5 (CY.fo P) T i=some off):CM P T i=some off:=by
 have hm:=xH.1 (CY.J_ (P:=P)) _ (rp h);exact eq_of_beq hm
omit [Tb P] in
theorem CY.slt {T:Nat}{v:Nat×Nat}(h:EG (CY.sl P) T=some v):Ig P T=some v:=by
 have hm:=xH.1 (CY.O3 (P:=P)) _ (rq h);exact eq_of_beq hm
omit [CY P] in
theorem RS (c:Cz P ρ h a o S L):∀ {ps:List (Nat×Operand)}{l:List (Nat×D)},a2I a ps=some l->∃ vs,Vh S ps=some vs/\Fa (λ(x:Nat×D) (y:Nat×Value)=>x.1=y.1/\Den x.2 h y.2) l vs
 |[],l,e=>by cases e;exact⟨[],U,.nil⟩
 |(i,x)::r,l,e=>by
  simp only [a2I] at e;split at e
  ·rename_i d l' h1 h2;cases e;obtain⟨v,h3,h4⟩:=bv c h1;obtain⟨vs,h5,h6⟩:=RS c h2;exact⟨(i,v)::vs,by simp only [Vh,h3,h5],.cons ⟨U,h4⟩ h6⟩
  ·cases e
theorem a4f {d:D}{b:Bool}{v:Value}(e:bB d=some b) (k:Den d h v):v=.bool b:=by
 unfold bB at e;split at e<;>cases e
 ·exact cC.1 k
 ·exact cY.1 k
theorem PQ (c:Cz P ρ h a o S L) {q:Op}{u:A}(hv:FJ P a o q=some u):∃ v,xG ⟨P,e,m,r,p⟩ S h L q ty v/\zN ρ h u v:=by
 unfold FJ at hv;split at hv
 ·obtain⟨v,h1,h2⟩:=bv c hv;exact⟨v,aY h1,h2⟩
 ·obtain⟨v,h1,h2⟩:=bv c hv;exact⟨v,xG.assign h1,h2⟩
 ·split at hv
  ·rename_i hc;obtain⟨v,h1,h2⟩:=bv c hv;exact⟨v,xG.JO (bR c hc) h1,h2⟩
  ·rename_i hc;obtain⟨v,h1,h2⟩:=bv c hv;exact⟨v,xG.JP (bR c hc) h1,h2⟩
  ·cases hv
 ·split at hv
  ·rename_i l hx;split at hv<;>cases hv;rename_i d hd;obtain⟨v,h1,h2⟩:=bv c hx;obtain⟨cs,rfl,h3⟩:=kJ.1 h2;rw [iZ] at hd;obtain⟨w,h4,h5⟩:=h3.nth hd;exact⟨w,xG.extract h1 (by simpa using h4),h5⟩
  ·rename_i vs hx;split at hv<;>cases hv;rename_i v hd;rw [iZ] at hd;exact⟨v,xG.extract (bR c hx) (by simpa using hd),bh (h:=h)⟩
  ·cases hv
 ·split at hv
  ·rename_i k o' hx;cases hv;obtain⟨v,h1,h2⟩:=bv c hx;cases h2;exact⟨_,dz h1,U⟩
  ·rename_i l hx;cases hv;obtain⟨v,h1,h2⟩:=bv c hx;obtain⟨b,o',rfl,h3⟩:=gE.1 h2;exact⟨_,dz h1,h2⟩
  ·rename_i l hx;cases hv;obtain⟨v,h1,h2⟩:=bv c hx;obtain⟨b,o',rfl,h3⟩:=mP.1 h2;exact⟨_,dz h1,h2⟩
  ·cases hv
 ·split at hv
  ·rename_i hx;cases hv;exact⟨_,xG.XM (bR c hx),bh (h:=h)⟩
  ·rename_i hx;cases hv;exact⟨_,xG.XM (bR c hx),bh (h:=h)⟩
  ·rename_i hx;cases hv;obtain⟨v,h1,h2⟩:=bv c hx;rw [ja.1 h2] at h1;exact⟨_,xG.XM h1,(cC (h:=h)).2 U⟩
  ·cases hv
 ·split at hv
  ·rename_i hx hy;split at hv<;>cases hv;rename_i v hw;obtain⟨hk,V4⟩:=Sj hw;subst hk;exact⟨.bool v,ZE (bR c hx) (bR c hy) V4,(cC (h:=h)).2 U⟩
  ·rename_i hx hy;unfold a9n at hv;split at hv<;>cases hv
   ·exact⟨_,xG.a6B (bR c hx) (bR c hy),(cC (h:=h)).2 U⟩
   ·exact⟨_,xG.b0f (bR c hx) (bR c hy),(cC (h:=h)).2 U⟩
   ·exact⟨_,xG.b0k (bR c hx) (bR c hy),(cC (h:=h)).2 U⟩
  ·rename_i d d' _ _ hx hy;split at hv
   ·rename_i b b' hb G5;obtain⟨v,h1,h2⟩:=bv c hx;obtain⟨v',h3,h4⟩:=bv c hy;rw [a4f hb h2] at h1;rw [a4f G5 h4] at h3;split at hv
    ·rename_i hm;unfold a9o at hv;split at hv<;>cases hv
     ·exact⟨_,xG.b1o (Tb.bool hm) h1 h3,(cC (h:=h)).2 U⟩
     ·exact⟨_,xG.b0g (Tb.bool hm) h1 h3,(cC (h:=h)).2 U⟩
    ·cases hv
   ·cases hv
  ·cases hv
 ·rename_i cc;obtain⟨callee,args,argTypes⟩:=cc;split at hv
  ·rename_i x T hc ha ht;simp only at hc ha ht;have ea:args=#[x]:=by apply Jz;simpa using ha
   have et:argTypes=#[T]:=by apply Jz;simpa using ht
   subst hc ea et;split at hv
   ·rename_i q hx;cases hm:Eh (Tb.st P) T with
    |true=>rw [hm,cond_true] at hv;cases hv;exact⟨_,xG.a2h (Tb.a9Y hm) (bR c hx),bh (h:=h)⟩
    |false=>rw [hm,cond_false] at hv;cases hv
   ·rename_i d _ hx;split at hv<;>cases hv;rename_i v' n' hf hd;obtain⟨v,h1,h2⟩:=bv c hx;obtain⟨a',c',rfl⟩:=a2M hd h2;exact m195
   ·rename_i k hx;split at hv
    ·rename_i t d hk;split at hv<;>cases hv;rename_i v' n' hf hd;obtain⟨v,h1,h2⟩:=bv c hx;cases h2;obtain⟨y,L',hD,⟨xs,sz,rfl,hR,_⟩,hr⟩:=c.o.get hk;rw [<- a1f hd hR];exact m195
    ·cases hv
   ·cases hv
  ·cases hv
 ·split at hv
  ·rename_i k o' off hx hf;cases hv;obtain⟨v,h1,h2⟩:=bv c hx;cases h2;exact⟨_,bH (CY.off hf) h1,by rw [a1S];rfl⟩
  ·rename_i l off hx hf;cases hv;obtain⟨v,h1,h2⟩:=bv c hx;obtain⟨b,o',rfl,cc,cs,h3,h4,h5⟩:=gE.1 h2;exact⟨_,bH (CY.off hf) h1,(gE (h:=h)).2 ⟨b,o'+off,U,cc,cs.drop off,h3,λj hj=>by
    rw [aM] at hj;rw [yC,CG,h4 _ xE],h5.drop off⟩⟩
  ·rename_i n' off hx hf;cases hv;obtain⟨v,h1,h2⟩:=bv c hx;obtain⟨b,o',rfl,cc,cs,h3,h4,h5⟩:=mP.1 h2;exact⟨_,bH (CY.off hf) h1,(gE (h:=h)).2 ⟨b,o'+off,U,cc,cs.drop off,h3,λj hj=>by
    rw [aM] at hj;rw [yC,CG,h4 _ xE],(r8.1 h5).drop off⟩⟩
  ·cases hv
 ·rename_i T ps;split at hv
  ·rename_i pl ds l Le hzr hl;split at hv
   ·rename_i cs hfd;obtain⟨zs,h1,h2⟩:=Tb.Le Le hzr;obtain⟨vs,h3,h4⟩:=RS c hl;obtain⟨Da,h5,h6⟩:=vB h4 (h2 h) hfd;obtain⟨ps⟩:=ps;cases hv;exact⟨_,bi h1 h3 h5,(cA (h:=h)).2 ⟨_,U,h6⟩⟩
   ·cases hv
  ·cases hv
 ·rename_i T y;split at hv
  ·rename_i k off hx;obtain⟨v,h1,h2⟩:=bv c hx;cases h2;split at hv
   ·rename_i t cs hk;obtain⟨y,L',hD,⟨vs,rfl,hR⟩,hr⟩:=c.o.get hk;exact a61 h1 hD.mem hR hv
   ·rename_i t d hk;obtain⟨y,L',hD,⟨vs,rfl,hR⟩,hr⟩:=c.o.get hk;split at hv
    ·rename_i l hl;obtain⟨cs,h3,h4⟩:=(eX hl).1 hR;have hcv:vs=cs:=by injection h3 with h3;simpa using congrArg Array.toList h3
     subst hcv;have gen:∀ u,ldD P T l off=some u->∃ v,xG ⟨P,e,m,r,p⟩ S h L (.load T y) ty v/\zN ρ h u v:=λu hu=>a60 h1 hD.mem h4 hu;cases h0:Nat.beq off 0 with
     |false=>rw [h0,cond_false] at hv;exact gen _ hv
     |true =>
      rw [h0,cond_true] at hv;split at hv
      ·rename_i sz ha;cases hs:Nat.beq l.length sz with
       |false=>rw [hs,cond_false] at hv;exact gen _ hv
       |true =>
        rw [hs,cond_true] at hv;cases hv;obtain rfl:=am h0;have CP:=am hs;exact⟨_,bK (Tb.agg ha) h1 hD.mem (by rw [h4.len,CP]),hR⟩
      ·exact gen _ hv
    ·cases hv
   ·cases hv
  ·rename_i l hx;obtain⟨v,h1,h2⟩:=bv c hx;obtain⟨b,o',rfl,cc,cs,h3,h4,h5⟩:=gE.1 h2;exact vq (off:=0) h1 h3 h4 h5 hv
  ·rename_i n' hx;obtain⟨v,h1,h2⟩:=bv c hx;obtain⟨b,o',rfl,cc,cs,h3,h4,h5⟩:=mP.1 h2;have h6:=r8.1 h5;split at hv
   ·rename_i sz ha;cases hs:Nat.beq sz 5 with
    |false=>rw [hs,cond_false] at hv;cases hv
    |true =>
     rw [hs,cond_true] at hv;cases hv;obtain rfl:=am hs;have hE:I_ B9 5 h b o' n':=⟨cc,cs,h3,h5.M',λj hj=>h4 j (by rw [h5.M'];exact hj),h5⟩;obtain⟨w,h7,Da,h8,h9⟩:=AB.Na (f:=⟨P,e,m,r,p⟩) (S:=S) (L:=L) (ty:=ty) (Tb.agg ha) h1 hE;exact⟨w,h7,(fw (h:=h)).2 ⟨Da,h8,h9⟩⟩
   ·exact vq (off:=0) h1 h3 h4 h6 hv
   ·cases hv
  ·cases hv
 ·cases hv
end
abbrev y_:=LO->LQ->Prop
structure Fd where
 e:Env
 m:Nat
 r:yF
 p:List PanicEntry->yF
abbrev Fd.fr (F:Fd) (P:Program):Fr:=⟨P,F.e,F.m,F.r,F.p⟩
def up (P:Program) [Tb P] (n:y_):yF:=λS h L=>∃ ρ a o,Cz P ρ h a o S L/\n a o
structure JD (P:Program) [Tb P] (F:Fd) (c:Code) (n:y_) (x:Nat->y_) (a:LO) (o:LQ):Prop where
 k:∀ ρ h S L,Cz P ρ h a o S L->J (F.fr P) c (up P n) (λi=>up P (x i)) S h L
structure Al (P:Program) [Tb P] (F:Fd) (ops:Array Oper) (n:y_) (x:Nat->y_) (l:LR) (a:LO) (o:LQ):Prop where
 k:∀ ρ h S L,Cz P ρ h a o S L->JL (F.fr P) ops (up P n) (λi=>up P (x i)) l S h L
def Ms:LO->LO->Prop
 |[],_=>True
 |(t,x)::r,a=>BF a t=some x/\Ms r a
def I7:LQ->LQ->Prop
 |[],_=>True
 |(k,e)::r,o=>BH o k=some e/\I7 r (D9 o k)
theorem Ms.lk {a' a:LO}(h:Ms a' a) {t:Nat}{x:A}(hx:BF a' t=some x):BF a t=some x:=by
 induction a' with
 |nil=>cases hx
 |cons y r ih =>
  obtain⟨k,u⟩:=y;simp only [BF] at hx;cases hb:Nat.beq k t with
  |true =>
   obtain rfl:=am hb;simp only [hb,cond_true,au] at hx;subst hx;exact h.1
  |false=>simp only [hb,cond_false] at hx;exact ih h.2 hx
theorem I7.den {ρ:Ac}{h:Part}:∀ {o' o:LQ}{L:LE},I7 o' o->Bi ρ h o L->∃ L' Lr,zO L' L Lr/\Bi ρ h o' L'
 |[],o,L,_,_=>⟨[],L,.nil,U⟩
 |(k,e)::r,o,L,hw,hd=>by
  obtain⟨x,L1,h1,h2,h3⟩:=hd.get hw.1;obtain⟨L',Lr,h4,h5⟩:=I7.den hw.2 h3;exact⟨x::L',Lr,.cons h1 h4,x,L',U,h2,h5⟩
def Aa:List Nat->LO->Option LO
 |[],_=>some []
 |k::r,a=>match BF a k,Aa r a with
  |some v,some a'=>some ((k,v)::a')
  |_,_=>none
theorem vt:∀ {ks:List Nat}{a a':LO},Aa ks a=some a'->Ms a' a
 |[],a,a',h=>by simp only [Aa,au] at h;subst h;exact trivial
 |k::r,a,a',h=>by
  simp only [Aa] at h;split at h
  ·rename_i v a1 hv h1;simp only [au] at h;subst h;exact⟨hv,vt h1⟩
  ·cases h
section
variable {P:Program} [Tb P] {F:Fd}{n:y_}{x:Nat->y_}{a a':LO}{o o':LQ}{ops:Array Oper}{c d:Code}{l:LR}
theorem Cz.wk {ρ:Ac}(hA:Ms a' a) (c:Cz P ρ h a o S L):Cz P ρ h a' o S L:=⟨c.t,λt x hx=>c.s t x (hA.lk hx),c.o⟩
theorem Cz.wk2 {ρ:Ac}(hA:Ms a' a) (hO:I7 o' o) (c:Cz P ρ h a o S L):∃ L' Lr,zO L' L Lr/\Cz P ρ h a' o' S L':=by
 obtain⟨L',Lr,h1,h2⟩:=hO.den c.o;exact⟨L',Lr,h1,c.t,λt x hx=>c.s t x (hA.lk hx),h2⟩
theorem Ka (ks:List Nat) (hk:Aa ks a=some a') (k:JD P F c n x a' o):JD P F c n x a o:=.mk λρ h S L cz=>k.k ρ h S L (cz.wk (vt hk))
theorem VR {n n':y_}(hn:∀ a o,n a o->n' a o) (S:AH) (h:Part) (L:LE) (k:up P n S h L):up P n' S h L:=by
 obtain⟨ρ,a,o,cz,k⟩:=k;exact⟨ρ,a,o,cz,hn _ _ k⟩
theorem JD.cut {n':y_}{x':Nat->y_}(k:JD P F c n' x' a o) (hn:∀ a o,n' a o->n a o) (hx:∀ i a o,x' i a o->x i a o):JD P F c n x a o:=.mk λρ h S L cz=>J.cut (k.k ρ h S L cz) (VR hn) (λi=>VR (hx i))
theorem JD.seq (k:JD P F c (JD P F d n x) x a o):JD P F (.seq c d) n x a o:=.mk λρ h S L cz =>
 aK (J.cut (k.k ρ h S L cz) (λS h L ⟨ρ,a,o,cz,k⟩=>k.k ρ h S L cz) (λ_ _ _ _ hh=>hh))
theorem JD.skip (k:n a o):JD P F .skip n x a o:=.mk λρ h S L cz=>aO ⟨ρ,a,o,cz,k⟩
theorem JD.block (k:JD P F c n (λi=>bif Nat.beq i id then n else x i) a o) (hid:Nat.blt id 1000000=true:=by rfl):JD P F (.block id c) n x a o:=.mk λρ h S L cz =>
 aV (J.cut (k.k ρ h S L cz) (λ_ _ _ hh=>hh) (λi S h L hh=>by
  cases hb:Nat.beq i id with
  |true=>simpa only [hb,cond_true] using hh
  |false=>simpa only [hb,cond_false] using hh)) hid
theorem JD.exit {i:Nat}(k:x i a o) (hi:Nat.blt i 1000000=true:=by rfl):JD P F (.exit i) n x a o:=.mk λρ h S L cz=>bJ ⟨ρ,a,o,cz,k⟩ hi
theorem JD.region {l:LR}(k:Al P F l.toArray n x l a o):JD P F (.region id l.toArray false) n x a o:=.mk λρ h S L cz=>J.region (k.k ρ h S L cz)
theorem Al.nil (k:n a o):Al P F ops n x [] a o:=.mk λρ h S L cz=>aj ⟨ρ,a,o,cz,k⟩
def bOf:A->Option Bool
 |.d (.bq b)=>some b
 |.d (.v (.bool b))=>some b
 |_=>none
def UZ (a:LO) (t:Nat):Option Bool:=match BF a t with
 |some x=>bOf x
 |none=>none
theorem xg {ρ:Ac}(c:Cz P ρ h a o S L) {t:Nat}{b:Bool}(ht:UZ a t=some b):look S t=some (.bool b):=by
 unfold UZ at ht;split at ht
 ·rename_i y hy;obtain⟨v,h1,h2⟩:=c.s t _ hy;unfold bOf at ht;split at ht<;>cases ht
  ·rw [h1,ja.1 h2]
  ·rw [h1,jC.1 h2]
 ·cases ht
theorem Cz.bool {ρ:Ac}(c:Cz P ρ h a o S L) {t:Nat}{b b':Bool}(_:UZ a t=some b) (_:b=b'):Cz P ρ h ((t,.d (.v (.bool b')))::a) o ((t,.bool b')::S) L :=
 ⟨c.t,λu y hy=>by
  simp only [BF,look] at hy |-
  cases hq:Nat.beq t u with
  |true=>simp only [hq,cond_true,au] at hy |-;subst hy;exact⟨_,U,bh (h:=h)⟩
  |false=>simp only [hq,cond_false] at hy |-;exact c.s u y hy,c.o⟩
variable {b:Bool}{p q:Prop}
theorem Ci (ht0:BF a t=some (.d (.bq b))) [s:Sp b p q] (k1:p->JD P F c n x ((t,.d (.v (.bool true)))::a) o) (k2:q->JD P F d n x ((t,.d (.v (.bool false)))::a) o):JD P F (.cond (.tmp t) c d) n x a o:=.mk λρ h S L cz=>by
 have ht:UZ a t=some b:=by simp [UZ,ht0,bOf]
 refine J.EI t (xg cz ht) (λhb=>?_) (λhb=>?_)
 ·exact bP (by simp [ev,look]) ((k1 (s.t hb)).k ρ h _ L (cz.bool ht hb))
 ·exact J.Df (by simp [ev,look]) ((k2 (s.f hb)).k ρ h _ L (cz.bool ht hb))
theorem Ct (ht:BF a t=some (.d (.v (.bool true)))) (k:JD P F c n x a o):JD P F (.cond (.tmp t) c d) n x a o:=.mk λρ h S L cz=>bP (xg cz (by simp [UZ,ht,bOf])) (k.k ρ h S L cz)
theorem Cf (ht:BF a t=some (.d (.v (.bool false)))) (k:JD P F d n x a o):JD P F (.cond (.tmp t) c d) n x a o:=.mk λρ h S L cz=>J.Df (xg cz (by simp [UZ,ht,bOf])) (k.k ρ h S L cz)
theorem Cqt (ht:BF a t=some (.d (.bq true))) (k:JD P F c n x a o):JD P F (.cond (.tmp t) c d) n x a o:=.mk λρ h S L cz=>bP (xg cz (by simp [UZ,ht,bOf])) (k.k ρ h S L cz)
theorem Cqf (ht:BF a t=some (.d (.bq false))) (k:JD P F d n x a o):JD P F (.cond (.tmp t) c d) n x a o:=.mk λρ h S L cz=>J.Df (xg cz (by simp [UZ,ht,bOf])) (k.k ρ h S L cz)
theorem Bd (t:Nat) (ht:UZ a t=some b) [s:Sp b p q] (k1:p->Al P F ops n x l ((t,.d (.v (.bool true)))::a) o) (k2:q->Al P F ops n x l ((t,.d (.v (.bool false)))::a) o):Al P F ops n x l a o:=.mk λρ h S L cz =>
 JL.EI t (xg cz ht) (λhb=>(k1 (s.t hb)).k ρ h _ L (cz.bool ht hb)) (λhb=>(k2 (s.f hb)).k ρ h _ L (cz.bool ht hb))
theorem Lp {γ:Type _}(I:γ->Prop) (t:γ->Nat) (aa:γ->LO) (oo:γ->LQ) (g0:γ) (hI:I g0) (hA:Ms (aa g0) a) (hO:I7 (oo g0) o)
 (round:∀ g,I g->JD P F c (λa' o'=>∃ g',t g'<t g/\I g'/\Ms (aa g') a'/\I7 (oo g') o') x (aa g) (oo g)):JD P F (.loop c) n x a o:=.mk λρ h S L cz ac w s=>by
 obtain⟨L',Lr,h1,h2⟩:=cz.wk2 hA hO;refine fk (λi ac w=>∃ g S h L,t g=i/\I g/\Sat (F.fr P).e (F.fr P).m S h L ac w/\∃ ρ,Cz P ρ h (aa g) (oo g) S L) ?_ (t g0) ac w ⟨g0,S,h,L',U,hI,s.with (h1.ok w s.ok),ρ,h2⟩;rintro _ ac w ⟨g,S,h,L,rfl,hg,s,ρ,cz⟩;refine LG ((round g hg).k ρ h S L cz ac w s) (λex a' w' q=>?_);cases ex with
 |normal =>
  obtain⟨S',h',L',s',Ex,a1,o1,BG,g',yJ,hg',hA',hO'⟩:=q;obtain⟨L2,Lr2,h3,h4⟩:=BG.wk2 hA' hO';exact m189
 |_=>exact q
end
def Cv (d d':D):Prop:=∀ h v,Den d h v->Den d' h v
def B5 (P:Program) [Tb P] (T:Nat) (d:D):D:=match d with
 |.v (.slice none 0 0)=>match Tb.nl P T with
  |some d'=>d'
  |none=>.v (.slice none 0 0)
 |.v (.bool b)=>.bq b
 |.st l=>match Tb.fo P T l with
  |some r=>r
  |none=>.st l
 |d=>d
theorem gz  [Tb P] {T:Nat}{d:D}:Cv d (B5 P T d):=λh v k=>by
 unfold B5;split
 ·split
  ·rename_i d' hd;rw [cY.1 k];exact Tb.hnl hd h
  ·exact k
 ·rw [cY.1 k];exact(cC (h:=h)).2 U
 ·split
  ·rename_i r hr;obtain⟨cs,rfl,k2⟩:=cA.1 k;exact Tb.J_ hr h cs k2
  ·exact k
 ·exact k
def TM (P:Program) [Tb P] (T:Nat) (d:D):Option D:=match d with
 |.v (.slice none 0 0)=>match Tb.nl P T with
  |some d'=>some d'
  |none=>some (.v (.slice none 0 0))
 |.v (.bool b)=>some (.bq b)
 |.st l=>match Tb.fo P T l with
  |some r=>some r
  |none=>some (.st l)
 |d=>some d
theorem oY  [Tb P] {T:Nat}{d d':D}(h:TM P T d=some d'):d'=B5 P T d:=by
 unfold TM at h;unfold B5;split at h
 ·split at h<;>cases h<;>simp_all
 ·cases h;rfl
 ·split at h<;>cases h<;>simp_all
 ·rename_i h1 h2 h3;cases h;rfl
def He (P:Program) [Tb P] (T:Nat):List D->Option (List D)
 |[]=>some []
 |d::r=>match TM P T d,He P T r with
  |some d',some r'=>some (d'::r')
  |_,_=>none
theorem jx {P:Program} [Tb P] {T:Nat}{h:Part}:∀ {ds Iu:List D}{vs:LV},He P T ds=some Iu->yT ds h vs->yT Iu h vs
 |[],Iu,vs,e,k=>by cases e;exact k
 |d::r,Iu,vs,e,k=>by
  simp only [He] at e;split at e<;>cases e;rename_i d' r' h1 h2;unfold yT at k |-
  obtain⟨v,t,rfl,h3,h4⟩:=k;rw [oY h1];exact⟨v,t,U,gz h v h3,jx h2 h4⟩
def mx (x y:Nat):Nat:=bif Nat.ble x y then y else x
theorem KM (x y:Nat):x<=mx x y:=by
 unfold mx;cases h:Nat.ble x y with
 |true=>exact zY h
 |false=>exact aB _
theorem M6 (x y:Nat):y<=mx x y:=by
 unfold mx;cases h:Nat.ble x y with
 |true=>exact aB _
 |false =>
  have:¬ x<=y:=λhh=>by rw [Dw hh] at h;cases h
  show y<=x;omega
def kA:A->Nat
 |.own k _=>k+1
 |.row k=>k+1
 |.CJ _ k=>k+1
 |.mp k=>k+1
 |_=>0
def Ho:List A->Nat
 |[]=>0
 |x::r=>mx (kA x) (Ho r)
def Gu:LO->Nat
 |[]=>0
 |(_,x)::r=>mx (kA x) (Gu r)
def kE:OE->Nat
 |.var _ cs=>Ho cs
 |.F3 v _ _=>v+1
 |.Fo v _=>v+1
 |_=>0
def Ep:LQ->Nat
 |[]=>0
 |(k,e)::r=>mx (mx (k+1) (kE e)) (Ep r)
def IT:Nat->List (Option Nat)->Option Nat
 |_,[]=>none
 |0,y::_=>y
 |n+1,_::r=>IT n r
def a2f (n:Nat):Option Nat:=IT n [some 0,some 1,some 2,some 3,some 4,some 5,some 6,some 7,some 8,some 9,some 10,some 11,some 12,some 13,some 14,some 15,some 16,some 17,some 18,some 19,some 20,some 21,some 22,some 23,some 24,some 25,some 26,some 27,some 28,some 29,some 30,some 31]
theorem vp:∀ {l:List (Option Nat)}{n k:Nat},IT n l=some k->l[n]?=some (some k)
 |[],n,k,h=>by cases n<;>cases h
 |y::r,0,k,h=>by simp only [IT] at h;subst h;rfl
 |y::r,n+1,k,h=>by simp only [IT] at h;simpa using vp h
theorem R6 {n k:Nat}(h:a2f n=some k):k=n:=by
 have h1:=vp h;have h2:n<32:=by have:=(xS.1 h1).1;simpa using this
 have h3:∀ m,m<32->a2f m=some m:=by decide
 rw [h3 n h2] at h;cases h;rfl
def LI:Nat->List A->Nat
 |c,[]=>c
 |c,.own k _::r=>match Nat.ble c k with
  |true=>LI (k+1) r
  |false=>LI c r
 |c,.row k::r=>match Nat.ble c k with
  |true=>LI (k+1) r
  |false=>LI c r
 |c,.CJ _ k::r=>match Nat.ble c k with
  |true=>LI (k+1) r
  |false=>LI c r
 |c,.mp k::r=>match Nat.ble c k with
  |true=>LI (k+1) r
  |false=>LI c r
 |c,_::r=>LI c r
def Mw:Nat->LO->Nat
 |c,[]=>c
 |c,(_,.own k _)::r=>match Nat.ble c k with
  |true=>Mw (k+1) r
  |false=>Mw c r
 |c,(_,.row k)::r=>match Nat.ble c k with
  |true=>Mw (k+1) r
  |false=>Mw c r
 |c,(_,.CJ _ k)::r=>match Nat.ble c k with
  |true=>Mw (k+1) r
  |false=>Mw c r
 |c,(_,.mp k)::r=>match Nat.ble c k with
  |true=>Mw (k+1) r
  |false=>Mw c r
 |c,_::r=>Mw c r
def KE:Nat->LQ->Nat
 |c,[]=>c
 |c,(k,.var _ l)::r=>match Nat.ble c k with
  |true=>KE (LI (k+1) l) r
  |false=>KE (LI c l) r
 |c,(k,.F3 v _ _)::r=>match Nat.ble c k with
  |true=>match Nat.ble (k+1) v with
   |true=>KE (v+1) r
   |false=>KE (k+1) r
  |false=>match Nat.ble c v with
   |true=>KE (v+1) r
   |false=>KE c r
 |c,(k,.Fo v _)::r=>match Nat.ble c k with
  |true=>match Nat.ble (k+1) v with
   |true=>KE (v+1) r
   |false=>KE (k+1) r
  |false=>match Nat.ble c v with
   |true=>KE (v+1) r
   |false=>KE c r
 |c,(k,_)::r=>match Nat.ble c k with
  |true=>KE (k+1) r
  |false=>KE c r
theorem gA (x y:Nat):mx x y=max x y:=by
 unfold mx;cases h:Nat.ble x y with
 |true=>have:=zY h;simp;omega
 |false =>
  have:¬ x<=y:=λhh=>by rw [Dw hh] at h;cases h
  simp;omega
theorem LH (c k:Nat):(match Nat.ble c k with|true=>k+1|false=>c)=max c (k+1):=by
 cases h:Nat.ble c k with
 |true=>have:=zY h;simp;omega
 |false =>
  have:¬ c<=k:=λhh=>by rw [Dw hh] at h;cases h
  simp;omega
theorem m9:∀ (l:List A) (c:Nat),LI c l=max c (Ho l)
 |[],c=>by simp [LI,Ho]
 |x::r,c=>by
  cases x with
  |d d=>simp [LI,Ho,kA,gA,m9 r]
  |any=>simp [LI,Ho,kA,gA,m9 r]
  |own k f=>have:=LH c k;simp only [LI,Ho,kA,gA];split<;>(rename_i h;rw [h] at this;rw [m9 r];simp only at this;omega)
  |row k=>have:=LH c k;simp only [LI,Ho,kA,gA];split<;>(rename_i h;rw [h] at this;rw [m9 r];simp only at this;omega)
  |mp k=>have:=LH c k;simp only [LI,Ho,kA,gA];split<;>(rename_i h;rw [h] at this;rw [m9 r];simp only at this;omega)
  |CJ l k=>have:=LH c k;simp only [LI,Ho,kA,gA];split<;>(rename_i h;rw [h] at this;rw [m9 r];simp only at this;omega)
theorem m8:∀ (l:LO) (c:Nat),Mw c l=max c (Gu l)
 |[],c=>by simp [Mw,Gu]
 |(i,x)::r,c=>by
  cases x with
  |d d=>simp [Mw,Gu,kA,gA,m8 r]
  |any=>simp [Mw,Gu,kA,gA,m8 r]
  |own k f=>have:=LH c k;simp only [Mw,Gu,kA,gA];split<;>(rename_i h;rw [h] at this;rw [m8 r];simp only at this;omega)
  |row k=>have:=LH c k;simp only [Mw,Gu,kA,gA];split<;>(rename_i h;rw [h] at this;rw [m8 r];simp only at this;omega)
  |mp k=>have:=LH c k;simp only [Mw,Gu,kA,gA];split<;>(rename_i h;rw [h] at this;rw [m8 r];simp only at this;omega)
  |CJ l k=>have:=LH c k;simp only [Mw,Gu,kA,gA];split<;>(rename_i h;rw [h] at this;rw [m8 r];simp only at this;omega)
theorem fS:∀ (l:LQ) (c:Nat),KE c l=max c (Ep l)
 |[],c=>by simp [KE,Ep]
 |(k,x)::r,c=>by
  have:=LH c k;cases x with
  |var t l=>simp only [KE,Ep,kE,gA];split<;>(rename_i h;rw [h] at this;rw [fS r,m9];simp only at this;omega)
  |B1 t d=>simp only [KE,Ep,kE,gA];split<;>(rename_i h;rw [h] at this;rw [fS r];simp only at this;omega)
  |F3 v t d =>
   exact m27
  |Fo v b =>
   exact m27
  |set es=>simp only [KE,Ep,kE,gA];split<;>(rename_i h;rw [h] at this;rw [fS r];simp only at this;omega)
  |row t d=>simp only [KE,Ep,kE,gA];split<;>(rename_i h;rw [h] at this;rw [fS r];simp only at this;omega)
def Cr (a:LO) (o:LQ):Option Nat:=a2f (KE (Mw 0 a) o)
theorem oZ {a:LO}{o:LQ}{k:Nat}(h:Cr a o=some k):k=mx (Gu a) (Ep o):=by
 rw [R6 h,fS,m8,gA];omega
def Ac.Hs (ρ:Ac) (k b:Nat):Ac:=⟨λi=>if i=k then b else ρ.b i,ρ.a,ρ.c,ρ.n⟩
def Ac.yI (ρ:Ac) (k:Nat) (a:OA) (c n:Nat):Ac:=⟨ρ.b,λi=>if i=k then a else ρ.a i,λi=>if i=k then c else ρ.c i,λi=>if i=k then n else ρ.n i⟩
def Ac.eqv (ρ Ex:Ac) (k:Nat):Prop:=∀ i,i<k->ρ.b i=Ex.b i/\ρ.a i=Ex.a i/\ρ.c i=Ex.c i/\ρ.n i=Ex.n i
theorem Ac.K9 (ρ:Ac) (k b:Nat):ρ.eqv (ρ.Hs k b) k:=λi hi=>⟨by simp [Ac.Hs,show i≠k by omega],U,U,U⟩
theorem Ac.E' (ρ:Ac) (k:Nat) (a:OA) (c n:Nat):ρ.eqv (ρ.yI k a c n) k:=λi hi=>⟨U,by simp [Ac.yI,show i≠k by omega],by simp [Ac.yI,show i≠k by omega],by simp [Ac.yI,show i≠k by omega]⟩
section
variable {ρ Ex:Ac}{h:Part}{k:Nat}
theorem zN.eqv (q:ρ.eqv Ex k) {x:A}{v:Value}(hk:kA x<=k) (d:zN ρ h x v):zN Ex h x v:=by
 cases x with
 |d d'=>exact d
 |own i off=>obtain⟨e,_⟩:=q i (by simp only [kA] at hk;omega);simp only [zN] at d |-;rw [<- e];exact d
 |row i=>obtain⟨_,e1,e2,e3⟩:=q i (by simp only [kA] at hk;omega);simp only [zN] at d |-;rw [<- e1,<- e2,<- e3];exact d
 |CJ l i=>obtain⟨_,e1,e2,e3⟩:=q i (by simp only [kA] at hk;omega);simp only [zN] at d |-;rw [<- e1,<- e2,<- e3];exact d
 |mp i=>obtain⟨e,_⟩:=q i (by simp only [kA] at hk;omega);simp only [zN] at d |-;rw [<- e];exact d
 |any=>trivial
theorem yZ.eqv (q:ρ.eqv Ex k):∀ {l:List A}{cs:LV},Ho l<=k->yZ ρ h l cs->yZ Ex h l cs
 |[],cs,_,d=>d
 |x::r,cs,hk,⟨v,t,e,h1,h2,h3⟩=>by
  simp only [Ho] at hk;exact⟨v,t,e,h1,h2.eqv q (xJ (KM _ _) hk),yZ.eqv q (xJ (M6 _ _) hk) h3⟩
theorem Gl.eqv (q:ρ.eqv Ex k) {i:Nat}{e:OE}{x:Br}(hi:i<k) (hk:kE e<=k) (d:Gl ρ h i e x):Gl Ex h i e x:=by
 obtain⟨e1,e2,e3,e4⟩:=q i hi;cases e with
 |var t cs=>obtain⟨vs,rfl,hv⟩:=d;exact⟨vs,by rw [e1],hv.eqv q hk⟩
 |B1 t d'=>obtain⟨vs,rfl,hv⟩:=d;exact⟨vs,by rw [e1],hv⟩
 |row t d'=>obtain⟨xs,sz,rfl,hv⟩:=d;exact⟨xs,sz,by rw [e2,e3,e4],by rw [<- e4];exact hv⟩
 |F3 v t d' =>
  obtain⟨_,g2,g3,g4⟩:=q v (by simp only [kE] at hk;omega);obtain⟨xs,sz,rfl,hv⟩:=d;exact⟨xs,sz,by rw [g2,g3,g4],by rw [<- g4];exact hv⟩
 |Fo v b=>obtain⟨g1,_⟩:=q v (by simp only [kE] at hk;omega);exact⟨by rw [<- g1];exact d.1,d.2⟩
 |set es=>obtain⟨arr,cl,rfl,hv⟩:=d;exact⟨arr,cl,by rw [e1],hv⟩
theorem Bi.eqv (q:ρ.eqv Ex k):∀ {o:LQ}{L:LE},Ep o<=k->Bi ρ h o L->Bi Ex h o L
 |[],L,_,d=>d
 |(i,e)::r,L,hk,⟨x,L',e1,h1,h2⟩=>by
  simp only [Ep] at hk;have a1:=KM (mx (i+1) (kE e)) (Ep r);have a2:=M6 (mx (i+1) (kE e)) (Ep r);have a3:=KM (i+1) (kE e);have a4:=M6 (i+1) (kE e);exact⟨x,L',e1,h1.eqv q xE xE,Bi.eqv q xE h2⟩
theorem sj {a:LO}{x:A}(hx:BF a t=some x):kA x<=Gu a:=by
 induction a with
 |nil=>cases hx
 |cons y r ih =>
  obtain⟨i,u⟩:=y;simp only [BF,Gu] at hx |-;cases hb:Nat.beq i t with
  |true=>simp only [hb,cond_true,au] at hx;subst hx;exact KM _ _
  |false=>simp only [hb,cond_false] at hx;exact xJ (ih hx) (M6 _ _)
theorem Cz.eqv  [Tb P] {a:LO}{o:LQ}(hk:Cr a o=some k) (q:ρ.eqv Ex k) (c:Cz P ρ h a o S L):Cz P Ex h a o S L:=by
 have e:=oZ hk;have h1:=KM (Gu a) (Ep o);have h2:=M6 (Gu a) (Ep o);exact⟨c.t,λt x hx=>by
  obtain⟨v,h3,h4⟩:=c.s t x hx;exact⟨v,h3,h4.eqv q (by have:=sj hx;omega)⟩,c.o.eqv q xE⟩
end
def SK:List D->Option (List A)
 |[]=>some []
 |d::r=>match SK r with
  |some l=>some (.d d::l)
  |none=>none
theorem ij {ρ:Ac}{h:Part}:∀ {l:List D}{l':List A}{cs:LV},SK l=some l'->yp l h cs->yZ ρ h l' cs
 |[],l',cs,e,k=>by cases e;unfold yp at k;exact k
 |d::r,l',cs,e,k=>by
  simp only [SK] at e;split at e<;>cases e;rename_i l hl;unfold yp at k;obtain⟨v,t,rfl,h1,h2,h3⟩:=k;exact⟨v,t,U,h1,h2,ij hl h3⟩
theorem SJ:∀ {l:List D}{l':List A},SK l=some l'->l'.length=l.length
 |[],l',e=>by cases e;rfl
 |d::r,l',e=>by
  simp only [SK] at e;split at e<;>cases e;rename_i l hl;simp [SJ hl]
theorem yZ.app {ρ:Ac}{h:Part}:∀ {l l':List A}{c c':LV},yZ ρ h l c->yZ ρ h l' c'->yZ ρ h (l++l') (c++c')
 |[],l',c,c',k,k'=>by simp only [yZ] at k;subst k;exact k'
 |y::r,l',c,c',⟨v,t,e,k1,k2,k3⟩,k'=>by subst e;exact⟨v,t++c',U,k1,k2,yZ.app k3 k'⟩
def Oo {α:Type _}:List α->Nat->α->Option (List α)
 |_::r,0,x=>some (x::r)
 |y::r,i+1,x=>match Oo r i x with
  |some l=>some (y::l)
  |none=>none
 |[],_,_=>none
theorem su {α:Type _}:∀ {l l':List α}{i:Nat}{x:α},Oo l i x=some l'->i<l.length/\l'=l.set i x
 |y::r,l',0,x,h=>by simp only [Oo,au] at h;subst h;simp
 |y::r,l',i+1,x,h=>by
  simp only [Oo] at h;split at h<;>cases h;rename_i l hl;obtain⟨h1,h2⟩:=su hl;subst h2;simp;omega
 |[],l',i,x,h=>by cases i<;>simp [Oo] at h
theorem yZ.set {ρ:Ac}{h:Part}{x:A}{v:Value}(h1:v.oneCell'=true) (h2:zN ρ h x v):∀ {l:List A}{cs:LV}{i:Nat},yZ ρ h l cs->yZ ρ h (l.set i x) (cs.set i v)
 |[],cs,i,k=>by simp only [yZ] at k;subst k;simp [yZ]
 |y::r,cs,0,⟨u,t,e,k1,k2,k3⟩=>by subst e;exact⟨v,t,U,h1,h2,k3⟩
 |y::r,cs,i+1,⟨u,t,e,k1,k2,k3⟩=>by subst e;exact⟨u,_,U,k1,k2,yZ.set h1 h2 k3⟩
def Xs:A->Bool
 |.d d=>OR d
 |.own _ _=>true
 |.row _=>true
 |.CJ _ _=>false
 |.mp _=>true
 |.any=>false
theorem QK {ρ:Ac}{x:A}{v:Value}(hd:Xs x=true) (k:zN ρ h x v):v.oneCell'=true:=by
 cases x with
 |d d=>exact sR hd k
 |own i f=>cases k;rfl
 |row i=>cases k;rfl
 |CJ l i=>cases hd
 |mp i=>cases k;rfl
 |any=>cases hd
def Ub (ops:Array Oper) (a:LO):Option (Nat×Bool)->Option Bool
 |none=>some true
 |some (j,b)=>match K_ ops.toList j with
  |some dj=>match BF a dj with
   |some (.d (.v u))=>gd (some u) b
   |_=>none
  |none=>none
def H6 (a:LO):Nat->List (Nat×Operand)->Option (List D)
 |_,[]=>some []
 |i,(j,x)::r=>bif Nat.beq i j then match z' a x,H6 a (i+1) r with
  |some (.d d),some l=>some (d::l)
  |_,_=>none else none
def Fq:List D->Option LN
 |[]=>some []
 |.nd n::r=>match Fq r with
  |some l=>some (n::l)
  |none=>none
 |_=>none
def a3b:List D->Option LB
 |[]=>some []
 |.v (.int .u8 (.ofNat n))::r=>match a3b r with
  |some l=>bif Nat.blt n 256 then some (UInt8.ofNat n::l) else none
  |none=>none
 |_=>none
def Fj (s:LB):List D:=[.v (.string ⟨s.toArray⟩)]
def LJ:List D->Option (List LB)
 |[]=>some []
 |.v (.string ⟨⟨s⟩⟩)::r=>match LJ r with
  |some l=>some (s::l)
  |none=>none
 |_=>none
def a5Z:List D->Option D
 |.nd n::r=>match Fq (.nd n::r) with
  |some l=>some (.AX l)
  |none=>none
 |.v (.int k i)::r=>match a3b (.v (.int k i)::r) with
  |some l=>some (.bs l)
  |none=>none
 |.v (.string s)::r=>match LJ (.v (.string s)::r) with
  |some l=>some (.sl 1 Fj l)
  |none=>none
 |_=>none
def Nb (P:Program) [Tb P] (ds:List D):Option D:=match a5Z ds with
 |some d=>some d
 |none=>Tb.lt P ds
def a8w (P:Program) [Tb P] (a:LO) (k:Nat):Op->Option (A×OE)
 |.alloc T=>match Tb.zr P T with
  |some zs=>match SK zs with
   |some cs=>some (.own k 0,.var T cs)
   |none=>none
  |none=>none
 |.box T x=>match z' a x with
  |some (.d d)=>match F' d with
   |some _=>some (.own k 0,.B1 T d)
   |none=>bif OR d then some (.own k 0,.var T [.d d]) else none
  |some (.CJ l j)=>match SK l with
   |some la=>some (.own k 0,.var T (la++[.row j]))
   |none=>none
  |some u=>bif Xs u then some (.own k 0,.var T [u]) else none
  |none=>none
 |.buildSlice T len ps=>match H6 a 0 ps.toList with
  |some ds=>match Cy (Tb.ap P) T with
   |some (e,sz,_)=>match He P e ds with
    |some Iu=>match Nb P Iu with
     |some d=>bif Nat.beq sz (PY d) then bif Nat.beq len ds.length then bif Nat.ble (len*sz) 16777216 then some (.row k,.row e d) else none else none else none
     |none=>none
    |none=>none
   |none=>none
  |none=>none
 |_=>none
def W8 (P:Program) [Tb P] (T t:Nat) (cs:List A) (off:Nat) (u:A):Option OE :=
 match Hf (Tb.ag P) T with
 |some none=>bif Xs u then match Oo cs off u with
  |some Da=>some (.var t Da)
  |none=>none else none
 |some (some sz)=>match u with
  |.d d=>match F' d with
   |some l=>bif Nat.beq l.length sz then bif Nat.beq cs.length sz then bif Nat.beq off 0 then some (.B1 t d) else none else match SK l with
    |some la=>match KF cs off la with
     |some Da=>some (.var t Da)
     |none=>none
    |none=>none
    else none
   |none=>none
  |.CJ l j=>bif Nat.beq (l.length+1) sz then bif Nat.beq cs.length sz then bif Nat.beq off 0 then match SK l with
   |some la=>some (.var t (la++[.row j]))
   |none=>none
   else none else none else none
  |_=>none
 |none=>none
def W7 (P:Program) [Tb P] (a:LO) (o:LQ) (T:Nat) (x y:Operand):Option (Nat×OE) :=
 match z' a x,z' a y with
 |some (.own k off),some u=>match BH o k with
  |some (.var t cs)=>match W8 P T t cs off u with
   |some e=>some (k,e)
   |none=>none
  |some (.B1 t d)=>match F' d with
   |some l=>match SK l with
    |some cs=>match W8 P T t cs off u with
     |some e=>some (k,e)
     |none=>none
    |none=>none
   |none=>none
  |_=>none
 |_,_=>none
def H7:LQ->Nat->Option LQ
 |[],_=>some []
 |(k,x)::r,t=>bif Nat.beq k t then some r else match H7 r t with
  |some r'=>some ((k,x)::r')
  |none=>none
theorem eZ:∀ {o o':LQ}{k:Nat},H7 o k=some o'->o'=D9 o k
 |[],o',k,h=>by cases h;rfl
 |(i,x)::r,o',k,h=>by
  simp only [H7,D9] at h |-
  cases hb:Nat.beq i k with
  |true=>rw [hb,cond_true] at h;cases h;rfl
  |false =>
   rw [hb,cond_false] at h;split at h<;>cases h;rename_i r' hr;rw [eZ hr];rfl
def mkQ:Op->Bool
 |.alloc _=>true
 |.box _ _=>true
 |.buildSlice _ _ _=>true
 |_=>false
def a0P (P:Program) [CY P] [Tb P] (m:Nat) (ops:Array Oper) (a:LO) (o:LQ):Oper->Option (LO×LQ)
 |⟨some d,q,_,_,_,g⟩=>match Ub ops a g with
  |some true=>bif Nat.blt d m then match FJ P a o q with
   |some u=>some ((d,u)::a,o)
   |none=>match g,mkQ q with
    |none,true=>match Cr a o with
     |some k=>match a8w P a k q with
      |some (u,e)=>some ((d,u)::a,(k,e)::o)
      |none=>none
     |none=>none
    |_,_=>none
   else none
  |some false=>bif Nat.blt d m then some ((d,.d (.v undef))::a,o) else none
  |none=>none
 |⟨none,.store T x y,_,_,_,none⟩=>match W7 P a o T x y with
  |some (k,e)=>match H7 o k with
   |some o'=>some (a,(k,e)::o')
   |none=>none
  |none=>none
 |_=>none
def b04 (P:Program) [CY P] [Tb P] (m:Nat) (ops:Array Oper):Nat->LO->LQ->LR->Option ((LO×LQ)×LR)
 |0,a,o,l=>some ((a,o),l)
 |k+1,a,o,q::l=>match a0P P m ops a o q with
  |some (a',o')=>b04 P m ops k a' o' l
  |none=>none
 |_+1,_,_,[]=>none
def WB (P:Program) [CY P] [Tb P] (m:Nat) (ops:Array Oper):LO->LQ->LR->Option ((LO×LQ)×LR)
 |a,o,[]=>some ((a,o),[])
 |a,o,q::l=>match a0P P m ops a o q with
  |some (a',o')=>WB P m ops a' o' l
  |none=>some ((a,o),q::l)
section
variable {P:Program} [Tb P] {F:Fd}{n:y_}{x:Nat->y_}{a a':LO}{o o':LQ}{ops:Array Oper}{rest:LR}
variable {d:Nat}{q:Op}{ty:TypeId}{pos:String}{af:Array Edge}{g:Option (Nat×Bool)}{u:A}
theorem Cz.put {ρ:Ac}{h:Part}{S:AH}{L:LE}(c:Cz P ρ h a o S L) {v:Value}(hv:zN ρ h u v) (d:Nat):Cz P ρ h ((d,u)::a) o ((d,v)::S) L :=
 ⟨c.t,λt y hy=>by
  simp only [BF,look] at hy |-
  cases hq:Nat.beq d t with
  |true=>simp only [hq,cond_true,au] at hy |-;subst hy;exact⟨v,U,hv⟩
  |false=>simp only [hq,cond_false] at hy |-;exact c.s t y hy,c.o⟩
abbrev cF:=@Cz.put
theorem a3X {ρ:Ac}(c:Cz P ρ h a o S L) (hg:Ub ops a g=some true):g=none\/∃ j dj b,g=some (j,b)/\(ops[j]?).bind (·.dst)=some dj/\look S dj=some (.bool b):=by
 unfold Ub at hg;split at hg
 ·exact .inl U
 ·rename_i j b;split at hg
  ·rename_i dj hj;rw [j9,yX] at hj;split at hg
   ·exact m111
   ·cases hg
  ·cases hg
theorem a9_ {ρ:Ac}(c:Cz P ρ h a o S L) (hg:Ub ops a g=some false):∃ j dj b,g=some (j,b)/\(ops[j]?).bind (·.dst)=some dj/\(look S dj=some (.bool (!b))\/∃ vs,look S dj=some (.tuple vs)):=by
 unfold Ub at hg;split at hg
 ·cases hg
 ·rename_i j b;split at hg
  ·rename_i dj hj;rw [j9,yX] at hj;split at hg
   ·exact m78
   ·cases hg
  ·cases hg
theorem Al.val (hg:Ub ops a g=some true) (hv:∀ ρ h S L,Cz P ρ h a o S L->∃ v,xG (F.fr P) S h L q ty v/\zN ρ h u v) (hd:Nat.blt d F.m=true) (k:Al P F ops n x rest ((d,u)::a) o) :
 Al P F ops n x (⟨some d,q,ty,pos,af,g⟩::rest) a o:=.mk λρ h S L cz=>by
 obtain⟨v,h1,h2⟩:=hv ρ h S L cz;rcases a3X cz hg with rfl|⟨j,dj,b,rfl,h3,h4⟩
 ·exact aA h1 hd (k.k ρ h _ L (cz.put h2 d))
 ·exact bz h3 h4 h1 hd (k.k ρ h _ L (cz.put h2 d))
theorem Al.no (hg:Ub ops a g=some false) (hd:Nat.blt d F.m=true) (k:Al P F ops n x rest ((d,.d (.v undef))::a) o):Al P F ops n x (⟨some d,q,ty,pos,af,g⟩::rest) a o:=.mk λρ h S L cz=>by
 obtain⟨j,dj,b,rfl,h3,h4⟩:=a9_ cz hg;exact JL.MU h3 h4 hd (k.k ρ h _ L (cz.put (u:=.d (.v undef)) (v:=undef) (jC.2 U) d))
theorem Bg {j dj:Nat}{gb b:Bool}{p q:Prop}{dd:Option Nat}{qq:Op}(hj:K_ ops.toList j=some dj) (ht:BF a dj=some (.d (.bq b))) [s:Sp b p q]
 (k1:p->Al P F ops n x (⟨dd,qq,ty,pos,af,some (j,gb)⟩::rest) ((dj,.d (.v (.bool true)))::a) o) (k2:q->Al P F ops n x (⟨dd,qq,ty,pos,af,some (j,gb)⟩::rest) ((dj,.d (.v (.bool false)))::a) o):Al P F ops n x (⟨dd,qq,ty,pos,af,some (j,gb)⟩::rest) a o:=Bd (b:=b) dj (by simp [UZ,ht,bOf]) k1 k2
theorem Bp {b:Bool}{p q:Prop}{d:Nat}{y z:Operand}{g:Option (Nat×Bool)}(ht:BF a t=some (.d (.bq b))) [s:Sp b p q]
 (k1:p->Al P F ops n x (⟨some d,.pick (.tmp t) y z,ty,pos,af,g⟩::rest) ((t,.d (.v (.bool true)))::a) o) (k2:q->Al P F ops n x (⟨some d,.pick (.tmp t) y z,ty,pos,af,g⟩::rest) ((t,.d (.v (.bool false)))::a) o):Al P F ops n x (⟨some d,.pick (.tmp t) y z,ty,pos,af,g⟩::rest) a o:=Bd (b:=b) t (by simp [UZ,ht,bOf]) k1 k2
theorem Cz.own {ρ:Ac}{k b t:Nat}{e:OE}(hk:Cr a o=some k) (c:Cz P ρ h a o S L) (he:Gl (ρ.Hs k b) h k e (.yY b t vs)):Cz P (ρ.Hs k b) h a ((k,e)::o) S (.yY b t vs::L):=by
 have c':=c.eqv hk (ρ.K9 k b);exact⟨c'.t,c'.s,_,L,U,he,c'.o⟩
theorem gS (ρ:Ac) (k b:Nat):(ρ.Hs k b).b k=b:=by simp [Ac.Hs]
theorem wZ {T k:Nat}{zs:List D}{cs:List A}(hk:Cr a o=some k) (hz:Tb.zr P T=some zs) (hc:SK zs=some cs) (hd:Nat.blt d F.m=true) (kk:Al P F ops n x rest ((d,.own k 0)::a) ((k,.var T cs)::o)) :
 Al P F ops n x (⟨some d,.alloc T,ty,pos,af,none⟩::rest) a o:=.mk λρ h S L cz=>by
 obtain⟨zv,h1,h2⟩:=Tb.hzr hz;refine bp h1 hd (λb=>?_);refine kk.k (ρ.Hs k b) h _ _ ((cz.own (e:=.var T cs) (vs:=zv) (t:=T) hk ⟨zv,by rw [gS],ij hc (h2 h)⟩).put ?_ d);show _=_;rw [gS]
theorem lM {T k:Nat}{y:Operand}{e:OE}(hk:Cr a o=some k) (hy:z' a y=some u) (he:∀ ρ h v,zN ρ h u v->kA u<=k->∃ vs:LV,v.cells=vs.toArray/\∀ b,Gl (ρ.Hs k b) h k e (.yY b T vs)) (hd:Nat.blt d F.m=true) (kk:Al P F ops n x rest ((d,.own k 0)::a) ((k,e)::o)) :
 Al P F ops n x (⟨some d,.box T y,ty,pos,af,none⟩::rest) a o:=.mk λρ h S L cz=>by
 obtain⟨v,h1,h2⟩:=bv cz hy;have hku:kA u<=k:=by
  have e0:=oZ hk;have e1:=KM (Gu a) (Ep o);cases y with
  |tmp t=>have:=sj (a:=a) (t:=t) hy;omega
  |const c=>simp only [z',au] at hy;subst hy;exact yQ _
  |global c=>simp only [z'] at hy;split at hy<;>cases hy;exact yQ _
  |func c=>simp only [z'] at hy;split at hy<;>cases hy;exact yQ _
 obtain⟨vs,h3,h4⟩:=he ρ h v h2 hku;refine JL.box h1 h3 hd (λb=>?_);refine kk.k (ρ.Hs k b) h _ _ ((cz.own hk (h4 b)).put ?_ d);show _=_;rw [gS]
end
def EC:Nat->LV->List (Nat×Value)
 |_,[]=>[]
 |k,c::r=>(k,c)::EC (k+1) r
theorem rt (sz:Nat):∀ (vs:LV) (A Z:LV) (k:Nat),A.length=k*sz->Z.length=vs.length*sz->(∀ c∈vs,c.cells.toList.length=sz) ->
 Instr.fill (λi=>some (i*sz,sz)) (A++Z).toArray (EC k vs)=some (A++(vs.map (·.cells.toList)).flatten).toArray
 |[],A,Z,k,_,hZ,_=>by
  have:Z=[]:=xI (by simpa using hZ);subst this;rfl
 |v::r,A,Z,k,hA,hZ,hc=>by
  have hc0:v.cells.toList.length=sz:=hc v (aC ..);generalize Ia:v.cells.toList=c at hc0;have Dk:v.cells.size=sz:=by rw [<- hc0,<- Ia];rfl
  simp only [aw,D',Nat.one_mul] at hZ;have key:=j7 (k*sz) c (Z.take sz) A (Z.drop sz) 0 (by simpa using hA) (by simp;omega);have ih:=rt sz r (A++c) (Z.drop sz) (k+1) (by simp [D'];omega) (by simp;omega) (λc' O6=>hc c' (aE _ O6));have hAZ:A++Z.take sz++Z.drop sz=A++Z:=by rw [xW,AG]
  rw [hAZ] at key;have e2:A++((v::r).map (·.cells.toList)).flatten=A++c++(r.map (·.cells.toList)).flatten:=by simp [<- Ia]
  rw [e2,<- ih,<- key,EC];simp only [Instr.fill,Dk,SN,aF,ne_eq,not_true_eq_false,decide_false,BN,gt_iff_lt,show ¬ A.length+Z.length<k*sz+sz by omega,bg,if_false];rw [<- Ia,<- Array.toList_zipIdx,Oa]
section
variable {f:Fr}{n:yF}{x:Nat->yF}{S:AH}{h:Part}{L L':LE}{ops:Array Oper}{rest:LR}
variable {ty:TypeId}{pos:String}{af:Array Edge}{d:Nat}{v:Value}{T:TypeId}{xo yo:Operand}
theorem JL.IT (vs:LV) {e sz bytes len:Nat}{ps:List (Nat×Operand)}(hT:Mq f.P T=some (e,sz,bytes)) (hp:Vh S ps=some (EC 0 vs)) (hlen:len=vs.length) (hl:∀ c∈vs,c.cells.toList.length=sz) (CP:Nat.ble (len*sz) 16777216=true) (b27:0<len*sz) (hd:Nat.blt d f.m=true)
 (k:∀ b,JL f ops n x rest ((d,.slice (some ⟨b,0,none⟩) len len)::S) h (.yY b e (vs.map (·.cells.toList)).flatten::L)) :
 JL f ops n x (⟨some d,.buildSlice T len ps.toArray,ty,pos,af,none⟩::rest) S h L:=λa w s=>by
 obtain⟨hu,i,z,hi,hzz,hs,_,O1,h0⟩:=iJ hT;have Kt:len*sz<=16777216:=by simpa using CP
 have U1:Array.map (λp:Nat×Operand=>(p.1,a.eval p.2)) ps.toArray=(EC 0 vs).toArray:=by
  have:=jB s hp;simp [this]
 have hf:=rt sz vs [] ((List.range (len*sz)).map (λj=>z.cells[j % z.cells.size]!)) 0 (by simp) (by simp [hlen]) hl;simp only [xP] at hf;refine cx (v:=.slice (some ⟨w.heap.size,0,none⟩) len len) (w':=w.alloc (.cells (vs.map (·.cells.toList)).flatten.toArray e)) U ?_ (k w.heap.size _ _ (s.put hd _ (s.ok.alloc e (vs.map (·.cells.toList)).flatten)));simp only [execOp,Instr.buildSlice,AW,run_underlying hu,Result.andThen,sizeOf,typeInfo];have b0G:(Array.range (len*sz)).map (λj=>z.cells[j % z.cells.size]!)=((List.range (len*sz)).map (λj=>z.cells[j % z.cells.size]!)).toArray:=by
  apply Array.ext<;>simp
 simp [hi,hs,show ¬ 16777216<len*sz by omega,show ¬ len*sz=0 by omega,zeroValue,typeInfo,hzz,newRow,newObj,Sem.run,U1];rw [b0G,hf];simp [Sem.run]
theorem JL.W5 {b t sz o:Nat}{xs cs:LV}(hT:AF f.P T=some (some sz)) (hx:ev S xo=some (.pointer (some ⟨b,o,none⟩))) (hy:ev S yo=some (.agg cs.toArray)) (h1:∀ v∈cs,v.oneCell'=true) (hl:cs.length=sz) (u:Dt (.yY b t xs) L L') (hi:o+sz<=xs.length)
 (k:JL f ops n x rest S h (.yY b t (xs.take o++cs++xs.drop (o+cs.length))::L')):JL f ops n x (⟨none,.store T xo yo,ty,pos,af,none⟩::rest) S h L:=λa w s=>by
 subst hl;have hw:w.heap[b]?=some (.cells xs.toArray t (0,0)):=s.ok.own _ u.mem;have DW:=run_storeCells_at (P:=f.P) b o t cs 0 xs.toArray w hw (by simp;omega) h1;have zt:Ok f.e h (.yY b t (xs.take o++cs++xs.drop (o+cs.length))::L') (w.setRow b (xs.take o++cs++xs.drop (o+cs.length)).toArray):=s.ok.Oq u _;refine ef (w':=w.setRow b (xs.take o++cs++xs.drop (o+cs.length)).toArray) U ?_ (k _ _ (s.with zt));simp only [DY] at DW;have hsv:(storeVar T ⟨b,o,none⟩ (.agg cs.toArray)).run f.P w=.ok () (w.setRow b (xs.take o++cs++xs.drop (o+cs.length)).toArray):=by
  have J8:=(dq hT w).2;unfold sizeOf typeInfo at J8;cases hq:f.P.info? T with
  |none=>simp [hq] at J8
  |some q =>
   simp [hq] at J8;simp [storeVar,sizeOf,typeInfo,hq,Value.cells,J8];simpa using DW
 exact m192
end
theorem dS {α:Type}{R:DI α}{sz:Nat}{h:Part}:∀ {l:List α}{vs:LV},Fa (λ(y:α) (v:Value)=>v.cells.toList.length=sz/\R h v.cells.toList y) l vs->yl R sz h (vs.map (·.cells.toList)).flatten l
 |[],_,.nil=>bQ
 |y::l,v::vs,.cons hy ht=>by
  have:=(yl.one hy.2 hy.1).append (dS ht);exact m109
theorem iK {α β:Type _}{R:α->β->Prop}:∀ {l:List α}{r:List β},Fa R l r->r.length=l.length
 |[],_,.nil=>rfl
 |_::_,_::_,.cons _ ht=>by simp [iK ht]
theorem QR {h:Part}:∀ {ds:List D}{vs:LV}{l:LN},Fq ds=some l->yT ds h vs->Fa (λ(y:Nd) (v:Value)=>v.cells.toList.length=5/\B9 h v.cells.toList y) l vs
 |[],vs,l,e,k=>by cases e;unfold yT at k;subst k;exact .nil
 |.nd n::r,vs,l,e,k=>by
  simp only [Fq] at e;split at e<;>cases e;rename_i l hl;unfold yT at k;obtain⟨v,t,rfl,h1,h2⟩:=k;obtain⟨cs,rfl,h3⟩:=fw.1 h1;exact .cons ⟨by simpa [Value.cells] using h3.M',by simpa [Value.cells] using h3⟩ (QR hl h2)
 |.v _::r,vs,l,e,k=>by simp [Fq] at e
 |.bq _::r,vs,l,e,k=>by simp [Fq] at e
 |.bs _::r,vs,l,e,k=>by simp [Fq] at e
 |.AX _::r,vs,l,e,k=>by simp [Fq] at e
 |.sl _ _ _::r,vs,l,e,k=>by simp [Fq] at e
 |.st _::r,vs,l,e,k=>by simp [Fq] at e
 |.zZ _::r,vs,l,e,k=>by simp [Fq] at e
 |.ptr _::r,vs,l,e,k=>by simp [Fq] at e
 |.pnd _::r,vs,l,e,k=>by simp [Fq] at e
theorem a7d :∀ {ds:List D}{vs:LV}{l:LB},a3b ds=some l->yT ds h vs->Fa (λ(y:UInt8) (v:Value)=>v.cells.toList.length=1/\DJ h v.cells.toList y) l vs:=by
 intro ds
 induction ds with
 |nil=>intro vs l e k;cases e;unfold yT at k;subst k;exact .nil
 |cons d r ih =>
  intro vs l e k;unfold a3b at e;split at e
  ·rename_i heq;cases heq
  ·rename_i nn r' heq;cases heq;split at e
   ·rename_i l' hl;cases hb:Nat.blt nn 256 with
    |true =>
     rw [hb,cond_true] at e;cases e;unfold yT at k;obtain⟨v,t,rfl,h1,h2⟩:=k;rw [cY.1 h1];refine .cons ⟨U,?_⟩ (ih hl h2);have yJ:nn<256:=by simpa using hb
     show [Value.int .u8 (Int.ofNat nn)]=_;have:(UInt8.ofNat nn).toNat=nn:=by simp [xZ];omega
     rw [this];rfl
    |false=>rw [hb] at e;cases e
   ·cases e
  ·cases e
theorem W2 :∀ {ds:List D}{vs:LV}{l:List LB},LJ ds=some l->yT ds h vs->Fa (λ(y:LB) (v:Value)=>v.cells.toList.length=1/\IW Fj h v.cells.toList y) l vs:=by
 intro ds
 induction ds with
 |nil=>intro vs l e k;cases e;unfold yT at k;subst k;exact .nil
 |cons d r ih =>
  intro vs l e k;unfold LJ at e;split at e
  ·rename_i heq;cases heq
  ·rename_i s r' heq;cases heq;split at e
   ·rename_i l' hl;cases e;unfold yT at k;obtain⟨v,t,rfl,h1,h2⟩:=k;rw [cY.1 h1];refine .cons ⟨U,?_⟩ (ih hl h2);show yp _ h _;unfold Fj yp;exact⟨_,[],U,U,bh (h:=h),by unfold yp;rfl⟩
   ·cases e
  ·cases e
theorem a2g {ds:List D}{d:D}(e:a5Z ds=some d) (k:yT ds h vs):NU h d vs:=by
 have all:∀ {α:Type} {R:DI α} {sz:Nat} {l:List α} {vs:LV},Fa (λ(y:α) (v:Value)=>v.cells.toList.length=sz/\R h v.cells.toList y) l vs->∀ c∈vs,c.cells.toList.length=sz:=by
  intro α R sz l vs hh
  exact m29
 unfold a5Z at e;split at e
 ·rename_i n r;split at e<;>cases e;rename_i l hl;have h1:=QR hl k;have h2:=k.len;have h3:=iK h1;exact⟨⟨U,by rw [h3],dS h1⟩,all (R:=B9) h1,by rw [h2];simp,by simp [PY]⟩
 ·rename_i kk i r;split at e<;>cases e;rename_i l hl;have h1:=a7d hl k;have h2:=k.len;have h3:=iK h1;exact⟨⟨U,by rw [h3],dS h1⟩,all (R:=DJ) h1,by rw [h2];simp,by simp [PY]⟩
 ·rename_i s r;split at e<;>cases e;rename_i l hl;have h1:=W2 hl k;have h2:=k.len;have h3:=iK h1;exact⟨⟨U,by rw [h3],dS h1⟩,all (R:=IW Fj) h1,by rw [h2];simp,by simp [PY]⟩
 ·cases e
theorem ti  [Tb P]{ds:List D}{d:D}(e:Nb P ds=some d) (k:yT ds h vs):NU h d vs:=by
 unfold Nb at e;split at e
 ·cases e;rename_i hl;exact a2g hl k
 ·exact Tb.yJ e k
section
variable {P:Program} [Tb P] {F:Fd}{n:y_}{x:Nat->y_}{a a':LO}{o o':LQ}{ops:Array Oper}{rest:LR}
variable {d:Nat}{q:Op}{ty:TypeId}{pos:String}{af:Array Edge}{g:Option (Nat×Bool)}{u:A}{ρ:Ac}{h:Part}{S:AH}{L:LE}
theorem ic (c:Cz P ρ h a o S L):∀ {ps:List (Nat×Operand)}{i:Nat}{ds:List D},H6 a i ps=some ds->∃ vs,Vh S ps=some (EC i vs)/\yT ds h vs
 |[],i,ds,e=>by cases e;exact⟨[],U,by unfold yT;rfl⟩
 |(j,y)::r,i,ds,e=>by
  simp only [H6] at e;cases hb:Nat.beq i j with
  |true =>
   obtain rfl:=am hb;rw [hb,cond_true] at e;split at e
   ·rename_i d l h1 h2;cases e;obtain⟨v,h3,h4⟩:=bv c h1;obtain⟨vs,h5,h6⟩:=ic c h2;refine⟨v::vs,by simp only [Vh,h3,h5,EC],?_⟩;unfold yT;exact⟨v,vs,U,h4,h6⟩
   ·cases e
  |false=>rw [hb] at e;cases e
theorem XZ {T k len e sz bytes:Nat}{ps:Array (Nat×Operand)}{ds Iu:List D}{dd:D}(hk:Cr a o=some k) (hp:H6 a 0 ps.toList=some ds) (hf:He P e ds=some Iu) (hl:Nb P Iu=some dd) (hT:Cy (Tb.ap P) T=some (e,sz,bytes)) (h1:Nat.beq sz (PY dd)=true) (h2:Nat.beq len ds.length=true) (h3:Nat.ble (len*sz) 16777216=true)
 (hd:Nat.blt d F.m=true) (kk:Al P F ops n x rest ((d,.row k)::a) ((k,.row e dd)::o)):Al P F ops n x (⟨some d,.buildSlice T len ps,ty,pos,af,none⟩::rest) a o:=.mk λρ h S L cz=>by
 obtain⟨vs,h4,h5⟩:=ic cz hp;obtain⟨h6,h7,h8,h9⟩:=ti hl (jx hf h5);have e1:=am h1;have e2:=am h2;have e3:=h5.len;have e4:len=vs.length:=by omega
 have e5:len*sz<=16777216:=by simpa using h3
 obtain⟨ps⟩:=ps;refine JL.IT vs (Tb.UM hT) h4 e4 (by rw [e1];exact h7) h3 (Nat.mul_pos xE xE) hd (λb=>?_);have a8O:(vs.map (·.cells.toList)).flatten.length=len*sz:=by
  rw [e1,e4];clear h6 h5 h4 e3 e2 h2 e4 h8
  induction vs with
  |nil=>simp
  |cons v r ih=>simp [h7 v (aC ..),ih (λc hc=>h7 c (aE _ hc)),BI];omega
 have hlm:len<=maxLen:=by
  have:len<=len*sz:=yW _ xE;simp only [maxLen];omega
 refine JL.own (L':=.row (some ⟨b,0,none⟩) len e sz len (vs.map (·.cells.toList)).flatten::L) (λw hw=>hw.PU a8O hlm) ?_;have c':=cz.eqv hk (ρ.E' k (some ⟨b,0,none⟩) len len);have CL:Bi (ρ.yI k (some ⟨b,0,none⟩) len len) h ((k,.row e dd)::o) (.row (some ⟨b,0,none⟩) len e sz len (vs.map (·.cells.toList)).flatten::L):=by
  refine⟨_,L,U,⟨(vs.map (·.cells.toList)).flatten,sz,by simp [Ac.yI],?_,?_⟩,c'.o⟩
  ·rw [show(ρ.yI k (some ⟨b,0,none⟩) len len).n k=vs.length by simp [Ac.yI,e4],e1];exact h6
  ·rw [show(ρ.yI k (some ⟨b,0,none⟩) len len).n k=len by simp [Ac.yI]];have:len<=len*sz:=yW _ xE;omega
 exact kk.k (ρ.yI k (some ⟨b,0,none⟩) len len) h _ _ (cF (u:=.row k) ⟨c'.t,c'.s,CL⟩ (by simp [Ac.yI,zN]) d)
theorem W6 {y z:Operand}{k t off:Nat}{cs:List A}{L':LE}(c:Cz P ρ h a o S L) (hy:ev S y=some (.pointer (some ⟨ρ.b k,off,none⟩))) (hz:z' a z=some u) (hD:Dt (.yY (ρ.b k) t vs) L L') (Dk:yZ ρ h cs vs) {e':OE}(ho:Bi ρ h (D9 o k) L') (hs:W8 P T t cs off u=some e')
 (kk:Al P F ops n x rest a ((k,e')::D9 o k)):JL (F.fr P) ops (up P n) (λi=>up P (x i)) (⟨none,.store T y z,ty,pos,af,none⟩::rest) S h L:=by
 obtain⟨v,hzv,hv⟩:=bv c hz;have hlen:=Dk.len;unfold W8 at hs;split at hs
 ·rename_i ha;cases h1:Xs u with
  |false=>rw [h1] at hs;cases hs
  |true =>
   rw [h1,cond_true] at hs;split at hs<;>cases hs;rename_i Da Im;obtain⟨h2,h3⟩:=su Im;have h4:=QK h1 hv;refine bj (Tb.agg ha) hy hzv h4 hD (by simpa [hlen] using h2) ?_;refine kk.k ρ h S _ ⟨c.t,c.s,_,L',U,⟨vs.set off v,U,?_⟩,ho⟩;rw [h3];exact Dk.set h4 hv
 ·rename_i sz ha;split at hs
  ·rename_i d;split at hs
   ·rename_i l hc;obtain⟨ws,rfl,hws⟩:=(eX hc).1 hv;have hwl:=hws.len;cases h1:Nat.beq l.length sz with
    |false=>rw [h1] at hs;cases hs
    |true =>
     rw [h1,cond_true] at hs;have e1:=am h1;cases h2:Nat.beq cs.length sz with
     |true =>
      rw [h2,cond_true] at hs;have e2:=am h2;cases h3:Nat.beq off 0 with
      |false=>rw [h3] at hs;cases hs
      |true =>
       rw [h3,cond_true] at hs;cases hs;obtain rfl:=am h3;exact aZ (Tb.agg ha) hy hzv hD (xH.2 hws.one) xE xE (kk.k ρ h S _ ⟨c.t,c.s,_,L',U,⟨ws,U,hv⟩,ho⟩)
     |false =>
      rw [h2,cond_false] at hs;split at hs
      ·rename_i la hla;split at hs<;>cases hs;rename_i Da b0C;obtain⟨h4,h5⟩:=og _ _ _ _ b0C;have h6:=SJ hla;refine JL.W5 (Tb.agg ha) hy hzv hws.one xE hD xE (kk.k ρ h S _ ⟨c.t,c.s,_,L',U,⟨_,U,?_⟩,ho⟩);rw [h5,hwl,<- h6];have app:∀ {l l':List A} {c c':LV},yZ ρ h l c->yZ ρ h l' c'->yZ ρ h (l++l') (c++c'):=by
        intro l
        induction l with
        |nil=>intro l' c c' k k';simp only [yZ] at k;subst k;exact k'
        |cons y r ih=>intro l' c c' ⟨v,t,e,k1,k2,k3⟩ k';subst e;exact⟨v,t++c',U,k1,k2,ih k3 k'⟩
       exact app (app (Dk.take off) (ij hla hws)) (Dk.drop _)
      ·cases hs
   ·cases hs
  ·rename_i l0 j;obtain⟨ws,rfl,hws⟩:=hv;have hwl:=hws.len;cases h1:Nat.beq (l0.length+1) sz with
   |false=>rw [h1] at hs;cases hs
   |true =>
    rw [h1,cond_true] at hs;cases h2:Nat.beq cs.length sz with
    |false=>rw [h2] at hs;cases hs
    |true =>
     rw [h2,cond_true] at hs;cases h3:Nat.beq off 0 with
     |false=>rw [h3] at hs;cases hs
     |true =>
      rw [h3,cond_true] at hs;split at hs<;>cases hs;rename_i la hla;have e1:=am h1;have e2:=am h2;obtain rfl:=am h3;refine aZ (Tb.agg ha) hy hzv hD (xH.2 λu hu=>?_) LD LD ?_
      ·rcases Bo.1 hu with hu|hu
       ·exact hws.one u hu
       ·rw [zS] at hu;subst hu;rfl
      ·exact kk.k ρ h S _ ⟨c.t,c.s,_,L',U,⟨_,U,(ij hla hws).app ⟨_,[],U,U,U,U⟩⟩,ho⟩
  ·cases hs
 ·cases hs
end
section
variable {P:Program} [CY P] [Tb P] {F:Fd}{n:y_}{x:Nat->y_}{a a':LO}{o o':LQ}{ops:Array Oper}{rest l l':LR}
omit [CY P] in
theorem Q6 {T k:Nat}{y z:Operand}{e:OE}(h:W7 P a o T y z=some (k,e)):∃ e0 off t cs u,z' a y=some (.own k off)/\z' a z=some u/\BH o k=some e0/\W8 P T t cs off u=some e/\∀ ρ h w,Gl ρ h k e0 w->∃ vs,w=.yY (ρ.b k) t vs/\yZ ρ h cs vs:=by
 unfold W7 at h;split at h
 ·rename_i k' off u hy hz;split at h
  ·rename_i t cs hk;split at h<;>cases h;rename_i hs;exact⟨_,off,t,cs,u,hy,hz,hk,hs,λρ h w ⟨vs,h3,h4⟩=>⟨vs,h3,h4⟩⟩
  ·rename_i t d hk;split at h
   ·rename_i l hl;split at h
    ·rename_i cs Dk;split at h<;>cases h;rename_i hs;refine⟨_,off,t,cs,u,hy,hz,hk,hs,λρ h w ⟨vs,h3,h4⟩=>⟨vs,h3,?_⟩⟩;obtain⟨ws,e',h5⟩:=(eX hl).1 h4;have hcv:vs=ws:=by injection e' with e';simpa using congrArg Array.toList e'
     subst hcv;exact ij Dk h5
    ·cases h
   ·cases h
  ·cases h
 ·cases h
theorem a0O {q:Oper}(hs:a0P P F.m ops a o q=some (a',o')) (k:Al P F ops n x rest a' o'):Al P F ops n x (q::rest) a o:=by
 unfold a0P at hs;split at hs
 ·rename_i d q ty pos af g;split at hs
  ·rename_i hg;cases hd:Nat.blt d F.m with
   |false=>rw [hd] at hs;cases hs
   |true =>
    rw [hd,cond_true] at hs;split at hs
    ·rename_i u hv;cases hs;exact Al.val hg (λρ h S L cz=>PQ cz hv) hd k
    ·split at hs
     ·split at hs<;>try (cases hs;done)
      rename_i kk hk;split at hs<;>cases hs;rename_i u e hm;unfold a8w at hm;split at hm
      ·split at hm
       ·rename_i hz;split at hm<;>cases hm;rename_i hc;exact wZ hk hz hc hd k
       ·cases hm
      ·split at hm
       ·rename_i T y _ dd hy;split at hm
        ·rename_i l0 hl;cases hm;refine lM hk hy (λρ h v hv _=>?_) hd k;obtain⟨cs,rfl,h2⟩:=(eX hl).1 hv;exact⟨cs,U,λb=>⟨cs,by rw [gS],hv⟩⟩
        ·cases h1:OR dd with
         |false=>rw [h1] at hm;cases hm
         |true =>
          rw [h1,cond_true] at hm;cases hm;refine lM hk hy (λρ h v hv _=>?_) hd k;have h3:=sR h1 hv;exact⟨[v],mw h3,λb=>⟨[v],by rw [gS],v,[],U,h3,hv,U⟩⟩
       ·rename_i l0 j hy;split at hm<;>cases hm;rename_i la hla;refine lM hk hy (λρ h v hv hku=>?_) hd k;obtain⟨cs,rfl,h2⟩:=hv;exact⟨cs++[.slice (ρ.a j) (ρ.n j) (ρ.c j)],U,λb=>⟨_,by rw [gS];rfl,(ij hla h2).app ⟨_,[],U,U,U,U⟩⟩⟩
       ·rename_i u' D5 TY hy;cases h1:Xs u' with
        |false=>rw [h1] at hm;cases hm
        |true =>
         rw [h1,cond_true] at hm;cases hm;refine lM hk hy (λρ h v hv hku=>?_) hd k;have h3:=QK h1 hv;exact⟨[v],mw h3,λb=>⟨[v],by rw [gS],v,[],U,h3,hv.eqv (ρ.K9 kk b) hku,U⟩⟩
       ·cases hm
      ·rename_i T len ps x4 x5;split at hm
       ·rename_i ds hp;split at hm<;>try (cases hm;done)
        rename_i e' sz bytes hT;split at hm<;>try (cases hm;done)
        rename_i Iu hf;split at hm
        ·rename_i dd hl;cases h1:Nat.beq sz (PY dd) with
         |false=>rw [h1] at hm;cases hm
         |true =>
          rw [h1,cond_true] at hm;cases h2:Nat.beq len ds.length with
          |false=>rw [h2] at hm;cases hm
          |true =>
           rw [h2,cond_true] at hm;cases h3:Nat.ble (len*sz) 16777216 with
           |false=>rw [h3] at hm;cases hm
           |true =>
            rw [h3,cond_true] at hm;cases hm;exact XZ hk hp hf hl hT h1 h2 h3 hd k
        ·cases hm
       ·cases hm
      ·cases hm
     ·cases hs
  ·rename_i hg;cases hd:Nat.blt d F.m with
   |false=>rw [hd] at hs;cases hs
   |true=>rw [hd,cond_true] at hs;cases hs;exact Al.no hg hd k
  ·cases hs
 ·rename_i T y z ty pos af;split at hs
  ·rename_i kst est DW;split at hs<;>cases hs;rename_i o2 hdq;obtain rfl:=eZ hdq;obtain⟨e0,off,t',cs,u,hy,hz,hk,hse,CL⟩:=Q6 DW;refine .mk λρ h S L cz=>?_;obtain⟨v,h1,h2⟩:=bv cz hy;cases h2;obtain⟨w,L',hD,hE,hr⟩:=cz.o.get hk;obtain⟨vs,rfl,Dk⟩:=CL ρ h w hE;exact W6 cz h1 hz hD Dk hr hse k
  ·cases hs
 ·cases hs
theorem Ra (hs:WB P F.m ops a o l=some ((a',o'),l')) (kk:Al P F ops n x l' a' o'):Al P F ops n x l a o:=by
 induction l generalizing a o with
 |nil=>simp only [WB,au,zu] at hs;obtain⟨⟨rfl,rfl⟩,rfl⟩:=hs;exact kk
 |cons q l ih =>
  simp only [WB] at hs;split at hs
  ·rename_i a1 o1 h1;exact a0O h1 (ih hs)
  ·simp only [au,zu] at hs;obtain⟨⟨rfl,rfl⟩,rfl⟩:=hs;exact kk
theorem R3 {q:Oper}(hs:WB P F.m ops a o (q::l)=some ((a',o'),l')) (hp:Nat.ble l'.length l.length=true) (k:Al P F ops n x l' a' o'):Al P F ops n x (q::l) a o:=Ra hs k
end
end Go.Proofs.YtilafeifbaaagaaGreatDoor
