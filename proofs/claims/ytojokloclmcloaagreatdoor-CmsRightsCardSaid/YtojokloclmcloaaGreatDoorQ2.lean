/- Parts. -/
import Derived.Test.YtojokloclmcloaaGreatDoorQ1
set_option maxRecDepth 100000
set_option linter.unusedSimpArgs false
set_option linter.unusedVariables false
set_option linter.constructorNameAsVariable false
namespace Go.Proofs.YtojokloclmcloaaGreatDoor
open Go.Proofs.Tryz
open Go Go.RowKit
theorem z16_ {p:Prop}(u:p:=by repeat (first|exact trivial|refine⟨rfl,?_⟩|refine⟨(by exact cV (by unfold cutL;cases r<;>first|rfl|(rw [aj (show acc.length=0 by omega)];rfl)|(rw [au (show ¬ acc.length=0 by omega)];rfl)|(exfalso;simp_all;done))),?_⟩)):p:=u
theorem jH:callT prog 145=true:=by kernel_rfl
theorem ca_146:callT prog 146=true:=by kernel_rfl
theorem ca_96:callT prog 96=true:=by kernel_rfl
theorem um:fieldOff prog 138 0=some 0:=by kernel_rfl
theorem io:fieldOff prog 138 1=some 1:=by kernel_rfl
theorem kh:fieldOff prog 35 3=some 3:=by kernel_rfl
theorem fi:fieldOff prog 35 4=some 4:=by kernel_rfl
theorem zr_3:zeroT prog 3=some [.int .i64 0]:=by kernel_rfl
abbrev RdE (α:Type):=Except (Int×Int) α
def rdH (l:LB) (p en:Nat) (ok:Bool):RdE (Nat×Nat×Bool×Nat×Nat) :=
 if ¬ p<en then .error (p,30)
 else if mayB (byteAt l p / 64:Nat) (byteAt l p % 32:Nat) (decide (byteAt l p / 32 % 2=1))=false then .error (p,31)
 else match rdS l (p+1) en with
  |.error c=>.error (p,c)
  |.ok (n,q)=>if ¬ n<=en-q then .error (p,30) else if ok=false then .error (p,33) else .ok (byteAt l p / 64,byteAt l p % 32,decide (byteAt l p / 32 % 2=1),n,q)
def cutL (l:LB) (i j:Nat):LB:=(l.drop i).take (j-i)
def rdK (rd:Nat->Nat->RdE (Nd×Nat)) (l:LB) (stop:Nat):Nat->Nat->LN->Bool->Nat->RdE (LN×Bool×Nat)
 |0,p,acc,r,_=>.ok (acc,r,p)
 |f+1,p,acc,r,last=>if ¬ p<stop then .ok (acc,r,p) else match rd p stop with
  |.error e=>.error e
  |.ok (x,p')=>rdK rd l stop f p' (acc++[x]) (r&&(decide (acc.length=0)||decide (Go.Lib.compareBytes (cutL l last p) (cutL l p p')<=0))) p
def rdN:Nat->LB->Nat->Nat->RdE (Nd×Nat)
 |0,l,p,en=>match rdH l p en false with
  |.error e=>.error e
  |.ok _=>.error (p,33)
 |d+1,l,p,en=>match rdH l p en true with
  |.error e=>.error e
  |.ok (c,t,k,n,q) =>
   if k=false then(if decide (c=2)||valB t (cutL l q (q+n)) then .ok (.mk c t false (cutL l q (q+n)) [],q+n) else .error (p,34))
   else match rdK (rdN d l) l (q+n) n q [] true q with
    |.error e=>.error e
    |.ok (ks,r,p')=>if r||(decide (c≠0)||decide (t≠17)) then .ok (.mk c t true [] ks,p') else .error (p,34)
theorem mV {l:LB}{p en:Nat}{ok:Bool}{c t n q:Nat}{k:Bool}(h:rdH l p en ok=.ok (c,t,k,n,q)):p+1<q/\q+n<=en/\c<=3/\t<=31:=by
 unfold rdH at h;split at h
 ·cases h
 ·split at h
  ·cases h
  ·split at h
   ·cases h
   ·rename_i n' q' hs;have:=mU hs;have:=cx l p;split at h
    ·cases h
    ·split at h
     ·cases h
     ·injection h with h;injection h with h1 h2;injection h2 with h2 h3;injection h3 with h3 h4;injection h4 with h4 h5;omega
theorem rdK_le {rd:Nat->Nat->RdE (Nd×Nat)}{l:LB}{stop:Nat}(hrd:∀ p x p',rd p stop=.ok (x,p')->p<p'/\p'<=stop):∀ (f p:Nat) (acc:LN) (r:Bool) (last:Nat) (ks:LN) (r':Bool) (p':Nat),p<=stop->stop<=p+f->rdK rd l stop f p acc r last=.ok (ks,r',p')->p'=stop
 |0,p,acc,r,last,ks,r',p',h1,h2,h=>by simp only [rdK] at h;injection h with h;injection h with h3 h4;injection h4 with h4 h5;omega
 |f+1,p,acc,r,last,ks,r',p',h1,h2,h=>by
  simp only [rdK] at h;split at h
  ·injection h with h;injection h with h3 h4;injection h4 with h4 h5;omega
  ·split at h
   ·cases h
   ·rename_i x q hq;have:=hrd p x q hq;exact rdK_le hrd f q _ _ _ ks r' p' this.2 z2_ h
theorem gA:∀ (d:Nat) (l:LB) (p en:Nat) (x:Nd) (p':Nat),rdN d l p en=.ok (x,p')->p<p'/\p'<=en
 |0,l,p,en,x,p',h=>by simp only [rdN] at h;split at h<;>cases h
 |d+1,l,p,en,x,p',h=>by
  simp only [rdN] at h;split at h
  ·cases h
  ·rename_i c t k n q hh;have h0:=mV hh;split at h
   ·split at h
    ·injection h with h;injection h with h1 h2;omega
    ·cases h
   ·split at h
    ·cases h
    ·rename_i ks r p1 hk;have:=rdK_le (λp x p'=>gA d l p (q+n) x p') n q _ _ _ _ _ _ z2_ z2_ hk;split at h
     ·injection h with h;injection h with h1 h2;omega
     ·cases h
def NodeR (s:RdE (Nd×Nat)) (br:Nat) (b:Value):Ending->Part->LE->Prop:=λe h' Lo =>
 match s with
 |.ok (x,q)=>(∃ cs,e=.returned (.agg (List.toArray cs))/\NdR h' cs x)/\Lo=[.blk br 138 [b,.int .i64 q]]
 |.error (a,c)=>e=.panicked [{ v:=gvn a c,recovered:=false }]/\Lo=[]
theorem NodeR.out {s:RdE (Nd×Nat)}{br:Nat}{b:Value}{h:Part}{Lo:LE}(k:NodeR s br b .outgrown h Lo):False:=by
 unfold NodeR at k;split at k
 ·obtain⟨⟨_,hh,_⟩,_⟩:=k;cases hh
 ·cases k.1
theorem NodeR.pan {s:RdE (Nd×Nat)}{br:Nat}{b:Value}{h:Part}{Lo:LE}{ch:List PanicEntry}(k:NodeR s br b (.panicked ch) h Lo):∃ a c,s=.error (a,c)/\ch=[{ v:=gvn a c,recovered:=false }]:=by
 unfold NodeR at k;split at k
 ·obtain⟨⟨_,hh,_⟩,_⟩:=k;cases hh
 ·rename_i a c;have:=k.1;injection this with e;exact⟨a,c,U,e⟩
theorem NodeR.ret {s:RdE (Nd×Nat)}{br:Nat}{b v:Value}{h:Part}{Lo:LE}(k:NodeR s br b (.returned v) h Lo):∃ (x:Nd) (q:Nat) (cs:LV),s=.ok (x,q)/\v=.agg cs.toArray/\NdR h cs x/\Lo=[.blk br 138 [b,.int .i64 q]]:=by
 unfold NodeR at k;split at k
 ·rename_i x q;obtain⟨⟨cs,hh,hn⟩,hL⟩:=k;injection hh with e;exact⟨x,q,cs,U,e,hn,hL⟩
 ·cases k.1
theorem nW {d:Nat}{l:LB}{p en:Nat}{e:Int×Int}(h:rdH l p en true=.error e):rdN (d+1) l p en=.error e:=by simp only [rdN];rw [h]
theorem lg {l:LB}{p en:Nat}{e:Int×Int}(h:rdH l p en false=.error e):rdN 0 l p en=.error e:=by simp only [rdN];rw [h]
theorem jf {d:Nat}{tr:Bool}{l:LB}{p en:Nat}{e:Int×Int}(ht:tr=decide (0<d)) (h:rdH l p en tr=.error e):rdN d l p en=.error e:=by
 cases d with
 |zero=>subst ht;exact lg h
 |succ d =>
  obtain rfl:tr=true:=by simpa using ht
  exact nW h
theorem je {d:Nat}{l:LB}{p en c t n q:Nat}(h:rdH l p en true=.ok (c,t,false,n,q)):rdN (d+1) l p en=if decide (c=2)||valB t (cutL l q (q+n)) then .ok (.mk c t false (cutL l q (q+n)) [],q+n) else .error (p,34):=by simp only [rdN];rw [h];rfl
theorem f3 {d:Nat}{l:LB}{p en c t n q:Nat}(h:rdH l p en true=.ok (c,t,true,n,q)):rdN (d+1) l p en=match rdK (rdN d l) l (q+n) n q [] true q with
 |.error e=>.error e
 |.ok (ks,r,p')=>if r||(decide (c≠0)||decide (t≠17)) then .ok (.mk c t true [] ks,p') else .error (p,34):=by simp only [rdN];rw [h];rfl
theorem gm {rd:Nat->Nat->RdE (Nd×Nat)}{l:LB}{stop f p last:Nat}{acc:LN}{r:Bool}(h:¬ p<stop):rdK rd l stop f p acc r last=.ok (acc,r,p):=by
 cases f with
 |zero=>rfl
 |succ f=>simp only [rdK];rw [if_pos h]
theorem nX {rd:Nat->Nat->RdE (Nd×Nat)}{l:LB}{stop f p last:Nat}{acc:LN}{r:Bool}{e:Int×Int}(h:p<stop) (he:rd p stop=.error e):rdK rd l stop (f+1) p acc r last=.error e:=by
 simp only [rdK];rw [if_neg z2_,he]
theorem m7 {rd:Nat->Nat->RdE (Nd×Nat)}{l:LB}{stop f p last p':Nat}{acc:LN}{r:Bool}{x:Nd}(h:p<stop) (he:rd p stop=.ok (x,p')):rdK rd l stop (f+1) p acc r last=rdK rd l stop f p' (acc++[x]) (r&&(decide (acc.length=0)||decide (Go.Lib.compareBytes (cutL l last p) (cutL l p p')<=0))) p:=by
 rw [rdK,if_neg z2_,he]
theorem node_rd:∀ (d:Nat) (l:LB) (p en:Nat) (br:Nat) (ab:OA) (cb:Nat) (h:Part),SlR u8R 1 h ab cb l->Tabs h->l.length<=16777216->en<=l.length->d<=32 ->
 Fn prog 96 [.pointer (some ⟨br,0,none⟩),.int .i64 en,.int .i64 ((33:Int)-d)] h [.blk br 138 [.slice ab l.length cb,.int .i64 p]] (NodeR (rdN d l p en) br (.slice ab l.length cb)):=by
 intro d0
 induction d0 using Nat.strongRecOn with
 |_ d0 ih =>
  intro l p en br ab cb h hl hT hll hen hd;obtain⟨tr,htr⟩:∃ tr,tr=decide (0<d0):=⟨_,U⟩;refine aM func96 U ntmps96 U (λe he=>?_);refine bg [(0,_),(1,_),(2,_)] ⟨U,U,U,trivial⟩ ?_;have hh0:=aT h;refine Sr (bI eF U (λb1=>?_));refine a_ (Sr (Ru 3 U (ah (aw dI U mm_ U) U ?_)));refine bI zr_3 U (λb2=>?_);refine bK dI U U U dl_ fL ?_;refine a_ (Sr (ah (RunV.makeFunc (os1:=[]) (os2:=[.tmp 7]) U U) U ?_));refine Ru 1 U (Nk [8,7,6,0,1,2] U (Sr (Ru 4 U (ah (aw dI U mm_ U) U ?_))));refine Ru 2 U (JL.fail jH U U (fm) dl_ U (λhc3 h3 hle3=>?_) (λhc3 h3 hle3=>?_))
  ·try simp only [ax,decide_eq_false_iff_not,Bool.not_eq_eq_eq_not,Bool.not_true,Bool.not_false,ne_eq,Decidable.not_not] at hc3
   have hE:rdH l p en tr=.error (p,30):=(by unfold rdH;rw [if_pos z2_]);exact⟨[],_,.nil,by rw [jf htr hE];exact⟨U,U⟩⟩
  try simp only [ax,decide_eq_false_iff_not,Bool.not_eq_eq_eq_not,Bool.not_true,Bool.not_false,ne_eq,Decidable.not_not] at hc3
  replace hl:=hl.mono hle3
  replace hT:=hT.mono hle3
  replace hh0:=hh0.mono hle3
  refine Nk [8,7,6,0,1,2] U (az (de cM cP ?_));refine Rq 3 U ?_;refine cq (aw dt U mm_ U) U ?_;refine Rq 3 U ?_;refine cq (aw dI U mm_ U) U ?_;refine du (aI cY U U z9_ z7_ U z2_) U ?_;rintro _ ⟨b4,o4,hi4,rfl,hE4⟩;refine cq (bv ff U z7_) U ?_;refine Rq 1 U ?_;refine Nq [9,8,7,6,0,1,2] U ?_;refine Sr ?_;have hpl:p<l.length:=z2_;have hbt:=bY l p hpl;have hlt:=cx l p;refine Ru 3 U (ah (aw dI U mm_ U) U ?_);refine ah ai_ U ?_;refine Ru 2 U (bK dI U U U dl_ fL ?_);refine Nk [9,8,7,6,0,1,2] U (Sr (Ru 1 U (ah (RunV.shr_u8 64 U U bT bT bT) U ?_)));refine ah lH U ?_;rw [show((l[p].toNat:Int) / 64)=((byteAt l p / 64:Nat):Int) by rw [hbt];simp];refine Ru 1 U (ah (by first|exact RunV.maskb_u8 5 32 rfl rfl bT bT bT|exact RunV.mask_u8 5 32 rfl rfl bT bT bT z2_ z2_|exact RunV.and_ rfl rfl) U ?_);refine ah lH U ?_;rw [show((l[p].toNat:Int) % 32)=((byteAt l p % 32:Nat):Int) by rw [hbt];simp];refine Ru 1 U (ah (RunV.and32 U z2_ z2_) U ?_);refine Ru 1 U ?_;rw [show decide ((0:Int)<32*((l[p].toNat:Int) / 32 % 2))=decide (byteAt l p / 32 % 2=1) from decide_eq_decide.2 z2_];obtain⟨c,hcd⟩:∃ c,byteAt l p / 64=c:=⟨_,U⟩;obtain⟨t,htd⟩:∃ t,byteAt l p % 32=t:=⟨_,U⟩;obtain⟨k,hkd⟩:∃ k,decide (byteAt l p / 32 % 2=1)=k:=⟨_,U⟩;rw [hcd,htd,hkd];refine ah (bn (cs:=[_,_,_,.slice none 0 0,.slice none 0 0]) eR U U) U ?_;refine bI eF U (λb6=>?_);refine aV bP U U dl_ f8 f9 z4_ ?_;refine Nk [10,8,7,6,0,1,2] U (Sr (Ru 1 U (ah (bJ bP U mm_ z4_) U ?_)));refine bh ca_109 U (pmay_fn (x:=.mk c t k [] []) (d_ bu bu)) U ?_;refine JL.fail jH U U (fm) dl_ U (λhc8 h8 hle8=>?_) (λhc8 h8 hle8=>?_)
  ·try simp only [ax,decide_eq_false_iff_not,Bool.not_eq_eq_eq_not,Bool.not_true,Bool.not_false,ne_eq,Decidable.not_not] at hc8
   have hE:rdH l p en tr=.error (p,31):=(by unfold rdH;rw [if_neg z2_,hcd,htd,hkd,if_pos (by exact hc8)]);exact⟨[],_,.nil,by rw [jf htr hE];exact⟨U,U⟩⟩
  try simp only [ax,decide_eq_false_iff_not,Bool.not_eq_eq_eq_not,Bool.not_true,Bool.not_false,ne_eq,Decidable.not_not] at hc8
  replace hl:=hl.mono hle8
  replace hT:=hT.mono hle8
  replace hh0:=hh0.mono hle8
  have hmay:mayB c t k=true:=hc8;refine a_ (Sr (Ru 1 U (ah (aw dI U mm_ U) U ?_)));refine Ru 1 U (JL.call_ ca_146 U (size_rd z7_ z2_) pt_ U (λ_ _ hh=>(SizeR.out hh).elim) (λch9 h9 Lo9 hle9 hR9=>?_) (λv9 h9 Lo9 hle9 hR9=>?_))
  ·have hR9:=SizeR.pan hR9;obtain⟨zc,hzc,rfl⟩:=hR9;have hE:rdH l p en tr=.error (p,zc):=(by unfold rdH;rw [if_neg z2_,hcd,htd,hkd,if_neg (by rw [hmay];decide),hzc]);exact⟨[],_,.nil,by rw [jf htr hE];exact⟨U,U⟩⟩
  obtain⟨zn,zq,hzs,rfl,rfl⟩:=SizeR.ret hR9
  replace hl:=hl.mono hle9
  replace hT:=hT.mono hle9
  replace hh0:=hh0.mono hle9
  have hzq:=mU hzs;refine Ru 1 U (Nk [11,10,8,6,0,1,2] U (Sr (Ru 6 U (ah (aw dI U mm_ U) U ?_))));refine ah si_ U ?_;refine Ru 1 U (JL.fail jH U U (fm) dl_ U (λhc10 h10 hle10=>?_) (λhc10 h10 hle10=>?_))
  ·try simp only [ax,decide_eq_false_iff_not,Bool.not_eq_eq_eq_not,Bool.not_true,Bool.not_false,ne_eq,Decidable.not_not] at hc10
   have hE:rdH l p en tr=.error (p,30):=(by unfold rdH;rw [if_neg z2_,hcd,htd,hkd,if_neg (by rw [hmay];decide),hzs];simp only;rw [if_pos z2_]);exact⟨[],_,.nil,by rw [jf htr hE];exact⟨U,U⟩⟩
  try simp only [ax,decide_eq_false_iff_not,Bool.not_eq_eq_eq_not,Bool.not_true,Bool.not_false,ne_eq,Decidable.not_not] at hc10
  replace hl:=hl.mono hle10
  replace hT:=hT.mono hle10
  replace hh0:=hh0.mono hle10
  refine Nk [11,10,8,6,0,2] U (Sr (Ru 3 U (JL.fail jH U U (fm) dl_ U (λhc11 h11 hle11=>?_) (λhc11 h11 hle11=>?_))))
  ·try simp only [ax,decide_eq_false_iff_not,Bool.not_eq_eq_eq_not,Bool.not_true,Bool.not_false,ne_eq,Decidable.not_not] at hc11
   have hE:rdH l p en tr=.error (p,33):=(by rw [htr,au z2_];unfold rdH;rw [if_neg z2_,hcd,htd,hkd,if_neg (by rw [hmay];decide),hzs];simp only;rw [if_neg z2_];rfl);exact⟨[],_,.nil,by rw [jf htr hE];exact⟨U,U⟩⟩
  try simp only [ax,decide_eq_false_iff_not,Bool.not_eq_eq_eq_not,Bool.not_true,Bool.not_false,ne_eq,Decidable.not_not] at hc11
  replace hl:=hl.mono hle11
  replace hT:=hT.mono hle11
  replace hh0:=hh0.mono hle11
  obtain⟨d,rfl⟩:∃ d,d0=d+1:=⟨d0-1,by omega⟩;refine a_ (az (Sr ?_));have hH:rdH l p en true=.ok (c,t,k,zn,zq):=(by unfold rdH;rw [if_neg z2_,hcd,htd,hkd,if_neg (by rw [hmay];decide),hzs];simp only;rw [if_neg z2_,if_neg bT]);refine Ru 1 U (ah (aw kC U mm_ U) U ?_);refine Ru 1 U (Nk [80,11,10,8,6,0,2] U (Cs U (λhc12=>?_) λhc12=>?_))
  ·have hkf:k=false:=(by simpa using hc12);subst hkf;refine az (J.held ([.blk br 138 [.slice ab l.length cb,.int .i64 zq]]) 18 cM U (λh00=>?_));refine Tk 0 U (aO U) ?_;refine Tk 1 U (eh U) ?_;refine Tk 2 U (by first|exact bR um rfl|exact bO um rfl) ?_;refine Tk 3 U (aw dt U mm_ U) ?_;refine Tk 4 U (aO U) ?_;refine Tk 5 U (eh U) ?_;refine Tk 6 U (by first|exact bR io rfl|exact bO io rfl) ?_;refine Tk 7 U (aw dI U mm_ U) ?_;refine Tk 8 U (aO U) ?_;refine Tk 9 U (eh U) ?_;refine Tk 10 U (by first|exact bR io rfl|exact bO io rfl) ?_;refine Tk 11 U (aw dI U mm_ U) ?_;refine Tk 12 U (aO U) ?_;refine Tk 13 U ai_ ?_;refine Te 14 U (eJ (m:=zq) (m':=zq+zn) cY U U U U z2_ z7_ U z2_ z2_) ?_;rintro _ ⟨as_,cs_,rfl,hSs⟩;obtain⟨bs,hbs⟩:∃ bs,cutL l zq (zq+zn)=bs:=⟨_,U⟩;have hbc:=hbs;unfold cutL at hbs;rw [hbs] at hSs |-;have hbsl:=hSs.big;have hbl2:bs.length<=16777216:=(by rw [<- hbs];simp;omega)
   refine Ta 15 U ?_;unfold One;refine bZ 5 1 ?_;refine bX dq U U (bQ (R:=u8R)) U z7_ U dl_ z3_ U U (λa14 c14 xs14 hC14 hN14=>?_);obtain rfl:=hC14.u8;refine cW (R:=u8R) (l:=bs) dl_ bm U z3_ (λh15 hle15 hP15=>?_)
   replace hl:=hl.mono hle15
   replace hT:=hT.mono hle15
   replace hh0:=hh0.mono hle15
   replace hSs:=hSs.mono hle15
   refine a_ ⟨(br_ h00),?_⟩;refine Tk 16 U (by first|exact bR kh rfl|exact bO kh rfl) ?_;refine Ta 17 U ?_;unfold One;refine bK dt U U U dl_ fL ?_;refine a_ ⟨(br_ h00),?_⟩;refine cy cP ?_;refine Kp [11,10,8,6,0,2] U (Sr (Ru 3 U (ah (aw dI U mm_ U) U ?_)));refine Ru 1 U (ah ai_ U ?_);refine Ru 2 U (bK dI U U U dl_ fL ?_);refine Nk [11,10,8,6,0,2] U (Sr (Ru 2 U (ah (aw dI U mm_ U) U ?_)));refine Ru 2 U (Bs 110 U (λhc16=>?_) λhc16=>?_)
   ·refine Ru 6 U (JL.fail jH U U (fm) dl_ U (λhc17=>by cases hc17) (λhc17 h17 hle17=>?_))
    replace hl:=hl.mono hle17
    replace hT:=hT.mono hle17
    replace hh0:=hh0.mono hle17
    replace hSs:=hSs.mono hle17
    replace hP15:=hP15.mono hle17
    refine Nk [11,10,8,6,0,2] U (Sr (ah (bJ bP U mm_ z4_) U ?_));refine aV bP U U dl_ f8 f9 z4_ ?_;refine a_ ?_;have hN:rdN (d+1) l p en=.ok (.mk c t false bs [],zq+zn):=(by rw [je hH,hbc,if_pos (by rw [aj z2_];rfl)]);exact dE ⟨_,[.blk br _ _],_,(cr U U bP mm_ z4_),.cons dl_ .nil,by rw [hN];exact⟨⟨_,U,d_ z7_ bu⟩,by simp⟩⟩
   refine Ru 1 U (aQ U U  (aw dI U mm_ U) U ?_);refine Ru 1 U (aQ U U  (aw dt U mm_ U) U ?_);refine cG U U  qO U (j7 (l:=bs) z7_ z7_ z2_) U ?_;refine Ru 1 U (JL.fail jH U U (fm) dl_ U (λhc19 h19 hle19=>?_) (λhc19 h19 hle19=>?_))
   ·try simp only [ax,decide_eq_false_iff_not,Bool.not_eq_eq_eq_not,Bool.not_true,Bool.not_false,ne_eq,Decidable.not_not] at hc19
    have hN:rdN (d+1) l p en=.error (p,34):=(by rw [je hH,hbc,if_neg (by rw [show valB t bs=false from hc19,au z2_];decide)]);exact⟨[],_,.nil,by rw [hN];exact⟨U,U⟩⟩
   try simp only [ax,decide_eq_false_iff_not,Bool.not_eq_eq_eq_not,Bool.not_true,Bool.not_false,ne_eq,Decidable.not_not] at hc19
   replace hl:=hl.mono hle19
   replace hT:=hT.mono hle19
   replace hh0:=hh0.mono hle19
   replace hSs:=hSs.mono hle19
   replace hP15:=hP15.mono hle19
   have hvv:valB t bs=true:=hc19;refine Nk [11,10,8,6,0,2] U (Sr (ah (bJ bP U mm_ z4_) U ?_));refine aV bP U U dl_ f8 f9 z4_ ?_;refine a_ ?_;have hN:rdN (d+1) l p en=.ok (.mk c t false bs [],zq+zn):=(by rw [je hH,hbc,if_pos (by rw [hvv];simp)]);exact dE ⟨_,[.blk br _ _],_,(cr U U bP mm_ z4_),.cons dl_ .nil,by rw [hN];exact⟨⟨_,U,d_ z7_ bu⟩,by simp⟩⟩
  have hkt:k=true:=(by simpa using hc12);subst hkt;refine aA (Sr (Ru 3 U (ah (aw dI U mm_ U) U ?_)));refine Ru 2 U (Nk [13,12,11,10,8,6,0,2] U (az (Sr (Ru 3 U (ah (aw dI U mm_ U) U ?_)))));refine Ru 1 U (ah ai_ U ?_);refine Ru 1 U ?_;refine bZ 35 5 ?_;refine JL.ents [.blk br _ _,.blk b6 _ _,.row _ _ _ _ _ _,.blk b2 _ _,.blk b1 _ _] pt_ ?_;refine Nk [14,13,12,10,8,6,0,2] U (aJ (bM (λt_ S_ h_ L_=>∃ (g:Part) (f pos last:Nat) (acc:LN) (r:Bool) (ak:OA) (ck:Nat) (xs:LV),t_=zq+zn-pos/\S_=[(0,.pointer (some ⟨br,0,none⟩)),(2,.int .i64 ((33:Int)-((d+1:Nat):Int))),(6,.pointer (some ⟨b1,0,none⟩)),(8,.func (.func 145) #[] #[.pointer (some ⟨b2,0,none⟩)]),(10,.pointer (some ⟨b6,0,none⟩)),(12,.int .i64 last),(13,.bool r),(14,.int .i64 ((zq+zn:Nat):Int))]/\g=h_/\L_=[.blk br 138 [.slice ab l.length cb,.int .i64 pos],.blk b6 35 [.int .i64 c,.int .i64 t,.bool true,.slice none 0 0,.slice ak acc.length ck],.row ak ck 35 5 acc.length xs,.blk b2 3 [.int .i64 p],.blk b1 35 [.int .i64 0,.int .i64 0,.bool false,.slice none 0 0,.slice none 0 0]]/\(h.le g/\SlR u8R 1 g ab cb l/\Tabs g/\CellsR NdR 5 g xs acc/\last<=pos/\pos<=zq+zn/\zq+zn<=pos+f/\acc.length<=pos/\rdK (rdN d l) l (zq+zn) zn zq [] true zq=rdK (rdN d l) l (zq+zn) f pos acc r last)) ⟨_,_,?_,⟨_,zn,zq,zq,[],true,none,0,[],U,U,U,U,⟨by assumption,by assumption,by assumption,bQ,by omega,by omega,by omega,by simp,U⟩⟩⟩ ?_))
  ·exact z6_
  rintro _ _ _ _ ⟨g,f,pos,last,acc,r,ak,ck,xs,rfl,rfl,rfl,rfl,hhg,hl,hT,hC,hlp,hps,hpf,hap,hK⟩;refine az (Sr (Ru 3 U (ah (aw dI U mm_ U) U ?_)));refine Ru 2 U (a_ (Cs U (λhc20=>?_) λhc20=>?_))
  ·obtain⟨f',rfl⟩:∃ f',f=f'+1:=⟨f-1,by omega⟩;refine aA (aJ (Sr (Ru 3 U (ah (aw dI U mm_ U) U ?_))));refine Ru 1 U (a_ (az (J.held ([]) 11 cM U (λh00=>?_))));refine Tk 0 U (by first|exact bR fi rfl|exact bO fi rfl) ?_;refine Tk 2 U (aO U) ?_;refine Tk 3 U (aO U) ?_;refine Tk 4 U (aO U) ?_;refine Tk 5 U ai_ ?_;rw [show((33:Int)-((d+1:Nat):Int)+1)=33-(d:Int) by omega];refine JH.all2 1 6 cP U U ?_ ?_
   ·unfold One;refine ah (aw dz U mm_ U) U ?_;refine a_ ⟨(br_ h00),?_⟩;refine Ta 6 U ?_;unfold One;refine JL.call_ ca_96 U (ih d z2_ l pos (zq+zn) br ab cb _ z7_ z7_ hll z2_ z2_) pt_ U (λ_ _ hh=>(NodeR.out hh).elim) (λch21 h21 Lo21 hle21 hR21=>?_) (λv21 h21 Lo21 hle21 hR21=>?_)
    ·have hR21:=NodeR.pan hR21;obtain⟨xa,xc,hxe,rfl⟩:=hR21;have hN:rdN (d+1) l p en=.error (xa,xc):=(by rw [f3 hH,hK,nX z2_ hxe]);exact⟨[],_,.nil,by rw [hN];exact⟨U,U⟩⟩
    obtain⟨x,p',xcs,hxs,rfl,hNdx,rfl⟩:=NodeR.ret hR21
    replace hhg:=hhg.mono hle21
    replace hC:=hC.mono hle21
    replace hl:=hl.mono hle21
    replace hT:=hT.mono hle21
    have hxl:=gA d l pos (zq+zn) x p' hxs;have hal:((acc++[x]).length:Int)=(acc.length:Int)+1:=by simp
    refine a_ ⟨(br_ h00),?_⟩;refine Ta 7 U ?_;unfold One;refine JL.litA dU U z4_ U U (λb22=>?_);refine a_ ⟨(br_ h00),?_⟩;refine Ta 8 U ?_;unfold One;refine bV dU U U z7_ U dl_ dl_ z4_ (hNdx) z3_ U U (λa23 c23 xs23 hC23 hN23=>?_);refine a_ ⟨(br_ h00),?_⟩;refine Tk 9 U (by first|exact bR fi rfl|exact bO fi rfl) ?_;refine Ta 10 U ?_;unfold One;refine bK dz U U U dl_ fL ?_;refine a_ ⟨(br_ h00),?_⟩;refine cy cP ?_;refine az (cJ [(13,.bool (r&&(decide (acc.length=0)||decide (Go.Lib.compareBytes (cutL l last pos) (cutL l pos p')<=0))))] [(148,_),(147,_),(146,_),(145,_),(140,_),(144,_),(143,_),(142,_),(141,_),(139,_),(15,_),(138,_),(137,_),(136,_),(135,_),(134,_),(133,_),(132,_),(131,_),(130,_),(129,_),(0,_),(2,_),(6,_),(8,_),(10,_),(12,_),(14,_)] ⟨U,U,U,U,U,U,U,U,U,U,U,U,U,U,U,U,U,U,U,U,U,U,U,U,U,U,U,U,trivial⟩ ?_ ?_)
    ·refine de cM cP ?_;refine Rq 2 U ?_;refine Bq 150 U (λhc24=>?_) λhc24=>?_
     ·refine Rq 1 U ?_;refine dx U U  (aw dz U mm_ U) U ?_;refine Rq 3 U ?_;refine Bq 155 U (λhc25=>?_) λhc25=>?_
      ·refine Rq 22 U ?_;refine eH ?_;refine⟨U,U,?_⟩;exact z16_
      refine Rq 3 U ?_;refine dx U U  (aw dt U mm_ U) U ?_;refine Rq 2 U ?_;refine JQ.opeg U U  (eJ (m:=last) (m':=pos) cY U U U U U z7_ U z2_ z2_) U ?_;rintro _ ⟨as1,cs1,rfl,hSs1⟩;refine Rq 3 U ?_;refine dx U U  (aw dt U mm_ U) U ?_;refine Rq 4 U ?_;refine dx U U  (aw dI U mm_ U) U ?_;refine JQ.opeg U U  (eJ (m:=pos) (m':=p') cY U U U U U z7_ U z2_ z2_) U ?_;rintro _ ⟨as2,cs2,rfl,hSs2⟩;refine JQ.callPg U U  ca_87 U (eZ z7_ z7_) U ?_;refine Rq 4 U ?_;refine eH ?_;refine⟨U,U,?_⟩;exact z16_
     refine Rq 27 U ?_;refine eH ?_;refine⟨U,U,?_⟩;exact z16_
    refine Rg (Ru 2 U (JL.ents [.blk br _ _,.blk b6 _ _,.row _ _ _ _ _ _,.blk b2 _ _,.blk b1 _ _] pt_ ?_));refine a_ (⟨_,?_,_,?_,⟨_,f',p',pos,acc++[x],_,_,_,_,U,U,U,U,⟨by assumption,by assumption,by assumption,by assumption,by omega,by omega,by omega,by simp;omega,by rw [hK,m7 z2_ hxs]⟩⟩⟩)
    ·omega
    exact z6_
   unfold One;refine JL.call_ ca_96 U (ih d z2_ l pos (zq+zn) br ab cb _ z7_ z7_ hll z2_ z2_) pt_ U (λ_ _ hh=>(NodeR.out hh).elim) (λch29 h29 Lo29 hle29 hR29=>?_) (λv29 h29 Lo29 hle29 hR29=>?_)
   ·have hR29:=NodeR.pan hR29;obtain⟨xa,xc,hxe,rfl⟩:=hR29;have hN:rdN (d+1) l p en=.error (xa,xc):=(by rw [f3 hH,hK,nX z2_ hxe]);exact⟨[],_,.nil,by rw [hN];exact⟨U,U⟩⟩
   obtain⟨x,p',xcs,hxs,rfl,hNdx,rfl⟩:=NodeR.ret hR29
   replace hhg:=hhg.mono hle29
   replace hC:=hC.mono hle29
   replace hl:=hl.mono hle29
   replace hT:=hT.mono hle29
   have hxl:=gA d l pos (zq+zn) x p' hxs;have hal:((acc++[x]).length:Int)=(acc.length:Int)+1:=by simp
   refine a_ ⟨(br_ h00),?_⟩;refine JH.all2 1 7 cP U U ?_ ?_
   ·unfold One;refine ah (aw dz U mm_ U) U ?_;refine a_ ⟨(br_ h00),?_⟩;refine Ta 7 U ?_;unfold One;refine JL.litA dU U z4_ U U (λb30=>?_);refine a_ ⟨(br_ h00),?_⟩;refine Ta 8 U ?_;unfold One;refine bV dU U U z7_ U dl_ dl_ z4_ (hNdx) z3_ U U (λa31 c31 xs31 hC31 hN31=>?_);refine a_ ⟨(br_ h00),?_⟩;refine Tk 9 U (by first|exact bR fi rfl|exact bO fi rfl) ?_;refine Ta 10 U ?_;unfold One;refine bK dz U U U dl_ fL ?_;refine a_ ⟨(br_ h00),?_⟩;refine cy cP ?_;refine az (cJ [(13,.bool (r&&(decide (acc.length=0)||decide (Go.Lib.compareBytes (cutL l last pos) (cutL l pos p')<=0))))] [(148,_),(147,_),(146,_),(140,_),(145,_),(144,_),(143,_),(142,_),(141,_),(139,_),(15,_),(138,_),(137,_),(136,_),(135,_),(134,_),(133,_),(132,_),(131,_),(130,_),(129,_),(0,_),(2,_),(6,_),(8,_),(10,_),(12,_),(14,_)] ⟨U,U,U,U,U,U,U,U,U,U,U,U,U,U,U,U,U,U,U,U,U,U,U,U,U,U,U,U,trivial⟩ ?_ ?_)
    ·refine de cM cP ?_;refine Rq 2 U ?_;refine Bq 150 U (λhc32=>?_) λhc32=>?_
     ·refine Rq 1 U ?_;refine dx U U  (aw dz U mm_ U) U ?_;refine Rq 3 U ?_;refine Bq 155 U (λhc33=>?_) λhc33=>?_
      ·refine Rq 22 U ?_;refine eH ?_;refine⟨U,U,?_⟩;exact z16_
      refine Rq 3 U ?_;refine dx U U  (aw dt U mm_ U) U ?_;refine Rq 2 U ?_;refine JQ.opeg U U  (eJ (m:=last) (m':=pos) cY U U U U U z7_ U z2_ z2_) U ?_;rintro _ ⟨as1,cs1,rfl,hSs1⟩;refine Rq 3 U ?_;refine dx U U  (aw dt U mm_ U) U ?_;refine Rq 4 U ?_;refine dx U U  (aw dI U mm_ U) U ?_;refine JQ.opeg U U  (eJ (m:=pos) (m':=p') cY U U U U U z7_ U z2_ z2_) U ?_;rintro _ ⟨as2,cs2,rfl,hSs2⟩;refine JQ.callPg U U  ca_87 U (eZ z7_ z7_) U ?_;refine Rq 4 U ?_;refine eH ?_;refine⟨U,U,?_⟩;exact z16_
     refine Rq 27 U ?_;refine eH ?_;refine⟨U,U,?_⟩;exact z16_
    refine Rg (Ru 2 U (JL.ents [.blk br _ _,.blk b6 _ _,.row _ _ _ _ _ _,.blk b2 _ _,.blk b1 _ _] pt_ ?_));refine a_ (⟨_,?_,_,?_,⟨_,f',p',pos,acc++[x],_,_,_,_,U,U,U,U,⟨by assumption,by assumption,by assumption,by assumption,by omega,by omega,by omega,by simp;omega,by rw [hK,m7 z2_ hxs]⟩⟩⟩)
    ·omega
    exact z6_
   unfold One;refine JL.litA dU U z4_ U U (λb37=>?_);refine a_ ⟨(br_ h00),?_⟩;refine Ta 1 U ?_;unfold One;refine ah (aw dz U mm_ U) U ?_;refine a_ ⟨(br_ h00),?_⟩;refine Ta 8 U ?_;unfold One;refine bV dU U U z7_ U dl_ dl_ z4_ (hNdx) z3_ U U (λa38 c38 xs38 hC38 hN38=>?_);refine a_ ⟨(br_ h00),?_⟩;refine Tk 9 U (by first|exact bR fi rfl|exact bO fi rfl) ?_;refine Ta 10 U ?_;unfold One;refine bK dz U U U dl_ fL ?_;refine a_ ⟨(br_ h00),?_⟩;refine cy cP ?_;refine az (cJ [(13,.bool (r&&(decide (acc.length=0)||decide (Go.Lib.compareBytes (cutL l last pos) (cutL l pos p')<=0))))] [(148,_),(147,_),(140,_),(146,_),(145,_),(144,_),(143,_),(142,_),(141,_),(139,_),(15,_),(138,_),(137,_),(136,_),(135,_),(134,_),(133,_),(132,_),(131,_),(130,_),(129,_),(0,_),(2,_),(6,_),(8,_),(10,_),(12,_),(14,_)] ⟨U,U,U,U,U,U,U,U,U,U,U,U,U,U,U,U,U,U,U,U,U,U,U,U,U,U,U,U,trivial⟩ ?_ ?_)
   ·refine de cM cP ?_;refine Rq 2 U ?_;refine Bq 150 U (λhc39=>?_) λhc39=>?_
    ·refine Rq 1 U ?_;refine dx U U  (aw dz U mm_ U) U ?_;refine Rq 3 U ?_;refine Bq 155 U (λhc40=>?_) λhc40=>?_
     ·refine Rq 22 U ?_;refine eH ?_;refine⟨U,U,?_⟩;exact z16_
     refine Rq 3 U ?_;refine dx U U  (aw dt U mm_ U) U ?_;refine Rq 2 U ?_;refine JQ.opeg U U  (eJ (m:=last) (m':=pos) cY U U U U U z7_ U z2_ z2_) U ?_;rintro _ ⟨as1,cs1,rfl,hSs1⟩;refine Rq 3 U ?_;refine dx U U  (aw dt U mm_ U) U ?_;refine Rq 4 U ?_;refine dx U U  (aw dI U mm_ U) U ?_;refine JQ.opeg U U  (eJ (m:=pos) (m':=p') cY U U U U U z7_ U z2_ z2_) U ?_;rintro _ ⟨as2,cs2,rfl,hSs2⟩;refine JQ.callPg U U  ca_87 U (eZ z7_ z7_) U ?_;refine Rq 4 U ?_;refine eH ?_;refine⟨U,U,?_⟩;exact z16_
    refine Rq 27 U ?_;refine eH ?_;refine⟨U,U,?_⟩;exact z16_
   refine Rg (Ru 2 U (JL.ents [.blk br _ _,.blk b6 _ _,.row _ _ _ _ _ _,.blk b2 _ _,.blk b1 _ _] pt_ ?_));refine a_ (⟨_,?_,_,?_,⟨_,f',p',pos,acc++[x],_,_,_,_,U,U,U,U,⟨by assumption,by assumption,by assumption,by assumption,by omega,by omega,by omega,by simp;omega,by rw [hK,m7 z2_ hxs]⟩⟩⟩)
   ·omega
   exact z6_
  refine bA (Kp [6,8,10,13] U (Sr (Ru 3 U (Bs 180 U (λhc44=>?_) λhc44=>?_))))
  ·refine Ru 9 U (JL.fail jH U U (fm) dl_ U (λhc45=>by cases hc45) (λhc45 h45 hle45=>?_))
   replace hhg:=hhg.mono hle45
   replace hC:=hC.mono hle45
   replace hl:=hl.mono hle45
   replace hT:=hT.mono hle45
   refine Nk [6,10] U (Sr (cW (R:=NdR) (l:=acc) dl_ z7_ U z2_ (λh9 hle9 hS9=>?_)));refine ah (bJ bP U mm_ z4_) U ?_;refine aV bP U U dl_ f8 f9 z4_ ?_;refine a_ ?_;have hN:rdN (d+1) l p en=.ok (.mk c t true [] acc,pos):=(by rw [f3 hH,hK,gm z2_];simp only;rw [if_pos (by simp_all<;>omega)]);exact dE ⟨_,[.blk br _ _],_,(cr U U bP mm_ z4_),.cons dl_ .nil,by rw [hN];exact⟨⟨_,U,d_ bu hS9⟩,U⟩⟩
  refine Ru 1 U (aQ U U  (aw dI U mm_ U) U ?_);refine Ru 3 U (Bs 185 U (λhc46=>?_) λhc46=>?_)
  ·refine Ru 4 U (JL.fail jH U U (fm) dl_ U (λhc47=>by cases hc47) (λhc47 h47 hle47=>?_))
   replace hhg:=hhg.mono hle47
   replace hC:=hC.mono hle47
   replace hl:=hl.mono hle47
   replace hT:=hT.mono hle47
   refine Nk [6,10] U (Sr (cW (R:=NdR) (l:=acc) dl_ z7_ U z2_ (λh9 hle9 hS9=>?_)));refine ah (bJ bP U mm_ z4_) U ?_;refine aV bP U U dl_ f8 f9 z4_ ?_;refine a_ ?_;have hN:rdN (d+1) l p en=.ok (.mk c t true [] acc,pos):=(by rw [f3 hH,hK,gm z2_];simp only;rw [if_pos (by simp_all<;>omega)]);exact dE ⟨_,[.blk br _ _],_,(cr U U bP mm_ z4_),.cons dl_ .nil,by rw [hN];exact⟨⟨_,U,d_ bu hS9⟩,U⟩⟩
  refine Ru 1 U (aQ U U  (aw dI U mm_ U) U ?_);refine Ru 2 U (JL.fail jH U U (fm) dl_ U (λhc48 h48 hle48=>?_) (λhc48 h48 hle48=>?_))
  ·try simp only [ax,decide_eq_false_iff_not,Bool.not_eq_eq_eq_not,Bool.not_true,Bool.not_false,ne_eq,Decidable.not_not] at hc48
   have hN:rdN (d+1) l p en=.error (p,34):=(by rw [f3 hH,hK,gm z2_];simp only;rw [if_neg (by simp_all<;>omega)]);exact⟨[],_,.nil,by rw [hN];exact⟨U,U⟩⟩
  try simp only [ax,decide_eq_false_iff_not,Bool.not_eq_eq_eq_not,Bool.not_true,Bool.not_false,ne_eq,Decidable.not_not] at hc48
  replace hhg:=hhg.mono hle48
  replace hC:=hC.mono hle48
  replace hl:=hl.mono hle48
  replace hT:=hT.mono hle48
  refine Nk [6,10] U (Sr (cW (R:=NdR) (l:=acc) dl_ z7_ U z2_ (λh9 hle9 hS9=>?_)));refine ah (bJ bP U mm_ z4_) U ?_;refine aV bP U U dl_ f8 f9 z4_ ?_;refine a_ ?_;have hN:rdN (d+1) l p en=.ok (.mk c t true [] acc,pos):=(by rw [f3 hH,hK,gm z2_];simp only;rw [if_pos (by simp_all<;>omega)]);exact dE ⟨_,[.blk br _ _],_,(cr U U bP mm_ z4_),.cons dl_ .nil,by rw [hN];exact⟨⟨_,U,d_ bu hS9⟩,U⟩⟩
theorem foldl_be (l:LB) (a:Nat):l.foldl (λa b=>a*256+b.toNat) a=a*256 ^ l.length+beval l:=by
 unfold beval
 induction l generalizing a with
 |nil=>simp
 |cons x r ih =>
  simp only [List.foldl_cons,aC,Nat.zero_mul,Nat.zero_add];rw [ih (a*256+x.toNat),ih x.toNat,Nat.pow_succ,Nat.add_mul];have:a*256*256 ^ r.length=a*(256 ^ r.length*256):=by rw [Nat.mul_assoc,Nat.mul_comm 256]
  omega
theorem nm (x:UInt8) (r:LB):beval (x::r)=x.toNat*256 ^ r.length+beval r:=by
 have:=foldl_be r x.toNat;unfold beval at *;simpa using this
theorem qS (l:LB):beval l<256 ^ l.length:=by
 have:=lB l l.length;rwa [List.take_length] at this
theorem beval_be (k n:Nat):beval (be k n)=n % 256 ^ k:=by
 induction k with
 |zero=>simp [be,beval,Nat.mod_one]
 |succ k ih =>
  rw [be,nm,ih,jJ,Nat.mod_pow_succ];simp only [UInt8.toNat_ofNat',show(2:Nat) ^ 8=256 from rfl];rw [Nat.mul_comm];omega
theorem be_add (k a n:Nat):be k (a*256 ^ k+n)=be k n:=by
 induction k generalizing a with
 |zero=>rfl
 |succ k ih =>
  have h1:a*256 ^ (k+1)+n=(a*256)*256 ^ k+n:=by rw [Nat.pow_succ,Nat.mul_assoc,Nat.mul_comm 256]
  have hp:0<256 ^ k:=Nat.pow_pos bT;simp only [be];rw [h1,ih];congr 1;rw [Nat.mul_comm (a*256),Nat.mul_add_div hp];apply UInt8.toNat_inj.1;simp only [UInt8.toNat_ofNat'];omega
theorem be_beval (l:LB):be l.length (beval l)=l:=by
 induction l with
 |nil=>rfl
 |cons x r ih =>
  have hp:0<256 ^ r.length:=Nat.pow_pos bT;have hlt:=qS r;simp only [aC,be];rw [nm,be_add,ih];congr 1;rw [Nat.mul_comm x.toNat,Nat.mul_add_div hp,Nat.div_eq_of_lt hlt];simp
theorem nby_4 (n:Nat) (h:n<4294967296):nby n<=4/\n<256 ^ nby n/\(128<=n->0<n / 256 ^ (nby n-1)):=by
 unfold nby
 (repeat' split)<;>refine⟨by omega,by simp;omega,λhh=>?_⟩<;>first|omega|(simp;omega)
theorem nby_of (n k:Nat) (h1:1<=k) (h4:k<=4) (hlt:n<256 ^ k) (h0:0<n / 256 ^ (k-1)):nby n=k:=by
 have:k=1\/k=2\/k=3\/k=4:=by omega
 rcases this with rfl|rfl|rfl|rfl<;>simp at hlt h0<;>unfold nby<;>(repeat' split)<;>omega
theorem o7 {a b l:LB}{p:Nat}(h:a++b <+: l.drop p):a <+: l.drop p/\b <+: l.drop (p+a.length):=by
 obtain⟨t,ht⟩:=h;refine⟨⟨b++t,by rw [<- ht,List.append_assoc]⟩,⟨t,?_⟩⟩;rw [<- List.drop_drop,<- ht,List.append_assoc,List.drop_left]
theorem pre_len {b l:LB}{p:Nat}(h:b <+: l.drop p):b=[]\/p+b.length<=l.length:=by
 have:=h.length_le;rw [bC] at this;cases b with
 |nil=>exact .inl U
 |cons x r=>simp only [aC] at *;exact .inr z2_
theorem o_ {x:UInt8}{r l:LB}{p:Nat}(h:x::r <+: l.drop p):byteAt l p=x.toNat/\p<l.length/\r <+: l.drop (p+1):=by
 have h2:=(o7 (a:=[x]) (b:=r) h).2;have hl:=pre_len h;simp only [aC,reduceCtorEq,false_or] at hl;refine⟨?_,by omega,h2⟩;obtain⟨t,ht⟩:=h;have:l[p]?=some x:=by
  have:=congrArg (·[0]?) ht;simp only [List.cons_append,List.getElem?_cons_zero,List.getElem?_drop,Nat.add_zero] at this;exact this.symm
 simp [byteAt,List.getD,this]
theorem pre_cut {b l:LB}{p:Nat}(h:b <+: l.drop p):cutL l p (p+b.length)=b:=by
 unfold cutL;rw [show p+b.length-p=b.length by omega];exact(List.prefix_iff_eq_take.1 h).symm
theorem mC {l:LB}{p q:Nat}(h:p<=q) (h2:q<=l.length):(cutL l p q).length=q-p:=by
 unfold cutL;simp;omega
theorem iU {l:LB}{p q r:Nat}(h:p<=q) (h2:q<=r):cutL l p q++cutL l q r=cutL l p r:=by
 unfold cutL;have e:l.drop q=(l.drop p).drop (q-p):=by rw [List.drop_drop];congr 1;omega
 have e2:r-p=(q-p)+(r-q):=by omega
 rw [e,e2,List.take_add]
theorem sD {l:LB}{p:Nat}(h:p<l.length):cutL l p (p+1)=[UInt8.ofNat (byteAt l p)]:=by
 unfold cutL;rw [show p+1-p=1 by omega,aX h,List.take_succ_cons,List.take_zero,<- bY l p h];simp
theorem lenB_len (n:Nat):1<=(lenB n).length:=by unfold lenB;split<;>simp
theorem rdS_lenB {n p e:Nat}{l:LB}(h:lenB n <+: l.drop p) (he:p+(lenB n).length<=e) (hn:n<4294967296):rdS l p e=.ok (n,p+(lenB n).length):=by
 have hl1:=lenB_len n;unfold lenB at *;split at h
 ·rename_i h1;rw [if_pos h1] at *;obtain⟨hb,hp,_⟩:=o_ h;have e1:(UInt8.ofNat n).toNat=n:=by simp;omega
  rw [e1] at hb;unfold rdS;rw [if_neg (by simp at he;omega),if_pos z2_,hb];rfl
 ·rename_i h1;rw [if_neg h1] at *;obtain⟨h4,hlt,h0⟩:=nby_4 n hn;have hb6:=mg n;obtain⟨hb,hp,hr⟩:=o_ h;have e1:(UInt8.ofNat (128+nby n)).toNat=128+nby n:=by simp;omega
  rw [e1] at hb;simp only [aC,jJ] at he |-
  have ht:(l.drop (p+1)).take (byteAt l p-128)=be (nby n) n:=by
   have:=List.prefix_iff_eq_take.1 hr;rw [jJ] at this;rw [hb,show 128+nby n-128=nby n by omega,<- this]
  have hv:beval (be (nby n) n)=n:=by rw [beval_be,Nat.mod_eq_of_lt hlt]
  unfold rdS;rw [if_neg z2_,if_neg z2_,if_neg z2_,if_neg z2_,ht,hv,if_neg (by rw [hb,show 128+nby n-128-1=nby n-1 by omega];have:=h0 z2_;omega)];rw [hb,show p+1+(128+nby n-128)=p+(nby n+1) by omega]
theorem rdS_inv {l:LB}{p e n q:Nat}(h:rdS l p e=.ok (n,q)) (he:e<=l.length):cutL l p q=lenB n/\n<4294967296:=by
 unfold rdS at h;split at h
 ·cases h
 ·rename_i h0;have hb:=cx l p;split at h
  ·rename_i h1;injection h with h;injection h with h2 h3;subst h2 h3;refine⟨?_,by omega⟩;rw [sD z2_];unfold lenB;rw [if_pos h1]
  ·rename_i h1;split at h
   ·cases h
   ·split at h
    ·cases h
    ·split at h
     ·cases h
     ·rename_i h2 h3 h4;injection h with h;injection h with h5 h6;obtain⟨k,hk⟩:∃ k,byteAt l p-128=k:=⟨_,U⟩;rw [hk] at h2 h3 h4 h5 h6;have hbl:((l.drop (p+1)).take k).length=k:=by simp;omega
      have hvl:=qS ((l.drop (p+1)).take k);rw [hbl,h5] at hvl;rw [h5] at h4;have h41:1<=k/\k<=4:=by omega
      have hpk:(256:Nat) ^ k<=256 ^ 4:=Nat.pow_le_pow_right bT h41.2;have hnb:=nby_of n k h41.1 h41.2 hvl z2_;refine⟨?_,by have:(256:Nat) ^ 4=4294967296:=bT;omega⟩;have hbe:=be_beval ((l.drop (p+1)).take k);rw [hbl,h5] at hbe;rw [<- h6,<- iU (q:=p+1) z2_ z2_,sD z2_];unfold lenB;rw [if_neg z2_,hnb,hbe,show byteAt l p=128+k by omega];unfold cutL;rw [show p+1+k-(p+1)=k by omega];rfl
theorem tag_byte {c t:Int}{k:Bool}(hc:c=0\/c=2) (ht:0<=t/\t<=30):(UInt8.ofNat (tagN c t k)).toNat / 64=c.toNat/\(UInt8.ofNat (tagN c t k)).toNat % 32=t.toNat/\decide ((UInt8.ofNat (tagN c t k)).toNat / 32 % 2=1)=k:=by
 have h:(UInt8.ofNat (tagN c t k)).toNat=tagN c t k:=by
  simp only [UInt8.toNat_ofNat'];unfold tagN;cases k<;>simp<;>omega
 rw [h];unfold tagN;cases k<;>simp<;>omega
theorem oy {c t:Int}{k:Bool}(h:mayB c t k=true):(c=0\/c=2)/\0<=t/\t<=30:=by
 unfold mayB at h;simp only [Bool.and_eq_true,Bool.or_eq_true,ax] at h;omega
theorem byte_tag (b:Nat) (hb:b<256):UInt8.ofNat (tagN (b / 64:Nat) (b % 32:Nat) (decide (b / 32 % 2=1)))=UInt8.ofNat b:=by
 congr 1;unfold tagN;by_cases h:b / 32 % 2=1
 ·simp [h];omega
 ·simp [h];omega
theorem rdH_headB {c t:Int}{k:Bool}{n p e:Nat}{l:LB}(hm:mayB c t k=true) (h:headB c t k n <+: l.drop p) (he:p+(headB c t k n).length+n<=e) (hn:n<4294967296) :
 rdH l p e true=.ok (c.toNat,t.toNat,k,n,p+(headB c t k n).length):=by
 obtain⟨hc,ht⟩:=oy hm;obtain⟨hb,hp,hr⟩:=o_ h;obtain⟨e1,e2,e3⟩:=tag_byte (k:=k) hc ht;have ec:((c.toNat:Nat):Int)=c:=Int.toNat_of_nonneg z2_;have et:((t.toNat:Nat):Int)=t:=Int.toNat_of_nonneg z2_;have hlen:(headB c t k n).length=(lenB n).length+1:=rfl;have hS:=rdS_lenB (e:=e) hr z2_ hn;unfold rdH;rw [hb,e1,e2,e3,ec,et,if_neg z2_,if_neg (by rw [hm];decide),hS];simp only;rw [if_neg z2_,if_neg bT,hlen];congr 5;omega
theorem rI {l:LB}{p e c t n q:Nat}{k ok:Bool}(h:rdH l p e ok=.ok (c,t,k,n,q)) (he:e<=l.length):mayB c t k=true/\cutL l p q=headB c t k n/\n<4294967296:=by
 have hle:=mV h;unfold rdH at h;split at h
 ·cases h
 ·split at h
  ·cases h
  ·rename_i h0 h1;split at h
   ·cases h
   ·rename_i n' q' hs;split at h
    ·cases h
    ·split at h
     ·cases h
     ·injection h with h;injection h with h2 h3;injection h3 with h3 h4;injection h4 with h4 h5;injection h5 with h5 h6;subst h5 h6;have hi:=rdS_inv hs he;have hq:=mU hs;rw [h2,h3,h4] at h1;refine⟨by simpa using h1,?_,hi.2⟩;rw [<- iU (q:=p+1) z2_ z2_,sD z2_,hi.1,<- h2,<- h3,<- h4];unfold headB;rw [byte_tag _ (cx l p)];rfl
theorem Nd.putL_pre {set:Bool}{ks:LN}{last:Option LB}{acc B:LB}(h:Nd.putL set ks last acc=some B):∃ r,B=acc++r:=by
 induction ks generalizing last acc with
 |nil=>simp only [Nd.putL,aB] at h;exact⟨[],by simp [h]⟩
 |cons x r ih =>
  simp only [Nd.putL] at h;split at h
  ·cases h
  ·split at h
   ·cases h
   ·obtain⟨r',hr⟩:=ih h;exact⟨_,by rw [hr,List.append_assoc]⟩
theorem okN_parts {c t:Int}{k:Bool}{bs:LB}{ks:LN}(h:okN c t k bs ks=true):mayB c t k=true/\(k=true->bs=[])/\(k=false->ks=[]/\(decide (c=2)||valB t bs)=true):=by
 unfold okN at h;simp only [Bool.and_eq_true,Bool.not_eq_eq_eq_not,Bool.not_true] at h;obtain⟨h1,h2,h3,h4⟩:=h;have hc:=(oy h1).1;refine⟨h1,λhk=>?_,λhk=>?_⟩
 ·subst hk;exact List.eq_nil_of_length_eq_zero (by simpa using h2)
 ·subst hk;refine⟨List.eq_nil_of_length_eq_zero (by simpa using h3),?_⟩;rcases hc with hc|hc
  ·subst hc;simpa using h4
  ·simp [hc]
theorem nU:∀ (d:Nat) (x:Nd) (b l:LB) (p e:Nat),x.put=some b->x.rk<=d->b.length<4294967296->b <+: l.drop p->p+b.length<=e->rdN d l p e=.ok (x,p+b.length):=by
 intro d
 induction d with
 |zero=>intro x b l p e _ hr;cases x;simp [Nd.rk] at hr
 |succ d ih =>
  intro x b l p e hb hr hl hpre he;cases x with
  |mk c t k bs ks =>
  simp only [Nd.put] at hb;split at hb
  ·rename_i hok;cases hin:Nd.putL (decide (c=0)&&decide (t=17)) ks none bs with
   |none=>simp [hin] at hb
   |some inb =>
    simp only [hin,Option.map_some,aB] at hb;subst hb;simp only [Nd.rk] at hr;obtain⟨hm,hk1,hk2⟩:=okN_parts hok;obtain⟨hcc,htt⟩:=oy hm;have ec:((c.toNat:Nat):Int)=c:=Int.toNat_of_nonneg z2_;have et:((t.toNat:Nat):Int)=t:=Int.toNat_of_nonneg z2_;rw [aU] at hl he |-
    obtain⟨hp1,hp2⟩:=o7 hpre;have hH:=rdH_headB (e:=e) hm hp1 z2_ z2_;cases k with
    |false =>
     obtain⟨hks,hv⟩:=hk2 U;subst hks;simp only [Nd.putL,aB] at hin;subst hin;rw [je hH,pre_cut hp2,ec,et,if_pos (by rw [show(decide (c.toNat=2))=decide (c=2) from decide_eq_decide.2 z2_];exact hv)];congr 2;omega
    |true =>
     have hbs:=hk1 U;subst hbs;have key:∀ (r:LN) (f q last:Nat) (acc:LN) (rr:Bool) (lo:Option LB) (ab rb:LB),Nd.rkL r<=d->Nd.putL (decide (c=0)&&decide (t=17)) r lo ab=some (ab++rb)->rb <+: l.drop q->rb.length<4294967296->rb.length<=f ->
      (∀ z,lo=some z->cutL l last q=z/\acc≠[])->(lo=none->acc=[])->((decide (c=0)&&decide (t=17))=true->rr=true) ->
      ∃ r',rdK (rdN d l) l (q+rb.length) f q acc rr last=.ok (acc++r,r',q+rb.length)/\((decide (c=0)&&decide (t=17))=true->r'=true):=by
      intro r
      induction r with
      |nil =>
       intro f q last acc rr lo ab rb _ h1 _ _ _ _ _ h6;simp only [Nd.putL,aB] at h1;have:rb=[]:=by simpa using h1
       subst this;refine⟨rr,?_,h6⟩;rw [gm (by simp)];simp
      |cons y r ihr =>
       intro f q last acc rr lo ab rb h0 h1 h2 h3 h4 h5 h5' h6;simp only [Nd.rkL] at h0;simp only [Nd.putL] at h1;split at h1
       ·cases h1
       ·rename_i yb hyb;split at h1
        ·cases h1
        ·rename_i hab;obtain⟨rb',hrb⟩:=Nd.putL_pre h1;have hrb2:rb=yb++rb':=by rw [List.append_assoc] at hrb;exact List.append_cancel_left hrb
         subst hrb2;rw [aU] at h3 h4 |-
         have hyl:=(dF _ y yb (aL _) hyb).1;obtain⟨g1,g2⟩:=o7 h2;obtain⟨f',rfl⟩:∃ f',f=f'+1:=⟨f-1,by omega⟩;have hy:=ih y yb l q (q+(yb.length+rb'.length)) hyb z2_ z2_ g1 z2_;have hcy:cutL l q (q+yb.length)=yb:=pre_cut g1;rw [m7 z2_ hy];rw [<- List.append_assoc] at h1;obtain⟨r',k1,k2⟩:=ihr f' (q+yb.length) q (acc++[y]) (rr&&(decide (acc.length=0)||decide (Go.Lib.compareBytes (cutL l last q) (cutL l q (q+yb.length))<=0))) (some yb) (ab++yb) rb' z2_ h1 g2 z2_ z2_
          (λz hz=>by cases hz;exact⟨hcy,by simp⟩) (λhz=>by cases hz) (λhs=>by
           rw [h6 hs,Bool.true_and,hcy];cases lo with
           |none=>rw [h5' rfl];rfl
           |some z =>
            obtain⟨hz1,hz2⟩:=h5 z U;rw [hz1];rw [hs,Bool.true_and] at hab;simp only [aboveB,ax] at hab;rw [aj (show Go.Lib.compareBytes z yb<=0 by omega),Bool.or_true])
         refine⟨r',?_,k2⟩;rw [Nat.add_assoc] at k1;rw [k1,List.append_assoc];rfl
     obtain⟨r',k1,k2⟩:=key ks inb.length (p+(headB c t true inb.length).length) (p+(headB c t true inb.length).length) [] true none [] inb z2_ (by simpa using hin) hp2 z2_ (aL _) (λz hz=>by cases hz) (λ_=>rfl) (λ_=>rfl);rw [f3 hH,k1];simp only [List.nil_append];rw [if_pos,ec,et]
     ·congr 2;omega
     ·by_cases hs:(decide (c=0)&&decide (t=17))=true
      ·rw [k2 hs];rfl
      ·simp only [Bool.and_eq_true,ax,not_and] at hs;by_cases hc0:c=0
       ·rw [aj (show t.toNat≠17 by have:=hs hc0;omega)];simp
       ·rw [aj (show c.toNat≠0 by omega)];simp
  ·cases hb
theorem okN_of {c t:Int}{k:Bool}{bs:LB}{ks:LN}(hm:mayB c t k=true) (h1:k=true->bs=[]) (h2:k=false->ks=[]/\(decide (c=2)||valB t bs)=true):okN c t k bs ks=true:=by
 unfold okN;have hc:=(oy hm).1;rw [hm];cases k with
 |true=>rw [h1 rfl];simp
 |false =>
  obtain⟨h3,h4⟩:=h2 U;subst h3;rcases hc with hc|hc
  ·subst hc;simpa using h4
  ·simp [hc]
theorem nV:∀ (d:Nat) (l:LB) (p e:Nat) (x:Nd) (q:Nat),e<=l.length->rdN d l p e=.ok (x,q)->x.put=some (cutL l p q)/\x.rk<=d:=by
 intro d
 induction d with
 |zero=>intro l p e x q _ h;simp only [rdN] at h;split at h<;>cases h
 |succ d ih =>
  intro l p e x q he h;simp only [rdN] at h;split at h
  ·cases h
  ·rename_i c t k n q0 hh;have h0:=mV hh;obtain⟨hm,hcut,hn⟩:=rI hh he;split at h
   ·rename_i hk;subst hk;split at h
    ·rename_i hv;injection h with h;injection h with h1 h2;subst h1 h2;have hok:okN c t false (cutL l q0 (q0+n)) []=true:=okN_of hm (λhh=>by cases hh) (λ_=>⟨U,by rw [show decide ((c:Int)=2)=decide (c=2) from decide_eq_decide.2 z2_];exact hv⟩);refine⟨?_,by simp [Nd.rk,Nd.rkL]⟩;simp only [Nd.put,hok,if_true,Nd.putL,Option.map_some];rw [mC z2_ z2_,show q0+n-q0=n by omega,<- hcut,iU z2_ z2_]
    ·cases h
   ·rename_i hk;have hk:k=true:=by simpa using hk
    subst hk;have key:∀ (f q1:Nat) (acc:LN) (rr:Bool) (last:Nat) (ks:LN) (r':Bool) (q2:Nat) (lo:Option LB) (set:Bool),q1<=q0+n->last<=q1->q0+n<=q1+f->rdK (rdN d l) l (q0+n) f q1 acc rr last=.ok (ks,r',q2)->(set=true->r'=true) ->
     (∀ z,lo=some z->cutL l last q1=z/\acc≠[]) ->
     ∃ r,ks=acc++r/\Nd.rkL r<=d/\q2=q0+n/\∀ ab,Nd.putL set r lo ab=some (ab++cutL l q1 (q0+n)):=by
     intro f
     induction f with
     |zero =>
      intro q1 acc rr last ks r' q2 lo set h1 h2 h3 h4 h5 h6;simp only [rdK] at h4;injection h4 with h4;injection h4 with h7 h8;injection h8 with h8 h9;have hq:q1=q0+n:=by omega
      refine⟨[],by simp [h7],by simp [Nd.rkL],by omega,λab=>?_⟩;simp [Nd.putL,cutL,hq]
     |succ f ihf =>
      intro q1 acc rr last ks r' q2 lo set h1 h2 h3 h4 h5 h6;simp only [rdK] at h4;split at h4
      ·injection h4 with h4;injection h4 with h7 h8;injection h8 with h8 h9;have hq:q1=q0+n:=by omega
       refine⟨[],by simp [h7],by simp [Nd.rkL],by omega,λab=>?_⟩;simp [Nd.putL,cutL,hq]
      ·split at h4
       ·cases h4
       ·rename_i y q3 hy;have hyl:=gA d l q1 (q0+n) y q3 hy;obtain⟨hyp,hyr⟩:=ih l q1 (q0+n) y q3 z2_ hy;have hmono:∀ (f q1:Nat) (acc:LN) (rr:Bool) (last:Nat) (ks:LN) (r':Bool) (q2:Nat),rdK (rdN d l) l (q0+n) f q1 acc rr last=.ok (ks,r',q2)->r'=true->rr=true:=by
         intro f
         induction f with
         |zero=>intro q1 acc rr last ks r' q2 h hr;simp only [rdK] at h;injection h with h;injection h with _ h;injection h with h _;rw [h];exact hr
         |succ f ihm =>
          intro q1 acc rr last ks r' q2 h hr;simp only [rdK] at h;split at h
          ·injection h with h;injection h with _ h;injection h with h _;rw [h];exact hr
          ·split at h
           ·cases h
           ·have:=ihm _ _ _ _ _ _ _ h hr;simp only [Bool.and_eq_true] at this;exact this.1
        have hr5:=λhs=>hmono _ _ _ _ _ _ _ _ h4 (h5 hs);obtain⟨r,g1,g2,g3,g4⟩:=ihf q3 (acc++[y]) _ q1 ks r' q2 (some (cutL l q1 q3)) set z2_ z2_ z2_ h4 h5 (λz hz=>by cases hz;exact⟨U,by simp⟩);refine⟨y::r,by rw [g1,List.append_assoc];rfl,by simp only [Nd.rkL];omega,g3,λab=>?_⟩;simp only [Nd.putL,hyp];rw [if_neg,g4,List.append_assoc,iU z2_ z2_];intro hs;simp only [Bool.and_eq_true] at hs;have:=hr5 hs.1;cases lo with
        |none=>simp [aboveB] at hs
        |some z =>
         obtain⟨hz1,hz2⟩:=h6 z U;simp only [aboveB,ax] at hs;rw [hz1] at this;have hne:¬ acc.length=0:=λhh=>hz2 (List.eq_nil_of_length_eq_zero hh);simp only [Bool.and_eq_true,Bool.or_eq_true,ax] at this;omega
    split at h
    ·cases h
    ·rename_i ks r p1 hK;split at h
     ·rename_i hr;injection h with h;injection h with h1 h2;subst h1 h2;obtain⟨r2,g1,g2,g3,g4⟩:=key n q0 [] true q0 ks r p1 none (decide ((c:Int)=0)&&decide ((t:Int)=17)) z2_ z2_ z2_ hK (λhs=>by
       simp only [Bool.and_eq_true,Bool.or_eq_true,ax] at hs hr;rcases hr with hr|hr
       ·exact hr
       ·omega) (λz hz=>by cases hz)
      simp only [List.nil_append] at g1;subst g1 g3;have hok:okN c t true [] ks=true:=okN_of hm (λ_=>rfl) (λhh=>by cases hh);refine⟨?_,by simp only [Nd.rk];omega⟩;have hp:=g4 [];simp only [List.nil_append] at hp;simp only [Nd.put,hok,if_true,hp,Option.map_some];rw [mC z2_ z2_,show q0+n-q0=n by omega,<- hcut,iU z2_ z2_]
     ·cases h
theorem rdH_err {l:LB}{p e:Nat}{ok:Bool}{a c:Int}(h:rdH l p e ok=.error (a,c)):a=p/\c≠0:=by
 unfold rdH at h;split at h
 ·injection h with h;injection h with h1 h2;omega
 ·split at h
  ·injection h with h;injection h with h1 h2;omega
  ·split at h
   ·rename_i c' hs;injection h with h;injection h with h1 h2;refine⟨h1.symm,?_⟩;subst h2;unfold rdS at hs
    (repeat' split at hs)<;>first|(injection hs with hs;omega)|cases hs
   ·split at h
    ·injection h with h;injection h with h1 h2;omega
    ·split at h
     ·injection h with h;injection h with h1 h2;omega
     ·cases h
theorem rdN_at:∀ (d:Nat) (l:LB) (p e:Nat) (a c:Int),p<=e->rdN d l p e=.error (a,c)->p<=a/\a<=e/\c≠0:=by
 intro d
 induction d with
 |zero =>
  intro l p e a c hpe h;simp only [rdN] at h;split at h
  ·rename_i er hh;injection h with h;subst h;have:=rdH_err hh;omega
  ·injection h with h;injection h with h1 h2;omega
 |succ d ih =>
  intro l p e a c hpe h;simp only [rdN] at h;split at h
  ·rename_i er hh;injection h with h;subst h;have:=rdH_err hh;omega
  ·rename_i c' t k n q hh;have h0:=mV hh;split at h
   ·split at h
    ·cases h
    ·injection h with h;injection h with h1 h2;omega
   ·have key:∀ (f q1:Nat) (acc:LN) (rr:Bool) (last:Nat),p<=q1->q1<=q+n->rdK (rdN d l) l (q+n) f q1 acc rr last=.error (a,c)->p<=a/\a<=e/\c≠0:=by
     intro f
     induction f with
     |zero=>intro q1 acc rr last _ _ h;simp only [rdK] at h;cases h
     |succ f ihf =>
      intro q1 acc rr last g1 g2 h;simp only [rdK] at h;split at h
      ·cases h
      ·split at h
       ·rename_i er hy;injection h with h;subst h;have:=ih l q1 (q+n) a c g2 hy;omega
       ·rename_i y q3 hy;have:=gA d l q1 (q+n) y q3 hy;exact ihf _ _ _ _ z2_ z2_ h
    split at h
    ·rename_i er hK;injection h with h;subst h;exact key _ _ _ _ _ z2_ z2_ hK
    ·split at h
     ·cases h
     ·injection h with h;injection h with h1 h2;omega
def ndZ:Nd:=.mk 0 0 false [] []
def rdTop (l:LB):Nd×Int×Int :=
 if 16777216<l.length then(ndZ,0,2) else match rdN 32 l 0 l.length with
  |.error (a,c)=>(ndZ,a,c)
  |.ok (x,q)=>if q<l.length then(ndZ,q,35) else(x,0,0)
theorem sT (x:Nd):(x.wr.2=0/\x.put=some x.wr.1/\x.rk<=32/\x.wr.1.length<=16777216)\/x.wr.2≠0:=by
 unfold Nd.wr;cases hx:x.put with
 |none=>exact .inr (by simp)
 |some b =>
  simp only;split
  ·exact .inr (by simp)
  ·split
   ·exact .inr (by simp)
   ·exact .inl ⟨U,U,by omega,by simp;omega⟩
theorem nS {x:Nd}(h:x.wr.2=0):rdTop x.wr.1=(x,0,0):=by
 rcases sT x with ⟨_,h1,h2,h3⟩|hh
 ·unfold rdTop;rw [if_neg z2_,nU 32 x x.wr.1 x.wr.1 0 x.wr.1.length h1 h2 z2_ (by simp) z2_];simp
 ·exact absurd h hh
theorem wr_rdTop {l:LB}{x:Nd}{a:Int}(h:rdTop l=(x,a,0)):x.wr=(l,0):=by
 unfold rdTop at h;split at h
 ·injection h with _ h;injection h with _ h;omega
 ·split at h
  ·rename_i a' c hh;have:=rdN_at 32 l 0 l.length a' c z2_ hh;injection h with _ h;injection h with _ h;omega
  ·rename_i y q hh;split at h
   ·injection h with _ h;injection h with _ h;omega
   ·injection h with h _;subst h;have hle:=gA 32 l 0 l.length y q hh;obtain⟨h1,h2⟩:=nV 32 l 0 l.length y q (aL _) hh;have hq:q=l.length:=by omega
    subst hq;have hc:cutL l 0 l.length=l:=by simp [cutL]
    rw [hc] at h1;unfold Nd.wr;rw [h1];simp only;rw [if_neg z2_,if_neg z2_]
theorem Nd.put_sz:∀ (n:Nat) (x:Nd) (b:LB),x.rk<=n->x.put=some b->x.sz<=b.length:=by
 intro n
 induction n with
 |zero=>intro x b hx;cases x;simp [Nd.rk] at hx
 |succ n ih =>
  intro x b hx hb;cases x with
  |mk c t k bs ks =>
   simp only [Nd.rk] at hx;have key:∀ (l:LN) (set:Bool) (last:Option LB) (acc b:LB),Nd.rkL l<=n->Nd.putL set l last acc=some b->acc.length+Nd.szL l<=b.length:=by
    intro l
    induction l with
    |nil=>intro set last acc b _ hb;simp only [Nd.putL,aB] at hb;subst hb;simp [Nd.szL]
    |cons y r ihr =>
     intro set last acc b hl hb;simp only [Nd.rkL] at hl;simp only [Nd.putL] at hb;split at hb
     ·cases hb
     ·rename_i b1 hb1;split at hb
      ·cases hb
      ·have h1:=ih y b1 z2_ hb1;have h2:=ihr _ _ _ _ z2_ hb;simp only [Nd.szL,aU] at h2 |-
       omega
   simp only [Nd.put] at hb;split at hb
   ·cases hp:Nd.putL (decide (c=0)&&decide (t=17)) ks none bs with
    |none=>simp [hp] at hb
    |some b1 =>
     simp only [hp,Option.map_some,aB] at hb;subst hb;have h1:=key ks _ _ _ _ z2_ hp;have h2:=g9 c t k b1.length;simp only [aU,Nd.sz];omega
   ·cases hb
theorem dn {p:Prop}(u:p:=by first|rfl):p:=u
theorem j5 {p:Prop}(u:p:=by first|rfl|assumption):p:=u
theorem uW {p:Prop}(u:p:=by repeat first|exact Del.here|apply Del.there):p:=u
theorem cZ:aggT prog 102=some (some 2):=by kernel_rfl
theorem ag_197:aggT prog 197=some (some 2):=by kernel_rfl
theorem ca_95:callT prog 95=true:=by kernel_rfl
theorem pl_138:plT prog 138=some ([.slice none 0 0,.int .i64 0],[(0,1),(1,1)]):=by kernel_rfl
theorem lG:zeroT prog 102=some [.int .i64 0,.int .i64 0]:=by kernel_rfl
theorem zr_197:zeroT prog 197=some [.int .i64 0,.int .i64 0]:=by kernel_rfl
theorem RunV.typeAssert {f:Fr}{S:Sig}{h:Part}{L:LE}{ty X T:TypeId}{xo:Operand}{v:Value}(hT:niT f.P T=true) (hx:ev S xo=some (.iface T v)):RunV f S h L (.typeAssert xo X T true) ty (.tuple #[v,.bool true]):=λa w s _ _ _ _=>by
 unfold niT at hT;split at hT<;>try cases hT
 rename_i d hd hu;cases d<;>first|(exact(hd _ rfl).elim)|simp [execOp,s.eval hx,Instr.typeAssert,run_underlying hu]
theorem caught_fn {a c:Int}{h:Part}:Pure prog 95 [gvn a c] h (.agg #[.int .i64 a,.int .i64 c]):=by
 unfold gvn;refine dY ?_;refine aM func95 U ntmps95 U (λe he=>?_);refine bg [(0,_)] ⟨U,trivial⟩ ?_;refine Sr (bI lG U (λb1=>?_));refine a_ (Sr (Ru 1 U (ah (RunV.typeAssert ni_197 U) U ?_)));refine Ru 3 U (bI zr_197 U (λb2=>?_));refine aV ag_197 U U dl_ dn j5 dn ?_;refine Ru 1 U (Nk [4,3,2,0] U (az (Sr (Ru 2 U (a_ (Cs U (λhc3=>?_) λhc3=>?_))))))
 ·refine Rg (Ru 1 U (JL.panic U ?_));exact absurd hc3 bT
 refine aA (Kp [3,2] U (Sr (Ru 1 U (ah (bJ cZ U mm_ dn) U ?_))));refine aV cZ U U dl_ dn j5 dn ?_;exact a_ (ew (cr U U cZ mm_ dn) U)
theorem ifE_:ifT prog 20=true:=by kernel_rfl
def tailC:Code->Code
 |.seq _ c=>c
 |c=>c
theorem vu {e:Env}{h:Part}{L:LE}{bN bF:Nat}:J ⟨prog,e,9,λ_ _ _=>False,λ_ _ _ _=>False⟩ (tailC (Tryz.f94.body.getD .skip)) (λ_ h1 L1=>h1=h/\L1=L) NoExit [(2,.nilIface),(0,.pointer (some ⟨bN,0,none⟩)),(1,.pointer (some ⟨bF,0,none⟩))] h L:=by
 skip
 refine Sr (Ru 1 U (ah (RunV.neq_nil_nil ifE_ U) U ?_));refine a_ (dA U ?_);exact aA (⟨U,U⟩)
theorem vt {e:Env}{h:Part}{L:LE}{bN bF:Nat}{a c:Int}{csN csF:LV}(hN:csN.length=5) (hF:csF.length=2):J ⟨prog,e,9,λ_ _ _=>False,λ_ _ _ _=>False⟩ (tailC (Tryz.f94.body.getD .skip))
 (λ_ h1 L1=>h1=h/\L1=.blk bF 102 [.int .i64 a,.int .i64 c]::.blk bN 35 [.int .i64 0,.int .i64 0,.bool false,.slice none 0 0,.slice none 0 0]::L) NoExit [(2,gvn a c),(0,.pointer (some ⟨bN,0,none⟩)),(1,.pointer (some ⟨bF,0,none⟩))] h (.blk bF 102 csF::.blk bN 35 csN::L):=by
 skip
 refine Sr (Ru 1 U (ah (RunV.neq_iface_nil ifE_ U) U ?_));refine a_ (aY U (Rg (ah (bn (cs:=[.int .i64 0,.int .i64 0,.bool false,.slice none 0 0,.slice none 0 0]) eR U U) U ?_)));refine Ru 1 U (bh ca_95 U (caught_fn) U ?_);refine aV bP U U dl_ f8 f9 z4_ ?_;refine aV cZ U U dl_ dn j5 dn ?_;exact a_ (⟨U,U⟩)
abbrev rdD (bN bF:Nat):Deferred:=⟨.fn (.func 94) #[.pointer (some ⟨bN,0,none⟩),.pointer (some ⟨bF,0,none⟩)],#[]⟩
section
variable {w0:World}{h0 h:Part}{S:Sig}{L L1 L2:LE}{bN bF:Nat}{csN csF:LV}{R:Ending->Part->LE->Prop}
theorem pR (w:World):(invoke (rdD bN bF).target (rdD bN bF).args).run prog w=.ok (.enter 94 #[.pointer (some ⟨bN,0,none⟩),.pointer (some ⟨bF,0,none⟩)]) w:=by
 have:=fl (P:=prog) (F:=94) cP #[.pointer (some ⟨bN,0,none⟩),.pointer (some ⟨bF,0,none⟩)] w;simp [invoke,rdD,this]
theorem nR (h2:look S 2=some (.pointer (some ⟨bN,0,none⟩))) (h3:look S 3=some (.pointer (some ⟨bF,0,none⟩))) (uN:Del (.blk bN 35 csN) L L1) (uF:Del (.blk bF 102 csF) L1 L2) (hN:csN.length=5) (hF:csF.length=2)
 (hR:R (.returned (.tuple #[.agg csN.toArray,.agg csF.toArray])) h []) :
 LeaveP prog ⟨w0,(·∈keys []),h0,[rdD bN bF]⟩ 33 Tryz.f55 (FnEnd w0 h0 [] R) (rdD bN bF) .returning S h L:=λa w s=>by
 have okp:=s.ok.perm (uN.perm.trans (uF.perm.cons _));refine leaves_cons (by simp) (pR w) ((ni (e:=⟨w0,(·∈keys []),h0,[]⟩) (vs:=[.pointer (some ⟨bN,0,none⟩),.pointer (some ⟨bF,0,none⟩)]) func94 U ntmps94 U U U U .none (okp.ds []) U (bg [(2,_),(0,_),(1,_)] ⟨U,U,U,trivial⟩ vu)).mono ?_);rintro e u w' ⟨⟨v,rfl⟩,rfl,S',h1,L1,⟨rfl,rfl⟩,ok⟩;have s':Sat ⟨w0,(·∈keys []),h0,[rdD bN bF]⟩ 33 S h1 _ a w':=s.with (ok.ds _);exact⟨_,RetV.cell2 U h2 bP (aK ..) hN h3 cZ (aP _ (aK ..)) hF a w' s',h1,[],hR,ok.drop (List.nil_sublist _)⟩
theorem rd_pan {a c:Int}(h2:look S 2=some (.pointer (some ⟨bN,0,none⟩))) (h3:look S 3=some (.pointer (some ⟨bF,0,none⟩))) (uF:Del (.blk bF 102 csF) L L1) (uN:Del (.blk bN 35 csN) L1 L2) (hN:csN.length=5) (hF:csF.length=2)
 (hR:R (.returned (.tuple #[.agg #[.int .i64 0,.int .i64 0,.bool false,.slice none 0 0,.slice none 0 0],.agg #[.int .i64 a,.int .i64 c]])) h []) :
 LeaveP prog ⟨w0,(·∈keys []),h0,[rdD bN bF]⟩ 33 Tryz.f55 (FnEnd w0 h0 [] R) (rdD bN bF) (.panicking [{ v:=gvn a c,recovered:=false }]) S h L:=λac w s=>by
 have okp:=s.ok.perm (uF.perm.trans (uN.perm.cons _));refine leaves_cons (by simp) (pR w) ((ni (e:=⟨w0,(·∈keys []),h0,[]⟩) (vs:=[.pointer (some ⟨bN,0,none⟩),.pointer (some ⟨bF,0,none⟩)]) func94 U ntmps94 U U U U .some (okp.ds []) U (bg [(2,_),(0,_),(1,_)] ⟨U,U,U,trivial⟩ (vt hN hF))).mono ?_);rintro e u w' ⟨⟨v,rfl⟩,rfl,S',h1,L1,⟨rfl,rfl⟩,ok⟩;have s':Sat ⟨w0,(·∈keys []),h0,[rdD bN bF]⟩ 33 S h1 _ ac w':=s.with (ok.ds _);exact⟨_,RetV.cell2 U h2 bP (aP _ (aK ..)) U h3 cZ (aK ..) U ac w' s',h1,[],hR,ok.drop (List.nil_sublist _)⟩
end
theorem read_fn {a:OA}{c:Nat}{l:LB}{h:Part}(hl:SlR u8R 1 h a c l) (hT:Tabs h) :
 FnR prog 55 [.slice a l.length c] h (λv h'=>∃ cs,v=.tuple #[.agg (List.toArray cs),.agg #[.int .i64 (rdTop l).2.1,.int .i64 (rdTop l).2.2]]/\NdR h' cs (rdTop l).1):=by
 have hb:=hl.big;refine Fn.introD func55 U ntmps55 U U (λw0=>?_);refine J.region ?_;refine bI eF U (λbN=>?_);refine bI lG U (λbF=>?_);refine a_ ⟨_,U,?_⟩
 skip
 refine az (Sr (Ru 3 U (a_ (Cs U (λhc1=>?_) λhc1=>?_))))
 ·refine Sr (ah (bn (cs:=[.int .i64 0,.int .i64 0,.bool false,.slice none 0 0,.slice none 0 0]) eR U U) U ?_);refine ah (bn (cs:=[.int .i64 0,_]) fQ U U) U ?_;refine aV bP U U dl_ f8 f9 z4_ ?_;refine aV cZ U U dl_ dn j5 dn ?_;exact Nk [3,2,0] U (dE (nR U U uW uW U U ⟨_,U,U,_,by unfold rdTop;rw [if_pos z2_],by unfold rdTop;rw [if_pos z2_];exact d_ bu bu⟩))
 refine aA (Kp [3,2,0] U (Sr (Ru 1 U (ah (bn (cs:=[_,.int .i64 0]) pl_138 U U) U ?_))));refine dh U U U (λb2=>?_);refine Ru 1 U (a_ (Sr (Ru 3 U (JL.call_ ca_96 U (node_rd 32 l 0 l.length _ a c _ hl hT z2_ z2_ z2_) pt_ U (λ_ _ hh=>(NodeR.out hh).elim) (λch3 h3 Lo3 hle3 hR3=>?_) (λv3 h3 Lo3 hle3 hR3=>?_)))))
 ·have hR3:=NodeR.pan hR3;obtain⟨xa,xc,hxe,rfl⟩:=hR3;have hLo:Lo3=[]:=(by unfold NodeR at hR3;rw [hxe] at hR3;exact hR3.2);subst hLo;exact rd_pan U U uW uW U U ⟨_,U,U,_,by unfold rdTop;rw [if_neg z2_,hxe],by unfold rdTop;rw [if_neg z2_,hxe];exact d_ bu bu⟩
 obtain⟨x,q,xcs,hxs,rfl,hNdx,rfl⟩:=NodeR.ret hR3
 replace hl:=hl.mono hle3
 replace hT:=hT.mono hle3
 refine aV bP U U dl_ f8 f9 z4_ ?_;refine Nk [4,3,2,0] U (az (Sr (Ru 3 U (ah (aw dI U mm_ U) U ?_))));refine Ru 3 U (Nk [24,4,3,2] U (Cs U (λhc4=>?_) λhc4=>?_))
 ·refine J.pfalse ?_;refine az (J.held ([.blk b2 138 [.slice a l.length c,.int .i64 q]]) 8 cM U (λh00=>?_));refine Tk 0 U (bn (cs:=[.int .i64 0,.int .i64 0,.bool false,.slice none 0 0,.slice none 0 0]) eR U U) ?_;refine Tk 1 U (aO U) ?_;refine Tk 2 U (eh U) ?_;refine Tk 3 U (by first|exact bR io rfl|exact bO io rfl) ?_;refine Tk 4 U (aw dI U mm_ U) ?_;refine Tk 5 U (bn (cs:=[_,_]) fQ U U) ?_;refine Ta 6 U ?_;unfold One;refine aV bP U U dl_ f8 f9 z4_ ?_;refine a_ ⟨(br_ h00),?_⟩;refine Ta 7 U ?_;unfold One;refine aV cZ U U dl_ dn j5 dn ?_;refine a_ ⟨(br_ h00),?_⟩;refine cy cP ?_;exact Kp [3,2] U (dE (nR U U uW uW U U ⟨_,U,U,_,by unfold rdTop;rw [if_neg z2_,hxs];simp only;rw [if_pos z2_],by unfold rdTop;rw [if_neg z2_,hxs];simp only;rw [if_pos z2_];exact d_ bu bu⟩))
 refine aA (Sr (ah (bJ bP U mm_ z4_) U ?_));refine ah (bn (cs:=[.int .i64 0,.int .i64 0]) fQ U U) U ?_;refine aV bP U U dl_ f8 f9 z4_ ?_;refine aV cZ U U dl_ dn j5 dn ?_;exact Nk [3,2] U (dE (nR U U uW uW hNdx.len5 U ⟨_,U,U,_,by unfold rdTop;rw [if_neg z2_,hxs];simp only;rw [if_neg z2_],by unfold rdTop;rw [if_neg z2_,hxs];simp only;rw [if_neg z2_];exact hNdx⟩))
def amongI (k n:Int):Int:=if n<1 then 0 else k % n
theorem qG {h:Part}{cs:LV}{l:LB}(hc:cs=u8s l):CellsR u8R 1 h cs l:=hc ▸ bm
def chain (c t:Int):Nat->Nd
 |0=>.mk 0 5 false [] []
 |i+1=>.mk c t true [] [chain c t i]
theorem bequal_fn {a b:OA}{ca cb:Nat}{l r:LB}{h:Part}(hl:SlR u8R 1 h a ca l) (hr:SlR u8R 1 h b cb r):Pure prog 103 [.slice a l.length ca,.slice b r.length cb] h (.bool (decide (l=r))):=by
 refine aM func103 U ntmps103 U (λe he=>?_);refine bg [(0,_),(1,_)] ⟨U,U,trivial⟩ ?_;refine Sr (Ru 1 U (a_ (Sr (Ru 1 U (ah (d7 (l:=l) dM U hl U) U ?_)))));refine Ru 1 U (ah (d7 (l:=r) dM U hr U) U ?_);refine ah (RunV.eqlS U U) U ?_;exact Ru 1 U (Nk [4] U (aH (ay U U) U U))
theorem RetV.cellAT {P:Program}{e:Env}{m:Nat}{fn:Func}{S:Sig}{h:Part}{L:LE}{t T b bt sz t':Nat}{cs:LV}{v':Value}(hr:fn.results=#[.cell t T,.tmp t']) (hv:look S t=some (.pointer (some ⟨b,0,none⟩))) (hT:aggT P T=some (some sz)) (hm:Ent.blk b bt cs∈L) (hl:cs.length=sz)
 (hv':look S t'=some v'):RetV P e m fn S h L (.tuple #[.agg cs.toArray,v']):=λa w s=>by
 simp [results,hr,s.slot t _ hv,s.slot t' _ hv',asAddr,fR s.ok hT hm hl]
theorem RetV.cellTC {P:Program}{e:Env}{m:Nat}{fn:Func}{S:Sig}{h:Part}{L:LE}{t T b bt sz t' t2 T2 b2 bt2 sz2:Nat}{cs cs2:LV}{v':Value}(hr:fn.results=#[.cell t T,.tmp t',.cell t2 T2]) (hv:look S t=some (.pointer (some ⟨b,0,none⟩))) (hT:aggT P T=some (some sz)) (hm:Ent.blk b bt cs∈L) (hl:cs.length=sz)
 (hv':look S t'=some v') (hv2:look S t2=some (.pointer (some ⟨b2,0,none⟩))) (hT2:aggT P T2=some (some sz2)) (hm2:Ent.blk b2 bt2 cs2∈L) (hl2:cs2.length=sz2):RetV P e m fn S h L (.tuple #[.agg cs.toArray,v',.agg cs2.toArray]):=λa w s=>by
 simp [results,hr,s.slot t _ hv,s.slot t' _ hv',s.slot t2 _ hv2,asAddr,fR s.ok hT hm hl,fR s.ok hT2 hm2 hl2]
abbrev eK:=@RetV.cellTC
section
open Go Go.RowKit Go.ChangeShapes Go.WideShapes Go.Lib Go.ChangeAt
theorem cells_u32:prog.cellsOf 190=1:=by kernel_rfl
theorem bytes_u32:0<prog.bytesOf 190:=Nat.lt_of_lt_of_eq (by decide:0<4) (show 4=prog.bytesOf 190 by kernel_rfl)
theorem opens_nat (n:Nat):Opens prog (n+1) 62 (slR u32R 1) 1 (λl=>(l.map λ_=>1).sum+1):=iO Tryz.underlying62 cells_u32 bT bytes_u32 (opens_u32 Tryz.underlying190)
end
theorem jh:∀ (l out:LB) (n:Nat) (fresh first:Bool) (s:LB),oidGo l out n fresh first=some s->s.length<=out.length+41*l.length
 |[],out,n,fresh,first,s,h=>by unfold oidGo at h;split at h<;>cases h;simp
 |c::r,out,n,fresh,first,s,h=>by
  have d:=λk m=>dp k m;unfold oidGo at h;split at h
  ·cases h
  ·split at h
   ·have:=jh r _ _ _ _ s h;simp only [aC];omega
   ·split at h
    ·have:=jh r _ _ _ _ s h;have d1:=d (min ((n*128+c.toNat % 128) / 40) 2) 1;have d2:=d (n*128+c.toNat % 128-40*min ((n*128+c.toNat % 128) / 40) 2) 1;simp only [aU,aC,aG] at this |-;omega
    ·have:=jh r _ _ _ _ s h;have d1:=d (n*128+c.toNat % 128) 1;simp only [aU,aC,aG] at this |-;omega
theorem oidT_len (l:LB):((oidT l).getD []).length<=41*l.length:=by
 cases h:oidT l with
 |none=>simp
 |some s=>have:=jh l [] 0 true true s h;simpa using this
theorem ca_23:callT prog 23=true:=by kernel_rfl
theorem owno_fn {ks:LN}{a:OA}{c:Nat}{h:Part}(hk:SlR NdR 5 h a c ks) (hsz:Nd.szL ks<=1099511627776) :
 Fn prog 62 [.slice a ks.length c] h [] (Rets λv h' Lo=>∃ a' c' xs,v=.slice a' ks.length c'/\Lo=[.row a' c' 35 5 ks.length xs]/\CellsR NdR 5 h' xs ks):=by
 have hl:=hk.big;have hlz:=Nd.len_le_szL ks;have hz:∀ i (hi:i<ks.length),ks[i].sz<=Nd.szL ks:=λi hi=>Nd.sz_le (aF hi);refine aM func62 U ntmps62 U (λe he=>?_);refine bg [(0,_)] ⟨U,trivial⟩ ?_;have hh0:=aT h;refine Sr (Ru 1 U (a_ (Sr (Ru 1 U (a_ (az (Sr (bZ 35 5 ?_))))))));refine Ru 3 U (a_ (aJ (bM (λt_ S_ h_ L_=>∃ (g:Part) (i:Nat) (ao:OA) (co:Nat) (xs:LV),t_=ks.length-i/\S_=[(3,.slice ao (ks.take i).length co),(6,.slice a ks.length c),(7,.int .i64 ks.length),(8,.int .i64 i)]/\g=h_/\L_=[.row ao co 35 5 (ks.take i).length xs]/\(h.le g/\i<=ks.length/\CellsR NdR 5 g xs (ks.take i))) ⟨_,_,?_,⟨_,0,_,_,_,U,U,U,U,⟨hh0,by omega,bQ⟩⟩⟩ ?_)))
 ·exact z6_
 rintro _ _ _ _ ⟨g,i,ao,co,xs,rfl,rfl,rfl,rfl,hhg,hi,hC⟩;have hk:=hk.mono hhg;refine Sr (Ru 1 U (a_ (az (Cs U (λhc1=>?_) λhc1=>?_))))
 ·have hi':i<ks.length:=z2_;have hzi:=hz i hi';obtain⟨kc,kt,kk,kbs,kks,hkx⟩:∃ c t k bs ks',ks[i]=.mk c t k bs ks':=(by cases ks[i];exact⟨_,_,_,_,_,U⟩);have hke:ks.take i++[.mk kc kt kk kbs kks]=ks.take (i+1):=(by rw [<- hkx,am hi']);have htl:(ks.take i).length<=ks.length:=(by simp;omega);refine aA (az (aJ (Sr (cm (aI gJ U U z9_ z7_ U z2_) U ?_))));rintro _ ⟨b2,o2,hi2,rfl,hE2⟩;refine cm (dw bP U z7_) U ?_;rintro _ ⟨_,rfl,hNdx⟩;rw [hkx] at hNdx hzi;obtain⟨ka,kca,kb,kcb,rfl,hka,hkb⟩:=hNdx.inv;simp only [Nd.sz] at hzi;have hkal:=hka.big;refine bI eF U (λb4=>?_);refine aV bP U U dl_ f8 f9 z4_ ?_;refine a_ (Sr (Ru 1 U (ah (aw dt U mm_ U) U ?_)));refine bZ 5 1 ?_;refine bX dq U U (bQ (R:=u8R)) U z7_ U dl_ z3_ U U (λa5 c5 xs5 hC5 hN5=>?_);obtain rfl:=hC5.u8;refine cW (R:=u8R) (l:=kbs) dl_ bm U z3_ (λh6 hle6 hP6=>?_)
  replace hk:=hk.mono hle6
  replace hhg:=hhg.mono hle6
  replace hC:=hC.mono hle6
  replace hka:=hka.mono hle6
  replace hkb:=hkb.mono hle6
  refine Ru 1 U (bK dt U U U dl_ fL ?_);refine a_ (Sr (Ru 1 U (ah (aw dz U mm_ U) U ?_)));refine bL vS U (pV _ kks _ _ _ (aL _) z7_ z2_) U ?_;rintro _ h7 hle7 ⟨a7,c7,rfl,hS7⟩
  replace hk:=hk.mono hle7
  replace hhg:=hhg.mono hle7
  replace hC:=hC.mono hle7
  replace hka:=hka.mono hle7
  replace hkb:=hkb.mono hle7
  replace hP6:=hP6.mono hle7
  refine Ru 1 U (bK dz U U U dl_ fL ?_);refine a_ (Rg (Ru 1 U (ah (bJ bP U mm_ z4_) U ?_)));refine JL.litA dU U z4_ U U (λb8=>?_);refine bV dU U U z7_ U dl_ dl_ z4_ ((d_ z7_ z7_:NdR _ _ (.mk kc kt kk kbs kks))) z3_ U U (λa9 c9 xs9 hC9 hN9=>?_);rw [hke] at *;refine Ru 1 U (a_ (Rg (JL.ents [.row _ _ _ _ _ _] pt_ ?_)));refine ah ai_ U ?_;refine Ru 1 U (a_ (⟨_,?_,_,?_,⟨_,i+1,_,_,_,U,U,U,U,⟨by assumption,by omega,by assumption⟩⟩⟩))
  ·omega
  exact z6_
 refine bA (Kp [3] U (Sr (Ru 1 U ?_)));have hke:ks.take i=ks:=aS z2_;rw [hke] at hC |-
 exact Ru 1 U (a_ (dE ⟨_,[.row _ _ _ _ _ _],_,(ay U U),.cons uW .nil,_,U,_,_,_,U,U,hC⟩))
theorem p9 {cl t:Int}{ks:LN}{a:OA}{c:Nat}{h:Part}(hk:SlR NdR 5 h a c ks) (hz:Nd.szL ks<=1099511627776) :
 Fn prog 23 [.int .i64 cl,.int .i64 t,.slice a ks.length c] h [] (Rets λv h' Lo=>∃ a' c' xs,v=.agg #[.int .i64 cl,.int .i64 t,.bool true,.slice none 0 0,.slice a' ks.length c']/\Lo=[.row a' c' 35 5 ks.length xs]/\CellsR NdR 5 h' xs ks):=by
 refine aM func23 U ntmps23 U (λe he=>?_);refine bg [(0,_),(1,_),(2,_)] ⟨U,U,U,trivial⟩ ?_;refine Sr (bI eF U (λb1=>?_));refine a_ (Sr (Ru 3 U (d6 vS U (owno_fn hk hz) pt_ U ?_)));rintro _ h2 Lo2 hle2 ⟨oa,oc,oxs,rfl,rfl,hC⟩
 replace hk:=hk.mono hle2
 refine ah (bn (cs:=[_,_,_,.slice none 0 0,_]) eR U U) U ?_;refine aV bP U U dl_ f8 f9 z4_ ?_;exact Nk [6] U (dE ⟨_,[.row _ _ _ _ _ _],_,(cr U U bP mm_ z4_),.cons uW .nil,_,U,_,_,_,U,U,hC⟩)
theorem seqo_fn {ks:LN}{a:OA}{c:Nat}{h:Part}(hk:SlR NdR 5 h a c ks) (hz:Nd.szL ks<=1099511627776) :
 Fn prog 66 [.slice a ks.length c] h [] (Rets λv h' Lo=>∃ a' c' xs,v=.agg #[.int .i64 0,.int .i64 16,.bool true,.slice none 0 0,.slice a' ks.length c']/\Lo=[.row a' c' 35 5 ks.length xs]/\CellsR NdR 5 h' xs ks):=by
 refine aM func66 U ntmps66 U (λe he=>?_);refine bg [(0,_)] ⟨U,trivial⟩ ?_;refine Sr (bI eF U (λb1=>?_));refine a_ (Sr (Ru 1 U (d6 ca_23 U (p9 hk hz) pt_ U ?_)));rintro _ h2 Lo2 hle2 ⟨oa,oc,oxs,rfl,rfl,hC⟩
 replace hk:=hk.mono hle2
 refine aV bP U U dl_ f8 f9 z4_ ?_;exact a_ (dE ⟨_,[.row _ _ _ _ _ _],_,(cr U U bP mm_ z4_),.cons uW .nil,_,U,_,_,_,U,U,hC⟩)
theorem cseqo_fn {ks:LN}{a:OA}{c:Nat}{h:Part}(hk:SlR NdR 5 h a c ks) (hz:Nd.szL ks<=1099511627776) :
 Fn prog 22 [.slice a ks.length c] h [] (Rets λv h' Lo=>∃ a' c' xs,v=.agg #[.int .i64 0,.int .i64 16,.bool true,.slice none 0 0,.slice a' ks.length c']/\Lo=[.row a' c' 35 5 ks.length xs]/\CellsR NdR 5 h' xs ks):=by
 refine aM func22 U ntmps22 U (λe he=>?_);refine bg [(0,_)] ⟨U,trivial⟩ ?_;refine Sr (bI eF U (λb1=>?_));refine a_ (Sr (Ru 1 U (d6 ca_23 U (p9 hk hz) pt_ U ?_)));rintro _ h2 Lo2 hle2 ⟨oa,oc,oxs,rfl,rfl,hC⟩
 replace hk:=hk.mono hle2
 refine aV bP U U dl_ f8 f9 z4_ ?_;exact a_ (dE ⟨_,[.row _ _ _ _ _ _],_,(cr U U bP mm_ z4_),.cons uW .nil,_,U,_,_,_,U,U,hC⟩)
section
variable {α:Type}(z:α)
def gg (l:List α) (i:Nat):α:=l.getD i z
def swp (l:List α) (i j:Nat):List α:=(l.set i (gg z l j)).set j (gg z l i)
theorem qm {l:List α}{i:Nat}(h:i<l.length):gg z l i=l[i]:=by unfold gg;simp [h]
theorem swp_len (l:List α) (i j:Nat):(swp z l i j).length=l.length:=by simp [swp]
theorem gg_set {l:List α}{i k:Nat}{x:α}(hi:i<l.length):gg z (l.set i x) k=if k=i then x else gg z l k:=by
 unfold gg;rw [bi,bi,List.getElem?_set];by_cases h:i=k
 ·subst h;simp [hi]
 ·rw [if_neg h,if_neg (λe=>h e.symm)]
theorem gg_swp {l:List α}{i j k:Nat}(hi:i<l.length) (hj:j<l.length):gg z (swp z l i j) k=if k=j then gg z l i else if k=i then gg z l j else gg z l k:=by
 unfold swp;rw [gg_set z (by simpa using hj),gg_set z hi]
theorem swp_perm {l:List α}{i j:Nat}(hi:i<l.length) (hj:j<l.length):(swp z l i j).Perm l:=by
 unfold swp;rw [qm z hi,qm z hj];exact List.set_set_perm hi hj
inductive Sw (a b:Nat):List α->List α->Prop where
 |refl (l:List α):Sw a b l l
 |step {l l':List α} {i j:Nat} (h:Sw a b l l') (h1:a<=i) (h2:i<b) (h3:a<=j) (h4:j<b) (h5:i<l'.length) (h6:j<l'.length):Sw a b l (swp z l' i j)
theorem Sw.len {a b:Nat}{l l':List α}(h:Sw z a b l l'):l'.length=l.length:=by
 induction h with
 |refl=>rfl
 |step _ _ _ _ _ _ _ ih=>rw [swp_len,ih]
theorem Sw.perm {a b:Nat}{l l':List α}(h:Sw z a b l l'):l'.Perm l:=by
 induction h with
 |refl=>exact List.Perm.refl _
 |step _ _ _ _ _ h5 h6 ih=>exact(swp_perm z h5 h6).trans ih
variable (lt:α->α->Bool)
def So (l:List α) (a b:Nat):Prop:=∀ i j,a<=i->i<j->j<b->lt (gg z l j) (gg z l i)=false
structure Ord:Prop where
 tr:∀ x y w,lt y x=false->lt w y=false->lt w x=false
 asy:∀ x y,lt x y=true->lt y x=false
variable {lt}
theorem So.sub {l:List α}{a b a' b':Nat}(h:So z lt l a b) (h1:a<=a') (h2:b'<=b):So z lt l a' b':=λi j x y w=>h i j z2_ y z2_
theorem So.one {l:List α}{a b:Nat}(h:b<=a+1):So z lt l a b:=λi j x y w=>by omega
theorem Ord.re (o:Ord lt) (x:α):lt x x=false:=by
 cases h:lt x x with
 |false=>rfl
 |true=>have:=o.asy x x h;rw [h] at this;cases this
theorem So.le (o:Ord lt) {l:List α}{a b i j:Nat}(h:So z lt l a b) (h1:a<=i) (h2:i<=j) (h3:j<b):lt (gg z l j) (gg z l i)=false:=by
 rcases Nat.eq_or_lt_of_le h2 with h4|h4
 ·subst h4;exact o.re _
 ·exact h i j h1 h4 h3
theorem lv {l l2:List α}{a i m:Nat}(h:So z lt l a m) (ha:a<=i) (hi:i<=m) (h1:i=a\/lt (gg z l m) (gg z l (i-1))=false) (h2:i=m\/lt (gg z l m) (gg z l i)=true) (o:Ord lt)
 (e:∀ k,gg z l2 k=gg z l (if k=i then m else if i<k/\k<=m then k-1 else k)):So z lt l2 a (m+1):=λp q x y w=>by
 rw [e p,e q];by_cases hp:p<i
 ·rw [if_neg (show ¬ p=i by omega),if_neg (show ¬ (i<p/\p<=m) by omega)];by_cases hq:q<i
  ·rw [if_neg z2_,if_neg z2_];exact h _ _ x y z2_
  ·by_cases hq2:q=i
   ·rw [if_pos hq2];have q3:lt (gg z l m) (gg z l (i-1))=false:=by
     rcases h1 with c|c
     ·omega
     ·exact c
    exact o.tr _ _ _ (h.le z o (i:=p) (j:=i-1) x z2_ z2_) q3
   ·rw [if_neg hq2,if_pos z2_];exact h _ _ x z2_ z2_
 ·by_cases hp2:p=i
  ·rw [if_pos hp2,if_neg z2_,if_pos z2_];have q3:lt (gg z l m) (gg z l i)=true:=by
    rcases h2 with c|c
    ·omega
    ·exact c
   exact o.tr _ _ _ (o.asy _ _ q3) (h.le z o z2_ z2_ z2_)
  ·rw [if_neg hp2,if_pos (show i<p/\p<=m by omega),if_neg (show ¬ q=i by omega),if_pos (show i<q/\q<=m by omega)];exact h _ _ z2_ z2_ z2_
end
theorem e8:aggT prog 167=some (some 6):=by kernel_rfl
theorem fC:slT prog 165=some (167,6):=by kernel_rfl
def oneR:Rep (LB×Nd):=λh cs p=>∃ a c ncs,cs=.slice a p.1.length c::ncs/\SlR u8R 1 h a c p.1/\NdR h ncs p.2
instance:Mono oneR:=⟨λhle ⟨a,c,ncs,h1,h2,h3⟩=>⟨a,c,ncs,h1,h2.mono hle,h3.mono hle⟩,λ⟨a,c,ncs,h1,h2,h3⟩ u hu=>by
 subst h1;rcases List.mem_cons.1 hu with rfl|hu
 ·rfl
 ·exact h3.one_ u hu⟩
abbrev oz:LB×Nd:=([],ndZ)
theorem oneR.len {h:Part}{cs:LV}{p:LB×Nd}(r:oneR h cs p):cs.length=6:=by
 obtain⟨a,c,ncs,rfl,h2,h3⟩:=r;simp [h3.len5]
theorem CellsR.swap {h:Part}{xs:LV}{l:List (LB×Nd)}{i j:Nat}(hC:CellsR oneR 6 h xs l) (hi:i<l.length) (hj:j<l.length) :
 CellsR oneR 6 h (over (over xs (i*6) ((xs.drop (j*6)).take 6)) (j*6) ((xs.drop (i*6)).take 6)) (swp oz l i j):=by
 have r1:=(hC.at hi).1;have r2:=(hC.at hj).1;unfold swp;rw [qm oz hi,qm oz hj];exact(hC.set hi r2.len r2).set (by simpa using hj) r1.len r1
theorem ca_120:callT prog 120=true:=by kernel_rfl
theorem cb_as:∀ (x y:LB),Go.Lib.compareBytes x y<0->¬ Go.Lib.compareBytes y x<0
 |[],[],h=>by simp [Go.Lib.compareBytes] at h
 |[],_::_,_=>by simp [Go.Lib.compareBytes]
 |_::_,[],h=>by simp [Go.Lib.compareBytes] at h
 |a::l,b::r,h=>by
  have ih:=cb_as l r;simp only [Go.Lib.compareBytes,UInt8.lt_iff_toNat_lt] at h |-
  (repeat' split at h)<;>(repeat' split)<;>first|omega|(exact ih h)|(simp;done)
theorem cb_tr:∀ (x y w:LB),¬ Go.Lib.compareBytes y x<0->¬ Go.Lib.compareBytes w y<0->¬ Go.Lib.compareBytes w x<0
 |[],_,[],_,_=>by simp [Go.Lib.compareBytes]
 |[],_,_::_,_,_=>by simp [Go.Lib.compareBytes]
 |_::_,[],_,h,_=>by simp [Go.Lib.compareBytes] at h
 |_::_,_::_,[],_,h=>by simp [Go.Lib.compareBytes] at h
 |a::l,b::r,d::t,h1,h2=>by
  have ih:=cb_tr l r t;simp only [Go.Lib.compareBytes,UInt8.lt_iff_toNat_lt] at h1 h2 |-
  split at h1
  ·simp at h1
  ·split at h2
   ·simp at h2
   ·rw [if_neg z2_];split at h1
    ·rw [if_pos z2_];simp
    ·split at h2
     ·rw [if_pos z2_];simp
     ·rw [if_neg z2_];exact ih h1 h2
theorem cb_eq:∀ (x y:LB),¬ Go.Lib.compareBytes x y<0->¬ Go.Lib.compareBytes y x<0->x=y
 |[],[],_,_=>rfl
 |[],_::_,h,_=>by simp [Go.Lib.compareBytes] at h
 |_::_,[],_,h=>by simp [Go.Lib.compareBytes] at h
 |a::l,b::r,h1,h2=>by
  have ih:=cb_eq l r;simp only [Go.Lib.compareBytes,UInt8.lt_iff_toNat_lt] at h1 h2;have e:a.toNat=b.toNat:=by
   split at h1
   ·simp at h1
   ·split at h2
    ·simp at h2
    ·omega
  rw [if_neg z2_,if_neg z2_] at h1 h2;rw [UInt8.toNat_inj.1 e,ih h1 h2]
abbrev olt (p q:LB×Nd):Bool:=decide (Go.Lib.compareBytes p.1 q.1<0)
theorem gP:Ord olt:=⟨λx y w h1 h2=>au (cb_tr x.1 y.1 w.1 (of_decide_eq_false h1) (of_decide_eq_false h2)),λx y h=>au (cb_as x.1 y.1 (of_decide_eq_true h))⟩
section
variable {f:Fr}{n:Post}{x:Nat->Post}{S:Sig}{h:Part}{L:LE}{ops:Array Oper}{rest:LR}{ty:TypeId}{pos:String}{af:Array Edge}{d F:Nat}{v:Value}
theorem JL.callvP {args:LV}{os:List Operand}{ts:Array TypeId}{fo:Operand}(hF:callT f.P F=true) (hf:ev S fo=some (.func (.func F) #[] #[])) (ha:evl S os=some args) (c:Pure f.P F args h v) (hd:Nat.blt d f.m=true) (k:JL f ops n x rest ((d,v)::S) h L) :
 JL f ops n x (⟨some d,.call { callee:=.value fo,args:=os.toArray,argTypes:=ts },ty,pos,af,none⟩::rest) S h L:=λa w s=>by
 refine f_ hF (by simp [Region.wanted]) ?_ c .nil s U hd (λ_ _ ⟨_,hh,_⟩=>by cases hh) (λ_ _ _ _ ⟨_,hh,_⟩=>by cases hh) (λu h' Lo _ ⟨_,hh,h1,h2,h3⟩=>by cases hh;subst h1 h2 h3;exact k);have hm:os.toArray.map a.eval=args.toArray:=by simp [eD s ha]
 simp [execOp,resolve,hm,s.eval hf,Deferred.ofValue,invoke,fl hF]
theorem JL.callvPg {j dj:Nat}{b:Bool}{args:LV}{os:List Operand}{ts:Array TypeId}{fo:Operand}(hj:(ops[j]?).bind (·.dst)=some dj) (hs:look S dj=some (.bool b)) (hF:callT f.P F=true) (hf:ev S fo=some (.func (.func F) #[] #[])) (ha:evl S os=some args) (c:Pure f.P F args h v) (hd:Nat.blt d f.m=true) (k:JL f ops n x rest ((d,v)::S) h L) :
 JL f ops n x (⟨some d,.call { callee:=.value fo,args:=os.toArray,argTypes:=ts },ty,pos,af,some (j,b)⟩::rest) S h L:=λa w s=>by
 refine f_ hF (by simp [Region.wanted,dK s hj hs]) ?_ c .nil s U hd (λ_ _ ⟨_,hh,_⟩=>by cases hh) (λ_ _ _ _ ⟨_,hh,_⟩=>by cases hh) (λu h' Lo _ ⟨_,hh,h1,h2,h3⟩=>by cases hh;subst h1 h2 h3;exact k);have hm:os.toArray.map a.eval=args.toArray:=by simp [eD s ha]
 simp [execOp,resolve,hm,s.eval hf,Deferred.ofValue,invoke,fl hF]
end
theorem pu {cs cs2:LV}{p q:LB×Nd}{h:Part}(r1:oneR h cs p) (r2:oneR h cs2 q):Pure prog 120 [.agg cs.toArray,.agg cs2.toArray] h (.int .i64 (Go.Lib.compareBytes p.1 q.1)):=by
 obtain⟨a,c,ns,rfl,ha,-⟩:=r1;obtain⟨b,d,ms,rfl,hb,-⟩:=r2;obtain⟨x,n⟩:=p;obtain⟨y,m⟩:=q;refine dY ?_;refine aM func120 U ntmps120 U (λe he=>?_);refine bg [(0,_),(1,_)] ⟨U,U,trivial⟩ ?_;refine Sr (dh U U U (λb1=>?_));refine dh U U U (λb2=>?_);refine Ru 1 U (a_ (Sr (Ru 1 U (ah (aw dt U mm_ U) U ?_))));refine Ru 1 U (ah (aw dt U mm_ U) U ?_);refine bh ca_87 U (eZ z7_ z7_) U ?_;exact Ru 1 U (Nk [4] U (ew (ay U U) U))
theorem oM {r r2:List (LB×Nd)}{a i j:Nat}(ha:a<j) (hj:j<=i) (hi:i<r2.length) (h:∀ k,gg oz r2 k=gg oz r (if k=j then i else if j<k/\k<=i then k-1 else k)):∀ k,gg oz (swp oz r2 j (j-1)) k=gg oz r (if k=j-1 then i else if j-1<k/\k<=i then k-1 else k):=λk=>by
 rw [gg_swp oz z2_ z2_];by_cases h1:k=j-1
 ·rw [if_pos h1,if_pos h1,h,if_pos rfl]
 ·rw [if_neg h1,if_neg h1];by_cases h2:k=j
  ·rw [if_pos h2,h,if_neg z2_,if_neg z2_,if_pos z2_,h2]
  ·rw [if_neg h2,h,if_neg h2];by_cases h3:j<k/\k<=i
   ·rw [if_pos h3,if_pos z2_]
   ·rw [if_neg h3,if_neg z2_]
theorem insort_fn {g n c a b:Nat}{xs:LV}{l:List (LB×Nd)}{h:Part}(hC:CellsR oneR 6 h xs l) (hn:n=l.length) (hl:l.length<=1000000) (h1:a<=b) (h2:b<=l.length) :
 Fn prog 224 [.slice (some ⟨g,0,none⟩) n c,.int .i64 a,.int .i64 b,.func (.func 120) #[] #[]] h [.row (some ⟨g,0,none⟩) c 167 6 n xs]
  (Rets λv h' Lo=>∃ xs' l',v=.tuple #[]/\Lo=[.row (some ⟨g,0,none⟩) c 167 6 n xs']/\CellsR oneR 6 h' xs' l'/\Sw oz a b l l'/\So oz olt l' a b):=by
 refine aM func224 U ntmps224 U (λe he=>?_);refine bg [(0,_),(1,_),(2,_),(3,_)] ⟨U,U,U,U,trivial⟩ ?_;have hh0:=aT h;refine Sr (Ru 1 U (ah ai_ U ?_));refine Ru 1 U (a_ (aJ (bM (λt_ S_ h_ L_=>∃ (p:Part) (i:Nat) (ys:LV) (r:List (LB×Nd)),t_=b+1-i/\S_=[(0,.slice (some ⟨g,0,none⟩) n c),(1,.int .i64 a),(2,.int .i64 b),(3,.func (.func 120) #[] #[]),(8,.int .i64 i)]/\p=h_/\L_=[.row (some ⟨g,0,none⟩) c 167 6 n ys]/\(h.le p/\(a+1<=i/\i<=b+1)/\CellsR oneR 6 p ys r/\Sw oz a b l r/\So oz olt r a i)) ⟨_,_,?_,⟨_,a+1,xs,l,U,U,U,U,⟨hh0,by omega,hC,.refl _,So.one oz z2_⟩⟩⟩ ?_)))
 ·exact z6_
 rintro _ _ _ _ ⟨p,i,ys,r,rfl,rfl,rfl,rfl,hh0,hia,hCr,hS,hO⟩;have hrl:=hS.len;refine az (Sr (Ru 3 U (a_ (Cs U (λhc1=>?_) λhc1=>?_))))
 ·refine aA (az (aJ (Sr (Ru 2 U (a_ (aJ (bM (λt_ S_ h_ L_=>∃ (p2:Part) (j:Nat) (zs:LV) (q:List (LB×Nd)),t_=j+1/\S_=[(0,.slice (some ⟨g,0,none⟩) n c),(1,.int .i64 a),(2,.int .i64 b),(3,.func (.func 120) #[] #[]),(8,.int .i64 i),(9,.int .i64 j)]/\p2=h_/\L_=[.row (some ⟨g,0,none⟩) c 167 6 n zs]/\(h.le p2/\(a<=j/\j<=i)/\CellsR oneR 6 p2 zs q/\Sw oz a b l q/\(∀ k,gg oz q k=gg oz r (if k=j then i else if j<k/\k<=i then k-1 else k))/\(j=i\/olt (gg oz r i) (gg oz r j)=true))) ⟨_,_,?_,⟨_,i,ys,r,U,U,U,U,⟨by assumption,by omega,by assumption,hS,λk=>by (repeat' split)<;>first|rfl|(subst_vars;rfl)|omega,.inl rfl⟩⟩⟩ ?_)))))))
  ·exact g7
  rintro _ _ _ _ ⟨p2,j,zs,q,rfl,rfl,rfl,rfl,hh0,hja,hCq,hSq,hE,hlast⟩;have hql:=hSq.len;have hj1:j<q.length:=z2_;have d1:=hCq.at hj1;refine az (az (J.held ([]) 17 cM U (λh00=>?_)));refine Tk 0 U (aO U) ?_;refine Tk 1 U (aO U) ?_;refine Tk 2 U (RunV.gtr U U) ?_;refine Tk 3 U (aO U) ?_;refine Bh 21 U (λhc2=>?_) λhc2=>?_
  ·have hj2:j-1<q.length:=z2_;have d2:=hCq.at hj2;have e1:q[j]=gg oz r i:=(by rw [<- qm oz hj1,hE,if_pos rfl]);have e2:q[j-1]=gg oz r (j-1):=(by rw [<- qm oz hj2,hE,if_neg z2_,if_neg z2_]);refine TG 4 U U U (aO U) ?_;refine TG 5 U U U (aO U) ?_;refine TG 6 U U U (aO U) ?_;refine TG 7 U U U (di (m:=j) fC U U z2_ z2_) ?_;refine TG 9 U U U (aO U) ?_;refine TG 10 U U U (aO U) ?_;refine TG 11 U U U si_ ?_;refine TG 12 U U U (di (m:=j-1) fC U U z2_ z2_) ?_;refine JH.all2 8 13 cP U U ?_ ?_
   ·unfold One;refine aQ U U  (eG e8 U mm_ d1.2) U ?_;refine a_ ⟨(br_ h00),?_⟩;refine Ta 13 U ?_;unfold One;refine aQ U U  (eG e8 U mm_ d2.2) U ?_;refine a_ ⟨(br_ h00),?_⟩;refine Ta 14 U ?_;unfold One;refine JL.callvPg U U ca_120 U U (pu d1.1 d2.1) U ?_;refine a_ ⟨(br_ h00),?_⟩;refine TG 15 U U U (RunV.lss U U) ?_;refine Tk 16 U (cU U U) ?_;refine cy cP ?_;refine Cs U (λhc4=>?_) λhc4=>?_
    ·have hlt:olt (gg oz r i) (gg oz r (j-1))=true:=(by rw [<- e1,<- e2];exact aj hc4);refine aA (az (aJ (J.held ([]) 18 cM U (λh00=>?_))));refine Tk 0 U (aO U) ?_;refine Tk 1 U (aO U) ?_;refine Tk 2 U (aO U) ?_;refine Tk 3 U (aO U) ?_;refine Tk 4 U si_ ?_;refine Tk 5 U (aO U) ?_;refine Tk 6 U (aO U) ?_;refine Tk 7 U si_ ?_;refine Tk 8 U (di (m:=j-1) fC U U z2_ z2_) ?_;refine Tk 10 U (aO U) ?_;refine Tk 11 U (aO U) ?_;refine Tk 12 U (di (m:=j) fC U U z2_ z2_) ?_;refine JH.all2 9 13 cP U U ?_ ?_
     ·unfold One;refine ah (eG e8 U mm_ d2.2) U ?_;refine a_ ⟨(br_ h00),?_⟩;refine Ta 13 U ?_;unfold One;refine ah (eG e8 U mm_ d1.2) U ?_;refine a_ ⟨(br_ h00),?_⟩;refine Tk 14 U (di (m:=j) fC U U z2_ z2_) ?_;refine Ta 15 U ?_;unfold One;refine JL.storeRowA e8 U U (Mono.one d2.1) d2.1.len dl_ d1.2 ?_;refine a_ ⟨(br_ h00),?_⟩;refine Tk 16 U (di (m:=j-1) fC U U z2_ z2_) ?_;refine Ta 17 U ?_;unfold One;refine JL.storeRowA e8 U U (Mono.one d1.1) d1.1.len dl_ (by rw [ij (by rw [d2.1.len];exact d1.2)];exact d2.2) ?_;refine a_ ⟨(br_ h00),?_⟩;refine cy cP ?_;refine Rg (Ru 1 U (ah si_ U ?_));refine Ru 1 U (a_ (⟨_,?_,_,?_,⟨_,j-1,_,swp oz q j (j-1),U,U,U,U,⟨by assumption,by omega,hCq.swap hj1 hj2,.step hSq z2_ z2_ z2_ z2_ hj1 hj2,oM (a:=a) (i:=i) (j:=j) (r:=r) z2_ z2_ z2_ hE,.inr hlt⟩⟩⟩))
      ·omega
      exact g7
     unfold One;refine ah (eG e8 U mm_ d1.2) U ?_;refine a_ ⟨(br_ h00),?_⟩;refine Ta 9 U ?_;unfold One;refine ah (eG e8 U mm_ d2.2) U ?_;refine a_ ⟨(br_ h00),?_⟩;refine Tk 14 U (di (m:=j) fC U U z2_ z2_) ?_;refine Ta 15 U ?_;unfold One;refine JL.storeRowA e8 U U (Mono.one d2.1) d2.1.len dl_ d1.2 ?_;refine a_ ⟨(br_ h00),?_⟩;refine Tk 16 U (di (m:=j-1) fC U U z2_ z2_) ?_;refine Ta 17 U ?_;unfold One;refine JL.storeRowA e8 U U (Mono.one d1.1) d1.1.len dl_ (by rw [ij (by rw [d2.1.len];exact d1.2)];exact d2.2) ?_;refine a_ ⟨(br_ h00),?_⟩;refine cy cP ?_;refine Rg (Ru 1 U (ah si_ U ?_));refine Ru 1 U (a_ (⟨_,?_,_,?_,⟨_,j-1,_,swp oz q j (j-1),U,U,U,U,⟨by assumption,by omega,hCq.swap hj1 hj2,.step hSq z2_ z2_ z2_ z2_ hj1 hj2,oM (a:=a) (i:=i) (j:=j) (r:=r) z2_ z2_ z2_ hE,.inr hlt⟩⟩⟩))
     ·omega
     exact g7
    have hstop:j=a\/olt (gg oz r i) (gg oz r (j-1))=false:=(by first|exact .inl z2_|exact .inr (by rw [<- e1,<- e2];exact au hc4));refine bA (Rg (Ru 1 U (ah ai_ U ?_)));refine Ru 1 U (a_ (⟨_,?_,_,?_,⟨_,i+1,zs,q,U,U,U,U,⟨by assumption,by omega,hCq,hSq,lv oz hO z2_ z2_ hstop hlast gP hE⟩⟩⟩))
    ·omega
    exact z6_
   unfold One;refine aQ U U  (eG e8 U mm_ d2.2) U ?_;refine a_ ⟨(br_ h00),?_⟩;refine Ta 8 U ?_;unfold One;refine aQ U U  (eG e8 U mm_ d1.2) U ?_;refine a_ ⟨(br_ h00),?_⟩;refine Ta 14 U ?_;unfold One;refine JL.callvPg U U ca_120 U U (pu d1.1 d2.1) U ?_;refine a_ ⟨(br_ h00),?_⟩;refine TG 15 U U U (RunV.lss U U) ?_;refine Tk 16 U (cU U U) ?_;refine cy cP ?_;refine Cs U (λhc10=>?_) λhc10=>?_
   ·have hlt:olt (gg oz r i) (gg oz r (j-1))=true:=(by rw [<- e1,<- e2];exact aj hc10);refine aA (az (aJ (J.held ([]) 18 cM U (λh00=>?_))));refine Tk 0 U (aO U) ?_;refine Tk 1 U (aO U) ?_;refine Tk 2 U (aO U) ?_;refine Tk 3 U (aO U) ?_;refine Tk 4 U si_ ?_;refine Tk 5 U (aO U) ?_;refine Tk 6 U (aO U) ?_;refine Tk 7 U si_ ?_;refine Tk 8 U (di (m:=j-1) fC U U z2_ z2_) ?_;refine Tk 10 U (aO U) ?_;refine Tk 11 U (aO U) ?_;refine Tk 12 U (di (m:=j) fC U U z2_ z2_) ?_;refine JH.all2 9 13 cP U U ?_ ?_
    ·unfold One;refine ah (eG e8 U mm_ d2.2) U ?_;refine a_ ⟨(br_ h00),?_⟩;refine Ta 13 U ?_;unfold One;refine ah (eG e8 U mm_ d1.2) U ?_;refine a_ ⟨(br_ h00),?_⟩;refine Tk 14 U (di (m:=j) fC U U z2_ z2_) ?_;refine Ta 15 U ?_;unfold One;refine JL.storeRowA e8 U U (Mono.one d2.1) d2.1.len dl_ d1.2 ?_;refine a_ ⟨(br_ h00),?_⟩;refine Tk 16 U (di (m:=j-1) fC U U z2_ z2_) ?_;refine Ta 17 U ?_;unfold One;refine JL.storeRowA e8 U U (Mono.one d1.1) d1.1.len dl_ (by rw [ij (by rw [d2.1.len];exact d1.2)];exact d2.2) ?_;refine a_ ⟨(br_ h00),?_⟩;refine cy cP ?_;refine Rg (Ru 1 U (ah si_ U ?_));refine Ru 1 U (a_ (⟨_,?_,_,?_,⟨_,j-1,_,swp oz q j (j-1),U,U,U,U,⟨by assumption,by omega,hCq.swap hj1 hj2,.step hSq z2_ z2_ z2_ z2_ hj1 hj2,oM (a:=a) (i:=i) (j:=j) (r:=r) z2_ z2_ z2_ hE,.inr hlt⟩⟩⟩))
     ·omega
     exact g7
    unfold One;refine ah (eG e8 U mm_ d1.2) U ?_;refine a_ ⟨(br_ h00),?_⟩;refine Ta 9 U ?_;unfold One;refine ah (eG e8 U mm_ d2.2) U ?_;refine a_ ⟨(br_ h00),?_⟩;refine Tk 14 U (di (m:=j) fC U U z2_ z2_) ?_;refine Ta 15 U ?_;unfold One;refine JL.storeRowA e8 U U (Mono.one d2.1) d2.1.len dl_ d1.2 ?_;refine a_ ⟨(br_ h00),?_⟩;refine Tk 16 U (di (m:=j-1) fC U U z2_ z2_) ?_;refine Ta 17 U ?_;unfold One;refine JL.storeRowA e8 U U (Mono.one d1.1) d1.1.len dl_ (by rw [ij (by rw [d2.1.len];exact d1.2)];exact d2.2) ?_;refine a_ ⟨(br_ h00),?_⟩;refine cy cP ?_;refine Rg (Ru 1 U (ah si_ U ?_));refine Ru 1 U (a_ (⟨_,?_,_,?_,⟨_,j-1,_,swp oz q j (j-1),U,U,U,U,⟨by assumption,by omega,hCq.swap hj1 hj2,.step hSq z2_ z2_ z2_ z2_ hj1 hj2,oM (a:=a) (i:=i) (j:=j) (r:=r) z2_ z2_ z2_ hE,.inr hlt⟩⟩⟩))
    ·omega
    exact g7
   have hstop:j=a\/olt (gg oz r i) (gg oz r (j-1))=false:=(by first|exact .inl z2_|exact .inr (by rw [<- e1,<- e2];exact au hc10));refine bA (Rg (Ru 1 U (ah ai_ U ?_)));refine Ru 1 U (a_ (⟨_,?_,_,?_,⟨_,i+1,zs,q,U,U,U,U,⟨by assumption,by omega,hCq,hSq,lv oz hO z2_ z2_ hstop hlast gP hE⟩⟩⟩))
   ·omega
   exact z6_
  have hstop:j=a\/olt (gg oz r i) (gg oz r (j-1))=false:=.inl z2_;refine Ts 4 U U U ?_;refine Ts 5 U U U ?_;refine Ts 6 U U U ?_;refine Ts 7 U U U ?_;refine Ts 9 U U U ?_;refine Ts 10 U U U ?_;refine Ts 11 U U U ?_;refine Ts 12 U U U ?_;refine JH.all2 8 13 cP U U ?_ ?_
  ·unfold One;refine bW U U U ?_;refine a_ ⟨(br_ h00),?_⟩;refine Ta 13 U ?_;unfold One;refine bW U U U ?_;refine a_ ⟨(br_ h00),?_⟩;refine Ta 14 U ?_;unfold One;refine bW U U U ?_;refine a_ ⟨(br_ h00),?_⟩;refine Ts 15 U U U ?_;refine Tk 16 U (bp U U) ?_;refine cy cP ?_;refine dA U ?_;refine bA (Rg (Ru 1 U (ah ai_ U ?_)));refine Ru 1 U (a_ (⟨_,?_,_,?_,⟨_,i+1,zs,q,U,U,U,U,⟨by assumption,by omega,hCq,hSq,lv oz hO z2_ z2_ hstop hlast gP hE⟩⟩⟩))
   ·omega
   exact z6_
  unfold One;refine bW U U U ?_;refine a_ ⟨(br_ h00),?_⟩;refine Ta 8 U ?_;unfold One;refine bW U U U ?_;refine a_ ⟨(br_ h00),?_⟩;refine Ta 14 U ?_;unfold One;refine bW U U U ?_;refine a_ ⟨(br_ h00),?_⟩;refine Ts 15 U U U ?_;refine Tk 16 U (bp U U) ?_;refine cy cP ?_;refine dA U ?_;refine bA (Rg (Ru 1 U (ah ai_ U ?_)));refine Ru 1 U (a_ (⟨_,?_,_,?_,⟨_,i+1,zs,q,U,U,U,U,⟨by assumption,by omega,hCq,hSq,lv oz hO z2_ z2_ hstop hlast gP hE⟩⟩⟩))
  ·omega
  exact z6_
 exact bA (⟨_,[_],_,(eo U),.cons .here .nil,_,U,_,_,U,U,hCr,hS,hO.sub oz (aL _) z2_⟩)
theorem ca_224:callT prog 224=true:=by kernel_rfl
theorem stable_fn {g n c:Nat}{xs:LV}{l:List (LB×Nd)}{h:Part}(hC:CellsR oneR 6 h xs l) (hn:n=l.length) (hl:l.length<=19) :
 Fn prog 169 [.slice (some ⟨g,0,none⟩) n c,.int .i64 n,.func (.func 120) #[] #[]] h [.row (some ⟨g,0,none⟩) c 167 6 n xs]
  (Rets λv h' Lo=>∃ xs' l',v=.tuple #[]/\Lo=[.row (some ⟨g,0,none⟩) c 167 6 n xs']/\CellsR oneR 6 h' xs' l'/\Sw oz 0 n l l'/\So oz olt l' 0 n):=by
 refine aM func169 U ntmps169 U (λe he=>?_);refine bg [(0,_),(1,_),(2,_)] ⟨U,U,U,trivial⟩ ?_;have hh0:=aT h;refine Sr (Ru 1 U (a_ (Sr (Ru 3 U (a_ (az (aJ (bM (λt_ S_ h_ L_=>∃ (p:Part),t_=0+1/\S_=[(0,.slice (some ⟨g,0,none⟩) n c),(1,.int .i64 n),(2,.func (.func 120) #[] #[]),(6,.int .i64 20),(7,.int .i64 0),(8,.int .i64 20)]/\p=h_/\L_=[.row (some ⟨g,0,none⟩) c 167 6 n xs]/\(h.le p/\CellsR oneR 6 p xs l)) ⟨_,_,?_,⟨_,U,U,U,U,⟨hh0,hC⟩⟩⟩ ?_))))))))
 ·exact z6_
 rintro _ _ _ _ ⟨p,rfl,rfl,rfl,rfl,hh0,hC⟩;refine az (Sr (Ru 3 U (a_ (Cs U (λhc1=>?_) λhc1=>?_))))
 ·exfalso;omega
 refine bA (Sr (Ru 4 U (d6 ca_224 U (insort_fn (a:=0) (b:=n) hC hn z2_ z2_ z2_) pt_ U ?_)));rintro _ h2 Lo2 hle2 ⟨zs,w,rfl,rfl,hCw,hSw,hOw⟩
 replace hh0:=hh0.mono hle2
 replace hC:=hC.mono hle2
 refine Nk [0,1,2,6,7,8] U (aJ (bM (λt_ S_ h_ L_=>∃ (p:Part),t_=0+1/\S_=[(0,.slice (some ⟨g,0,none⟩) n c),(1,.int .i64 n),(2,.func (.func 120) #[] #[]),(6,.int .i64 20)]/\p=h_/\L_=[.row (some ⟨g,0,none⟩) c 167 6 n zs]/\(h.le p/\CellsR oneR 6 p zs w)) ⟨_,_,?_,⟨_,U,U,U,U,⟨by assumption,by assumption⟩⟩⟩ ?_))
 ·exact z6_
 rintro _ _ _ _ ⟨p,rfl,rfl,rfl,rfl,hh0,hCw⟩;refine az (Sr (Ru 3 U (a_ (Cs U (λhc3=>?_) λhc3=>?_))))
 ·exfalso;omega
 exact bA (⟨_,[_],_,(eo U),.cons .here .nil,_,U,_,_,U,U,hCw,hSw,hOw⟩)
theorem ca_169:callT prog 169=true:=by kernel_rfl
theorem ssf_fn {g n c:Nat}{xs:LV}{l:List (LB×Nd)}{h:Part}(hC:CellsR oneR 6 h xs l) (hn:n=l.length) (hl:l.length<=19) :
 Fn prog 119 [.slice (some ⟨g,0,none⟩) n c,.func (.func 120) #[] #[]] h [.row (some ⟨g,0,none⟩) c 167 6 n xs]
  (Rets λv h' Lo=>∃ xs' l',v=.tuple #[]/\Lo=[.row (some ⟨g,0,none⟩) c 167 6 n xs']/\CellsR oneR 6 h' xs' l'/\Sw oz 0 n l l'/\So oz olt l' 0 n):=by
 refine aM func119 U ntmps119 U (λe he=>?_);refine bg [(0,_),(1,_)] ⟨U,U,trivial⟩ ?_;have hh0:=aT h;refine Rg (Ru 4 U (d6 ca_169 U (stable_fn hC hn hl) pt_ U ?_));rintro _ h1 Lo1 hle1 ⟨zs,w,rfl,rfl,hCw,hSw,hOw⟩
 replace hh0:=hh0.mono hle1
 exact a_ (⟨_,[_],_,(eo U),.cons .here .nil,_,U,_,w,U,U,hCw,hSw,hOw⟩)
def Prs (l:List (LB×Nd)) (ks:LN):Prop:=l.map (·.2)=ks/\∀ p∈l,p.2.put=some p.1
theorem Prs.len {l:List (LB×Nd)}{ks:LN}(h:Prs l ks):l.length=ks.length:=by rw [<- h.1,aD]
theorem Prs.snoc {l:List (LB×Nd)}{ks:LN}{x:Nd}{b:LB}(h:Prs l ks) (hx:x.put=some b):Prs (l++[(b,x)]) (ks++[x]) :=
 ⟨by rw [List.map_append,h.1];rfl,λp hp=>by
  rcases List.mem_append.1 hp with hp|hp
  ·exact h.2 p hp
  ·rw [List.mem_singleton] at hp;subst hp;exact hx⟩
theorem so_pair {l:List (LB×Nd)}{n:Nat}(hn:n=l.length) (h:So oz olt l 0 n):List.Pairwise (λp q=>olt q p=false) l:=by
 rw [List.pairwise_iff_getElem];intro i j hi hj hij;have:=h i j (Nat.zero_le _) hij z2_;rwa [qm oz hi,qm oz hj] at this
theorem vA {x y:Nd}{b:LB}(hx:x.put=some b) (hy:y.put=some b) (hb:b.length<4294967296):x=y:=by
 have a:=nU (max x.rk y.rk) x b b 0 b.length hx (Nat.le_max_left ..) hb (by simp) z2_;have c:=nU (max x.rk y.rk) y b b 0 b.length hy (Nat.le_max_right ..) hb (by simp) z2_;rw [a] at c;injection c with c;injection c
theorem sort_one {l l1 l2:List (LB×Nd)}(hp:∀ p∈l,p.2.put=some p.1) (hb:∀ p∈l,p.1.length<4294967296) (h1:l1.Perm l) (h2:l2.Perm l) (s1:List.Pairwise (λp q=>olt q p=false) l1) (s2:List.Pairwise (λp q=>olt q p=false) l2):l1=l2:=by
 refine List.Perm.eq_of_pairwise (λp q hp1 hq2 a b=>?_) s1 s2 (h1.trans h2.symm);have hpl:=h1.mem_iff.1 hp1;have hql:=h2.mem_iff.1 hq2;have e:=cb_eq p.1 q.1 (of_decide_eq_false b) (of_decide_eq_false a);have hq:=hp q hql;rw [<- e] at hq;have:=vA (hp p hpl) hq (hb p hpl);cases p;cases q;simp only at e this;rw [e,this]
theorem ap_165:apT prog 165=some (167,6,96):=by kernel_rfl
theorem ca_119:callT prog 119=true:=by kernel_rfl
theorem pl_167:plT prog 167=some ([.slice none 0 0,.int .i64 0,.int .i64 0,.bool false,.slice none 0 0,.slice none 0 0],[(0,1),(1,5)]):=by kernel_rfl
theorem zr_167:zeroT prog 167=some [.slice none 0 0,.int .i64 0,.int .i64 0,.bool false,.slice none 0 0,.slice none 0 0]:=by kernel_rfl
theorem list5 {w:LV}(h:w.length=5):∃ a b c d e,w=[a,b,c,d,e]:=by
 match w,h with
 |[a,b,c,d,e],_=>exact⟨a,b,c,d,e,U⟩
theorem oneR.all1 {h:Part}{cs:LV}{p:LB×Nd}(r:oneR h cs p):cs.all (·.oneCell')=true:=List.all_eq_true.2 (Mono.one r)
theorem oneR.nd {h:Part}{cs:LV}{p:LB×Nd}(r:oneR h cs p):NdR h ((cs.drop 1).take 5) p.2:=by
 obtain⟨a,c,ns,rfl,-,hn⟩:=r;rw [List.drop_succ_cons,List.drop_zero,aS (by rw [hn.len5];decide)];exact hn
theorem lS {ks:LN}{i:Nat}(hi:i<ks.length):ks.take (i+1)=ks.take i++[ks[i]]:=am hi
def setBad (ks:LN):Prop:=∃ x∈ks,x.put=none
def SetR (ks:LN):Value->Part->Prop:=λv h'=>(setBad ks/\∃ cs,v=.tuple #[.agg (List.toArray cs),.int .i64 34]/\NdR h' cs ndZ) \/
 (∃ cs l0 L,v=.tuple #[.agg (List.toArray cs),.int .i64 0]/\Prs l0 ks/\L.Perm l0/\List.Pairwise (λp q=>olt q p=false) L/\NdR h' cs (.mk 0 17 true [] (L.map (·.2))))
theorem pset1_fn {a:OA}{c:Nat}{ks:LN}{h:Part}(hk:SlR NdR 5 h a c ks) (hT:Tabs h) (h0:0<ks.length) (hlen:ks.length<=19) (hsz:Nd.szL ks<=20000000):FnR prog 65 [.slice a ks.length c] h (SetR ks):=by
 refine aM func65 U ntmps65 U (λe he=>?_);refine bg [(0,_)] ⟨U,trivial⟩ ?_;have hh0:=aT h;refine Sr (bI eF U (λb1=>?_));refine Ru 1 U (a_ (Sr (Ru 1 U (a_ (az (Sr (Ru 1 U (bL vS U (pV _ _ _ _ _ (aL _) hk z2_) U ?_))))))));rintro _ h2 hle2 ⟨oa,oc,rfl,hO⟩
 replace hk:=hk.mono hle2
 replace hT:=hT.mono hle2
 replace hh0:=hh0.mono hle2
 refine Ru 1 U (bZ 167 6 ?_);refine Ru 1 U (a_ (aJ (bM (λt_ S_ h_ L_=>∃ (p:Part) (i:Nat) (la:OA) (lc:Nat) (ys:LV) (l:List (LB×Nd)),t_=ks.length-i/\S_=[(2,.pointer (some ⟨b1,0,none⟩)),(4,.slice la l.length lc),(13,.slice oa ks.length oc),(14,.int .i64 ks.length),(15,.int .i64 i)]/\p=h_/\L_=[.row la lc 167 6 l.length ys,.blk b1 35 [.int .i64 0,.int .i64 0,.bool false,.slice none 0 0,.slice none 0 0]]/\(h.le p/\Tabs p/\SlR NdR 5 p oa oc ks/\i<=ks.length/\CellsR oneR 6 p ys l/\Prs l (ks.take i))) ⟨_,_,?_,⟨_,0,none,0,[],[],U,U,U,U,⟨hh0,hT,hO,by omega,bQ,⟨by simp,λp hp=>by cases hp⟩⟩⟩⟩ ?_)))
 ·exact z6_
 rintro _ _ _ _ ⟨p,i,la,lc,ys,l,rfl,rfl,rfl,rfl,hh0,hT,hO,hi,hC,hP⟩;refine Sr (Ru 1 U (a_ (az (Cs U (λhc3=>?_) λhc3=>?_))))
 ·have hi':i<ks.length:=z2_;have hz1:(ks[i]'hi').sz<=20000000:=Nat.le_trans (Nd.sz_le (aF hi')) hsz;have hr1:=Nd.rk_le_sz _ (ks[i]'hi') (aL _);have hpl:l.length=i:=(by rw [hP.len,bz];omega);refine aA (az (aJ (Sr (cm (aI gJ U U z9_ z7_ U z2_) U ?_))));rintro _ ⟨b4,o4,hi4,rfl,hE4⟩;refine cm (dw bP U z7_) U ?_;rintro _ ⟨w,rfl,hNw⟩;obtain⟨u0,u1,u2,u3,u4,rfl⟩:=list5 hNw.len5;refine bI eF U (λb6=>?_);refine aV bP U U dl_ f8 f9 z4_ ?_;refine a_ (Sr (ah (bn (cs:=[.int .i64 0,.bool false]) pl_110 U U) U ?_));refine dh U U U (λb7=>?_);refine Ru 1 U (a_ (Sr (Ru 1 U (ah (bJ bP U mm_ z4_) U ?_))));refine d6 ca_59 U (put_fn _ (ks[i]'z2_) _ _ _ _ _ (aL _) hNw hT z2_ z2_ z2_) pt_ U ?_;rintro _ h8 Lo8 hle8 ⟨kb,ka,kc,kd,kbad,rfl,hkS,rfl,hkf,hkt⟩
  replace hh0:=hh0.mono hle8
  replace hT:=hT.mono hle8
  replace hO:=hO.mono hle8
  replace hC:=hC.mono hle8
  replace hNw:=hNw.mono hle8
  refine Ru 1 U (a_ (az (Sr (Ru 3 U (ah (aw kC U mm_ U) U ?_)))));refine a_ (Cs U (λhc9=>?_) λhc9=>?_)
  ·refine Sr (ah (bn (cs:=[.int .i64 0,.int .i64 0,.bool false,.slice none 0 0,.slice none 0 0]) eR U U) U ?_);refine aV bP U U dl_ f8 f9 z4_ ?_;exact Ru 1 U (a_ (bj (RetV.cellAT U U bP mm_ z4_ U) (.inl ⟨⟨_,aF _,hkf hc9⟩,_,U,d_ bu bu⟩)))
  have hkp:=(hkt (by simpa using hc9)).1;refine aA (Rg (Ru 2 U (ah (bJ bP U mm_ z4_) U ?_)));refine ah (bn (cs:=[_,_,_,_,_,_]) pl_167 U U) U ?_;refine JL.litA ap_165 U dn U U (λb10=>?_);refine bV ap_165 U U z7_ U dl_ dl_ U ((⟨_,_,_,U,hkS,hNw⟩:oneR _ _ (kb,ks[i]'z2_))) z3_ U U (λa11 c11 xs11 hC11 hN11=>?_);refine Ru 1 U (a_ (Rg (ah ai_ U ?_)));refine Ru 1 U (JL.ents [.row _ _ _ _ _ _,.blk b1 _ _] pt_ ?_);refine a_ (⟨_,?_,_,?_,⟨_,i+1,_,_,_,l++[(kb,ks[i]'z2_)],U,U,U,U,⟨by assumption,by assumption,by assumption,by omega,by assumption,by rw [lS z2_];exact hP.snoc hkp⟩⟩⟩)
  ·omega
  exact z6_
 have hie:i=ks.length:=z2_;have hpl:l.length=i:=(by rw [hP.len,bz];omega);rw [hie,List.take_length] at hP;refine bA (Kp [2,4] U (Sr ?_));refine JL.rowsm (aK ..) z2_ (λg hg=>?_);subst hg;refine Ru 1 U (d6 ca_119 U (ssf_fn hC U z2_) pt_ U ?_);rintro _ h12 Lo12 hle12 ⟨zs,w,rfl,rfl,hCw,hSw,hOw⟩
 replace hh0:=hh0.mono hle12
 replace hT:=hT.mono hle12
 replace hO:=hO.mono hle12
 replace hC:=hC.mono hle12
 have hwl:w.length=l.length:=hSw.len;refine cW (R:=oneR) (l:=w) dl_ hCw hwl.symm z2_ (λhp hlep hSr=>?_);replace hh0:=hh0.mono hlep;replace hT:=hT.mono hlep;rw [<- hwl];refine a_ (Sr (ah (bn (cs:=[.int .i64 0,_,_,.slice none 0 0,.slice none 0 0]) eR U U) U ?_));refine bI eF U (λb13=>?_);refine aV bP U U dl_ f8 f9 z4_ ?_;refine a_ (az (Sr ?_));refine bZ 35 5 ?_;refine JL.ents [.blk b13 _ _,.row none 0 35 5 0 [],.blk b1 _ _] pt_ ?_;refine Ru 3 U (a_ (aJ (bM (λt_ S_ h_ L_=>∃ (p:Part) (j:Nat) (ka:OA) (kc:Nat) (ys:LV),t_=w.length-j/\S_=[(2,.pointer (some ⟨b1,0,none⟩)),(9,.pointer (some ⟨b13,0,none⟩)),(39,.slice (some ⟨g,0,none⟩) w.length lc),(40,.int .i64 w.length),(41,.int .i64 j)]/\p=h_/\L_=[.blk b13 35 [.int .i64 0,.int .i64 17,.bool true,.slice none 0 0,.slice ka ((w.take j).map (·.2)).length kc],.row ka kc 35 5 ((w.take j).map (·.2)).length ys,.blk b1 35 [.int .i64 0,.int .i64 0,.bool false,.slice none 0 0,.slice none 0 0]]/\(h.le p/\SlR oneR 6 p (some ⟨g,0,none⟩) lc w/\j<=w.length/\CellsR NdR 5 p ys ((w.take j).map (·.2)))) ⟨_,_,?_,⟨_,0,none,0,[],U,U,U,U,⟨hh0,hSr,by omega,bQ⟩⟩⟩ ?_)))
 ·exact z6_
 rintro _ _ _ _ ⟨p,j,ka,kc,ys,rfl,rfl,rfl,rfl,hh0,hSr,hj,hCk⟩;refine Sr (Ru 1 U (a_ (az (Cs U (λhc14=>?_) λhc14=>?_))))
 ·have hjl:j<w.length:=z2_;have hml:(List.map (λx=>x.2) (List.take j w)).length=j:=(by rw [aD,bz];omega);have hst:List.map (λx=>x.2) (List.take j w)++[(w[j]'hjl).2]=List.map (λx=>x.2) (List.take (j+1) w):=(by rw [am hjl,List.map_append,List.map_cons,List.map_nil]);refine aA (az (aJ (Sr (cm (aI fC U U z9_ z7_ U z2_) U ?_))));rintro _ ⟨b15,o15,hi15,rfl,hE15⟩;refine cm (dw e8 U z7_) U ?_;rintro _ ⟨w6,rfl,hOne⟩;have hNn:=hOne.nd;refine bI zr_167 U (λb17=>?_);refine aV e8 U U dl_ hOne.all1 U hOne.len ?_;refine a_ (Rg (Ru 1 U (ah (aw dz U mm_ U) U ?_)));refine Ru 1 U (ah ((RunV.ownSub (o:=1) (sz:=5) (cs:=w6) bP U mm_ (by rw [hOne.len];decide))) U ?_);refine JL.litA dU U z4_ U U (λb19=>?_);refine bV dU U U z7_ U dl_ dl_ z4_ (hOne.nd) z3_ U U (λa20 c20 xs20 hC20 hN20=>?_);refine Ru 1 U (bK dz U U U dl_ fL ?_);refine a_ (Rg (ah ai_ U ?_));refine Ru 1 U ?_;simp only [hst] at *;refine JL.ents [.blk b13 _ _,.row _ _ _ _ _ _,.blk b1 _ _] pt_ ?_;refine a_ (⟨_,?_,_,?_,⟨_,j+1,_,_,_,U,U,U,U,⟨by assumption,by assumption,by omega,by assumption⟩⟩⟩)
  ·omega
  exact z6_
 have hjw:j=w.length:=z2_;subst hjw;rw [List.take_length] at hCk |-
 refine bA (Kp [2,9] U (Sr ?_));have hml:(List.map (λx=>x.2) w).length=w.length:=aD ..;refine cW (R:=NdR) (l:=w.map (λx=>x.2)) dl_ hCk U z2_ (λhp2 hlep2 hS2=>?_);refine ah (bJ bP U mm_ z4_) U ?_;refine aV bP U U dl_ f8 f9 z4_ ?_;exact Ru 1 U (a_ (bj (RetV.cellAT U U bP mm_ z4_ U) (.inr ⟨_,l,w,U,hP,hSw.perm oz,so_pair hwl.symm hOw,d_ bu hS2⟩)))
theorem ptseqo_fn {ks:LN}{a:OA}{c:Nat}{h:Part}(hk:SlR NdR 5 h a c ks) (hz:Nd.szL ks<=1099511627776) :
 Fn prog 70 [.slice a ks.length c] h [] (Rets λv h' Lo=>∃ a' c' xs,v=.agg #[.int .i64 0,.int .i64 16,.bool true,.slice none 0 0,.slice a' ks.length c']/\Lo=[.row a' c' 35 5 ks.length xs]/\CellsR NdR 5 h' xs ks):=by
 refine aM func70 U ntmps70 U (λe he=>?_);refine bg [(0,_)] ⟨U,trivial⟩ ?_;refine Sr (bI eF U (λb1=>?_));refine a_ (Sr (Ru 1 U (d6 ca_23 U (p9 hk hz) pt_ U ?_)));rintro _ h2 Lo2 hle2 ⟨oa,oc,oxs,rfl,rfl,hC⟩
 replace hk:=hk.mono hle2
 refine aV bP U U dl_ f8 f9 z4_ ?_;exact a_ (dE ⟨_,[.row _ _ _ _ _ _],_,(cr U U bP mm_ z4_),.cons uW .nil,_,U,_,_,_,U,U,hC⟩)
theorem am_t {b y:Bool}{u:Option Value}(hb:b=true) (h:u=some (.bool y)):u=some (.bool (b&&y)):=by subst hb;rw [Bool.true_and];exact h
theorem am_f {b y:Bool}{u:Option Value}(hb:b=false) (h:u=some (.bool false)):u=some (.bool (b&&y)):=by subst hb;exact h
theorem om_f {b y:Bool}{u:Option Value}(hb:b=false) (h:u=some (.bool y)):u=some (.bool (b||y)):=by subst hb;rw [Bool.false_or];exact h
theorem om_t {b y:Bool}{u:Option Value}(hb:b=true) (h:u=some (.bool true)):u=some (.bool (b||y)):=by subst hb;exact h
instance (priority:=high) Sp.and_ (a b:Bool) (p q p' q':Prop) [s:Sp a p q] [s':Sp b p' q']:Sp (a&&b) (p/\p') (q\/q'):=⟨λh=>by
 rw [Bool.and_eq_true] at h;exact⟨s.t h.1,s'.t h.2⟩,λh=>by
 rw [Bool.and_eq_false_iff] at h;exact h.imp s.f s'.f⟩
instance (priority:=high) Sp.or_ (a b:Bool) (p q p' q':Prop) [s:Sp a p q] [s':Sp b p' q']:Sp (a||b) (p\/p') (q/\q'):=⟨λh=>by
 rw [Bool.or_eq_true] at h;exact h.imp s.t s'.t,λh=>by
 rw [Bool.or_eq_false_iff] at h;exact⟨s.f h.1,s'.f h.2⟩⟩
section
variable {f:Fr}{n:Post}{x:Nat->Post}{S:Sig}{h:Part}{L:LE}{ops:Array Oper}{b:Bool}{p q:Prop}{c d:Code}{l:LR}
def Am (h:Part) (L:LE) (d:Nat) (v:Bool) (ks:List Nat) (K:Sig):Post:=λS1 h1 L1=>h1=h/\L1=L/\look S1 d=some (.bool v)/\keepS ks S1=some K
theorem JL.take_drop (j:Nat) (M:Post) (hM:∀ S' h' L',M S' h' L'->JL f ops n x (l.drop j) S' h' L') (k:JL f ops M x (l.take j) S h L):JL f ops n x l S h L:=λa w s=>by
 have key:∀ (l1 l2:LR),(∀ S' h' L',M S' h' L'->JL f ops n x l2 S' h' L')->∀ (a:Act) (w:World),wpList f.P ops (f.Q M x) l1 a w->wpList f.P ops (f.Q n x) (l1++l2) a w:=by
  intro l1 l2 hM
  induction l1 with
  |nil=>intro a w hh;obtain⟨S',h',L',s',k'⟩:=hh;exact hM _ _ _ k' a w s'
  |cons o r ih =>
   intro a w hh;unfold wpList at hh;rw [List.cons_append];unfold wpList;split
   ·rename_i hw;rw [if_pos hw] at hh;rcases hh with hh|⟨h1,a',w',hh⟩
    ·refine .inl ?_;unfold Oper.wp at *;generalize (execOp a.eval o).run f.P w=rr at *;cases rr with
     |ok nx w' =>
      cases nx<;>simp only [Oper.upon] at hh |-<;>first
       |exact ih _ _ hh
       |exact Calls.mono hh (λe w'' he=>by cases e<;>first|exact ih _ _ he|exact he)
       |exact Rows.mono hh (λ_ _ he=>ih _ _ he)
       |exact hh
     |halt z w'=>cases z<;>simp only [Oper.upon] at hh |-<;>exact hh
    ·exact hh.elim
   ·rename_i hw;rw [if_neg hw] at hh;exact ih _ _ hh
 have:=key (l.take j) (l.drop j) hM a w (k a w s);rwa [List.take_append_drop] at this
theorem An {y:Bool}(t d j:Nat) (ks:List Nat) {K:Sig}(ht:look S t=some (.bool b)) (hk:keepS ks S=some K) [s:Sp b p q]
 (kT:b=true->p->JL f ops (Am h L d (b&&y) ks K) x (l.take j) ((t,.bool true)::S) h L) (kF:b=false->q->JL f ops (Am h L d (b&&y) ks K) x (l.take j) ((t,.bool false)::S) h L)
 (k:JL f ops n x (l.drop j) ((d,.bool (b&&y))::K) h L):JL f ops n x l S h L:=by
 have fin:∀ S1 h1 L1,Am h L d (b&&y) ks K S1 h1 L1->JL f ops n x (l.drop j) S1 h1 L1:=λS1 h1 L1 ⟨e1,e2,e3,e4⟩=>by
  subst e1 e2;exact JL.weak ((d,.bool (b&&y))::K) ⟨e3,fS e4⟩ k
 exact JL.take_drop j _ fin (JL.bsplit t ht (λhb=>kT hb (s.t hb)) (λhb=>kF hb (s.f hb)))
theorem On {y:Bool}(t d j:Nat) (ks:List Nat) {K:Sig}(ht:look S t=some (.bool b)) (hk:keepS ks S=some K) [s:Sp b p q]
 (kT:b=true->p->JL f ops (Am h L d (b||y) ks K) x (l.take j) ((t,.bool true)::S) h L) (kF:b=false->q->JL f ops (Am h L d (b||y) ks K) x (l.take j) ((t,.bool false)::S) h L)
 (k:JL f ops n x (l.drop j) ((d,.bool (b||y))::K) h L):JL f ops n x l S h L:=by
 have fin:∀ S1 h1 L1,Am h L d (b||y) ks K S1 h1 L1->JL f ops n x (l.drop j) S1 h1 L1:=λS1 h1 L1 ⟨e1,e2,e3,e4⟩=>by
  subst e1 e2;exact JL.weak ((d,.bool (b||y))::K) ⟨e3,fS e4⟩ k
 exact JL.take_drop j _ fin (JL.bsplit t ht (λhb=>kT hb (s.t hb)) (λhb=>kF hb (s.f hb)))
theorem Ae {v:Bool}{d:Nat}{ks:List Nat}{K S1:Sig}(h1:look S1 d=some (.bool v)) (h2:keepS ks S1=some K):JL f ops (Am h L d v ks K) x [] S1 h L:=a_ ⟨U,U,h1,h2⟩
end
inductive D:Type 1 where
 |v (u:Value)
 |bq (b:Bool)
 |bs (l:LB)
 |nds (l:LN)
 |sl {α:Type} (sz:Nat) (enc:α->List D) (l:List α)
 |st (l:List D)
 |nd (n:Nd)
 |tup (l:List D)
 |ptr (l:List D)
 |pnd (n:Nd)
def Lies (c:Array Value) (o:Nat) (cs:LV):Prop:=∀ j,j<cs.length->c[o+j]?=cs[j]?
mutual
/-- The value is that datum. -/
def Den:D->Part->Value->Prop
 |.v u,_,x=>x=u
 |.bq b,_,x=>x=.bool b
 |.bs l,h,x=>∃ a c,x=.slice a l.length c/\SlR u8R 1 h a c l
 |.nds l,h,x=>∃ a c,x=.slice a l.length c/\SlR NdR 5 h a c l
 |.sl sz enc l,h,x=>∃ a c,x=.slice a l.length c/\SlR (λh' cs y=>DenL (enc y) h' cs) sz h a c l
 |.st l,h,x=>∃ cs:LV,x=.agg cs.toArray/\DenL l h cs
 |.nd n,h,x=>∃ cs:LV,x=.agg cs.toArray/\NdR h cs n
 |.tup l,h,x=>∃ cs:LV,x=.tuple cs.toArray/\DenT l h cs
 |.ptr l,h,x=>∃ b o,x=.pointer (some ⟨b,o,none⟩)/\∃ c cs,h b=some c/\Lies c o cs/\DenL l h cs
 |.pnd n,h,x=>∃ b o,x=.pointer (some ⟨b,o,none⟩)/\∃ c cs,h b=some c/\Lies c o cs/\NdR h cs n
/-- Cells. -/
def DenL:List D->Part->LV->Prop
 |[],_,cs=>cs=[]
 |d::r,h,cs=>∃ v t,cs=v::t/\v.oneCell'=true/\Den d h v/\DenL r h t
/-- Values side by side. -/
def DenT:List D->Part->LV->Prop
 |[],_,cs=>cs=[]
 |d::r,h,cs=>∃ v t,cs=v::t/\Den d h v/\DenT r h t
end
theorem SlR.imp {α β:Type}{R:Rep α}{R':Rep β}{sz:Nat}{h h':Part}{a:OA}{c:Nat}{l:List α}{l':List β}(hl:l'.length=l.length) (hle:h.le h') (hR:∀ (i:Nat) (x:α) (y:β) (cs:LV),l[i]?=some x->l'[i]?=some y->R h cs x->R' h' cs y) (k:SlR R sz h a c l):SlR R' sz h' a c l' :=
 ⟨by rw [hl];exact k.len,k.cap,by rw [hl];exact k.big,k.nil,λi y hy=>by
  have hi:i<l.length:=by rw [<- hl];exact(List.getElem?_eq_some_iff.1 hy).1
  obtain⟨b,o,h1,cc,cs,h2,h3,h4,h5⟩:=k.elt i l[i] (aW hi);exact⟨b,o,h1,cc,cs,hle _ _ h2,h3,h4,hR i _ y cs (aW hi) hy h5⟩⟩
mutual
theorem Den.mono {h h':Part}(hle:h.le h'):∀ (d:D) (x:Value),Den d h x->Den d h' x
 |.v u,x,k=>by unfold Den at k |-;exact k
 |.bq u,x,k=>by unfold Den at k |-;exact k
 |.bs l,x,k=>by unfold Den at k |-;obtain⟨a,c,e,r⟩:=k;exact⟨a,c,e,r.mono hle⟩
 |.nds l,x,k=>by unfold Den at k |-;obtain⟨a,c,e,r⟩:=k;exact⟨a,c,e,r.mono hle⟩
 |.sl sz enc l,x,k=>by
  unfold Den at k |-
  obtain⟨a,c,e,r⟩:=k;exact⟨a,c,e,r.imp U hle (λi p q cs h1 h2 h3=>by rw [h1] at h2;cases h2;exact DenL.mono hle (enc p) cs h3)⟩
 |.st l,x,k=>by unfold Den at k |-;obtain⟨cs,e,r⟩:=k;exact⟨cs,e,DenL.mono hle l cs r⟩
 |.nd n,x,k=>by unfold Den at k |-;obtain⟨cs,e,r⟩:=k;exact⟨cs,e,r.mono hle⟩
 |.pnd n,x,k=>by unfold Den at k |-;obtain⟨b,o,e,c,cs,h1,h2,r⟩:=k;exact⟨b,o,e,c,cs,hle _ _ h1,h2,r.mono hle⟩
 |.tup l,x,k=>by unfold Den at k |-;obtain⟨cs,e,r⟩:=k;exact⟨cs,e,DenT.mono hle l cs r⟩
 |.ptr l,x,k=>by unfold Den at k |-;obtain⟨b,o,e,c,cs,h1,h2,r⟩:=k;exact⟨b,o,e,c,cs,hle _ _ h1,h2,DenL.mono hle l cs r⟩
theorem DenL.mono {h h':Part}(hle:h.le h'):∀ (l:List D) (cs:LV),DenL l h cs->DenL l h' cs
 |[],cs,k=>by unfold DenL at k |-;exact k
 |d::r,cs,k=>by unfold DenL at k |-;obtain⟨v,t,e,h1,h2,h3⟩:=k;exact⟨v,t,e,h1,Den.mono hle d v h2,DenL.mono hle r t h3⟩
theorem DenT.mono {h h':Part}(hle:h.le h'):∀ (l:List D) (cs:LV),DenT l h cs->DenT l h' cs
 |[],cs,k=>by unfold DenT at k |-;exact k
 |d::r,cs,k=>by unfold DenT at k |-;obtain⟨v,t,e,h2,h3⟩:=k;exact⟨v,t,e,Den.mono hle d v h2,DenT.mono hle r t h3⟩
end
def encR {α:Type}(enc:α->List D):Rep α:=λh cs y=>DenL (enc y) h cs
theorem DenL.one {h:Part}:∀ {l:List D}{cs:LV},DenL l h cs->∀ u∈cs,u.oneCell'=true
 |[],cs,k,u,hu=>by unfold DenL at k;subst k;cases hu
 |d::r,cs,k,u,hu=>by
  unfold DenL at k;obtain⟨v,t,rfl,h1,_,h3⟩:=k;cases hu with
  |head=>exact h1
  |tail _ hu=>exact DenL.one h3 u hu
theorem DenL.len {h:Part}:∀ {l:List D}{cs:LV},DenL l h cs->cs.length=l.length
 |[],cs,k=>by unfold DenL at k;subst k;rfl
 |d::r,cs,k=>by
  unfold DenL at k;obtain⟨v,t,rfl,_,_,h3⟩:=k;simp [DenL.len h3]
theorem DenT.len {h:Part}:∀ {l:List D}{cs:LV},DenT l h cs->cs.length=l.length
 |[],cs,k=>by unfold DenT at k;subst k;rfl
 |d::r,cs,k=>by
  unfold DenT at k;obtain⟨v,t,rfl,_,h3⟩:=k;simp [DenT.len h3]
instance {α:Type}(enc:α->List D):Mono (encR enc):=⟨λhle k=>DenL.mono hle _ _ k,λk=>DenL.one k⟩
theorem DenL.nth {h:Part}:∀ {l:List D}{cs:LV}{i:Nat}{d:D},DenL l h cs->l[i]?=some d->∃ v,cs[i]?=some v/\v.oneCell'=true/\Den d h v
 |[],cs,i,d,k,hd=>by simp at hd
 |d::r,cs,i,d',k,hd=>by
  unfold DenL at k;obtain⟨v,t,rfl,h1,h2,h3⟩:=k;cases i with
  |zero=>simp only [List.getElem?_cons_zero,aB] at hd;subst hd;exact⟨v,U,h1,h2⟩
  |succ i=>simp only [List.getElem?_cons_succ] at hd |-;exact DenL.nth h3 hd
theorem DenT.nth {h:Part}:∀ {l:List D}{cs:LV}{i:Nat}{d:D},DenT l h cs->l[i]?=some d->∃ v,cs[i]?=some v/\Den d h v
 |[],cs,i,d,k,hd=>by simp at hd
 |d::r,cs,i,d',k,hd=>by
  unfold DenT at k;obtain⟨v,t,rfl,h2,h3⟩:=k;cases i with
  |zero=>simp only [List.getElem?_cons_zero,aB] at hd;subst hd;exact⟨v,U,h2⟩
  |succ i=>simp only [List.getElem?_cons_succ] at hd |-;exact DenT.nth h3 hd
theorem DenL.drop {h:Part}:∀ {l:List D}{cs:LV}(i:Nat),DenL l h cs->DenL (l.drop i) h (cs.drop i)
 |[],cs,i,k=>by unfold DenL at k;subst k;simp [DenL]
 |d::r,cs,0,k=>k
 |d::r,cs,i+1,k=>by
  unfold DenL at k;obtain⟨v,t,rfl,_,_,h3⟩:=k;exact DenL.drop i h3
theorem DenL.take {h:Part}:∀ {l:List D}{cs:LV}(i:Nat),DenL l h cs->DenL (l.take i) h (cs.take i)
 |[],cs,i,k=>by unfold DenL at k;subst k;simp [DenL]
 |d::r,cs,0,k=>by simp [DenL]
 |d::r,cs,i+1,k=>by
  unfold DenL at k;obtain⟨v,t,rfl,h1,h2,h3⟩:=k;rw [List.take_succ_cons,List.take_succ_cons];unfold DenL;exact⟨v,_,U,h1,h2,DenL.take i h3⟩
theorem DenL.app {h:Part}:∀ {l l':List D}{cs cs':LV},DenL l h cs->DenL l' h cs'->DenL (l++l') h (cs++cs')
 |[],l',cs,cs',k,k'=>by unfold DenL at k;subst k;exact k'
 |d::r,l',cs,cs',k,k'=>by
  unfold DenL at k;obtain⟨v,t,rfl,h1,h2,h3⟩:=k;exact⟨v,t++cs',U,h1,h2,DenL.app h3 k'⟩
def Nd.enc (n:Nd):List D:=[.v (.int .i64 n.cls),.v (.int .i64 n.tag),.bq n.cons,.bs n.bytes,.nds n.kids]
theorem qc {h:Part}{cs:LV}{n:Nd}:NdR h cs n<->DenL n.enc h cs:=by
 cases n with
 |mk c t k b ks =>
  constructor
  ·intro r;obtain⟨a,ca,b',cb,rfl,ha,hb⟩:=r.inv;exact⟨_,_,U,U,U,_,_,U,U,U,_,_,U,U,U,_,_,U,U,⟨_,_,U,ha⟩,_,_,U,U,⟨_,_,U,hb⟩,U⟩
  ·rintro⟨_,_,rfl,_,e1,_,_,rfl,_,e2,_,_,rfl,_,e3,_,_,rfl,_,⟨_,_,rfl,ha⟩,_,_,rfl,_,⟨_,_,rfl,hb⟩,e4⟩;unfold Den at e1 e2 e3;unfold DenL at e4;subst e1 e2 e3 e4;exact d_ ha hb
def u8E (x:UInt8):List D:=[.v (.int .u8 (x.toNat:Int))]
theorem u8_enc {h:Part}{cs:LV}{x:UInt8}:u8R h cs x<->DenL (u8E x) h cs:=by
 constructor
 ·rintro rfl;exact⟨_,_,U,U,U,U⟩
 ·rintro⟨_,_,rfl,_,e1,e2⟩;unfold Den at e1;unfold DenL at e2;subst e1 e2;rfl
inductive All2 {α β:Type _} (R:α->β->Prop):List α->List β->Prop where
 |nil:All2 R [] []
 |cons {x:α} {y:β} {l:List α} {r:List β} (h:R x y) (t:All2 R l r):All2 R (x::l) (y::r)
inductive A:Type 1 where
 |d (d:D)
 |own (k off:Nat)
 |row (k:Nat)
 |recr (l:List D) (k:Nat)
 |mp (k:Nat)
 |any
abbrev LO:=List (Nat×A)
inductive OE:Type 1 where
 |var (t:TypeId) (cs:List A)
 |whl (t:TypeId) (d:D)
 |row (t:TypeId) (d:D)
 |rowv (v:Nat) (t:TypeId) (d:D)
 |pin (v b:Nat)
 |set (es:LV)
abbrev LQ:=List (Nat×OE)
structure Rho where
 b:Nat->Nat
 a:Nat->OA
 c:Nat->Nat
 n:Nat->Nat
def DenA (ρ:Rho) (h:Part):A->Value->Prop
 |.d d,x=>Den d h x
 |.own k o,x=>x=.pointer (some ⟨ρ.b k,o,none⟩)
 |.row k,x=>x=.slice (ρ.a k) (ρ.n k) (ρ.c k)
 |.recr l k,x=>∃ cs:LV,x=.agg (cs++[Value.slice (ρ.a k) (ρ.n k) (ρ.c k)]).toArray/\DenL l h cs
 |.mp k,x=>x=.map (some (ρ.b k))
 |.any,_=>True
def DenAL (ρ:Rho) (h:Part):List A->LV->Prop
 |[],cs=>cs=[]
 |x::r,cs=>∃ v t,cs=v::t/\v.oneCell'=true/\DenA ρ h x v/\DenAL ρ h r t
def RowR (h:Part):D->Nat->Nat->LV->Prop
 |.bs l,sz,n,xs=>sz=1/\n=l.length/\CellsR u8R 1 h xs l
 |.nds l,sz,n,xs=>sz=5/\n=l.length/\CellsR NdR 5 h xs l
 |.sl s enc l,sz,n,xs=>sz=s/\n=l.length/\CellsR (encR enc) s h xs l
 |_,_,_,_=>False
def DenE (ρ:Rho) (h:Part) (k:Nat):OE->Ent->Prop
 |.var t cs,x=>∃ vs,x=.blk (ρ.b k) t vs/\DenAL ρ h cs vs
 |.whl t d,x=>∃ vs,x=.blk (ρ.b k) t vs/\Den d h (.agg vs.toArray)
 |.row t d,x=>∃ xs sz,x=.row (ρ.a k) (ρ.c k) t sz (ρ.n k) xs/\RowR h d sz (ρ.n k) xs/\ρ.n k<=140737488355328
 |.rowv v t d,x=>∃ xs sz,x=.row (ρ.a v) (ρ.c v) t sz (ρ.n v) xs/\RowR h d sz (ρ.n v) xs/\ρ.n v<=140737488355328
 |.pin v b,x=>ρ.b v=b/\x=.row none 0 0 0 0 []
 |.set es,x=>∃ (arr:Array MapEntry) (cl:Nat),x=.obj (ρ.b k) (.map arr cl)/\arr.toList.map (λe=>(e.key,e.val))=es.map (λv=>(v,Value.bool true))
def DenO (ρ:Rho) (h:Part):LQ->LE->Prop
 |[],L=>L=[]
 |(k,e)::r,L=>∃ x L',L=x::L'/\DenE ρ h k e x/\DenO ρ h r L'
def lkA:LO->Nat->Option A
 |[],_=>none
 |(k,x)::r,t=>bif Nat.beq k t then some x else lkA r t
def lkO:LQ->Nat->Option OE
 |[],_=>none
 |(k,x)::r,t=>bif Nat.beq k t then some x else lkO r t
def delO:LQ->Nat->LQ
 |[],_=>[]
 |(k,x)::r,t=>bif Nat.beq k t then r else(k,x)::delO r t
def strgT (P:Program) (t:Nat):Bool:=match P.underlying t with
 |some .string=>true
 |_=>false
theorem strgT_ok {P:Program}{t:Nat}(h:strgT P t=true):P.underlying t=some .string:=by
 unfold strgT at h;split at h
 ·assumption
 ·cases h
def boolT (P:Program) (t:Nat):Bool:=match P.underlying t with
 |some .bool=>true
 |_=>false
theorem boolT_ok {P:Program}{t:Nat}(h:boolT P t=true):P.underlying t=some .bool:=by
 unfold boolT at h;split at h
 ·assumption
 ·cases h
def szD:D->Nat
 |.bs _=>1
 |.nds _=>5
 |.sl s _ _=>s
 |_=>0
def LitOk (h:Part) (d:D) (vs:LV):Prop:=RowR h d (szD d) vs.length (vs.map (·.cells.toList)).flatten/\(∀ c∈vs,c.cells.toList.length=szD d)/\0<vs.length/\0<szD d
class Tb (P:Program) where
 T:Part->Prop
 mono:∀ {h h':Part},T h->h.le h'->T h'
 ag:List (Nat×Option Nat)
 hag:(ag.all λt=>aggT P t.1 == some t.2)=true
 zr:Nat->Option (List D)
 hzr:∀ {t ds},zr t=some ds->∃ zs,zeroT P t=some zs/\∀ h,DenL ds h zs
 fo:Nat->List D->Option D
 hfo:∀ {t ds d},fo t ds=some d->∀ h cs,DenL ds h cs->Den d h (.agg cs.toArray)
 st:List Nat
 hst:(st.all λt=>strgT P t)=true
 bt:List Nat
 hbt:(bt.all λt=>boolT P t)=true
 ap:List (Nat×Nat×Nat×Nat)
 hap:(ap.all λt=>apT P t.1 == some t.2)=true
 pl:Nat->Option (List (Nat×Nat))
 nl:Nat->Option D
 hnl:∀ {t d},nl t=some d->∀ h,Den d h (.slice none 0 0)
 lt:List D->Option D
 hlt:∀ {h ds vs d},lt ds=some d->DenT ds h vs->LitOk h d vs
 hpl:∀ {t p ds},pl t=some p->zr t=some ds->∃ zs,plT P t=some (zs,p)/\∀ h,DenL ds h zs
def findA:List (Nat×Option Nat)->Nat->Option (Option Nat)
 |[],_=>none
 |(a,b)::r,k=>bif Nat.beq a k then some b else findA r k
theorem findA_mem {l:List (Nat×Option Nat)}{k:Nat}{v:Option Nat}(h:findA l k=some v):(k,v)∈l:=by
 induction l with
 |nil=>cases h
 |cons x r ih =>
  obtain⟨a,b⟩:=x;simp only [findA] at h;cases hb:Nat.beq a k with
  |true =>
   obtain rfl:=aq hb;simp only [hb,cond_true,aB] at h;subst h;exact aK ..
  |false=>simp only [hb,cond_false] at h;exact aP _ (ih h)
def memN:List Nat->Nat->Bool
 |[],_=>false
 |a::r,k=>bif Nat.beq a k then true else memN r k
theorem tW {l:List Nat}{k:Nat}(h:memN l k=true):k∈l:=by
 induction l with
 |nil=>cases h
 |cons a r ih =>
  simp only [memN] at h;cases hb:Nat.beq a k with
  |true=>obtain rfl:=aq hb;exact aK ..
  |false=>simp only [hb,cond_false] at h;exact aP _ (ih h)
section
variable {P:Program} [Tb P]
theorem Tb.agg {t:Nat}{v:Option Nat}(h:findA (Tb.ag P) t=some v):aggT P t=some v:=by
 have:=List.all_eq_true.1 (Tb.hag (P:=P)) _ (findA_mem h);simpa using this
def findP:List (Nat×Nat×Nat×Nat)->Nat->Option (Nat×Nat×Nat)
 |[],_=>none
 |(a,b)::r,k=>bif Nat.beq a k then some b else findP r k
omit [Tb P] in
theorem findP_mem {l:List (Nat×Nat×Nat×Nat)}{k:Nat}{v:Nat×Nat×Nat}(h:findP l k=some v):(k,v)∈l:=by
 induction l with
 |nil=>cases h
 |cons x r ih =>
  obtain⟨a,b⟩:=x;simp only [findP] at h;cases hb:Nat.beq a k with
  |true =>
   obtain rfl:=aq hb;simp only [hb,cond_true,aB] at h;subst h;exact aK ..
  |false=>simp only [hb,cond_false] at h;exact aP _ (ih h)
theorem Tb.apt {t:Nat}{v:Nat×Nat×Nat}(h:findP (Tb.ap P) t=some v):apT P t=some v:=by
 have:=List.all_eq_true.1 (Tb.hap (P:=P)) _ (findP_mem h);simpa using this
theorem Tb.bool {t:Nat}(h:memN (Tb.bt P) t=true):P.underlying t=some .bool:=boolT_ok (List.all_eq_true.1 (Tb.hbt (P:=P)) _ (tW h))
theorem Tb.strg {t:Nat}(h:memN (Tb.st P) t=true):P.underlying t=some .string:=strgT_ok (List.all_eq_true.1 (Tb.hst (P:=P)) _ (tW h))
end
structure Cz (P:Program) [Tb P] (ρ:Rho) (h:Part) (a:LO) (o:LQ) (S:Sig) (L:LE):Prop where
 t:Tb.T P h
 s:∀ t x,lkA a t=some x->∃ v,look S t=some v/\DenA ρ h x v
 o:DenO ρ h o L
def evA (a:LO):Operand->Option A
 |.tmp t=>lkA a t
 |.const c=>some (.d (.v c))
 |x=>match ev [] x with
  |some v=>some (.d (.v v))
  |none=>none
def nthG {α:Type _}:List α->Nat->Option α
 |[],_=>none
 |x::_,0=>some x
 |_::r,i+1=>nthG r i
theorem iP {α:Type _}:∀ (l:List α) (i:Nat),nthG l i=l[i]?
 |[],_=>by simp [nthG]
 |v::_,0=>by simp [nthG]
 |_::r,i+1=>by simp [nthG,iP r i]
def cutG {α:Type _}:List α->Nat->Nat->Option (List α)
 |_,0,0=>some []
 |x::r,0,n+1=>match cutG r 0 n with
  |some l=>some (x::l)
  |none=>none
 |_::r,i+1,n=>cutG r i n
 |[],_,_=>none
theorem mD {α:Type _}:∀ (l:List α) (i n:Nat) (r:List α),cutG l i n=some r->i+n<=l.length/\r=(l.drop i).take n
 |l,0,0,r,h=>by unfold cutG at h;cases h;simp
 |x::t,0,n+1,r,h=>by
  unfold cutG at h;split at h
  ·rename_i l hl;cases h;obtain⟨h1,h2⟩:=mD t 0 n l hl;simp only [aC,List.drop_zero,List.take_succ_cons] at *;exact⟨by omega,by rw [h2]⟩
  ·cases h
 |x::t,i+1,n,r,h=>by
  unfold cutG at h;obtain⟨h1,h2⟩:=mD t i n r h;simp only [aC,List.drop_succ_cons];exact⟨by omega,h2⟩
 |[],i+1,n,r,h=>by unfold cutG at h;cases h
 |[],0,n+1,r,h=>by unfold cutG at h;cases h
def dlen:D->Option Nat
 |.bs l=>some l.length
 |.nds l=>some l.length
 |.sl _ _ l=>some l.length
 |.v (.slice _ n _)=>some n
 |_=>none
def dsOf:List A->Option (List D)
 |[]=>some []
 |.d d::r=>match dsOf r with
  |some l=>some (d::l)
  |none=>none
 |_::_=>none
def cellsD:D->Option (List D)
 |.st l=>some l
 |.nd n=>some n.enc
 |_=>none
def offs (o k:Nat):Nat:=bif Nat.beq o 0 then k else o+k
def cmpS:BinOp->LB->LB->Option A
 |.eql,p,q=>some (.d (.bq (decide (p=q))))
 |.neq,p,q=>some (.d (.bq (decide (p≠q))))
 |.lss,p,q=>some (.d (.bq (Go.Op.bytesLess p q)))
 |_,_,_=>none
def bB:D->Option Bool
 |.bq b=>some b
 |.v (.bool b)=>some b
 |_=>none
def cmpB:BinOp->Bool->Bool->Option A
 |.eql,p,q=>some (.d (.bq (p == q)))
 |.neq,p,q=>some (.d (.bq (!(p == q))))
 |_,_,_=>none
def ldD (P:Program) [Tb P] (T:Nat) (l:List D) (o:Nat):Option A :=
 match findA (Tb.ag P) T with
 |some none=>match nthG l o with
  |some d=>some (.d d)
  |none=>none
 |some (some sz)=>bif (bif Nat.beq o 0 then Nat.beq l.length sz else false) then some (.d (.st l)) else match cutG l o sz with
  |some r=>match Tb.fo P T r with
   |some r'=>some (.d r')
   |none=>some (.d (.st r))
  |none=>none
 |none=>none
def ldO (P:Program) [Tb P] (T:Nat) (cs:List A) (o:Nat):Option A :=
 match findA (Tb.ag P) T with
 |some none=>nthG cs o
 |some (some sz)=>match cutG cs o sz with
  |some r=>match dsOf r with
   |some ds=>match Tb.fo P T ds with
    |some r'=>some (.d r')
    |none=>some (.d (.st ds))
   |none=>none
  |none=>none
 |none=>none
def evsB (a:LO):List (Nat×Operand)->Option (List (Nat×D))
 |[]=>some []
 |(i,x)::r=>match evA a x,evsB a r with
  |some (.d d),some l=>some ((i,d)::l)
  |_,_=>none
def oneD:D->Bool
 |.v u=>u.oneCell'
 |.bq _=>true
 |.bs _=>true
 |.nds _=>true
 |.sl _ _ _=>true
 |.ptr _=>true
 |.pnd _=>true
 |_=>false
def splG {α:Type _}:List α->Nat->List α->Option (List α)
 |l,0,[]=>some l
 |_::r,0,y::l'=>match splG r 0 l' with
  |some l=>some (y::l)
  |none=>none
 |x::r,i+1,l'=>match splG r i l' with
  |some l=>some (x::l)
  |none=>none
 |[],_,_=>none
theorem nG {α:Type _}:∀ (l:List α) (i:Nat) (l' r:List α),splG l i l'=some r->i+l'.length<=l.length/\r=l.take i++l'++l.drop (i+l'.length)
 |l,0,[],r,h=>by unfold splG at h;cases h;simp
 |x::t,0,y::l',r,h=>by
  unfold splG at h;split at h
  ·rename_i l hl;cases h;obtain⟨h1,h2⟩:=nG t 0 l' l hl;simp only [Nat.zero_add,List.take_zero,List.nil_append,aC] at *;exact⟨by omega,by rw [h2];simp⟩
  ·cases h
 |x::t,i+1,l',r,h=>by
  unfold splG at h;split at h
  ·rename_i l hl;cases h;obtain⟨h1,h2⟩:=nG t i l' l hl;simp only [aC];refine⟨by omega,?_⟩;rw [h2,List.take_succ_cons,show i+1+l'.length=(i+l'.length)+1 by omega,List.drop_succ_cons];rfl
  ·cases h
 |[],i+1,l',r,h=>by unfold splG at h;cases h
 |[],0,y::l',r,h=>by unfold splG at h;cases h
def cells1 (d:D):Option (List D):=match cellsD d with
 |some l=>some l
 |none=>bif oneD d then some [d] else none
def fillD (pl:List (Nat×Nat)):List D->List (Nat×D)->Option (List D)
 |cs,[]=>some cs
 |cs,(i,d)::r=>match nthG pl i,cells1 d with
  |some (o,n),some l=>bif Nat.beq l.length n then match splG cs o l with
   |some cs'=>fillD pl cs' r
   |none=>none else none
  |_,_=>none
def val2 (P:Program) [Tbl P] [Tb P] (a:LO) (o:LQ):Op->Option A
 |.move x=>evA a x
 |.assign x=>evA a x
 |.pick c x y=>match evA a c with
  |some (.d (.v (.bool true)))=>evA a x
  |some (.d (.v (.bool false)))=>evA a y
  |_=>none
 |.extract x i=>match evA a x with
  |some (.d (.tup l))=>match nthG l i with
   |some d=>some (.d d)
   |none=>none
  |some (.d (.v (.tuple vs)))=>match nthG vs.toList i with
   |some v=>some (.d (.v v))
   |none=>none
  |_=>none
 |.nilCheck x=>match evA a x with
  |some (.own k o)=>some (.own k o)
  |some (.d (.ptr l))=>some (.d (.ptr l))
  |some (.d (.pnd l))=>some (.d (.pnd l))
  |_=>none
 |.unOp .not _ x=>match evA a x with
  |some (.d (.v (.bool true)))=>some (.d (.v (.bool false)))
  |some (.d (.v (.bool false)))=>some (.d (.v (.bool true)))
  |some (.d (.bq b))=>some (.d (.bq (!b)))
  |_=>none
 |.binOp op T x y _=>match evA a x,evA a y with
  |some (.d (.v (.int k p))),some (.d (.v (.int k' q)))=>match cmpK op k k' p q with
   |some (.bool b)=>some (.d (.bq b))
   |_=>none
  |some (.d (.v (.string ⟨⟨p⟩⟩))),some (.d (.v (.string ⟨⟨q⟩⟩)))=>cmpS op p q
  |some (.d d),some (.d d')=>match bB d,bB d' with
   |some b,some b'=>match memN (Tb.bt P) T with
    |true=>cmpB op b b'
    |false=>none
   |_,_=>none
  |_,_=>none
 |.call c=>match c.callee,c.args.toList,c.argTypes.toList with
  |.builtin .len,[x],[T]=>match evA a x with
   |some (.d (.v (.string ⟨⟨p⟩⟩)))=>bif memN (Tb.st P) T then some (.d (.v (.int .i64 (p.length:Int)))) else none
   |some (.d d)=>match find1 (Tbl.sl P) T,dlen d with
    |some _,some n=>some (.d (.v (.int .i64 (n:Int))))
    |_,_=>none
   |some (.row k)=>match lkO o k with
    |some (.row _ d)=>match find1 (Tbl.sl P) T,dlen d with
     |some _,some n=>some (.d (.v (.int .i64 (n:Int))))
     |_,_=>none
    |_=>none
   |_=>none
  |_,_,_=>none
 |.fieldAddr T x i=>match evA a x,find2 (Tbl.fo P) T i with
  |some (.own k o),some off=>some (.own k (offs o off))
  |some (.d (.ptr l)),some off=>some (.d (.ptr (l.drop off)))
  |some (.d (.pnd n)),some off=>some (.d (.ptr (n.enc.drop off)))
  |_,_=>none
 |.build T ps=>match Tb.pl P T,Tb.zr P T,evsB a ps.toList with
  |some pl,some ds,some l=>match fillD pl ds l with
   |some cs=>some (.d (.st cs))
   |none=>none
  |_,_,_=>none
 |.load T x=>match evA a x with
  |some (.own k off)=>match lkO o k with
   |some (.var _ cs)=>ldO P T cs off
   |some (.whl _ d)=>match cellsD d with
    |some l=>bif Nat.beq off 0 then match findA (Tb.ag P) T with
     |some (some sz)=>bif Nat.beq l.length sz then some (.d d) else ldD P T l off
     |_=>ldD P T l off
     else ldD P T l off
    |none=>none
   |_=>none
  |some (.d (.ptr l))=>ldD P T l 0
  |some (.d (.pnd n))=>match findA (Tb.ag P) T with
   |some (some sz)=>bif Nat.beq sz 5 then some (.d (.nd n)) else none
   |some none=>ldD P T n.enc 0
   |none=>none
  |_=>none
 |_=>none
theorem DenO.get {ρ:Rho}{h:Part}{k:Nat}{e:OE}:∀ {o:LQ}{L:LE},DenO ρ h o L->lkO o k=some e->∃ x L',Del x L L'/\DenE ρ h k e x/\DenO ρ h (delO o k) L'
 |[],L,c,hk=>by cases hk
 |(k',e')::r,L,c,hk=>by
  obtain⟨x,L',rfl,he,hr⟩:=c;simp only [lkO,delO] at hk |-;cases hb:Nat.beq k' k with
  |true =>
   obtain rfl:=aq hb;simp only [hb,cond_true,aB] at hk |-;subst hk;exact⟨x,L',.here,he,hr⟩
  |false =>
   simp only [hb,cond_false] at hk |-
   obtain⟨y,L2,hd,hy,h2⟩:=DenO.get hr hk;exact⟨y,x::L2,.there hd,hy,x,L2,U,he,h2⟩
theorem DenAL.nth {ρ:Rho}{h:Part}:∀ {l:List A}{cs:LV}{i:Nat}{x:A},DenAL ρ h l cs->nthG l i=some x->∃ v,cs[i]?=some v/\v.oneCell'=true/\DenA ρ h x v
 |[],cs,i,x,k,hd=>by simp [nthG] at hd
 |y::r,cs,i,x,k,hd=>by
  obtain⟨v,t,rfl,h1,h2,h3⟩:=k;cases i with
  |zero=>simp only [nthG,aB] at hd;subst hd;exact⟨v,U,h1,h2⟩
  |succ i=>simp only [nthG] at hd;simp only [List.getElem?_cons_succ];exact DenAL.nth h3 hd
theorem DenAL.len {ρ:Rho}{h:Part}:∀ {l:List A}{cs:LV},DenAL ρ h l cs->cs.length=l.length
 |[],cs,k=>by simp only [DenAL] at k;subst k;rfl
 |d::r,cs,k=>by
  obtain⟨v,t,rfl,_,_,h3⟩:=k;simp [DenAL.len h3]
theorem DenAL.drop {ρ:Rho}{h:Part}:∀ {l:List A}{cs:LV}(i:Nat),DenAL ρ h l cs->DenAL ρ h (l.drop i) (cs.drop i)
 |[],cs,i,k=>by simp only [DenAL] at k;subst k;simp [DenAL]
 |d::r,cs,0,k=>k
 |d::r,cs,i+1,k=>by
  obtain⟨v,t,rfl,_,_,h3⟩:=k;exact DenAL.drop i h3
theorem DenAL.take {ρ:Rho}{h:Part}:∀ {l:List A}{cs:LV}(i:Nat),DenAL ρ h l cs->DenAL ρ h (l.take i) (cs.take i)
 |[],cs,i,k=>by simp only [DenAL] at k;subst k;simp [DenAL]
 |d::r,cs,0,k=>by simp [DenAL]
 |d::r,cs,i+1,k=>by
  obtain⟨v,t,rfl,h1,h2,h3⟩:=k;rw [List.take_succ_cons,List.take_succ_cons];exact⟨v,_,U,h1,h2,DenAL.take i h3⟩
theorem DenAL.ds {ρ:Rho}{h:Part}:∀ {l:List A}{cs:LV}{ds:List D},DenAL ρ h l cs->dsOf l=some ds->DenL ds h cs
 |[],cs,ds,k,hd=>by simp only [DenAL] at k;cases hd;subst k;simp [DenL]
 |.d x::r,cs,ds,k,hd=>by
  obtain⟨v,t,rfl,h1,h2,h3⟩:=k;simp only [dsOf] at hd;split at hd
  ·rename_i l hl;cases hd;unfold DenL;exact⟨v,t,U,h1,h2,DenAL.ds h3 hl⟩
  ·cases hd
 |.own _ _::r,cs,ds,k,hd=>by simp [dsOf] at hd
 |.row _::r,cs,ds,k,hd=>by simp [dsOf] at hd
 |.recr _ _::r,cs,ds,k,hd=>by simp [dsOf] at hd
 |.mp _::r,cs,ds,k,hd=>by simp [dsOf] at hd
 |.any::r,cs,ds,k,hd=>by simp [dsOf] at hd
theorem dB {u x:Value}{h:Part}:Den (.v u) h x<->x=u:=by unfold Den;exact Iff.rfl
theorem dH {b:Bool}{x:Value}{h:Part}:Den (.bq b) h x<->x=.bool b:=by unfold Den;exact Iff.rfl
theorem dS {l:List D}{x:Value}{h:Part}:Den (.st l) h x<->∃ cs:LV,x=.agg cs.toArray/\DenL l h cs:=by unfold Den;exact Iff.rfl
theorem dP {n:Nd}{x:Value}{h:Part}:Den (.nd n) h x<->∃ cs:LV,x=.agg cs.toArray/\NdR h cs n:=by unfold Den;exact Iff.rfl
theorem oQ {l:List D}{x:Value}{h:Part}:Den (.tup l) h x<->∃ cs:LV,x=.tuple cs.toArray/\DenT l h cs:=by unfold Den;exact Iff.rfl
theorem gV {l:List D}{x:Value}{h:Part}:Den (.ptr l) h x<->∃ b o,x=.pointer (some ⟨b,o,none⟩)/\∃ c cs,h b=some c/\Lies c o cs/\DenL l h cs:=by unfold Den;exact Iff.rfl
theorem mw {n:Nd}{x:Value}{h:Part}:Den (.pnd n) h x<->∃ b o,x=.pointer (some ⟨b,o,none⟩)/\∃ c cs,h b=some c/\Lies c o cs/\NdR h cs n:=by unfold Den;exact Iff.rfl
theorem dm {l:LB}{x:Value}{h:Part}:Den (.bs l) h x<->∃ a c,x=.slice a l.length c/\SlR u8R 1 h a c l:=by unfold Den;exact Iff.rfl
theorem dN {l:LN}{x:Value}{h:Part}:Den (.nds l) h x<->∃ a c,x=.slice a l.length c/\SlR NdR 5 h a c l:=by unfold Den;exact Iff.rfl
theorem iE {α:Type}{sz:Nat}{enc:α->List D}{l:List α}{x:Value}{h:Part}:Den (.sl sz enc l) h x<->∃ a c,x=.slice a l.length c/\SlR (encR enc) sz h a c l:=by unfold Den;exact Iff.rfl
theorem fe {d:D}{l:List D}{h:Part}{x:Value}(hc:cellsD d=some l):Den d h x<->∃ cs:LV,x=.agg cs.toArray/\DenL l h cs:=by
 cases d<;>simp only [cellsD,aB,reduceCtorEq] at hc
 ·subst hc;exact dS
 ·subst hc;rw [dP];exact⟨λ⟨cs,e,r⟩=>⟨cs,e,qc.1 r⟩,λ⟨cs,e,r⟩=>⟨cs,e,qc.2 r⟩⟩
theorem dlen_ok {d:D}{n:Nat}{h:Part}{x:Value}(hd:dlen d=some n) (hx:Den d h x):∃ a c,x=.slice a n c:=by
 unfold dlen at hd;split at hd<;>cases hd
 ·obtain⟨a,c,e,_⟩:=dm.1 hx;exact⟨a,c,e⟩
 ·obtain⟨a,c,e,_⟩:=dN.1 hx;exact⟨a,c,e⟩
 ·obtain⟨a,c,e,_⟩:=iE.1 hx;exact⟨a,c,e⟩
 ·exact⟨_,_,dB.1 hx⟩
theorem rU {d:D}{h:Part}{v:Value}(hd:oneD d=true) (k:Den d h v):v.oneCell'=true:=by
 cases d<;>simp only [oneD,reduceCtorEq] at hd
 ·rw [dB.1 k];exact hd
 ·rw [dH.1 k];rfl
 ·obtain⟨_,_,rfl,_⟩:=dm.1 k;rfl
 ·obtain⟨_,_,rfl,_⟩:=dN.1 k;rfl
 ·obtain⟨_,_,rfl,_⟩:=iE.1 k;rfl
 ·obtain⟨_,_,rfl,_⟩:=gV.1 k;rfl
 ·obtain⟨_,_,rfl,_⟩:=mw.1 k;rfl
theorem mc {v:Value}(h:v.oneCell'=true):v.cells=#[v]:=by cases v<;>first|rfl|(simp [Value.oneCell'] at h)
theorem cells1_ok {d:D}{l:List D}{h:Part}{v:Value}(hc:cells1 d=some l) (k:Den d h v):DenL l h v.cells.toList:=by
 unfold cells1 at hc;split at hc
 ·rename_i l' hl;cases hc;obtain⟨cs,rfl,h2⟩:=(fe hl).1 k;simpa [Value.cells] using h2
 ·cases hb:oneD d with
  |true =>
   rw [hb,cond_true] at hc;cases hc;have h1:=rU hb k;rw [mc h1];unfold DenL;exact⟨v,[],U,h1,k,by unfold DenL;rfl⟩
  |false=>rw [hb] at hc;cases hc
theorem uq {pl:List (Nat×Nat)}{h:Part}:∀ {l:List (Nat×D)}{vs:List (Nat×Value)}{ds r:List D}{cs:LV},All2 (λ(x:Nat×D) (y:Nat×Value)=>x.1=y.1/\Den x.2 h y.2) l vs->DenL ds h cs->fillD pl ds l=some r->∃ cs',fillL pl cs vs=some cs'/\DenL r h cs'
 |[],vs,ds,r,cs,hf,hd,e=>by cases hf;cases e;exact⟨cs,U,hd⟩
 |(i,d)::l,vs,ds,r,cs,hf,hd,e=>by
  cases hf with
  |cons h1 h2 =>
   rename_i y vs;obtain⟨j,v⟩:=y;obtain⟨rfl,h3⟩:=h1;simp only [fillD] at e;split at e
   ·rename_i o n l' hn hc;cases hb:Nat.beq l'.length n with
    |false=>rw [hb] at e;cases e
    |true =>
     rw [hb,cond_true] at e;split at e
     ·rename_i ds' hs;have h4:=cells1_ok hc h3;obtain⟨h5,h6⟩:=nG _ _ _ _ hs;have h7:=h4.len;have h8:=hd.len;have h9:=aq hb;have hden:DenL ds' h (cs.take o++v.cells.toList++cs.drop (o+n)):=by
       rw [h6,h9];exact((hd.take o).app h4).app (hd.drop (o+n))
      obtain⟨cs',h10,h11⟩:=uq h2 hden e;refine⟨cs',?_,h11⟩;rw [iP] at hn;simp only [fillL,hn];rw [if_pos ⟨h7.trans h9,by rw [h8];omega⟩];exact h10
     ·cases e
   ·cases e
theorem row_len {d:D}{n sz nn:Nat}{h:Part}{xs:LV}(hd:dlen d=some n) (hx:RowR h d sz nn xs):nn=n:=by
 cases d<;>simp only [RowR] at hx<;>simp only [dlen,aB] at hd
 ·exact hx.2.1.trans hd
 ·exact hx.2.1.trans hd
 ·exact hx.2.1.trans hd
theorem jy {ρ:Rho}{h:Part}{u x:Value}:DenA ρ h (.d (.v u)) x<->x=u:=dB (h:=h)
theorem iT {ρ:Rho}{h:Part}{b:Bool}{x:Value}:DenA ρ h (.d (.bq b)) x<->x=.bool b:=dH (h:=h)
theorem cj {h:Part}{u:Value}:Den (.v u) h u:=(dB (h:=h)).2 U
section
variable {P:Program} [Tbl P] [Tb P] {e:Env}{m:Nat}{r:Post}{p:List PanicEntry->Post}{S:Sig}{h:Part}{L:LE}{ρ:Rho}{a:LO}{o:LQ}{ty:TypeId}
omit [Tbl P] in
theorem cE (c:Cz P ρ h a o S L) {y:Operand}{u:A}(hy:evA a y=some u):∃ v,ev S y=some v/\DenA ρ h u v:=by
 cases y with
 |tmp t=>exact c.s t u hy
 |const k=>simp only [evA,aB] at hy;subst hy;exact⟨k,U,cj (h:=h)⟩
 |global g=>simp only [evA] at hy;split at hy<;>cases hy;rename_i v hv;exact⟨v,hv,cj (h:=h)⟩
 |func g=>simp only [evA] at hy;split at hy<;>cases hy;rename_i v hv;exact⟨v,hv,cj (h:=h)⟩
omit [Tbl P] in
theorem dv (c:Cz P ρ h a o S L) {y:Operand}{v:Value}(hy:evA a y=some (.d (.v v))):ev S y=some v:=by
 obtain⟨u,h1,h2⟩:=cE c hy;rw [h1,jy.1 h2]
omit [Tbl P] in
theorem u7 {T:TypeId}{xo:Operand}{l:List D}{off:Nat}{u:A}{b o':Nat}{cc:Array Value}{cs:LV}(hx:ev S xo=some (.pointer (some ⟨b,o'+off,none⟩))) (hb:h b=some cc) (hl:Lies cc o' cs) (hd:DenL l h cs) (hu:ldD P T l off=some u):∃ v,RunV ⟨P,e,m,r,p⟩ S h L (.load T xo) ty v/\DenA ρ h u v:=by
 have hlen:=hd.len;unfold ldD at hu;split at hu
 ·rename_i ha;split at hu<;>cases hu;rename_i d hn;rw [iP] at hn;obtain⟨v,h1,h2,h3⟩:=hd.nth hn;have hi:off<cs.length:=(List.getElem?_eq_some_iff.1 h1).1;have hE:EltR (λ_ c (_:Unit)=>c=[v]) 1 h b (o'+off) ():=⟨cc,[v],hb,U,λj hj=>by
   have:j=0:=by omega
   subst this;rw [Nat.add_zero,hl _ hi,h1];rfl,U⟩
  obtain⟨w,h4,h5⟩:=RunE.load1 (f:=⟨P,e,m,r,p⟩) (S:=S) (L:=L) (ty:=ty) (Tb.agg ha) hx hE;cases h5;exact⟨_,h4,h3⟩
 ·rename_i sz ha;have key:∀ l',off+sz<=l.length->l'=(l.drop off).take sz->∃ v,RunV ⟨P,e,m,r,p⟩ S h L (.load T xo) ty v/\Den (.st l') h v:=λl' h1 h2=>by
   subst h2;have hE:EltR (λ_ c (_:Unit)=>c=(cs.drop off).take sz) sz h b (o'+off) ():=⟨cc,(cs.drop off).take sz,hb,by simp;omega,λj hj=>by
    rw [List.getElem?_take,if_pos hj,List.getElem?_drop,Nat.add_assoc,hl _ z2_],U⟩
   obtain⟨w,h4,cs',h5,h6⟩:=dw (f:=⟨P,e,m,r,p⟩) (S:=S) (L:=L) (ty:=ty) (Tb.agg ha) hx hE;exact⟨w,h4,dS.2 ⟨cs',h5,by rw [h6];exact(hd.drop off).take sz⟩⟩
  have fin:∀ l',cutG l off sz=some l'->∀ u',(match Tb.fo P T l' with
   |some r'=>some (A.d r')
   |none=>some (A.d (.st l')))=some u'->∃ v,RunV ⟨P,e,m,r,p⟩ S h L (.load T xo) ty v/\DenA ρ h u' v:=λl' hcut u' hu'=>by
   obtain⟨h1,h2⟩:=mD _ _ _ _ hcut;obtain⟨v,h3,h4⟩:=key l' h1 h2;split at hu'
   ·rename_i r' hfo;cases hu';obtain⟨cs',h5,h6⟩:=dS.1 h4;exact⟨v,h3,by rw [h5];exact Tb.hfo hfo _ _ h6⟩
   ·cases hu';exact⟨v,h3,h4⟩
  cases h0:(bif Nat.beq off 0 then Nat.beq l.length sz else false) with
  |true =>
   rw [h0,cond_true] at hu;cases hu;cases h1:Nat.beq off 0 with
   |false=>rw [h1] at h0;cases h0
   |true =>
    rw [h1,cond_true] at h0;obtain rfl:=aq h1;have:=aq h0;exact key l z2_ (by rw [List.drop_zero,aS z2_])
  |false =>
   rw [h0,cond_false] at hu;split at hu
   ·rename_i l' hcut;exact fin l' hcut u hu
   ·cases hu
 ·cases hu
omit [Tbl P] in
theorem ldo_ok {T:TypeId}{xo:Operand}{cs:List A}{off b t:Nat}{u:A}{vs:LV}(hx:ev S xo=some (.pointer (some ⟨b,off,none⟩))) (hm:Ent.blk b t vs∈L) (hd:DenAL ρ h cs vs) (hu:ldO P T cs off=some u):∃ v,RunV ⟨P,e,m,r,p⟩ S h L (.load T xo) ty v/\DenA ρ h u v:=by
 have hlen:=hd.len;unfold ldO at hu;split at hu
 ·rename_i ha;obtain⟨v,h1,h2,h3⟩:=hd.nth hu;exact⟨v,aw (Tb.agg ha) hx hm h1,h3⟩
 ·rename_i sz ha;split at hu
  ·rename_i l hcut;obtain⟨h1,h2⟩:=mD _ _ _ _ hcut;split at hu
   ·rename_i ds hds;have hL:DenL ds h ((vs.drop off).take sz):=((hd.drop off).take sz).ds (by rw [<- h2];exact hds);refine⟨_,RunV.ownSub (Tb.agg ha) hx hm z2_,?_⟩;split at hu<;>cases hu
    ·rename_i r' hfo;exact Tb.hfo hfo _ _ hL
    ·exact(dS (h:=h)).2 ⟨_,U,hL⟩
   ·cases hu
  ·cases hu
 ·cases hu
omit [Tbl P] in
theorem ldw_ok {T:TypeId}{xo:Operand}{l:List D}{off b t:Nat}{u:A}{vs:LV}(hx:ev S xo=some (.pointer (some ⟨b,off,none⟩))) (hm:Ent.blk b t vs∈L) (hd:DenL l h vs) (hu:ldD P T l off=some u):∃ v,RunV ⟨P,e,m,r,p⟩ S h L (.load T xo) ty v/\DenA ρ h u v:=by
 have hlen:=hd.len;unfold ldD at hu;split at hu
 ·rename_i ha;split at hu<;>cases hu;rename_i d hn;rw [iP] at hn;obtain⟨v,h1,h2,h3⟩:=hd.nth hn;exact⟨v,aw (Tb.agg ha) hx hm h1,h3⟩
 ·rename_i sz ha;have key:∀ l',off+sz<=l.length->l'=(l.drop off).take sz->∃ v,RunV ⟨P,e,m,r,p⟩ S h L (.load T xo) ty v/\Den (.st l') h v:=λl' h1 h2=>by
   subst h2;exact⟨_,RunV.ownSub (Tb.agg ha) hx hm z2_,(dS (h:=h)).2 ⟨_,U,(hd.drop off).take sz⟩⟩
  have fin:∀ l',cutG l off sz=some l'->∀ u',(match Tb.fo P T l' with
   |some r'=>some (A.d r')
   |none=>some (A.d (.st l')))=some u'->∃ v,RunV ⟨P,e,m,r,p⟩ S h L (.load T xo) ty v/\DenA ρ h u' v:=λl' hcut u' hu'=>by
   obtain⟨h1,h2⟩:=mD _ _ _ _ hcut;obtain⟨v,h3,h4⟩:=key l' h1 h2;split at hu'
   ·rename_i r' hfo;cases hu';obtain⟨cs',h5,h6⟩:=dS.1 h4;exact⟨v,h3,by rw [h5];exact Tb.hfo hfo _ _ h6⟩
   ·cases hu';exact⟨v,h3,h4⟩
  cases h0:(bif Nat.beq off 0 then Nat.beq l.length sz else false) with
  |true =>
   rw [h0,cond_true] at hu;cases hu;cases h1:Nat.beq off 0 with
   |false=>rw [h1] at h0;cases h0
   |true =>
    rw [h1,cond_true] at h0;obtain rfl:=aq h1;have:=aq h0;exact key l z2_ (by rw [List.drop_zero,aS z2_])
  |false =>
   rw [h0,cond_false] at hu;split at hu
   ·rename_i l' hcut;exact fin l' hcut u hu
   ·cases hu
 ·cases hu
theorem offs_eq (o k:Nat):offs o k=o+k:=by
 unfold offs;cases h:Nat.beq o 0 with
 |true=>have:=aq h;simp [this]
 |false=>rfl
omit [Tb P] in
theorem Tbl.off {T i off:Nat}(h:find2 (Tbl.fo P) T i=some off):fieldOff P T i=some off:=by
 have hm:=List.all_eq_true.1 (Tbl.hfo (P:=P)) _ (qp h);exact eq_of_beq hm
omit [Tb P] in
theorem Tbl.slt {T:Nat}{v:Nat×Nat}(h:find1 (Tbl.sl P) T=some v):slT P T=some v:=by
 have hm:=List.all_eq_true.1 (Tbl.hsl (P:=P)) _ (qr h);exact eq_of_beq hm
omit [Tbl P] in
theorem evsB_ok (c:Cz P ρ h a o S L):∀ {ps:List (Nat×Operand)}{l:List (Nat×D)},evsB a ps=some l->∃ vs,evs S ps=some vs/\All2 (λ(x:Nat×D) (y:Nat×Value)=>x.1=y.1/\Den x.2 h y.2) l vs
 |[],l,e=>by cases e;exact⟨[],U,.nil⟩
 |(i,x)::r,l,e=>by
  simp only [evsB] at e;split at e
  ·rename_i d l' h1 h2;cases e;obtain⟨v,h3,h4⟩:=cE c h1;obtain⟨vs,h5,h6⟩:=evsB_ok c h2;exact⟨(i,v)::vs,by simp only [evs,h3,h5],.cons ⟨U,h4⟩ h6⟩
  ·cases e
theorem bB_ok {d:D}{b:Bool}{v:Value}(e:bB d=some b) (k:Den d h v):v=.bool b:=by
 unfold bB at e;split at e<;>cases e
 ·exact dH.1 k
 ·exact dB.1 k
theorem val2_ok (c:Cz P ρ h a o S L) {q:Op}{u:A}(hv:val2 P a o q=some u):∃ v,RunV ⟨P,e,m,r,p⟩ S h L q ty v/\DenA ρ h u v:=by
 unfold val2 at hv;split at hv
 ·obtain⟨v,h1,h2⟩:=cE c hv;exact⟨v,aO h1,h2⟩
 ·obtain⟨v,h1,h2⟩:=cE c hv;exact⟨v,bS h1,h2⟩
 ·split at hv
  ·rename_i hc;obtain⟨v,h1,h2⟩:=cE c hv;exact⟨v,cU (dv c hc) h1,h2⟩
  ·rename_i hc;obtain⟨v,h1,h2⟩:=cE c hv;exact⟨v,bp (dv c hc) h1,h2⟩
  ·cases hv
 ·split at hv
  ·rename_i l hx;split at hv<;>cases hv;rename_i d hd;obtain⟨v,h1,h2⟩:=cE c hx;obtain⟨cs,rfl,h3⟩:=oQ.1 h2;rw [iP] at hd;obtain⟨w,h4,h5⟩:=h3.nth hd;exact⟨w,RunV.extract h1 (by simpa using h4),h5⟩
  ·rename_i vs hx;split at hv<;>cases hv;rename_i v hd;rw [iP] at hd;exact⟨v,RunV.extract (dv c hx) (by simpa using hd),cj (h:=h)⟩
  ·cases hv
 ·split at hv
  ·rename_i k o' hx;cases hv;obtain⟨v,h1,h2⟩:=cE c hx;cases h2;exact⟨_,eh h1,U⟩
  ·rename_i l hx;cases hv;obtain⟨v,h1,h2⟩:=cE c hx;obtain⟨b,o',rfl,h3⟩:=gV.1 h2;exact⟨_,eh h1,h2⟩
  ·rename_i l hx;cases hv;obtain⟨v,h1,h2⟩:=cE c hx;obtain⟨b,o',rfl,h3⟩:=mw.1 h2;exact⟨_,eh h1,h2⟩
  ·cases hv
 ·split at hv
  ·rename_i hx;cases hv;exact⟨_,RunV.not_ (dv c hx),cj (h:=h)⟩
  ·rename_i hx;cases hv;exact⟨_,RunV.not_ (dv c hx),cj (h:=h)⟩
  ·rename_i hx;cases hv;obtain⟨v,h1,h2⟩:=cE c hx;rw [iT.1 h2] at h1;exact⟨_,RunV.not_ h1,(dH (h:=h)).2 U⟩
  ·cases hv
 ·split at hv
  ·rename_i hx hy;split at hv<;>cases hv;rename_i v hw;obtain⟨hk,hw2⟩:=cmpK_eq hw;subst hk;exact⟨.bool v,cmp_ok (dv c hx) (dv c hy) hw2,(dH (h:=h)).2 U⟩
  ·rename_i hx hy;unfold cmpS at hv;split at hv<;>cases hv
   ·exact⟨_,RunV.eqlS (dv c hx) (dv c hy),(dH (h:=h)).2 U⟩
   ·exact⟨_,RunV.neqS (dv c hx) (dv c hy),(dH (h:=h)).2 U⟩
   ·exact⟨_,RunV.lssS (dv c hx) (dv c hy),(dH (h:=h)).2 U⟩
  ·rename_i d d' _ _ hx hy;split at hv
   ·rename_i b b' hb hb';obtain⟨v,h1,h2⟩:=cE c hx;obtain⟨v',h3,h4⟩:=cE c hy;rw [bB_ok hb h2] at h1;rw [bB_ok hb' h4] at h3;split at hv
    ·rename_i hm;unfold cmpB at hv;split at hv<;>cases hv
     ·exact⟨_,RunV.eqlB (Tb.bool hm) h1 h3,(dH (h:=h)).2 U⟩
     ·exact⟨_,RunV.neqB (Tb.bool hm) h1 h3,(dH (h:=h)).2 U⟩
    ·cases hv
   ·cases hv
  ·cases hv
 ·rename_i cc;obtain⟨callee,args,argTypes⟩:=cc;split at hv
  ·rename_i x T hc ha ht;simp only at hc ha ht;have ea:args=#[x]:=by apply Array.ext';simpa using ha
   have et:argTypes=#[T]:=by apply Array.ext';simpa using ht
   subst hc ea et;split at hv
   ·rename_i q hx;cases hm:memN (Tb.st P) T with
    |true=>rw [hm,cond_true] at hv;cases hv;exact⟨_,cD (Tb.strg hm) (dv c hx),cj (h:=h)⟩
    |false=>rw [hm,cond_false] at hv;cases hv
   ·rename_i d _ hx;split at hv<;>cases hv;rename_i v' n' hf hd;obtain⟨v,h1,h2⟩:=cE c hx;obtain⟨a',c',rfl⟩:=dlen_ok hd h2;exact⟨_,RunV.len (e:=v'.1) (sz:=v'.2) (Tbl.slt hf) h1,cj (h:=h)⟩
   ·rename_i k hx;split at hv
    ·rename_i t d hk;split at hv<;>cases hv;rename_i v' n' hf hd;obtain⟨v,h1,h2⟩:=cE c hx;cases h2;obtain⟨y,L',hD,⟨xs,sz,rfl,hR,_⟩,hr⟩:=c.o.get hk;rw [<- row_len hd hR];exact⟨_,RunV.len (e:=v'.1) (sz:=v'.2) (Tbl.slt hf) h1,cj (h:=h)⟩
    ·cases hv
   ·cases hv
  ·cases hv
 ·split at hv
  ·rename_i k o' off hx hf;cases hv;obtain⟨v,h1,h2⟩:=cE c hx;cases h2;exact⟨_,bO (Tbl.off hf) h1,by rw [offs_eq];rfl⟩
  ·rename_i l off hx hf;cases hv;obtain⟨v,h1,h2⟩:=cE c hx;obtain⟨b,o',rfl,cc,cs,h3,h4,h5⟩:=gV.1 h2;exact⟨_,bO (Tbl.off hf) h1,(gV (h:=h)).2 ⟨b,o'+off,U,cc,cs.drop off,h3,λj hj=>by
    rw [bC] at hj;rw [List.getElem?_drop,Nat.add_assoc,h4 _ z2_],h5.drop off⟩⟩
  ·rename_i n' off hx hf;cases hv;obtain⟨v,h1,h2⟩:=cE c hx;obtain⟨b,o',rfl,cc,cs,h3,h4,h5⟩:=mw.1 h2;exact⟨_,bO (Tbl.off hf) h1,(gV (h:=h)).2 ⟨b,o'+off,U,cc,cs.drop off,h3,λj hj=>by
    rw [bC] at hj;rw [List.getElem?_drop,Nat.add_assoc,h4 _ z2_],(qc.1 h5).drop off⟩⟩
  ·cases hv
 ·rename_i T ps;split at hv
  ·rename_i pl ds l hpl hzr hl;split at hv
   ·rename_i cs hfd;obtain⟨zs,h1,h2⟩:=Tb.hpl hpl hzr;obtain⟨vs,h3,h4⟩:=evsB_ok c hl;obtain⟨cs',h5,h6⟩:=uq h4 (h2 h) hfd;obtain⟨ps⟩:=ps;cases hv;exact⟨_,bn h1 h3 h5,(dS (h:=h)).2 ⟨_,U,h6⟩⟩
   ·cases hv
  ·cases hv
 ·rename_i T y;split at hv
  ·rename_i k off hx;obtain⟨v,h1,h2⟩:=cE c hx;cases h2;split at hv
   ·rename_i t cs hk;obtain⟨y,L',hD,⟨vs,rfl,hR⟩,hr⟩:=c.o.get hk;exact ldo_ok h1 hD.mem hR hv
   ·rename_i t d hk;obtain⟨y,L',hD,⟨vs,rfl,hR⟩,hr⟩:=c.o.get hk;split at hv
    ·rename_i l hl;obtain⟨cs,h3,h4⟩:=(fe hl).1 hR;have hcv:vs=cs:=by injection h3 with h3;simpa using congrArg Array.toList h3
     subst hcv;have gen:∀ u,ldD P T l off=some u->∃ v,RunV ⟨P,e,m,r,p⟩ S h L (.load T y) ty v/\DenA ρ h u v:=λu hu=>ldw_ok h1 hD.mem h4 hu;cases h0:Nat.beq off 0 with
     |false=>rw [h0,cond_false] at hv;exact gen _ hv
     |true =>
      rw [h0,cond_true] at hv;split at hv
      ·rename_i sz ha;cases hs:Nat.beq l.length sz with
       |false=>rw [hs,cond_false] at hv;exact gen _ hv
       |true =>
        rw [hs,cond_true] at hv;cases hv;obtain rfl:=aq h0;have hsz:=aq hs;exact⟨_,bJ (Tb.agg ha) h1 hD.mem (by rw [h4.len,hsz]),hR⟩
      ·exact gen _ hv
    ·cases hv
   ·cases hv
  ·rename_i l hx;obtain⟨v,h1,h2⟩:=cE c hx;obtain⟨b,o',rfl,cc,cs,h3,h4,h5⟩:=gV.1 h2;exact u7 (off:=0) h1 h3 h4 h5 hv
  ·rename_i n' hx;obtain⟨v,h1,h2⟩:=cE c hx;obtain⟨b,o',rfl,cc,cs,h3,h4,h5⟩:=mw.1 h2;have h6:=qc.1 h5;split at hv
   ·rename_i sz ha;cases hs:Nat.beq sz 5 with
    |false=>rw [hs,cond_false] at hv;cases hv
    |true =>
     rw [hs,cond_true] at hv;cases hv;obtain rfl:=aq hs;have hE:EltR NdR 5 h b o' n':=⟨cc,cs,h3,h5.len5,λj hj=>h4 j (by rw [h5.len5];exact hj),h5⟩;obtain⟨w,h7,cs',h8,h9⟩:=dw (f:=⟨P,e,m,r,p⟩) (S:=S) (L:=L) (ty:=ty) (Tb.agg ha) h1 hE;exact⟨w,h7,(dP (h:=h)).2 ⟨cs',h8,h9⟩⟩
   ·exact u7 (off:=0) h1 h3 h4 h6 hv
   ·cases hv
  ·cases hv
 ·cases hv
end
abbrev PostD:=LO->LQ->Prop
structure Fd where
 e:Env
 m:Nat
 r:Post
 p:List PanicEntry->Post
abbrev Fd.fr (F:Fd) (P:Program):Fr:=⟨P,F.e,F.m,F.r,F.p⟩
def up (P:Program) [Tb P] (n:PostD):Post:=λS h L=>∃ ρ a o,Cz P ρ h a o S L/\n a o
structure JD (P:Program) [Tb P] (F:Fd) (c:Code) (n:PostD) (x:Nat->PostD) (a:LO) (o:LQ):Prop where
 k:∀ ρ h S L,Cz P ρ h a o S L->J (F.fr P) c (up P n) (λi=>up P (x i)) S h L
structure JLD (P:Program) [Tb P] (F:Fd) (ops:Array Oper) (n:PostD) (x:Nat->PostD) (l:LR) (a:LO) (o:LQ):Prop where
 k:∀ ρ h S L,Cz P ρ h a o S L->JL (F.fr P) ops (up P n) (λi=>up P (x i)) l S h L
def WkA:LO->LO->Prop
 |[],_=>True
 |(t,x)::r,a=>lkA a t=some x/\WkA r a
def WkO:LQ->LQ->Prop
 |[],_=>True
 |(k,e)::r,o=>lkO o k=some e/\WkO r (delO o k)
theorem WkA.lk {a' a:LO}(h:WkA a' a) {t:Nat}{x:A}(hx:lkA a' t=some x):lkA a t=some x:=by
 induction a' with
 |nil=>cases hx
 |cons y r ih =>
  obtain⟨k,u⟩:=y;simp only [lkA] at hx;cases hb:Nat.beq k t with
  |true =>
   obtain rfl:=aq hb;simp only [hb,cond_true,aB] at hx;subst hx;exact h.1
  |false=>simp only [hb,cond_false] at hx;exact ih h.2 hx
theorem WkO.den {ρ:Rho}{h:Part}:∀ {o' o:LQ}{L:LE},WkO o' o->DenO ρ h o L->∃ L' Lr,Parts L' L Lr/\DenO ρ h o' L'
 |[],o,L,_,_=>⟨[],L,.nil,U⟩
 |(k,e)::r,o,L,hw,hd=>by
  obtain⟨x,L1,h1,h2,h3⟩:=hd.get hw.1;obtain⟨L',Lr,h4,h5⟩:=WkO.den hw.2 h3;exact⟨x::L',Lr,.cons h1 h4,x,L',U,h2,h5⟩
def keepA:List Nat->LO->Option LO
 |[],_=>some []
 |k::r,a=>match lkA a k,keepA r a with
  |some v,some a'=>some ((k,v)::a')
  |_,_=>none
section
variable {P:Program} [Tb P] {F:Fd}{n:PostD}{x:Nat->PostD}{a a':LO}{o o':LQ}{ops:Array Oper}{c d:Code}{l:LR}
theorem Cz.wk {ρ:Rho}{h:Part}{S:Sig}{L:LE}(hA:WkA a' a) (c:Cz P ρ h a o S L):Cz P ρ h a' o S L:=⟨c.t,λt x hx=>c.s t x (hA.lk hx),c.o⟩
theorem Cz.wk2 {ρ:Rho}{h:Part}{S:Sig}{L:LE}(hA:WkA a' a) (hO:WkO o' o) (c:Cz P ρ h a o S L):∃ L' Lr,Parts L' L Lr/\Cz P ρ h a' o' S L':=by
 obtain⟨L',Lr,h1,h2⟩:=hO.den c.o;exact⟨L',Lr,h1,c.t,λt x hx=>c.s t x (hA.lk hx),h2⟩
theorem up_imp {n n':PostD}(hn:∀ a o,n a o->n' a o) (S:Sig) (h:Part) (L:LE) (k:up P n S h L):up P n' S h L:=by
 obtain⟨ρ,a,o,cz,k⟩:=k;exact⟨ρ,a,o,cz,hn _ _ k⟩
theorem JD.cut {n':PostD}{x':Nat->PostD}(k:JD P F c n' x' a o) (hn:∀ a o,n' a o->n a o) (hx:∀ i a o,x' i a o->x i a o):JD P F c n x a o:=.mk λρ h S L cz=>J.cut (k.k ρ h S L cz) (up_imp hn) (λi=>up_imp (hx i))
theorem JD.seq (k:JD P F c (JD P F d n x) x a o):JD P F (.seq c d) n x a o:=.mk λρ h S L cz =>
 az (J.cut (k.k ρ h S L cz) (λS h L ⟨ρ,a,o,cz,k⟩=>k.k ρ h S L cz) (λ_ _ _ _ hh=>hh))
theorem JD.skip (k:n a o):JD P F .skip n x a o:=.mk λρ h S L cz=>aA ⟨ρ,a,o,cz,k⟩
theorem JD.block {id:Nat}(k:JD P F c n (λi=>bif Nat.beq i id then n else x i) a o) (hid:Nat.blt id 1000000=true:=by rfl):JD P F (.block id c) n x a o:=.mk λρ h S L cz =>
 aJ (J.cut (k.k ρ h S L cz) (λ_ _ _ hh=>hh) (λi S h L hh=>by
  cases hb:Nat.beq i id with
  |true=>simpa only [hb,cond_true] using hh
  |false=>simpa only [hb,cond_false] using hh)) hid
theorem JD.exit {i:Nat}(k:x i a o) (hi:Nat.blt i 1000000=true:=by rfl):JD P F (.exit i) n x a o:=.mk λρ h S L cz=>bA ⟨ρ,a,o,cz,k⟩ hi
theorem JD.region {id:Nat}{l:LR}(k:JLD P F l.toArray n x l a o):JD P F (.region id l.toArray false) n x a o:=.mk λρ h S L cz=>J.region (k.k ρ h S L cz)
theorem JLD.nil (k:n a o):JLD P F ops n x [] a o:=.mk λρ h S L cz=>a_ ⟨ρ,a,o,cz,k⟩
def bOf:A->Option Bool
 |.d (.bq b)=>some b
 |.d (.v (.bool b))=>some b
 |_=>none
def lkB (a:LO) (t:Nat):Option Bool:=match lkA a t with
 |some x=>bOf x
 |none=>none
theorem vN {ρ:Rho}{h:Part}{S:Sig}{L:LE}(c:Cz P ρ h a o S L) {t:Nat}{b:Bool}(ht:lkB a t=some b):look S t=some (.bool b):=by
 unfold lkB at ht;split at ht
 ·rename_i y hy;obtain⟨v,h1,h2⟩:=c.s t _ hy;unfold bOf at ht;split at ht<;>cases ht
  ·rw [h1,iT.1 h2]
  ·rw [h1,jy.1 h2]
 ·cases ht
theorem Cz.bool {ρ:Rho}{h:Part}{S:Sig}{L:LE}(c:Cz P ρ h a o S L) {t:Nat}{b b':Bool}(_:lkB a t=some b) (_:b=b'):Cz P ρ h ((t,.d (.v (.bool b')))::a) o ((t,.bool b')::S) L :=
 ⟨c.t,λu y hy=>by
  simp only [lkA,look] at hy |-
  cases hq:Nat.beq t u with
  |true=>simp only [hq,cond_true,aB] at hy |-;subst hy;exact⟨_,U,cj (h:=h)⟩
  |false=>simp only [hq,cond_false] at hy |-;exact c.s u y hy,c.o⟩
variable {b:Bool}{p q:Prop}
theorem Ci {t:Nat}(ht0:lkA a t=some (.d (.bq b))) [s:Sp b p q] (k1:p->JD P F c n x ((t,.d (.v (.bool true)))::a) o) (k2:q->JD P F d n x ((t,.d (.v (.bool false)))::a) o):JD P F (.cond (.tmp t) c d) n x a o:=.mk λρ h S L cz=>by
 have ht:lkB a t=some b:=by simp [lkB,ht0,bOf]
 refine J.bsplit t (vN cz ht) (λhb=>?_) (λhb=>?_)
 ·exact aY (by simp [ev,look]) ((k1 (s.t hb)).k ρ h _ L (cz.bool ht hb))
 ·exact dA (by simp [ev,look]) ((k2 (s.f hb)).k ρ h _ L (cz.bool ht hb))
theorem Ct {t:Nat}(ht:lkA a t=some (.d (.v (.bool true)))) (k:JD P F c n x a o):JD P F (.cond (.tmp t) c d) n x a o:=.mk λρ h S L cz=>aY (vN cz (by simp [lkB,ht,bOf])) (k.k ρ h S L cz)
theorem Cf {t:Nat}(ht:lkA a t=some (.d (.v (.bool false)))) (k:JD P F d n x a o):JD P F (.cond (.tmp t) c d) n x a o:=.mk λρ h S L cz=>dA (vN cz (by simp [lkB,ht,bOf])) (k.k ρ h S L cz)
theorem Cqt {t:Nat}(ht:lkA a t=some (.d (.bq true))) (k:JD P F c n x a o):JD P F (.cond (.tmp t) c d) n x a o:=.mk λρ h S L cz=>aY (vN cz (by simp [lkB,ht,bOf])) (k.k ρ h S L cz)
theorem Cqf {t:Nat}(ht:lkA a t=some (.d (.bq false))) (k:JD P F d n x a o):JD P F (.cond (.tmp t) c d) n x a o:=.mk λρ h S L cz=>dA (vN cz (by simp [lkB,ht,bOf])) (k.k ρ h S L cz)
theorem Bd (t:Nat) (ht:lkB a t=some b) [s:Sp b p q] (k1:p->JLD P F ops n x l ((t,.d (.v (.bool true)))::a) o) (k2:q->JLD P F ops n x l ((t,.d (.v (.bool false)))::a) o):JLD P F ops n x l a o:=.mk λρ h S L cz =>
 JL.bsplit t (vN cz ht) (λhb=>(k1 (s.t hb)).k ρ h _ L (cz.bool ht hb)) (λhb=>(k2 (s.f hb)).k ρ h _ L (cz.bool ht hb))
theorem Lp {γ:Type _}(I:γ->Prop) (t:γ->Nat) (aa:γ->LO) (oo:γ->LQ) (g0:γ) (hI:I g0) (hA:WkA (aa g0) a) (hO:WkO (oo g0) o)
 (round:∀ g,I g->JD P F c (λa' o'=>∃ g',t g'<t g/\I g'/\WkA (aa g') a'/\WkO (oo g') o') x (aa g) (oo g)):JD P F (.loop c) n x a o:=.mk λρ h S L cz ac w s=>by
 obtain⟨L',Lr,h1,h2⟩:=cz.wk2 hA hO;refine lJ (λi ac w=>∃ g S h L,t g=i/\I g/\Sat (F.fr P).e (F.fr P).m S h L ac w/\∃ ρ,Cz P ρ h (aa g) (oo g) S L) ?_ (t g0) ac w ⟨g0,S,h,L',U,hI,s.with (h1.ok w s.ok),ρ,h2⟩;rintro _ ac w ⟨g,S,h,L,rfl,hg,s,ρ,cz⟩;refine wpm ((round g hg).k ρ h S L cz ac w s) (λex a' w' q=>?_);cases ex with
 |normal =>
  obtain⟨S',h',L',s',ρ',a1,o1,cz',g',hlt,hg',hA',hO'⟩:=q;obtain⟨L2,Lr2,h3,h4⟩:=cz'.wk2 hA' hO';exact⟨t g',hlt,g',S',h',L2,U,hg',s'.with (h3.ok w' s'.ok),ρ',h4⟩
 |_=>exact q
end
def Cv (d d':D):Prop:=∀ h v,Den d h v->Den d' h v
def nilD (P:Program) [Tb P] (T:Nat) (d:D):D:=match d with
 |.v (.slice none 0 0)=>match Tb.nl P T with
  |some d'=>d'
  |none=>.v (.slice none 0 0)
 |.v (.bool b)=>.bq b
 |.st l=>match Tb.fo P T l with
  |some r=>r
  |none=>.st l
 |d=>d
theorem gR {P:Program} [Tb P] {T:Nat}{d:D}:Cv d (nilD P T d):=λh v k=>by
 unfold nilD;split
 ·split
  ·rename_i d' hd;rw [dB.1 k];exact Tb.hnl hd h
  ·exact k
 ·rw [dB.1 k];exact(dH (h:=h)).2 U
 ·split
  ·rename_i r hr;obtain⟨cs,rfl,k2⟩:=dS.1 k;exact Tb.hfo hr h cs k2
  ·exact k
 ·exact k
def nilQ (P:Program) [Tb P] (T:Nat) (d:D):Option D:=match d with
 |.v (.slice none 0 0)=>match Tb.nl P T with
  |some d'=>some d'
  |none=>some (.v (.slice none 0 0))
 |.v (.bool b)=>some (.bq b)
 |.st l=>match Tb.fo P T l with
  |some r=>some r
  |none=>some (.st l)
 |d=>some d
theorem rZ {P:Program} [Tb P] {T:Nat}{d d':D}(h:nilQ P T d=some d'):d'=nilD P T d:=by
 unfold nilQ at h;unfold nilD;split at h
 ·split at h<;>cases h<;>simp_all
 ·cases h;rfl
 ·split at h<;>cases h<;>simp_all
 ·rename_i h1 h2 h3;cases h;rfl
def foldQ (P:Program) [Tb P] (T:Nat):List D->Option (List D)
 |[]=>some []
 |d::r=>match nilQ P T d,foldQ P T r with
  |some d',some r'=>some (d'::r')
  |_,_=>none
theorem jt {P:Program} [Tb P] {T:Nat}{h:Part}:∀ {ds ds':List D}{vs:LV},foldQ P T ds=some ds'->DenT ds h vs->DenT ds' h vs
 |[],ds',vs,e,k=>by cases e;exact k
 |d::r,ds',vs,e,k=>by
  simp only [foldQ] at e;split at e<;>cases e;rename_i d' r' h1 h2;unfold DenT at k |-
  obtain⟨v,t,rfl,h3,h4⟩:=k;rw [rZ h1];exact⟨v,t,U,gR h v h3,jt h2 h4⟩
def mx (x y:Nat):Nat:=bif Nat.ble x y then y else x
theorem mx_l (x y:Nat):x<=mx x y:=by
 unfold mx;cases h:Nat.ble x y with
 |true=>exact Nat.le_of_ble_eq_true h
 |false=>exact aL _
theorem mx_r (x y:Nat):y<=mx x y:=by
 unfold mx;cases h:Nat.ble x y with
 |true=>exact aL _
 |false =>
  have:¬ x<=y:=λhh=>by rw [Nat.ble_eq_true_of_le hh] at h;cases h
  show y<=x;omega
def kA:A->Nat
 |.own k _=>k+1
 |.row k=>k+1
 |.recr _ k=>k+1
 |.mp k=>k+1
 |_=>0
def topL:List A->Nat
 |[]=>0
 |x::r=>mx (kA x) (topL r)
def topA:LO->Nat
 |[]=>0
 |(_,x)::r=>mx (kA x) (topA r)
def kE:OE->Nat
 |.var _ cs=>topL cs
 |.rowv v _ _=>v+1
 |.pin v _=>v+1
 |_=>0
def topO:LQ->Nat
 |[]=>0
 |(k,e)::r=>mx (mx (k+1) (kE e)) (topO r)
def litG:Nat->List (Option Nat)->Option Nat
 |_,[]=>none
 |0,y::_=>y
 |n+1,_::r=>litG n r
def litN (n:Nat):Option Nat:=litG n [some 0,some 1,some 2,some 3,some 4,some 5,some 6,some 7,some 8,some 9,some 10,some 11,some 12,some 13,some 14,some 15,some 16,some 17,some 18,some 19,some 20,some 21,some 22,some 23,some 24,some 25,some 26,some 27,some 28,some 29,some 30,some 31]
theorem u6:∀ {l:List (Option Nat)}{n k:Nat},litG n l=some k->l[n]?=some (some k)
 |[],n,k,h=>by cases n<;>cases h
 |y::r,0,k,h=>by simp only [litG] at h;subst h;rfl
 |y::r,n+1,k,h=>by simp only [litG] at h;simpa using u6 h
theorem litN_ok {n k:Nat}(h:litN n=some k):k=n:=by
 have h1:=u6 h;have h2:n<32:=by have:=(List.getElem?_eq_some_iff.1 h1).1;simpa using this
 have h3:∀ m,m<32->litN m=some m:=by decide
 rw [h3 n h2] at h;cases h;rfl
def tGA:Nat->List A->Nat
 |c,[]=>c
 |c,.own k _::r=>match Nat.ble c k with
  |true=>tGA (k+1) r
  |false=>tGA c r
 |c,.row k::r=>match Nat.ble c k with
  |true=>tGA (k+1) r
  |false=>tGA c r
 |c,.recr _ k::r=>match Nat.ble c k with
  |true=>tGA (k+1) r
  |false=>tGA c r
 |c,.mp k::r=>match Nat.ble c k with
  |true=>tGA (k+1) r
  |false=>tGA c r
 |c,_::r=>tGA c r
def tGS:Nat->LO->Nat
 |c,[]=>c
 |c,(_,.own k _)::r=>match Nat.ble c k with
  |true=>tGS (k+1) r
  |false=>tGS c r
 |c,(_,.row k)::r=>match Nat.ble c k with
  |true=>tGS (k+1) r
  |false=>tGS c r
 |c,(_,.recr _ k)::r=>match Nat.ble c k with
  |true=>tGS (k+1) r
  |false=>tGS c r
 |c,(_,.mp k)::r=>match Nat.ble c k with
  |true=>tGS (k+1) r
  |false=>tGS c r
 |c,_::r=>tGS c r
def tGO:Nat->LQ->Nat
 |c,[]=>c
 |c,(k,.var _ l)::r=>match Nat.ble c k with
  |true=>tGO (tGA (k+1) l) r
  |false=>tGO (tGA c l) r
 |c,(k,.rowv v _ _)::r=>match Nat.ble c k with
  |true=>match Nat.ble (k+1) v with
   |true=>tGO (v+1) r
   |false=>tGO (k+1) r
  |false=>match Nat.ble c v with
   |true=>tGO (v+1) r
   |false=>tGO c r
 |c,(k,.pin v _)::r=>match Nat.ble c k with
  |true=>match Nat.ble (k+1) v with
   |true=>tGO (v+1) r
   |false=>tGO (k+1) r
  |false=>match Nat.ble c v with
   |true=>tGO (v+1) r
   |false=>tGO c r
 |c,(k,_)::r=>match Nat.ble c k with
  |true=>tGO (k+1) r
  |false=>tGO c r
theorem gp (x y:Nat):mx x y=max x y:=by
 unfold mx;cases h:Nat.ble x y with
 |true=>have:=Nat.le_of_ble_eq_true h;simp;omega
 |false =>
  have:¬ x<=y:=λhh=>by rw [Nat.ble_eq_true_of_le hh] at h;cases h
  simp;omega
theorem tG_s (c k:Nat):(match Nat.ble c k with|true=>k+1|false=>c)=max c (k+1):=by
 cases h:Nat.ble c k with
 |true=>have:=Nat.le_of_ble_eq_true h;simp;omega
 |false =>
  have:¬ c<=k:=λhh=>by rw [Nat.ble_eq_true_of_le hh] at h;cases h
  simp;omega
theorem lP:∀ (l:List A) (c:Nat),tGA c l=max c (topL l)
 |[],c=>by simp [tGA,topL]
 |x::r,c=>by
  cases x with
  |d d=>simp [tGA,topL,kA,gp,lP r]
  |any=>simp [tGA,topL,kA,gp,lP r]
  |own k f=>have:=tG_s c k;simp only [tGA,topL,kA,gp];split<;>(rename_i h;rw [h] at this;rw [lP r];simp only at this;omega)
  |row k=>have:=tG_s c k;simp only [tGA,topL,kA,gp];split<;>(rename_i h;rw [h] at this;rw [lP r];simp only at this;omega)
  |mp k=>have:=tG_s c k;simp only [tGA,topL,kA,gp];split<;>(rename_i h;rw [h] at this;rw [lP r];simp only at this;omega)
  |recr l k=>have:=tG_s c k;simp only [tGA,topL,kA,gp];split<;>(rename_i h;rw [h] at this;rw [lP r];simp only at this;omega)
theorem lO:∀ (l:LO) (c:Nat),tGS c l=max c (topA l)
 |[],c=>by simp [tGS,topA]
 |(i,x)::r,c=>by
  cases x with
  |d d=>simp [tGS,topA,kA,gp,lO r]
  |any=>simp [tGS,topA,kA,gp,lO r]
  |own k f=>have:=tG_s c k;simp only [tGS,topA,kA,gp];split<;>(rename_i h;rw [h] at this;rw [lO r];simp only at this;omega)
  |row k=>have:=tG_s c k;simp only [tGS,topA,kA,gp];split<;>(rename_i h;rw [h] at this;rw [lO r];simp only at this;omega)
  |mp k=>have:=tG_s c k;simp only [tGS,topA,kA,gp];split<;>(rename_i h;rw [h] at this;rw [lO r];simp only at this;omega)
  |recr l k=>have:=tG_s c k;simp only [tGS,topA,kA,gp];split<;>(rename_i h;rw [h] at this;rw [lO r];simp only at this;omega)
theorem g8:∀ (l:LQ) (c:Nat),tGO c l=max c (topO l)
 |[],c=>by simp [tGO,topO]
 |(k,x)::r,c=>by
  have:=tG_s c k;cases x with
  |var t l=>simp only [tGO,topO,kE,gp];split<;>(rename_i h;rw [h] at this;rw [g8 r,lP];simp only at this;omega)
  |whl t d=>simp only [tGO,topO,kE,gp];split<;>(rename_i h;rw [h] at this;rw [g8 r];simp only at this;omega)
  |rowv v t d =>
   clear this;simp only [tGO,topO,kE,gp];have no:∀ {x y:Nat},Nat.ble x y=false->¬ x<=y:=λh hh=>by rw [Nat.ble_eq_true_of_le hh] at h;cases h
   cases hk:Nat.ble c k with
   |true =>
    have:=Nat.le_of_ble_eq_true hk;dsimp only;cases hv:Nat.ble (k+1) v with
    |true=>have:=Nat.le_of_ble_eq_true hv;dsimp only;rw [g8 r];omega
    |false=>have:=no hv;dsimp only;rw [g8 r];omega
   |false =>
    have:=no hk;dsimp only;cases hv:Nat.ble c v with
    |true=>have:=Nat.le_of_ble_eq_true hv;dsimp only;rw [g8 r];omega
    |false=>have:=no hv;dsimp only;rw [g8 r];omega
  |pin v b =>
   clear this;simp only [tGO,topO,kE,gp];have no:∀ {x y:Nat},Nat.ble x y=false->¬ x<=y:=λh hh=>by rw [Nat.ble_eq_true_of_le hh] at h;cases h
   cases hk:Nat.ble c k with
   |true =>
    have:=Nat.le_of_ble_eq_true hk;dsimp only;cases hv:Nat.ble (k+1) v with
    |true=>have:=Nat.le_of_ble_eq_true hv;dsimp only;rw [g8 r];omega
    |false=>have:=no hv;dsimp only;rw [g8 r];omega
   |false =>
    have:=no hk;dsimp only;cases hv:Nat.ble c v with
    |true=>have:=Nat.le_of_ble_eq_true hv;dsimp only;rw [g8 r];omega
    |false=>have:=no hv;dsimp only;rw [g8 r];omega
  |set es=>simp only [tGO,topO,kE,gp];split<;>(rename_i h;rw [h] at this;rw [g8 r];simp only at this;omega)
  |row t d=>simp only [tGO,topO,kE,gp];split<;>(rename_i h;rw [h] at this;rw [g8 r];simp only at this;omega)
def nextK (a:LO) (o:LQ):Option Nat:=litN (tGO (tGS 0 a) o)
theorem om {a:LO}{o:LQ}{k:Nat}(h:nextK a o=some k):k=mx (topA a) (topO o):=by
 rw [litN_ok h,g8,lO,gp];omega
def Rho.setB (ρ:Rho) (k b:Nat):Rho:=⟨λi=>if i=k then b else ρ.b i,ρ.a,ρ.c,ρ.n⟩
def Rho.setR (ρ:Rho) (k:Nat) (a:OA) (c n:Nat):Rho:=⟨ρ.b,λi=>if i=k then a else ρ.a i,λi=>if i=k then c else ρ.c i,λi=>if i=k then n else ρ.n i⟩
def Rho.eqv (ρ ρ':Rho) (k:Nat):Prop:=∀ i,i<k->ρ.b i=ρ'.b i/\ρ.a i=ρ'.a i/\ρ.c i=ρ'.c i/\ρ.n i=ρ'.n i
theorem Rho.eqv_setB (ρ:Rho) (k b:Nat):ρ.eqv (ρ.setB k b) k:=λi hi=>⟨by simp [Rho.setB,show i≠k by omega],U,U,U⟩
theorem Rho.eqv_setR (ρ:Rho) (k:Nat) (a:OA) (c n:Nat):ρ.eqv (ρ.setR k a c n) k:=λi hi=>⟨U,by simp [Rho.setR,show i≠k by omega],by simp [Rho.setR,show i≠k by omega],by simp [Rho.setR,show i≠k by omega]⟩
section
variable {ρ ρ':Rho}{h:Part}{k:Nat}
theorem DenA.eqv (q:ρ.eqv ρ' k) {x:A}{v:Value}(hk:kA x<=k) (d:DenA ρ h x v):DenA ρ' h x v:=by
 cases x with
 |d d'=>exact d
 |own i off=>obtain⟨e,_⟩:=q i (by simp only [kA] at hk;omega);simp only [DenA] at d |-;rw [<- e];exact d
 |row i=>obtain⟨_,e1,e2,e3⟩:=q i (by simp only [kA] at hk;omega);simp only [DenA] at d |-;rw [<- e1,<- e2,<- e3];exact d
 |recr l i=>obtain⟨_,e1,e2,e3⟩:=q i (by simp only [kA] at hk;omega);simp only [DenA] at d |-;rw [<- e1,<- e2,<- e3];exact d
 |mp i=>obtain⟨e,_⟩:=q i (by simp only [kA] at hk;omega);simp only [DenA] at d |-;rw [<- e];exact d
 |any=>trivial
theorem DenAL.eqv (q:ρ.eqv ρ' k):∀ {l:List A}{cs:LV},topL l<=k->DenAL ρ h l cs->DenAL ρ' h l cs
 |[],cs,_,d=>d
 |x::r,cs,hk,⟨v,t,e,h1,h2,h3⟩=>by
  simp only [topL] at hk;exact⟨v,t,e,h1,h2.eqv q (Nat.le_trans (mx_l _ _) hk),DenAL.eqv q (Nat.le_trans (mx_r _ _) hk) h3⟩
theorem DenE.eqv (q:ρ.eqv ρ' k) {i:Nat}{e:OE}{x:Ent}(hi:i<k) (hk:kE e<=k) (d:DenE ρ h i e x):DenE ρ' h i e x:=by
 obtain⟨e1,e2,e3,e4⟩:=q i hi;cases e with
 |var t cs=>obtain⟨vs,rfl,hv⟩:=d;exact⟨vs,by rw [e1],hv.eqv q hk⟩
 |whl t d'=>obtain⟨vs,rfl,hv⟩:=d;exact⟨vs,by rw [e1],hv⟩
 |row t d'=>obtain⟨xs,sz,rfl,hv⟩:=d;exact⟨xs,sz,by rw [e2,e3,e4],by rw [<- e4];exact hv⟩
 |rowv v t d' =>
  obtain⟨_,g2,g3,g4⟩:=q v (by simp only [kE] at hk;omega);obtain⟨xs,sz,rfl,hv⟩:=d;exact⟨xs,sz,by rw [g2,g3,g4],by rw [<- g4];exact hv⟩
 |pin v b=>obtain⟨g1,_⟩:=q v (by simp only [kE] at hk;omega);exact⟨by rw [<- g1];exact d.1,d.2⟩
 |set es=>obtain⟨arr,cl,rfl,hv⟩:=d;exact⟨arr,cl,by rw [e1],hv⟩
theorem DenO.eqv (q:ρ.eqv ρ' k):∀ {o:LQ}{L:LE},topO o<=k->DenO ρ h o L->DenO ρ' h o L
 |[],L,_,d=>d
 |(i,e)::r,L,hk,⟨x,L',e1,h1,h2⟩=>by
  simp only [topO] at hk;have a1:=mx_l (mx (i+1) (kE e)) (topO r);have a2:=mx_r (mx (i+1) (kE e)) (topO r);have a3:=mx_l (i+1) (kE e);have a4:=mx_r (i+1) (kE e);exact⟨x,L',e1,h1.eqv q z2_ z2_,DenO.eqv q z2_ h2⟩
theorem rh {a:LO}{t:Nat}{x:A}(hx:lkA a t=some x):kA x<=topA a:=by
 induction a with
 |nil=>cases hx
 |cons y r ih =>
  obtain⟨i,u⟩:=y;simp only [lkA,topA] at hx |-;cases hb:Nat.beq i t with
  |true=>simp only [hb,cond_true,aB] at hx;subst hx;exact mx_l _ _
  |false=>simp only [hb,cond_false] at hx;exact Nat.le_trans (ih hx) (mx_r _ _)
theorem Cz.eqv {P:Program} [Tb P] {a:LO}{o:LQ}{S:Sig}{L:LE}(hk:nextK a o=some k) (q:ρ.eqv ρ' k) (c:Cz P ρ h a o S L):Cz P ρ' h a o S L:=by
 have e:=om hk;have h1:=mx_l (topA a) (topO o);have h2:=mx_r (topA a) (topO o);exact⟨c.t,λt x hx=>by
  obtain⟨v,h3,h4⟩:=c.s t x hx;exact⟨v,h3,h4.eqv q (by have:=rh hx;omega)⟩,c.o.eqv q z2_⟩
end
def aOf:List D->Option (List A)
 |[]=>some []
 |d::r=>match aOf r with
  |some l=>some (.d d::l)
  |none=>none
theorem gY {ρ:Rho}{h:Part}:∀ {l:List D}{l':List A}{cs:LV},aOf l=some l'->DenL l h cs->DenAL ρ h l' cs
 |[],l',cs,e,k=>by cases e;unfold DenL at k;exact k
 |d::r,l',cs,e,k=>by
  simp only [aOf] at e;split at e<;>cases e;rename_i l hl;unfold DenL at k;obtain⟨v,t,rfl,h1,h2,h3⟩:=k;exact⟨v,t,U,h1,h2,gY hl h3⟩
theorem aOf_len:∀ {l:List D}{l':List A},aOf l=some l'->l'.length=l.length
 |[],l',e=>by cases e;rfl
 |d::r,l',e=>by
  simp only [aOf] at e;split at e<;>cases e;rename_i l hl;simp [aOf_len hl]
theorem DenAL.app {ρ:Rho}{h:Part}:∀ {l l':List A}{c c':LV},DenAL ρ h l c->DenAL ρ h l' c'->DenAL ρ h (l++l') (c++c')
 |[],l',c,c',k,k'=>by simp only [DenAL] at k;subst k;exact k'
 |y::r,l',c,c',⟨v,t,e,k1,k2,k3⟩,k'=>by subst e;exact⟨v,t++c',U,k1,k2,DenAL.app k3 k'⟩
def setG {α:Type _}:List α->Nat->α->Option (List α)
 |_::r,0,x=>some (x::r)
 |y::r,i+1,x=>match setG r i x with
  |some l=>some (y::l)
  |none=>none
 |[],_,_=>none
theorem rq {α:Type _}:∀ {l l':List α}{i:Nat}{x:α},setG l i x=some l'->i<l.length/\l'=l.set i x
 |y::r,l',0,x,h=>by simp only [setG,aB] at h;subst h;simp
 |y::r,l',i+1,x,h=>by
  simp only [setG] at h;split at h<;>cases h;rename_i l hl;obtain⟨h1,h2⟩:=rq hl;subst h2;simp;omega
 |[],l',i,x,h=>by cases i<;>simp [setG] at h
theorem DenAL.set {ρ:Rho}{h:Part}{x:A}{v:Value}(h1:v.oneCell'=true) (h2:DenA ρ h x v):∀ {l:List A}{cs:LV}{i:Nat},DenAL ρ h l cs->DenAL ρ h (l.set i x) (cs.set i v)
 |[],cs,i,k=>by simp only [DenAL] at k;subst k;simp [DenAL]
 |y::r,cs,0,⟨u,t,e,k1,k2,k3⟩=>by subst e;exact⟨v,t,U,h1,h2,k3⟩
 |y::r,cs,i+1,⟨u,t,e,k1,k2,k3⟩=>by subst e;exact⟨u,_,U,k1,k2,DenAL.set h1 h2 k3⟩
def oneA:A->Bool
 |.d d=>oneD d
 |.own _ _=>true
 |.row _=>true
 |.recr _ _=>false
 |.mp _=>true
 |.any=>false
theorem oneA_ok {ρ:Rho}{x:A}{h:Part}{v:Value}(hd:oneA x=true) (k:DenA ρ h x v):v.oneCell'=true:=by
 cases x with
 |d d=>exact rU hd k
 |own i f=>cases k;rfl
 |row i=>cases k;rfl
 |recr l i=>cases hd
 |mp i=>cases k;rfl
 |any=>cases hd
def gdA (ops:Array Oper) (a:LO):Option (Nat×Bool)->Option Bool
 |none=>some true
 |some (j,b)=>match dst1 ops.toList j with
  |some dj=>match lkA a dj with
   |some (.d (.v u))=>gd (some u) b
   |_=>none
  |none=>none
def evsA (a:LO):Nat->List (Nat×Operand)->Option (List D)
 |_,[]=>some []
 |i,(j,x)::r=>bif Nat.beq i j then match evA a x,evsA a (i+1) r with
  |some (.d d),some l=>some (d::l)
  |_,_=>none else none
def ndsOf:List D->Option LN
 |[]=>some []
 |.nd n::r=>match ndsOf r with
  |some l=>some (n::l)
  |none=>none
 |_=>none
def bsOf:List D->Option LB
 |[]=>some []
 |.v (.int .u8 (.ofNat n))::r=>match bsOf r with
  |some l=>bif Nat.blt n 256 then some (UInt8.ofNat n::l) else none
  |none=>none
 |_=>none
def strE (s:LB):List D:=[.v (.string ⟨s.toArray⟩)]
def strsOf:List D->Option (List LB)
 |[]=>some []
 |.v (.string ⟨⟨s⟩⟩)::r=>match strsOf r with
  |some l=>some (s::l)
  |none=>none
 |_=>none
def litD:List D->Option D
 |.nd n::r=>match ndsOf (.nd n::r) with
  |some l=>some (.nds l)
  |none=>none
 |.v (.int k i)::r=>match bsOf (.v (.int k i)::r) with
  |some l=>some (.bs l)
  |none=>none
 |.v (.string s)::r=>match strsOf (.v (.string s)::r) with
  |some l=>some (.sl 1 strE l)
  |none=>none
 |_=>none
def litQ (P:Program) [Tb P] (ds:List D):Option D:=match litD ds with
 |some d=>some d
 |none=>Tb.lt P ds
def mem2 (P:Program) [Tb P] (a:LO) (k:Nat):Op->Option (A×OE)
 |.alloc T=>match Tb.zr P T with
  |some zs=>match aOf zs with
   |some cs=>some (.own k 0,.var T cs)
   |none=>none
  |none=>none
 |.box T x=>match evA a x with
  |some (.d d)=>match cellsD d with
   |some _=>some (.own k 0,.whl T d)
   |none=>bif oneD d then some (.own k 0,.var T [.d d]) else none
  |some (.recr l j)=>match aOf l with
   |some la=>some (.own k 0,.var T (la++[.row j]))
   |none=>none
  |some u=>bif oneA u then some (.own k 0,.var T [u]) else none
  |none=>none
 |.buildSlice T len ps=>match evsA a 0 ps.toList with
  |some ds=>match findP (Tb.ap P) T with
   |some (e,sz,_)=>match foldQ P e ds with
    |some ds'=>match litQ P ds' with
     |some d=>bif Nat.beq sz (szD d) then bif Nat.beq len ds.length then bif Nat.ble (len*sz) 16777216 then some (.row k,.row e d) else none else none else none
     |none=>none
    |none=>none
   |none=>none
  |none=>none
 |_=>none
def stoE (P:Program) [Tb P] (T t:Nat) (cs:List A) (off:Nat) (u:A):Option OE :=
 match findA (Tb.ag P) T with
 |some none=>bif oneA u then match setG cs off u with
  |some cs'=>some (.var t cs')
  |none=>none else none
 |some (some sz)=>match u with
  |.d d=>match cellsD d with
   |some l=>bif Nat.beq l.length sz then bif Nat.beq cs.length sz then bif Nat.beq off 0 then some (.whl t d) else none else match aOf l with
    |some la=>match splG cs off la with
     |some cs'=>some (.var t cs')
     |none=>none
    |none=>none
    else none
   |none=>none
  |.recr l j=>bif Nat.beq (l.length+1) sz then bif Nat.beq cs.length sz then bif Nat.beq off 0 then match aOf l with
   |some la=>some (.var t (la++[.row j]))
   |none=>none
   else none else none else none
  |_=>none
 |none=>none
def stoX (P:Program) [Tb P] (a:LO) (o:LQ) (T:Nat) (x y:Operand):Option (Nat×OE) :=
 match evA a x,evA a y with
 |some (.own k off),some u=>match lkO o k with
  |some (.var t cs)=>match stoE P T t cs off u with
   |some e=>some (k,e)
   |none=>none
  |some (.whl t d)=>match cellsD d with
   |some l=>match aOf l with
    |some cs=>match stoE P T t cs off u with
     |some e=>some (k,e)
     |none=>none
    |none=>none
   |none=>none
  |_=>none
 |_,_=>none
def delQ:LQ->Nat->Option LQ
 |[],_=>some []
 |(k,x)::r,t=>bif Nat.beq k t then some r else match delQ r t with
  |some r'=>some ((k,x)::r')
  |none=>none
theorem gv:∀ {o o':LQ}{k:Nat},delQ o k=some o'->o'=delO o k
 |[],o',k,h=>by cases h;rfl
 |(i,x)::r,o',k,h=>by
  simp only [delQ,delO] at h |-
  cases hb:Nat.beq i k with
  |true=>rw [hb,cond_true] at h;cases h;rfl
  |false =>
   rw [hb,cond_false] at h;split at h<;>cases h;rename_i r' hr;rw [gv hr];rfl
def mkQ:Op->Bool
 |.alloc _=>true
 |.box _ _=>true
 |.buildSlice _ _ _=>true
 |_=>false
def stp2 (P:Program) [Tbl P] [Tb P] (m:Nat) (ops:Array Oper) (a:LO) (o:LQ):Oper->Option (LO×LQ)
 |⟨some d,q,_,_,_,g⟩=>match gdA ops a g with
  |some true=>bif Nat.blt d m then match val2 P a o q with
   |some u=>some ((d,u)::a,o)
   |none=>match g,mkQ q with
    |none,true=>match nextK a o with
     |some k=>match mem2 P a k q with
      |some (u,e)=>some ((d,u)::a,(k,e)::o)
      |none=>none
     |none=>none
    |_,_=>none
   else none
  |some false=>bif Nat.blt d m then some ((d,.d (.v undef))::a,o) else none
  |none=>none
 |⟨none,.store T x y,_,_,_,none⟩=>match stoX P a o T x y with
  |some (k,e)=>match delQ o k with
   |some o'=>some (a,(k,e)::o')
   |none=>none
  |none=>none
 |_=>none
def run2 (P:Program) [Tbl P] [Tb P] (m:Nat) (ops:Array Oper):Nat->LO->LQ->LR->Option ((LO×LQ)×LR)
 |0,a,o,l=>some ((a,o),l)
 |k+1,a,o,q::l=>match stp2 P m ops a o q with
  |some (a',o')=>run2 P m ops k a' o' l
  |none=>none
 |_+1,_,_,[]=>none
def runA (P:Program) [Tbl P] [Tb P] (m:Nat) (ops:Array Oper):LO->LQ->LR->Option ((LO×LQ)×LR)
 |a,o,[]=>some ((a,o),[])
 |a,o,q::l=>match stp2 P m ops a o q with
  |some (a',o')=>runA P m ops a' o' l
  |none=>some ((a,o),q::l)
section
variable {P:Program} [Tb P] {F:Fd}{n:PostD}{x:Nat->PostD}{a a':LO}{o o':LQ}{ops:Array Oper}{rest:LR}
variable {d:Nat}{q:Op}{ty:TypeId}{pos:String}{af:Array Edge}{g:Option (Nat×Bool)}{u:A}
theorem Cz.put {ρ:Rho}{h:Part}{S:Sig}{L:LE}(c:Cz P ρ h a o S L) {v:Value}(hv:DenA ρ h u v) (d:Nat):Cz P ρ h ((d,u)::a) o ((d,v)::S) L :=
 ⟨c.t,λt y hy=>by
  simp only [lkA,look] at hy |-
  cases hq:Nat.beq d t with
  |true=>simp only [hq,cond_true,aB] at hy |-;subst hy;exact⟨v,U,hv⟩
  |false=>simp only [hq,cond_false] at hy |-;exact c.s t y hy,c.o⟩
abbrev eI:=@Cz.put
theorem gdA_t {ρ:Rho}{h:Part}{S:Sig}{L:LE}(c:Cz P ρ h a o S L) (hg:gdA ops a g=some true):g=none\/∃ j dj b,g=some (j,b)/\(ops[j]?).bind (·.dst)=some dj/\look S dj=some (.bool b):=by
 unfold gdA at hg;split at hg
 ·exact .inl U
 ·rename_i j b;split at hg
  ·rename_i dj hj;rw [iR,Array.getElem?_toList] at hj;split at hg
   ·rename_i v hl;obtain⟨w,h1,h2⟩:=c.s _ _ hl;have:=gd_t hg;cases this;rw [jy.1 h2] at h1;exact .inr ⟨j,dj,b,U,hj,h1⟩
   ·cases hg
  ·cases hg
theorem gdA_f {ρ:Rho}{h:Part}{S:Sig}{L:LE}(c:Cz P ρ h a o S L) (hg:gdA ops a g=some false):∃ j dj b,g=some (j,b)/\(ops[j]?).bind (·.dst)=some dj/\(look S dj=some (.bool (!b))\/∃ vs,look S dj=some (.tuple vs)):=by
 unfold gdA at hg;split at hg
 ·cases hg
 ·rename_i j b;split at hg
  ·rename_i dj hj;rw [iR,Array.getElem?_toList] at hj;split at hg
   ·rename_i v hl;obtain⟨w,h1,h2⟩:=c.s _ _ hl;rw [jy.1 h2] at h1;refine⟨j,dj,b,U,hj,?_⟩;rcases gd_f hg with hh|⟨vs,hh⟩
    ·cases hh;exact .inl h1
    ·cases hh;exact .inr ⟨vs,h1⟩
   ·cases hg
  ·cases hg
theorem JLD.val (hg:gdA ops a g=some true) (hv:∀ ρ h S L,Cz P ρ h a o S L->∃ v,RunV (F.fr P) S h L q ty v/\DenA ρ h u v) (hd:Nat.blt d F.m=true) (k:JLD P F ops n x rest ((d,u)::a) o) :
 JLD P F ops n x (⟨some d,q,ty,pos,af,g⟩::rest) a o:=.mk λρ h S L cz=>by
 obtain⟨v,h1,h2⟩:=hv ρ h S L cz;rcases gdA_t cz hg with rfl|⟨j,dj,b,rfl,h3,h4⟩
 ·exact ah h1 hd (k.k ρ h _ L (cz.put h2 d))
 ·exact aQ h3 h4 h1 hd (k.k ρ h _ L (cz.put h2 d))
theorem JLD.no (hg:gdA ops a g=some false) (hd:Nat.blt d F.m=true) (k:JLD P F ops n x rest ((d,.d (.v undef))::a) o):JLD P F ops n x (⟨some d,q,ty,pos,af,g⟩::rest) a o:=.mk λρ h S L cz=>by
 obtain⟨j,dj,b,rfl,h3,h4⟩:=gdA_f cz hg;exact JL.skipx h3 h4 hd (k.k ρ h _ L (cz.put (u:=.d (.v undef)) (v:=undef) (jy.2 U) d))
theorem Bg {j dj:Nat}{gb b:Bool}{p q:Prop}{dd:Option Nat}{qq:Op}(hj:dst1 ops.toList j=some dj) (ht:lkA a dj=some (.d (.bq b))) [s:Sp b p q]
 (k1:p->JLD P F ops n x (⟨dd,qq,ty,pos,af,some (j,gb)⟩::rest) ((dj,.d (.v (.bool true)))::a) o) (k2:q->JLD P F ops n x (⟨dd,qq,ty,pos,af,some (j,gb)⟩::rest) ((dj,.d (.v (.bool false)))::a) o):JLD P F ops n x (⟨dd,qq,ty,pos,af,some (j,gb)⟩::rest) a o:=Bd (b:=b) dj (by simp [lkB,ht,bOf]) k1 k2
theorem Bp {t:Nat}{b:Bool}{p q:Prop}{d:Nat}{y z:Operand}{g:Option (Nat×Bool)}(ht:lkA a t=some (.d (.bq b))) [s:Sp b p q]
 (k1:p->JLD P F ops n x (⟨some d,.pick (.tmp t) y z,ty,pos,af,g⟩::rest) ((t,.d (.v (.bool true)))::a) o) (k2:q->JLD P F ops n x (⟨some d,.pick (.tmp t) y z,ty,pos,af,g⟩::rest) ((t,.d (.v (.bool false)))::a) o):JLD P F ops n x (⟨some d,.pick (.tmp t) y z,ty,pos,af,g⟩::rest) a o:=Bd (b:=b) t (by simp [lkB,ht,bOf]) k1 k2
theorem Cz.own {ρ:Rho}{h:Part}{S:Sig}{L:LE}{k b t:Nat}{vs:LV}{e:OE}(hk:nextK a o=some k) (c:Cz P ρ h a o S L) (he:DenE (ρ.setB k b) h k e (.blk b t vs)):Cz P (ρ.setB k b) h a ((k,e)::o) S (.blk b t vs::L):=by
 have c':=c.eqv hk (ρ.eqv_setB k b);exact⟨c'.t,c'.s,_,L,U,he,c'.o⟩
theorem gK (ρ:Rho) (k b:Nat):(ρ.setB k b).b k=b:=by simp [Rho.setB]
theorem vE {T k:Nat}{zs:List D}{cs:List A}(hk:nextK a o=some k) (hz:Tb.zr P T=some zs) (hc:aOf zs=some cs) (hd:Nat.blt d F.m=true) (kk:JLD P F ops n x rest ((d,.own k 0)::a) ((k,.var T cs)::o)) :
 JLD P F ops n x (⟨some d,.alloc T,ty,pos,af,none⟩::rest) a o:=.mk λρ h S L cz=>by
 obtain⟨zv,h1,h2⟩:=Tb.hzr hz;refine bI h1 hd (λb=>?_);refine kk.k (ρ.setB k b) h _ _ ((cz.own (e:=.var T cs) (vs:=zv) (t:=T) hk ⟨zv,by rw [gK],gY hc (h2 h)⟩).put ?_ d);show _=_;rw [gK]
theorem lm {T k:Nat}{y:Operand}{e:OE}(hk:nextK a o=some k) (hy:evA a y=some u) (he:∀ ρ h v,DenA ρ h u v->kA u<=k->∃ vs:LV,v.cells=vs.toArray/\∀ b,DenE (ρ.setB k b) h k e (.blk b T vs)) (hd:Nat.blt d F.m=true) (kk:JLD P F ops n x rest ((d,.own k 0)::a) ((k,e)::o)) :
 JLD P F ops n x (⟨some d,.box T y,ty,pos,af,none⟩::rest) a o:=.mk λρ h S L cz=>by
 obtain⟨v,h1,h2⟩:=cE cz hy;have hku:kA u<=k:=by
  have e0:=om hk;have e1:=mx_l (topA a) (topO o);cases y with
  |tmp t=>have:=rh (a:=a) (t:=t) hy;omega
  |const c=>simp only [evA,aB] at hy;subst hy;exact Nat.zero_le _
  |global c=>simp only [evA] at hy;split at hy<;>cases hy;exact Nat.zero_le _
  |func c=>simp only [evA] at hy;split at hy<;>cases hy;exact Nat.zero_le _
 obtain⟨vs,h3,h4⟩:=he ρ h v h2 hku;refine dh h1 h3 hd (λb=>?_);refine kk.k (ρ.setB k b) h _ _ ((cz.own hk (h4 b)).put ?_ d);show _=_;rw [gK]
end
def partsV:Nat->LV->List (Nat×Value)
 |_,[]=>[]
 |k,c::r=>(k,c)::partsV (k+1) r
theorem qs (sz:Nat):∀ (vs:LV) (A Z:LV) (k:Nat),A.length=k*sz->Z.length=vs.length*sz->(∀ c∈vs,c.cells.toList.length=sz) ->
 Instr.fill (λi=>some (i*sz,sz)) (A++Z).toArray (partsV k vs)=some (A++(vs.map (·.cells.toList)).flatten).toArray
 |[],A,Z,k,_,hZ,_=>by
  have:Z=[]:=List.eq_nil_of_length_eq_zero (by simpa using hZ);subst this;rfl
 |v::r,A,Z,k,hA,hZ,hc=>by
  have hc0:v.cells.toList.length=sz:=hc v (aK ..);generalize hcl:v.cells.toList=c at hc0;have hcs:v.cells.size=sz:=by rw [<- hc0,<- hcl];rfl
  simp only [aC,Nat.add_mul,Nat.one_mul] at hZ;have key:=gt (k*sz) c (Z.take sz) A (Z.drop sz) 0 (by simpa using hA) (by simp;omega);have ih:=qs sz r (A++c) (Z.drop sz) (k+1) (by simp [Nat.add_mul];omega) (by simp;omega) (λc' hc'=>hc c' (aP _ hc'));have hAZ:A++Z.take sz++Z.drop sz=A++Z:=by rw [List.append_assoc,List.take_append_drop]
  rw [hAZ] at key;have e2:A++((v::r).map (·.cells.toList)).flatten=A++c++(r.map (·.cells.toList)).flatten:=by simp [<- hcl]
  rw [e2,<- ih,<- key,partsV];simp only [Instr.fill,hcs,List.size_toArray,aU,ne_eq,not_true_eq_false,decide_false,Bool.false_or,gt_iff_lt,show ¬ A.length+Z.length<k*sz+sz by omega,c_,if_false];rw [<- hcl,<- Array.toList_zipIdx,Array.foldl_toList]
section
variable {f:Fr}{n:Post}{x:Nat->Post}{S:Sig}{h:Part}{L L':LE}{ops:Array Oper}{rest:LR}
variable {ty:TypeId}{pos:String}{af:Array Edge}{d:Nat}{v:Value}{T:TypeId}{xo yo:Operand}
theorem JL.litG (vs:LV) {e sz bytes len:Nat}{ps:List (Nat×Operand)}(hT:apT f.P T=some (e,sz,bytes)) (hp:evs S ps=some (partsV 0 vs)) (hlen:len=vs.length) (hl:∀ c∈vs,c.cells.toList.length=sz) (hsz:Nat.ble (len*sz) 16777216=true) (hsz0:0<len*sz) (hd:Nat.blt d f.m=true)
 (k:∀ b,JL f ops n x rest ((d,.slice (some ⟨b,0,none⟩) len len)::S) h (.blk b e (vs.map (·.cells.toList)).flatten::L)) :
 JL f ops n x (⟨some d,.buildSlice T len ps.toArray,ty,pos,af,none⟩::rest) S h L:=λa w s=>by
 obtain⟨hu,i,z,hi,hzz,hs,_,hzc,h0⟩:=gy hT;have hl':len*sz<=16777216:=by simpa using hsz
 have hmap:Array.map (λp:Nat×Operand=>(p.1,a.eval p.2)) ps.toArray=(partsV 0 vs).toArray:=by
  have:=ip s hp;simp [this]
 have hf:=qs sz vs [] ((List.range (len*sz)).map (λj=>z.cells[j % z.cells.size]!)) 0 (by simp) (by simp [hlen]) hl;simp only [List.nil_append] at hf;refine d8 (v:=.slice (some ⟨w.heap.size,0,none⟩) len len) (w':=w.alloc (.cells (vs.map (·.cells.toList)).flatten.toArray e)) U ?_ (k w.heap.size _ _ (s.put hd _ (s.ok.alloc e (vs.map (·.cells.toList)).flatten)));simp only [execOp,Instr.buildSlice,Sem.run_bind,run_underlying hu,Result.andThen,sizeOf,typeInfo];have hrow:(Array.range (len*sz)).map (λj=>z.cells[j % z.cells.size]!)=((List.range (len*sz)).map (λj=>z.cells[j % z.cells.size]!)).toArray:=by
  apply Array.ext<;>simp
 simp [hi,hs,show ¬ 16777216<len*sz by omega,show ¬ len*sz=0 by omega,zeroValue,typeInfo,hzz,newRow,newObj,Sem.run,hmap];rw [hrow,hf];simp [Sem.run]
theorem JL.storeSub {b t sz o:Nat}{xs cs:LV}(hT:aggT f.P T=some (some sz)) (hx:ev S xo=some (.pointer (some ⟨b,o,none⟩))) (hy:ev S yo=some (.agg cs.toArray)) (h1:∀ v∈cs,v.oneCell'=true) (hl:cs.length=sz) (u:Del (.blk b t xs) L L') (hi:o+sz<=xs.length)
 (k:JL f ops n x rest S h (.blk b t (xs.take o++cs++xs.drop (o+cs.length))::L')):JL f ops n x (⟨none,.store T xo yo,ty,pos,af,none⟩::rest) S h L:=λa w s=>by
 subst hl;have hw:w.heap[b]?=some (.cells xs.toArray t (0,0)):=s.ok.own _ u.mem;have hst:=run_storeCells_at (P:=f.P) b o t cs 0 xs.toArray w hw (by simp;omega) h1;have hok:Ok f.e h (.blk b t (xs.take o++cs++xs.drop (o+cs.length))::L') (w.setRow b (xs.take o++cs++xs.drop (o+cs.length)).toArray):=s.ok.setBlk u _;refine eW (w':=w.setRow b (xs.take o++cs++xs.drop (o+cs.length)).toArray) U ?_ (k _ _ (s.with hok));simp only [Nat.add_zero] at hst;have hsv:(storeVar T ⟨b,o,none⟩ (.agg cs.toArray)).run f.P w=.ok () (w.setRow b (xs.take o++cs++xs.drop (o+cs.length)).toArray):=by
  have hi2:=(dV hT w).2;unfold sizeOf typeInfo at hi2;cases hq:f.P.info? T with
  |none=>simp [hq] at hi2
  |some q =>
   simp [hq] at hi2;simp [storeVar,sizeOf,typeInfo,hq,Value.cells,hi2];simpa using hst
 simp [execOp,s.eval hx,s.eval hy,Instr.storeAt,Instr.sureAddr,hsv]
end
theorem fB {α:Type}{R:Rep α}{sz:Nat}{h:Part}:∀ {l:List α}{vs:LV},All2 (λ(y:α) (v:Value)=>v.cells.toList.length=sz/\R h v.cells.toList y) l vs->CellsR R sz h (vs.map (·.cells.toList)).flatten l
 |[],_,.nil=>bQ
 |y::l,v::vs,.cons hy ht=>by
  have:=(CellsR.one hy.2 hy.1).append (fB ht);simpa using this
theorem iC {α β:Type _}{R:α->β->Prop}:∀ {l:List α}{r:List β},All2 R l r->r.length=l.length
 |[],_,.nil=>rfl
 |_::_,_::_,.cons _ ht=>by simp [iC ht]
theorem nds_all {h:Part}:∀ {ds:List D}{vs:LV}{l:LN},ndsOf ds=some l->DenT ds h vs->All2 (λ(y:Nd) (v:Value)=>v.cells.toList.length=5/\NdR h v.cells.toList y) l vs
 |[],vs,l,e,k=>by cases e;unfold DenT at k;subst k;exact .nil
 |.nd n::r,vs,l,e,k=>by
  simp only [ndsOf] at e;split at e<;>cases e;rename_i l hl;unfold DenT at k;obtain⟨v,t,rfl,h1,h2⟩:=k;obtain⟨cs,rfl,h3⟩:=dP.1 h1;exact .cons ⟨by simpa [Value.cells] using h3.len5,by simpa [Value.cells] using h3⟩ (nds_all hl h2)
 |.v _::r,vs,l,e,k=>by simp [ndsOf] at e
 |.bq _::r,vs,l,e,k=>by simp [ndsOf] at e
 |.bs _::r,vs,l,e,k=>by simp [ndsOf] at e
 |.nds _::r,vs,l,e,k=>by simp [ndsOf] at e
 |.sl _ _ _::r,vs,l,e,k=>by simp [ndsOf] at e
 |.st _::r,vs,l,e,k=>by simp [ndsOf] at e
 |.tup _::r,vs,l,e,k=>by simp [ndsOf] at e
 |.ptr _::r,vs,l,e,k=>by simp [ndsOf] at e
 |.pnd _::r,vs,l,e,k=>by simp [ndsOf] at e
theorem bs_all {h:Part}:∀ {ds:List D}{vs:LV}{l:LB},bsOf ds=some l->DenT ds h vs->All2 (λ(y:UInt8) (v:Value)=>v.cells.toList.length=1/\u8R h v.cells.toList y) l vs:=by
 intro ds
 induction ds with
 |nil=>intro vs l e k;cases e;unfold DenT at k;subst k;exact .nil
 |cons d r ih =>
  intro vs l e k;unfold bsOf at e;split at e
  ·rename_i heq;cases heq
  ·rename_i nn r' heq;cases heq;split at e
   ·rename_i l' hl;cases hb:Nat.blt nn 256 with
    |true =>
     rw [hb,cond_true] at e;cases e;unfold DenT at k;obtain⟨v,t,rfl,h1,h2⟩:=k;rw [dB.1 h1];refine .cons ⟨U,?_⟩ (ih hl h2);have hlt:nn<256:=by simpa using hb
     show [Value.int .u8 (Int.ofNat nn)]=_;have:(UInt8.ofNat nn).toNat=nn:=by simp [UInt8.toNat_ofNat'];omega
     rw [this];rfl
    |false=>rw [hb] at e;cases e
   ·cases e
  ·cases e
theorem strs_all {h:Part}:∀ {ds:List D}{vs:LV}{l:List LB},strsOf ds=some l->DenT ds h vs->All2 (λ(y:LB) (v:Value)=>v.cells.toList.length=1/\encR strE h v.cells.toList y) l vs:=by
 intro ds
 induction ds with
 |nil=>intro vs l e k;cases e;unfold DenT at k;subst k;exact .nil
 |cons d r ih =>
  intro vs l e k;unfold strsOf at e;split at e
  ·rename_i heq;cases heq
  ·rename_i s r' heq;cases heq;split at e
   ·rename_i l' hl;cases e;unfold DenT at k;obtain⟨v,t,rfl,h1,h2⟩:=k;rw [dB.1 h1];refine .cons ⟨U,?_⟩ (ih hl h2);show DenL _ h _;unfold strE DenL;exact⟨_,[],U,U,cj (h:=h),by unfold DenL;rfl⟩
   ·cases e
  ·cases e
theorem litD_ok {h:Part}{ds:List D}{vs:LV}{d:D}(e:litD ds=some d) (k:DenT ds h vs):LitOk h d vs:=by
 have all:∀ {α:Type} {R:Rep α} {sz:Nat} {l:List α} {vs:LV},All2 (λ(y:α) (v:Value)=>v.cells.toList.length=sz/\R h v.cells.toList y) l vs->∀ c∈vs,c.cells.toList.length=sz:=by
  intro α R sz l vs hh
  induction hh with
  |nil=>intro c hc;cases hc
  |cons hy _ ih =>
   intro c hc;cases hc with
   |head=>exact hy.1
   |tail _ hc=>exact ih c hc
 unfold litD at e;split at e
 ·rename_i n r;split at e<;>cases e;rename_i l hl;have h1:=nds_all hl k;have h2:=k.len;have h3:=iC h1;exact⟨⟨U,by rw [h3],fB h1⟩,all (R:=NdR) h1,by rw [h2];simp,by simp [szD]⟩
 ·rename_i kk i r;split at e<;>cases e;rename_i l hl;have h1:=bs_all hl k;have h2:=k.len;have h3:=iC h1;exact⟨⟨U,by rw [h3],fB h1⟩,all (R:=u8R) h1,by rw [h2];simp,by simp [szD]⟩
 ·rename_i s r;split at e<;>cases e;rename_i l hl;have h1:=strs_all hl k;have h2:=k.len;have h3:=iC h1;exact⟨⟨U,by rw [h3],fB h1⟩,all (R:=encR strE) h1,by rw [h2];simp,by simp [szD]⟩
 ·cases e
theorem sj {P:Program} [Tb P] {h:Part}{ds:List D}{vs:LV}{d:D}(e:litQ P ds=some d) (k:DenT ds h vs):LitOk h d vs:=by
 unfold litQ at e;split at e
 ·cases e;rename_i hl;exact litD_ok hl k
 ·exact Tb.hlt e k
section
variable {P:Program} [Tb P] {F:Fd}{n:PostD}{x:Nat->PostD}{a a':LO}{o o':LQ}{ops:Array Oper}{rest:LR}
variable {d:Nat}{q:Op}{ty:TypeId}{pos:String}{af:Array Edge}{g:Option (Nat×Bool)}{u:A}{ρ:Rho}{h:Part}{S:Sig}{L:LE}
theorem ki (c:Cz P ρ h a o S L):∀ {ps:List (Nat×Operand)}{i:Nat}{ds:List D},evsA a i ps=some ds->∃ vs,evs S ps=some (partsV i vs)/\DenT ds h vs
 |[],i,ds,e=>by cases e;exact⟨[],U,by unfold DenT;rfl⟩
 |(j,y)::r,i,ds,e=>by
  simp only [evsA] at e;cases hb:Nat.beq i j with
  |true =>
   obtain rfl:=aq hb;rw [hb,cond_true] at e;split at e
   ·rename_i d l h1 h2;cases e;obtain⟨v,h3,h4⟩:=cE c h1;obtain⟨vs,h5,h6⟩:=ki c h2;refine⟨v::vs,by simp only [evs,h3,h5,partsV],?_⟩;unfold DenT;exact⟨v,vs,U,h4,h6⟩
   ·cases e
  |false=>rw [hb] at e;cases e
theorem mem2_lit {T k len e sz bytes:Nat}{ps:Array (Nat×Operand)}{ds ds':List D}{dd:D}(hk:nextK a o=some k) (hp:evsA a 0 ps.toList=some ds) (hf:foldQ P e ds=some ds') (hl:litQ P ds'=some dd) (hT:findP (Tb.ap P) T=some (e,sz,bytes)) (h1:Nat.beq sz (szD dd)=true) (h2:Nat.beq len ds.length=true) (h3:Nat.ble (len*sz) 16777216=true)
 (hd:Nat.blt d F.m=true) (kk:JLD P F ops n x rest ((d,.row k)::a) ((k,.row e dd)::o)):JLD P F ops n x (⟨some d,.buildSlice T len ps,ty,pos,af,none⟩::rest) a o:=.mk λρ h S L cz=>by
 obtain⟨vs,h4,h5⟩:=ki cz hp;obtain⟨h6,h7,h8,h9⟩:=sj hl (jt hf h5);have e1:=aq h1;have e2:=aq h2;have e3:=h5.len;have e4:len=vs.length:=by omega
 have e5:len*sz<=16777216:=by simpa using h3
 obtain⟨ps⟩:=ps;refine JL.litG vs (Tb.apt hT) h4 e4 (by rw [e1];exact h7) h3 (Nat.mul_pos z2_ z2_) hd (λb=>?_);have hflat:(vs.map (·.cells.toList)).flatten.length=len*sz:=by
  rw [e1,e4];clear h6 h5 h4 e3 e2 h2 e4 h8
  induction vs with
  |nil=>simp
  |cons v r ih=>simp [h7 v (aK ..),ih (λc hc=>h7 c (aP _ hc)),Nat.succ_mul];omega
 have hlm:len<=maxLen:=by
  have:len<=len*sz:=Nat.le_mul_of_pos_right _ z2_;simp only [maxLen];omega
 refine JL.own (L':=.row (some ⟨b,0,none⟩) len e sz len (vs.map (·.cells.toList)).flatten::L) (λw hw=>hw.toRow hflat hlm) ?_;have c':=cz.eqv hk (ρ.eqv_setR k (some ⟨b,0,none⟩) len len);have hden:DenO (ρ.setR k (some ⟨b,0,none⟩) len len) h ((k,.row e dd)::o) (.row (some ⟨b,0,none⟩) len e sz len (vs.map (·.cells.toList)).flatten::L):=by
  refine⟨_,L,U,⟨(vs.map (·.cells.toList)).flatten,sz,by simp [Rho.setR],?_,?_⟩,c'.o⟩
  ·rw [show(ρ.setR k (some ⟨b,0,none⟩) len len).n k=vs.length by simp [Rho.setR,e4],e1];exact h6
  ·rw [show(ρ.setR k (some ⟨b,0,none⟩) len len).n k=len by simp [Rho.setR]];have:len<=len*sz:=Nat.le_mul_of_pos_right _ z2_;omega
 exact kk.k (ρ.setR k (some ⟨b,0,none⟩) len len) h _ _ (eI (u:=.row k) ⟨c'.t,c'.s,hden⟩ (by simp [Rho.setR,DenA]) d)
theorem sto_ok {T:TypeId}{y z:Operand}{k t off:Nat}{cs:List A}{vs:LV}{L':LE}(c:Cz P ρ h a o S L) (hy:ev S y=some (.pointer (some ⟨ρ.b k,off,none⟩))) (hz:evA a z=some u) (hD:Del (.blk (ρ.b k) t vs) L L') (hcs:DenAL ρ h cs vs) {e':OE}(ho:DenO ρ h (delO o k) L') (hs:stoE P T t cs off u=some e')
 (kk:JLD P F ops n x rest a ((k,e')::delO o k)):JL (F.fr P) ops (up P n) (λi=>up P (x i)) (⟨none,.store T y z,ty,pos,af,none⟩::rest) S h L:=by
 obtain⟨v,hzv,hv⟩:=cE c hz;have hlen:=hcs.len;unfold stoE at hs;split at hs
 ·rename_i ha;cases h1:oneA u with
  |false=>rw [h1] at hs;cases hs
  |true =>
   rw [h1,cond_true] at hs;split at hs<;>cases hs;rename_i cs' hset;obtain⟨h2,h3⟩:=rq hset;have h4:=oneA_ok h1 hv;refine bK (Tb.agg ha) hy hzv h4 hD (by simpa [hlen] using h2) ?_;refine kk.k ρ h S _ ⟨c.t,c.s,_,L',U,⟨vs.set off v,U,?_⟩,ho⟩;rw [h3];exact hcs.set h4 hv
 ·rename_i sz ha;split at hs
  ·rename_i d;split at hs
   ·rename_i l hc;obtain⟨ws,rfl,hws⟩:=(fe hc).1 hv;have hwl:=hws.len;cases h1:Nat.beq l.length sz with
    |false=>rw [h1] at hs;cases hs
    |true =>
     rw [h1,cond_true] at hs;have e1:=aq h1;cases h2:Nat.beq cs.length sz with
     |true =>
      rw [h2,cond_true] at hs;have e2:=aq h2;cases h3:Nat.beq off 0 with
      |false=>rw [h3] at hs;cases hs
      |true =>
       rw [h3,cond_true] at hs;cases hs;obtain rfl:=aq h3;refine aV (Tb.agg ha) hy hzv hD (List.all_eq_true.2 hws.one) z2_ z2_ ?_;exact kk.k ρ h S _ ⟨c.t,c.s,_,L',U,⟨ws,U,hv⟩,ho⟩
     |false =>
      rw [h2,cond_false] at hs;split at hs
      ·rename_i la hla;split at hs<;>cases hs;rename_i cs' hspl;obtain⟨h4,h5⟩:=nG _ _ _ _ hspl;have h6:=aOf_len hla;refine JL.storeSub (Tb.agg ha) hy hzv hws.one z2_ hD z2_ ?_;refine kk.k ρ h S _ ⟨c.t,c.s,_,L',U,⟨_,U,?_⟩,ho⟩;rw [h5,hwl,<- h6];have app:∀ {l l':List A} {c c':LV},DenAL ρ h l c->DenAL ρ h l' c'->DenAL ρ h (l++l') (c++c'):=by
        intro l
        induction l with
        |nil=>intro l' c c' k k';simp only [DenAL] at k;subst k;exact k'
        |cons y r ih=>intro l' c c' ⟨v,t,e,k1,k2,k3⟩ k';subst e;exact⟨v,t++c',U,k1,k2,ih k3 k'⟩
       exact app (app (hcs.take off) (gY hla hws)) (hcs.drop _)
      ·cases hs
   ·cases hs
  ·rename_i l0 j;obtain⟨ws,rfl,hws⟩:=hv;have hwl:=hws.len;cases h1:Nat.beq (l0.length+1) sz with
   |false=>rw [h1] at hs;cases hs
   |true =>
    rw [h1,cond_true] at hs;cases h2:Nat.beq cs.length sz with
    |false=>rw [h2] at hs;cases hs
    |true =>
     rw [h2,cond_true] at hs;cases h3:Nat.beq off 0 with
     |false=>rw [h3] at hs;cases hs
     |true =>
      rw [h3,cond_true] at hs;split at hs<;>cases hs;rename_i la hla;have e1:=aq h1;have e2:=aq h2;obtain rfl:=aq h3;refine aV (Tb.agg ha) hy hzv hD (List.all_eq_true.2 λu hu=>?_) z3_ z3_ ?_
      ·rcases List.mem_append.1 hu with hu|hu
       ·exact hws.one u hu
       ·rw [List.mem_singleton] at hu;subst hu;rfl
      ·exact kk.k ρ h S _ ⟨c.t,c.s,_,L',U,⟨_,U,(gY hla hws).app ⟨_,[],U,U,U,U⟩⟩,ho⟩
  ·cases hs
 ·cases hs
end
section
variable {P:Program} [Tbl P] [Tb P] {F:Fd}{n:PostD}{x:Nat->PostD}{a a':LO}{o o':LQ}{ops:Array Oper}{rest l l':LR}
omit [Tbl P] in
theorem stoX_ok {T k:Nat}{y z:Operand}{e:OE}(h:stoX P a o T y z=some (k,e)):∃ e0 off t cs u,evA a y=some (.own k off)/\evA a z=some u/\lkO o k=some e0/\stoE P T t cs off u=some e/\∀ ρ h w,DenE ρ h k e0 w->∃ vs,w=.blk (ρ.b k) t vs/\DenAL ρ h cs vs:=by
 unfold stoX at h;split at h
 ·rename_i k' off u hy hz;split at h
  ·rename_i t cs hk;split at h<;>cases h;rename_i hs;exact⟨_,off,t,cs,u,hy,hz,hk,hs,λρ h w ⟨vs,h3,h4⟩=>⟨vs,h3,h4⟩⟩
  ·rename_i t d hk;split at h
   ·rename_i l hl;split at h
    ·rename_i cs hcs;split at h<;>cases h;rename_i hs;refine⟨_,off,t,cs,u,hy,hz,hk,hs,λρ h w ⟨vs,h3,h4⟩=>⟨vs,h3,?_⟩⟩;obtain⟨ws,e',h5⟩:=(fe hl).1 h4;have hcv:vs=ws:=by injection e' with e';simpa using congrArg Array.toList e'
     subst hcv;exact gY hcs h5
    ·cases h
   ·cases h
  ·cases h
 ·cases h
theorem stp2_ok {q:Oper}(hs:stp2 P F.m ops a o q=some (a',o')) (k:JLD P F ops n x rest a' o'):JLD P F ops n x (q::rest) a o:=by
 unfold stp2 at hs;split at hs
 ·rename_i d q ty pos af g;split at hs
  ·rename_i hg;cases hd:Nat.blt d F.m with
   |false=>rw [hd] at hs;cases hs
   |true =>
    rw [hd,cond_true] at hs;split at hs
    ·rename_i u hv;cases hs;exact JLD.val hg (λρ h S L cz=>val2_ok cz hv) hd k
    ·split at hs
     ·split at hs<;>try (cases hs;done)
      rename_i kk hk;split at hs<;>cases hs;rename_i u e hm;unfold mem2 at hm;split at hm
      ·split at hm
       ·rename_i hz;split at hm<;>cases hm;rename_i hc;exact vE hk hz hc hd k
       ·cases hm
      ·split at hm
       ·rename_i T y _ dd hy;split at hm
        ·rename_i l0 hl;cases hm;refine lm hk hy (λρ h v hv _=>?_) hd k;obtain⟨cs,rfl,h2⟩:=(fe hl).1 hv;exact⟨cs,U,λb=>⟨cs,by rw [gK],hv⟩⟩
        ·cases h1:oneD dd with
         |false=>rw [h1] at hm;cases hm
         |true =>
          rw [h1,cond_true] at hm;cases hm;refine lm hk hy (λρ h v hv _=>?_) hd k;have h3:=rU h1 hv;exact⟨[v],mc h3,λb=>⟨[v],by rw [gK],v,[],U,h3,hv,U⟩⟩
       ·rename_i l0 j hy;split at hm<;>cases hm;rename_i la hla;refine lm hk hy (λρ h v hv hku=>?_) hd k;obtain⟨cs,rfl,h2⟩:=hv;exact⟨cs++[.slice (ρ.a j) (ρ.n j) (ρ.c j)],U,λb=>⟨_,by rw [gK];rfl,(gY hla h2).app ⟨_,[],U,U,U,U⟩⟩⟩
       ·rename_i u' hne hne2 hy;cases h1:oneA u' with
        |false=>rw [h1] at hm;cases hm
        |true =>
         rw [h1,cond_true] at hm;cases hm;refine lm hk hy (λρ h v hv hku=>?_) hd k;have h3:=oneA_ok h1 hv;exact⟨[v],mc h3,λb=>⟨[v],by rw [gK],v,[],U,h3,hv.eqv (ρ.eqv_setB kk b) hku,U⟩⟩
       ·cases hm
      ·rename_i T len ps x4 x5;split at hm
       ·rename_i ds hp;split at hm<;>try (cases hm;done)
        rename_i e' sz bytes hT;split at hm<;>try (cases hm;done)
        rename_i ds' hf;split at hm
        ·rename_i dd hl;cases h1:Nat.beq sz (szD dd) with
         |false=>rw [h1] at hm;cases hm
         |true =>
          rw [h1,cond_true] at hm;cases h2:Nat.beq len ds.length with
          |false=>rw [h2] at hm;cases hm
          |true =>
           rw [h2,cond_true] at hm;cases h3:Nat.ble (len*sz) 16777216 with
           |false=>rw [h3] at hm;cases hm
           |true =>
            rw [h3,cond_true] at hm;cases hm;exact mem2_lit hk hp hf hl hT h1 h2 h3 hd k
        ·cases hm
       ·cases hm
      ·cases hm
     ·cases hs
  ·rename_i hg;cases hd:Nat.blt d F.m with
   |false=>rw [hd] at hs;cases hs
   |true=>rw [hd,cond_true] at hs;cases hs;exact JLD.no hg hd k
  ·cases hs
 ·rename_i T y z ty pos af;split at hs
  ·rename_i kst est hst;split at hs<;>cases hs;rename_i o2 hdq;obtain rfl:=gv hdq;obtain⟨e0,off,t',cs,u,hy,hz,hk,hse,hden⟩:=stoX_ok hst;refine .mk λρ h S L cz=>?_;obtain⟨v,h1,h2⟩:=cE cz hy;cases h2;obtain⟨w,L',hD,hE,hr⟩:=cz.o.get hk;obtain⟨vs,rfl,hcs⟩:=hden ρ h w hE;exact sto_ok cz h1 hz hD hcs hr hse k
  ·cases hs
 ·cases hs
theorem Ra (hs:runA P F.m ops a o l=some ((a',o'),l')) (kk:JLD P F ops n x l' a' o'):JLD P F ops n x l a o:=by
 induction l generalizing a o with
 |nil=>simp only [runA,aB,Prod.mk.injEq] at hs;obtain⟨⟨rfl,rfl⟩,rfl⟩:=hs;exact kk
 |cons q l ih =>
  simp only [runA] at hs;split at hs
  ·rename_i a1 o1 h1;exact stp2_ok h1 (ih hs)
  ·simp only [aB,Prod.mk.injEq] at hs;obtain⟨⟨rfl,rfl⟩,rfl⟩:=hs;exact kk
theorem R3 {q:Oper}(hs:runA P F.m ops a o (q::l)=some ((a',o'),l')) (hp:Nat.ble l'.length l.length=true) (k:JLD P F ops n x l' a' o'):JLD P F ops n x (q::l) a o:=Ra hs k
end
def subA (k:Nat) (d:D):LO->Option LO
 |[]=>some []
 |(t,x)::r=>match subA k d r with
  |some r'=>match x with
   |.row j=>bif Nat.beq j k then some ((t,.d d)::r') else some ((t,.row j)::r')
   |x=>some ((t,x)::r')
  |none=>none
def subL (k:Nat) (d:D):List A->Option (List A)
 |[]=>some []
 |x::r=>match subL k d r with
  |some r'=>match x with
   |.row j=>bif Nat.beq j k then some (.d d::r') else some (.row j::r')
   |x=>some (x::r')
  |none=>none
def subO (k:Nat) (d:D):LQ->Option LQ
 |[]=>some []
 |(i,e)::r=>match subO k d r with
  |some r'=>match e with
   |.var t cs=>match subL k d cs with
    |some cs'=>some ((i,.var t cs')::r')
    |none=>none
   |e=>some ((i,e)::r')
  |none=>none
section
variable {ρ:Rho}{h h':Part}{k:Nat}{d:D}
def Same (ρ:Rho) (h:Part) (k:Nat) (d:D):Prop:=Den d h (.slice (ρ.a k) (ρ.n k) (ρ.c k))
theorem DenA.mono (hle:h.le h') {x:A}{v:Value}(q:DenA ρ h x v):DenA ρ h' x v:=by
 cases x with
 |d d=>exact Den.mono hle d v q
 |own i f=>exact q
 |row i=>exact q
 |recr l i=>obtain⟨cs,e,q⟩:=q;exact⟨cs,e,DenL.mono hle l cs q⟩
 |mp i=>exact q
 |any=>trivial
theorem DenAL.mono (hle:h.le h'):∀ {l:List A}{cs:LV},DenAL ρ h l cs->DenAL ρ h' l cs
 |[],_,q=>q
 |_::_,_,⟨v,t,e,h1,h2,h3⟩=>⟨v,t,e,h1,h2.mono hle,DenAL.mono hle h3⟩
theorem RowR.mono (hle:h.le h') {d:D}{sz n:Nat}{xs:LV}(q:RowR h d sz n xs):RowR h' d sz n xs:=by
 cases d<;>simp only [RowR] at q |-
 ·exact⟨q.1,q.2.1,q.2.2.mono hle⟩
 ·exact⟨q.1,q.2.1,q.2.2.mono hle⟩
 ·exact⟨q.1,q.2.1,q.2.2.mono hle⟩
theorem DenE.mono (hle:h.le h') {i:Nat}{e:OE}{x:Ent}(q:DenE ρ h i e x):DenE ρ h' i e x:=by
 cases e with
 |var t cs=>obtain⟨vs,h1,h2⟩:=q;exact⟨vs,h1,h2.mono hle⟩
 |whl t d=>obtain⟨vs,h1,h2⟩:=q;exact⟨vs,h1,Den.mono hle d _ h2⟩
 |row t d=>obtain⟨xs,sz,h1,h2,h3⟩:=q;exact⟨xs,sz,h1,h2.mono hle,h3⟩
 |rowv v t d=>obtain⟨xs,sz,h1,h2,h3⟩:=q;exact⟨xs,sz,h1,h2.mono hle,h3⟩
 |pin v b=>exact q
 |set es=>exact q
theorem DenO.mono (hle:h.le h'):∀ {o:LQ}{L:LE},DenO ρ h o L->DenO ρ h' o L
 |[],_,q=>q
 |_::_,_,⟨x,L',e,h1,h2⟩=>⟨x,L',e,h1.mono hle,DenO.mono hle h2⟩
theorem Cz.mono {P:Program} [Tb P] {a:LO}{o:LQ}{S:Sig}{L:LE}(hle:h.le h') (c:Cz P ρ h a o S L):Cz P ρ h' a o S L :=
 ⟨Tb.mono c.t hle,λt x hx=>by obtain⟨v,h1,h2⟩:=c.s t x hx;exact⟨v,h1,h2.mono hle⟩,c.o.mono hle⟩
theorem subA_ok (q:Same ρ h k d):∀ {a a':LO},subA k d a=some a'->∀ {t:Nat}{x:A},lkA a' t=some x->∃ y,lkA a t=some y/\∀ v,DenA ρ h y v->DenA ρ h x v
 |[],a',e,t,x,hx=>by cases e;cases hx
 |(i,y)::r,a',e,t,x,hx=>by
  simp only [subA] at e;split at e
  ·rename_i r' hr;have ih:=subA_ok q hr (t:=t) (x:=x);simp only [lkA];have key:∀ z,(∀ v,DenA ρ h y v->DenA ρ h z v)->a'=(i,z)::r'->∃ w,(bif Nat.beq i t then some y else lkA r t)=some w/\∀ v,DenA ρ h w v->DenA ρ h x v:=λz hz ha=>by
    subst ha;simp only [lkA] at hx;cases hb:Nat.beq i t with
    |true=>simp only [hb,cond_true,aB] at hx |-;subst hx;exact⟨y,U,hz⟩
    |false=>simp only [hb,cond_false] at hx |-;exact ih hx
   split at e
   ·rename_i j;cases hb:Nat.beq j k with
    |true =>
     rw [hb,cond_true] at e;obtain rfl:=aq hb;exact key (.d d) (λv hv=>by cases hv;exact q) (by simpa using e.symm)
    |false=>rw [hb,cond_false] at e;exact key _ (λv hv=>hv) (by simpa using e.symm)
   ·exact key _ (λv hv=>hv) (by simpa using e.symm)
  ·cases e
theorem subL_ok (q:Same ρ h k d):∀ {l l':List A}{cs:LV},subL k d l=some l'->DenAL ρ h l cs->DenAL ρ h l' cs
 |[],l',cs,e,hd=>by cases e;exact hd
 |y::r,l',cs,e,⟨v,t,e2,h1,h2,h3⟩=>by
  simp only [subL] at e;split at e
  ·rename_i r' hr;have ih:=subL_ok q hr h3;split at e
   ·rename_i j;cases hb:Nat.beq j k with
    |true =>
     rw [hb,cond_true] at e;obtain rfl:=aq hb;cases e;exact⟨v,t,e2,h1,by cases h2;exact q,ih⟩
    |false=>rw [hb,cond_false] at e;cases e;exact⟨v,t,e2,h1,h2,ih⟩
   ·cases e;exact⟨v,t,e2,h1,h2,ih⟩
  ·cases e
theorem subO_ok (q:Same ρ h k d):∀ {o o':LQ}{L:LE},subO k d o=some o'->DenO ρ h o L->DenO ρ h o' L
 |[],o',L,e,hd=>by cases e;exact hd
 |(i,y)::r,o',L,e,⟨x,L',e2,h1,h2⟩=>by
  simp only [subO] at e;split at e
  ·rename_i r' hr;have ih:=subO_ok q hr h2;split at e
   ·split at e<;>cases e;rename_i cs' hcs;obtain⟨vs,h3,h4⟩:=h1;exact⟨x,L',e2,⟨vs,h3,subL_ok q hcs h4⟩,ih⟩
   ·cases e;exact⟨x,L',e2,h1,ih⟩
  ·cases e
end
def pub1 (k:Nat) (a:LO) (o:LQ):Option (LO×LQ) :=
 match lkO o k with
 |some (.row _ d)=>match subA k d a,subO k d (delO o k) with
  |some a',some o'=>some (a',o')
  |_,_=>none
 |_=>none
def pubs:List Nat->LO->LQ->Option (LO×LQ)
 |[],a,o=>some (a,o)
 |k::r,a,o=>match pub1 k a o with
  |some (a',o')=>pubs r a' o'
  |none=>pubs r a o
section
variable {P:Program} [Tb P] {ρ:Rho}{h:Part}{S:Sig}{L:LE}{a a':LO}{o o':LQ}
theorem rN {k:Nat}{e:Env}{w:World}(hp:pub1 k a o=some (a',o')) (c:Cz P ρ h a o S L) (hk:Ok e h L w):∃ h' L',h.le h'/\Ok e h' L' w/\Cz P ρ h' a' o' S L':=by
 unfold pub1 at hp;split at hp
 ·rename_i t d hlk;split at hp<;>cases hp;rename_i hA hO;obtain⟨x,L',hD,⟨xs,sz,rfl,hR,hb⟩,hr⟩:=c.o.get hlk;have fin:∀ h',h.le h'->Ok e h' L' w->Same ρ h' k d->∃ h' L',h.le h'/\Ok e h' L' w/\Cz P ρ h' a' o' S L':=λh' hle hok hs =>
   ⟨h',L',hle,hok,Tb.mono c.t hle,λt x hx=>by
    obtain⟨y,h1,h2⟩:=subA_ok hs hA hx;obtain⟨v,h3,h4⟩:=c.s t y h1;exact⟨v,h3,h2 v (h4.mono hle)⟩,subO_ok hs hO (hr.mono hle)⟩
  have okp:=hk.perm hD.perm;cases d<;>simp only [RowR] at hR
  ·obtain⟨rfl,hn,hc⟩:=hR;obtain⟨h',h1,h2,h3⟩:=okp.pub_row hc hn z2_;exact fin h' h1 h3 (by unfold Same;rw [hn];exact(dm (h:=h')).2 ⟨_,_,U,h2⟩)
  ·obtain⟨rfl,hn,hc⟩:=hR;obtain⟨h',h1,h2,h3⟩:=okp.pub_row hc hn z2_;exact fin h' h1 h3 (by unfold Same;rw [hn];exact(dN (h:=h')).2 ⟨_,_,U,h2⟩)
  ·obtain⟨rfl,hn,hc⟩:=hR;obtain⟨h',h1,h2,h3⟩:=okp.pub_row hc hn z2_;exact fin h' h1 h3 (by unfold Same;rw [hn];exact(iE (h:=h')).2 ⟨_,_,U,h2⟩)
 ·cases hp
theorem eY {e:Env}{w:World}:∀ {ks:List Nat}{a a':LO}{o o':LQ}{h:Part}{L:LE},pubs ks a o=some (a',o')->Cz P ρ h a o S L->Ok e h L w->∃ h' L',h.le h'/\Ok e h' L' w/\Cz P ρ h' a' o' S L'
 |[],a,a',o,o',h,L,hp,c,hk=>by cases hp;exact⟨h,L,aT h,hk,c⟩
 |k::r,a,a',o,o',h,L,hp,c,hk=>by
  simp only [pubs] at hp;split at hp
  ·rename_i a1 o1 h1;obtain⟨h',L',h2,h3,h4⟩:=rN h1 c hk;obtain⟨h'',L'',h5,h6,h7⟩:=eY hp h4 h3;exact⟨h'',L'',h2.trans h5,h6,h7⟩
  ·exact eY hp c hk
end
structure FnE (P:Program) [Tb P] (Fi:Nat) (ds:List D) (R:D->Prop):Prop where
 fn:∀ h vs,Tb.T P h->DenT ds h vs->FnR P Fi vs h (λv h'=>∃ d,R d/\Den d h' v)
abbrev FnD (P:Program) [Tb P] (Fi:Nat) (ds:List D) (d:D):Prop:=FnE P Fi ds (λd'=>d'=d)
theorem FnE.imp {P:Program} [Tb P] {Fi:Nat}{ds:List D}{R R':D->Prop}(c:FnE P Fi ds R) (hr:∀ d,R d->R' d):FnE P Fi ds R':=.mk λh vs hT hd=>(c.fn h vs hT hd).mono λu h' _ ⟨d,h1,h2⟩=>⟨d,hr d h1,h2⟩
def argsA (P:Program) [Tb P] (a:LO):List Operand->List Nat->Option (List D)
 |[],_=>some []
 |x::r,ts=>match evA a x,argsA P a r ts.tail with
  |some (.d d),some l=>match ts with
   |[]=>some (d::l)
   |t::_=>match nilQ P t d with
    |some d'=>some (d'::l)
    |none=>none
  |_,_=>none
def rowsA (a:LO):List Operand->List Nat
 |[]=>[]
 |x::r=>match evA a x with
  |some (.row k)=>k::rowsA a r
  |_=>rowsA a r
def argA:Nat->List D->LO
 |_,[]=>[]
 |i,d::r=>(i,.d d)::argA (i+1) r
section
variable {P:Program} [Tb P] {F:Fd}{n:PostD}{x:Nat->PostD}{a a1:LO}{o o1:LQ}{ops:Array Oper}{rest:LR}
variable {d Fi:Nat}{ty:TypeId}{pos:String}{af:Array Edge}{g:Option (Nat×Bool)}{os:Array Operand}{ts:Array TypeId}{ds:List D}{R:D->Prop}
theorem f6 {ρ:Rho}{h:Part}{S:Sig}{L:LE}(c:Cz P ρ h a o S L):∀ {os:List Operand}{ts:List Nat}{ds:List D},argsA P a os ts=some ds->∃ vs,evl S os=some vs/\DenT ds h vs
 |[],ts,ds,e=>by cases e;exact⟨[],U,by unfold DenT;rfl⟩
 |y::r,ts,ds,e=>by
  simp only [argsA] at e;split at e
  ·rename_i d l h1 h2;obtain⟨v,h3,h4⟩:=cE c h1;obtain⟨vs,h5,h6⟩:=f6 c h2;refine⟨v::vs,by simp only [evl,h3,h5],?_⟩;split at e
   ·cases e;unfold DenT;exact⟨v,vs,U,h4,h6⟩
   ·split at e<;>cases e;rename_i hq;rw [rZ hq];unfold DenT;exact⟨v,vs,U,gR h v h4,h6⟩
  ·cases e
theorem Ce (hp:pubs (rowsA a os.toList) a o=some (a1,o1)) (ha:argsA P a1 os.toList ts.toList=some ds) (c:FnE P Fi ds R) (k:∀ d',R d'->JLD P F ops n x rest ((d,.d d')::a1) o1)
 (hF:callT P Fi=true:=by kernel_rfl) (hg:gdA ops a1 g=some true:=by rfl) (hd:Nat.blt d F.m=true:=by rfl) :
 JLD P F ops n x (⟨some d,.call { callee:=.value (.func Fi),args:=os,argTypes:=ts },ty,pos,af,g⟩::rest) a o:=.mk λρ h S L cz ac w s=>by
 obtain⟨h',L',hle,hok,cz'⟩:=eY hp cz s.ok;obtain⟨vs,h3,h4⟩:=f6 cz' ha;have fin:JL (F.fr P) ops (up P n) (λi=>up P (x i)) (⟨some d,.call { callee:=.value (.func Fi),args:=os,argTypes:=ts },ty,pos,af,g⟩::rest) S h' L':=by
  obtain⟨os⟩:=os;rcases gdA_t cz' hg with rfl|⟨j,dj,b,rfl,h5,h6⟩
  ·exact bL hF h3 (c.fn h' vs cz'.t h4) hd (λv h2 hle2 ⟨d',h7,h8⟩=>(k d' h7).k ρ h2 _ L' (eI (u:=.d d') (cz'.mono hle2) h8 d))
  ·exact JL.callRg h5 h6 hF h3 (c.fn h' vs cz'.t h4) hd (λv h2 hle2 ⟨d',h7,h8⟩=>(k d' h7).k ρ h2 _ L' (eI (u:=.d d') (cz'.mono hle2) h8 d))
 exact fin ac w (s.with hok)
theorem Ca {d':D}(hp:pubs (rowsA a os.toList) a o=some (a1,o1)) (ha:argsA P a1 os.toList ts.toList=some ds) (c:FnD P Fi ds d') (k:JLD P F ops n x rest ((d,.d d')::a1) o1)
 (hF:callT P Fi=true:=by kernel_rfl) (hg:gdA ops a1 g=some true:=by rfl) (hd:Nat.blt d F.m=true:=by rfl) :
 JLD P F ops n x (⟨some d,.call { callee:=.value (.func Fi),args:=os,argTypes:=ts },ty,pos,af,g⟩::rest) a o :=
 Ce hp ha c (λ_ e=>e ▸ k) hF hg hd
def relem (tmps:Array Value):ResultVar->Sem Value
 |.tmp t=>pure (tmps.getD t undef)
 |.cell a t=>do loadVar t (<- asAddr (tmps.getD a undef))
theorem eX {fn:Func}{tmps:Array Value}:results fn tmps=(do let vs <- fn.results.mapM (relem tmps);pure (if h:vs.size=1 then vs[0] else .tuple vs)):=by
 unfold results;congr 1
def resA (P:Program) [Tb P] (a:LO) (o:LQ):ResultVar->Option D
 |.tmp t=>match lkA a t with
  |some (.d d)=>some d
  |_=>none
 |.cell t T=>match lkA a t with
  |some (.own k 0)=>match lkO o k,findA (Tb.ag P) T with
   |some (.whl _ d),some (some sz)=>match cellsD d with
    |some l=>bif Nat.beq l.length sz then some d else none
    |none=>none
   |some (.var _ cs),some (some sz)=>bif Nat.beq cs.length sz then match dsOf cs with
    |some ds=>match Tb.fo P T ds with
     |some d'=>some d'
     |none=>some (.st ds)
    |none=>none
    else none
   |some (.var _ cs),some none=>match cs with
    |[.d d]=>some d
    |_=>none
   |_,_=>none
  |_=>none
def resL (P:Program) [Tb P] (a:LO) (o:LQ):List ResultVar->List Nat->Option (List D)
 |[],_=>some []
 |r::l,ts=>match resA P a o r,resL P a o l ts.tail with
  |some d,some ds=>match ts with
   |[]=>some (d::ds)
   |t::_=>match nilQ P t d with
    |some d'=>some (d'::ds)
    |none=>none
  |_,_=>none
def resD:List D->D
 |[]=>.v (.tuple #[])
 |[d]=>d
 |l=>.tup l
def FE (P:Program) (e:Env) (m:Nat) (fn:Func) (R:D->Prop):Fd:=⟨e,m,RetPost P e m fn (Rets λu h' Lo=>Lo=[]/\∃ d,R d/\Den d h' u),PanPost (Rets λu h' Lo=>Lo=[]/\∃ d,R d/\Den d h' u)⟩
def NoExD:Nat->PostD:=λ_ _ _=>False
end
section
variable {P:Program} [Tb P] {n:PostD}{x:Nat->PostD}{a a1:LO}{o o1:LQ}{e:Env}{m:Nat}{fn:Func}{R:D->Prop}{ρ:Rho}{h:Part}{S:Sig}{L:LE}
omit [Tb P] in
theorem loadOne {T b t:Nat}{v:Value}{w:World}(hk:Ok e h L w) (hT:aggT P T=some none) (hm:Ent.blk b t [v]∈L):(loadVar T ⟨b,0,none⟩).run P w=.ok v w:=by
 have hb:w.heap[b]?=some (.cells #[v] t (0,0)):=hk.own _ hm;have hc:w.cell? ⟨b,0,none⟩=some v:=by rw [cell_of_row w b _ _ _ _ hb];rfl
 simp [loadVar,(f7 hT w).1,load,Sem.run,hc]
theorem resA_ok (c:Cz P ρ h a o S L) {r:ResultVar}{d:D}(hr:resA P a o r=some d):∃ v,Den d h v/\∀ ac w,Sat e m S h L ac w->(relem ac.tmps r).run P w=.ok v w:=by
 cases r with
 |tmp t =>
  simp only [resA] at hr;split at hr<;>cases hr;rename_i hl;obtain⟨v,h1,h2⟩:=c.s _ _ hl;exact⟨v,h2,λac w s=>by simp [relem,s.slot t v h1]⟩
 |cell t T =>
  simp only [resA] at hr;split at hr
  ·rename_i k hl;obtain⟨v,h1,h2⟩:=c.s _ _ hl;cases h2;have key:∀ v:Value,(∀ ac w,Sat e m S h L ac w->(loadVar T ⟨ρ.b k,0,none⟩).run P w=.ok v w)->∀ ac w,Sat e m S h L ac w->(relem ac.tmps (.cell t T)).run P w=.ok v w:=λv hv ac w s=>by
    simp [relem,s.slot t _ h1,asAddr,hv ac w s]
   split at hr
   ·rename_i t' d' sz hk ha;split at hr
    ·rename_i l hc;cases hs:Nat.beq l.length sz with
     |false=>rw [hs] at hr;cases hr
     |true =>
      rw [hs,cond_true] at hr;cases hr;have hsz:=aq hs;obtain⟨y,L',hD,⟨vs,rfl,hR⟩,_⟩:=c.o.get hk;obtain⟨ws,e',h4⟩:=(fe hc).1 hR;have hcv:vs=ws:=by injection e' with e';simpa using congrArg Array.toList e'
      subst hcv;exact⟨_,hR,key _ λac w s=>fR s.ok (Tb.agg ha) hD.mem (by rw [h4.len,hsz])⟩
    ·cases hr
   ·rename_i t' cs sz hk ha;cases hs:Nat.beq cs.length sz with
    |false=>rw [hs] at hr;cases hr
    |true =>
     rw [hs,cond_true] at hr;have hsz:=aq hs;obtain⟨y,L',hD,⟨vs,rfl,hR⟩,_⟩:=c.o.get hk;have hlen:=hR.len;split at hr
     ·rename_i ds hds;have hL:=hR.ds hds;refine⟨.agg vs.toArray,?_,key _ λac w s=>fR s.ok (Tb.agg ha) hD.mem (by rw [hlen,hsz])⟩;split at hr<;>cases hr
      ·rename_i d' hfo;exact Tb.hfo hfo _ _ hL
      ·exact(dS (h:=h)).2 ⟨_,U,hL⟩
     ·cases hr
   ·rename_i t' cs hk ha;obtain⟨y,L',hD,⟨vs,rfl,hR⟩,_⟩:=c.o.get hk;split at hr<;>cases hr;rename_i d' hcs;obtain⟨v,t2,e2,h3,h4,h5⟩:=hR;simp only [DenAL] at h5;subst e2 h5;exact⟨v,h4,key _ λac w s=>loadOne s.ok (Tb.agg ha) hD.mem⟩
   ·cases hr
  ·cases hr
theorem nP (c:Cz P ρ h a o S L):∀ {rs:List ResultVar}{ts:List Nat}{ds:List D},resL P a o rs ts=some ds->∃ vs,DenT ds h vs/\∀ ac w,Sat e m S h L ac w->(rs.mapM (relem ac.tmps)).run P w=.ok vs w
 |[],ts,ds,hr=>by cases hr;exact⟨[],by unfold DenT;rfl,λac w s=>by simp⟩
 |r::l,ts,ds,hr=>by
  simp only [resL] at hr;split at hr
  ·rename_i d ds' h1 h2;obtain⟨v,h3,h4⟩:=resA_ok (e:=e) (m:=m) c h1;obtain⟨vs,h5,h6⟩:=nP c h2;refine⟨v::vs,?_,λac w s=>by simp [h4 ac w s,h6 ac w s]⟩;split at hr
   ·cases hr;unfold DenT;exact⟨v,vs,U,h3,h5⟩
   ·split at hr<;>cases hr;rename_i hq;rw [rZ hq];unfold DenT;exact⟨v,vs,U,gR h v h3,h5⟩
  ·cases hr
def ksO:LQ->List Nat
 |[]=>[]
 |(k,.row _ _)::r=>k::ksO r
 |_::r=>ksO r
def RtD (P:Program) [Tb P] (fn:Func) (R:D->Prop):PostD:=λa o=>∃ a1 o1 ds,pubs (ksO o) a o=some (a1,o1)/\resL P a1 o1 fn.results.toList fn.resultTypes.toList=some ds/\R (resD ds)
theorem rt_ok (k:up P (RtD P fn R) S h L) {ac:Act}{w:World}(s:Sat e m S h L ac w):∃ S h' L',Sat e m S h' L' ac w/\RetPost P e m fn (Rets λu h' Lo=>Lo=[]/\∃ d,R d/\Den d h' u) S h' L':=by
 obtain⟨ρ,a,o,cz,a1,o1,ds,hp,hr,hR⟩:=k;obtain⟨h',L',hle,hok,cz'⟩:=eY hp cz s.ok;obtain⟨vs,h1,h2⟩:=nP (e:=e) (m:=m) cz' hr;have hlen:=h1.len;have hrun:∀ ac w,Sat e m S h' L' ac w->(fn.results.mapM (relem ac.tmps)).run P w=.ok vs.toArray w:=λac w s=>by
  have:=h2 ac w s;rw [Array.mapM_eq_mapM_toList];simp [this]
 refine⟨S,h',L',s.with hok,?_⟩;have fin:∀ v,(∀ ac w,Sat e m S h' L' ac w->(results fn ac.tmps).run P w=.ok v w)->Den (resD ds) h' v->RetPost P e m fn (Rets λu h' Lo=>Lo=[]/\∃ d,R d/\Den d h' u) S h' L':=λv hv hd =>
  ⟨v,[],L',λac w s=>hv ac w s,.nil,v,U,U,_,hR,hd⟩
 match ds,vs,h1,hlen with
 |[],[],h1,_=>exact fin (.tuple #[]) (λac w s=>by rw [eX];simp [hrun ac w s]) (cj (h:=h'))
 |[d],[v],h1,_ =>
  unfold DenT at h1;obtain⟨v',t,e1,h3,h4⟩:=h1;cases e1;exact fin v (λac w s=>by rw [eX];simp [hrun ac w s]) h3
 |d::d2::r,v::v2::r',h1,_=>exact fin (.tuple (v::v2::r').toArray) (λac w s=>by rw [eX];simp [hrun ac w s]) ((oQ (h:=h')).2 ⟨_,U,h1⟩)
theorem Rt {ds:List D}(hp:pubs (ksO o) a o=some (a1,o1)) (hr:resL P a1 o1 fn.results.toList fn.resultTypes.toList=some ds) (hR:R (resD ds)):JD P (FE P e m fn R) .ret n x a o:=.mk λρ h S L cz ac w s=>by
 obtain⟨S',h',L',s',hh⟩:=rt_ok ⟨ρ,a,o,cz,a1,o1,ds,hp,hr,hR⟩ s;exact dE (f:=(FE P e m fn R).fr P) (n:=up P n) (x:=λi=>up P (x i)) hh ac w s'
theorem FnE.intro {Fi:Nat}{c:Code}{ds:List D}(hf:P.funcs[Fi]?=some fn) (hb:fn.body=some c) (hm:fn.ntmps=m) (hl:Nat.ble ds.length m=true) (k:∀ e,JD P (FE P e m fn R) c (RtD P fn R) NoExD (argA 0 ds) []):FnE P Fi ds R:=.mk λh vs hT hd=>by
 have hlen:=hd.len;refine aM hf hb hm (by rw [hlen];exact hl) (λe he=>?_);have cz:Cz P ⟨λ_=>0,λ_=>none,λ_=>0,λ_=>0⟩ h (argA 0 ds) [] (argSig 0 vs) []:=by
  refine⟨hT,?_,U⟩;have key:∀ (ds:List D) (vs:LV) (i t:Nat) (y:A),DenT ds h vs->lkA (argA i ds) t=some y->∃ v,look (argSig i vs) t=some v/\DenA ⟨λ_=>0,λ_=>none,λ_=>0,λ_=>0⟩ h y v:=by
   intro ds
   induction ds with
   |nil=>intro vs i t y _ hy;cases hy
   |cons d r ih =>
    intro vs i t y hd hy;unfold DenT at hd;obtain⟨v,t',rfl,h1,h2⟩:=hd;simp only [argA,lkA,argSig,look] at hy |-
    cases hb:Nat.beq i t with
    |true=>simp only [hb,cond_true,aB] at hy |-;subst hy;exact⟨v,U,h1⟩
    |false=>simp only [hb,cond_false] at hy |-;exact ih t' (i+1) t y h2 hy
  exact λt y hy=>key ds vs 0 t y hd hy
 intro ac w s;refine wpm ((k e).k _ h _ _ cz ac w s) (λex a' w' q=>?_);cases ex with
 |normal=>obtain⟨S',h',L',s',q'⟩:=q;obtain⟨S2,h2,L2,s2,hh⟩:=rt_ok q' s';exact⟨S2,h2,L2,s2,hh⟩
 |exit i=>obtain⟨S',h',L',s',⟨_,_,_,_,hh⟩,_⟩:=q;exact hh.elim
 |goto i=>obtain⟨S',h',L',s',⟨_,_,_,_,hh⟩⟩:=q;exact hh.elim
 |_=>exact q
abbrev aE:=@FnE.intro
end
end Go.Proofs.YtojokloclmcloaaGreatDoor
