/- Parts. -/
import Derived.Test.YtojokloclmcloaaGreatDoorQ4
set_option maxRecDepth 100000
set_option maxHeartbeats 4000000
set_option linter.unusedSimpArgs false
set_option linter.unusedVariables false
set_option linter.constructorNameAsVariable false
namespace Go.Proofs.YtojokloclmcloaaGreatDoor
open Go.Proofs.Tryz
open Go Go.RowKit
def hdN:Except Int (Nat×Nat)->Nat|.ok (n,_)=>n|.error _=>0
def hdQ:Except Int (Nat×Nat)->Nat|.ok (_,q)=>q|.error _=>0
def hdC:Except Int (Nat×Nat)->Int|.ok _=>0|.error c=>c
theorem lenB_lenI {n:Nat}(h:¬ n<128):(lenB n).length=1+nby n:=by unfold lenB;rw [if_neg h];simp [jJ];omega
theorem nby_le {n k:Nat}(h1:1<=k) (h2:k<=4) (h:n<256 ^ k):nby n<=k:=by
 have:k=1\/k=2\/k=3\/k=4:=by omega
 have e1:(256:Nat) ^ 1=256:=rfl;have e2:(256:Nat) ^ 2=65536:=rfl;have e3:(256:Nat) ^ 3=16777216:=rfl;have e4:(256:Nat) ^ 4=4294967296:=rfl;unfold nby
 rcases this with rfl|rfl|rfl|rfl<;>simp only [e1,e2,e3,e4] at h<;>(repeat' split)<;>omega
theorem hd_len {n k:Nat}(h1:1<=k) (h2:k<=4) (h:n<256 ^ k) (h3:¬ n<128):(lenB n).length=k+1<->0<n / 256 ^ (k-1):=by
 have hn:n<=140737488355328:=by
  have:(256:Nat) ^ k<=256 ^ 4:=Nat.pow_le_pow_right bT h2;have e4:(256:Nat) ^ 4=4294967296:=rfl;omega
 have a:=mg n;have b:=nby_le h1 h2 h;rw [lenB_lenI h3];by_cases hk:k-1<=nby n
 ·rw [s_ n (k-1) hn z2_ hk];omega
 ·constructor
  ·omega
  ·intro h5;exfalso;have:=(s_ n (nby n) hn z2_ (aL _)).1 (Nat.lt_of_lt_of_le h5 (Nat.div_le_div_left (Nat.pow_le_pow_right bT z2_) (Nat.pow_pos bT)));omega
theorem vq {l:LB}{p en:Nat}{ab:OA}{cb:Nat}{h:Part}(hl:SlR u8R 1 h ab cb l) (he:en<=l.length) (hp:p<=l.length) :
 FnR prog 184 [.slice ab l.length cb,.int .i64 p,.int .i64 en] h (λv _=>v=.tuple #[.int .i64 (hdN (rdS l (p+1) en)),.int .i64 (hdQ (rdS l (p+1) en)),.int .i64 (hdC (rdS l (p+1) en))]):=by
 have hb:=hl.big;have hen:=he;refine aM func184 U ntmps184 U (λe he=>?_);refine bg [(0,_),(1,_),(2,_)] ⟨U,U,U,trivial⟩ ?_;have hh0:=aT h;refine Sr (Ru 3 U (a_ (az (Sr (Ru 1 U (ah ai_ U ?_))))));refine Ru 2 U (a_ (Cs U (λhc1=>?_) λhc1=>?_))
 ·exact Sr (Ru 3 U (Nk [8,7,6,0,1,2] U (bj (cw U U U U) (by unfold rdS;rw [if_pos z2_];rfl))))
 refine aA (Kp [8,7,6,0,1,2] U (Sr ?_));have hpl:p+1<l.length:=z2_;have hbt:=bY l (p+1) hpl;have hlt:=cx l (p+1);refine Ru 2 U (ah ai_ U ?_);refine cm (aI (m:=p+1) cY U U U hl U z2_) U ?_;rintro _ ⟨b2,o2,hi2,rfl,hE2⟩;refine ah (bv ff U z7_) U ?_;refine ah lH U ?_;refine Ru 1 U (Nk [9,8,7,6,0,1,2] U (az (Sr (Ru 2 U (a_ (Cs U (λhc4=>?_) λhc4=>?_))))))
 ·refine Sr (Ru 2 U (ah ai_ U ?_));exact Ru 3 U (Nk [8,7,6,9,0,1,2] U (bj (cw U U U U) (by unfold rdS;rw [if_neg z2_,if_pos z2_];rw [hbt];unfold hdN hdQ hdC;simp only;rw [show((p:Int)+2)=((p+1+1:Nat):Int) by omega])))
 refine aA (Sr (Ru 1 U (ah si_ U ?_)));refine Ru 1 U (Nk [10,8,7,6,0,1,2] U (az (Sr (Ru 3 U (Bs 32 U (λhc5=>?_) λhc5=>?_)))))
 ·exact Ru 3 U (Nk [35,10,8,7,6,0,1,2] U (aY U (Sr (Ru 3 U (a_ (bj (cw U U U U) (by unfold rdS;rw [if_neg z2_,if_neg z2_,if_pos z2_];rfl)))))))
 refine Ru 3 U (Nk [35,10,8,7,6,0,1,2] U (Cs U (λhc6=>?_) λhc6=>?_))
 ·exact Sr (Ru 3 U (Nk [8,7,6,10,0,1,2] U (bj (cw U U U U) (by unfold rdS;rw [if_neg z2_,if_neg z2_,if_pos z2_];rfl))))
 refine aA (az (Sr (Ru 1 U (ah ai_ U ?_))));refine Ru 1 U (ah ai_ U ?_);refine Ru 2 U (Nk [41,10,8,7,6,0,1] U (Cs U (λhc7=>?_) λhc7=>?_))
 ·exact Sr (Ru 3 U (Nk [8,7,6,10,0,1] U (bj (cw U U U U) (by unfold rdS;rw [if_neg z2_,if_neg z2_,if_neg z2_,if_pos z2_];rfl))))
 refine aA (Sr ?_);obtain⟨kk,hkk⟩:∃ kk:Nat,byteAt l (p+1)=128+kk:=⟨byteAt l (p+1)-128,by omega⟩;obtain⟨sub,hsub⟩:∃ sub,sub=(l.drop (p+2)).take kk:=⟨_,U⟩;have hsl:sub.length=kk:=(by rw [hsub];simp;omega);have hsi:∀ (i:Nat) (hi:i<sub.length) (hj:p+2+i<l.length),l[p+2+i]=sub[i]:=(by subst hsub;intro i hi hj;simp);refine Ru 1 U (a_ (az (Sr (Ru 1 U (a_ (aJ (bM (λt_ S_ h_ L_=>∃ (g:Part) (i:Nat),t_=kk-i/\S_=[(0,.slice ab l.length cb),(1,.int .i64 p),(10,.int .i64 kk),(11,.int .i64 (beval (sub.take i))),(12,.int .i64 i)]/\g=h_/\L_=[]/\(h.le g/\SlR u8R 1 g ab cb l/\i<=kk)) ⟨_,_,?_,⟨_,0,U,U,U,U,⟨by assumption,by assumption,by omega⟩⟩⟩ ?_)))))))
 ·repeat (first|exact trivial|refine⟨rfl,?_⟩|refine⟨(by exact cQ (by first|rfl|omega)),?_⟩)
 rintro _ _ _ _ ⟨g,i,rfl,rfl,rfl,rfl,hhg,hl,hi⟩;have hbl:=lB sub i;refine az (Sr (Ru 3 U (a_ (Cs U (λhc8=>?_) λhc8=>?_))))
 ·refine aA (az (aJ (Rg ?_)));have h256:=tH i z2_;have hst:=kw sub i z2_;have hsb:=(sub[i]'z2_).toNat_lt;have hsie:=hsi i z2_ z2_;rw [<- hsie] at hst hsb;refine Ru 1 U (ah jM U ?_);refine Ru 2 U (ah ai_ U ?_);refine Ru 1 U (ah ai_ U ?_);refine cm (aI (m:=p+2+i) cY U U U hl U z2_) U ?_;rintro _ ⟨b9,o9,hi9,rfl,hE9⟩;refine ah (bv ff U z7_) U ?_;refine ah lH U ?_;refine ah ai_ U ?_;refine Ru 1 U (a_ (Rg (Ru 1 U (ah ai_ U ?_))));refine Ru 1 U (a_ (⟨_,?_,_,?_,⟨_,i+1,U,U,U,U,⟨by assumption,by assumption,by omega⟩⟩⟩))
  ·omega
  repeat (first|exact trivial|refine⟨rfl,?_⟩|refine⟨(by exact cQ (by first|rfl|omega)),?_⟩)
 refine bA (Kp [1,10,11] U (az (Sr ?_)));have hik:i=kk:=z2_;have hv:beval ((l.drop (p+1+1)).take (byteAt l (p+1)-128))=beval (sub.take i):=(by rw [hkk,show 128+kk-128=kk by omega,show p+1+1=p+2 by omega,<- hsub,aS z2_]);have hbl:=lB sub i;rw [hik] at hbl hv;subst hik;have hHL:=@hd_len (beval (sub.take i)) i z2_ z2_ hbl;have h25:=Nat.pow_le_pow_right (n:=256) bT (show i<=4 by omega);have hw:256 ^ (byteAt l (p+1)-128-1)=256 ^ (i-1):=(by rw [hkk,show 128+i-128=i by omega]);refine Ru 3 U (Bs 60 U (λhc11=>?_) λhc11=>?_)
 ·exact Ru 7 U (Nk [67,1,10,11] U (aY U (Sr (Ru 3 U (a_ (bj (cw U U U U) (by unfold rdS;rw [if_neg z2_,if_neg z2_,if_neg z2_,if_neg z2_,if_pos (by rw [hv,hw];omega)];rfl)))))))
 refine Ru 1 U (JL.callRg U U  ca_114 U (mn z2_) U ?_);rintro _ h12 hle12 ⟨a12,c12,rfl,hS12⟩
 replace hhg:=hhg.mono hle12
 replace hl:=hl.mono hle12
 refine Ru 2 U (aQ U U  ai_ U ?_);refine Ru 2 U (Nk [67,1,10,11] U (Cs U (λhc13=>?_) λhc13=>?_))
 ·refine Sr (Ru 3 U (a_ ?_));have hhl:=hHL z2_;exact bj (cw U U U U) (by unfold rdS;rw [if_neg z2_,if_neg z2_,if_neg z2_,if_neg z2_,if_pos (by rw [hv,hw];omega)];rfl)
 refine aA (Sr (Ru 2 U (ah ai_ U ?_)));refine Ru 1 U (ah ai_ U ?_);refine Ru 3 U (Nk [8,7,6] U ?_);have hhl:=hHL z2_;exact bj (cw U U U U) (by unfold rdS;rw [if_neg z2_,if_neg z2_,if_neg z2_,if_neg z2_,if_neg (by rw [hv,hw];omega),hv,hkk];unfold hdN hdQ hdC;simp only;rw [show((p+1+1+(128+i-128):Nat):Int)=(p:Int)+2+i by omega])
def hdE (s:Except Int (Nat×Nat)) (en:Nat):Int:=if hdC s=0/\(en:Int)-hdQ s<hdN s then 30 else hdC s
def hdF (s:Except Int (Nat×Nat)) (en d:Nat):Int:=if hdE s en=0/\d=0 then 33 else hdE s en
theorem nT {l:LB}{p en:Nat}{c:Int}(h:rdS l p en=.error c):c≠0:=by
 unfold rdS at h
 (repeat' split at h)<;>first|(cases h;decide)|cases h
theorem hdQ_le (l:LB) (p en:Nat):hdQ (rdS l p en)<=en:=by
 cases h:rdS l p en with
 |error c=>exact Nat.zero_le _
 |ok x=>exact(mU h).2
theorem hdF_err {c:Int}{en d:Nat}(hc:c≠0):hdF (.error c) en d=c:=by
 have e:hdE (.error c) en=c:=if_neg (λhh=>hc hh.1);unfold hdF;rw [e];exact if_neg (λhh=>hc hh.1)
theorem hdF_okv {n q en d:Nat}:hdF (.ok (n,q)) en d=if(en:Int)-q<n then 30 else if d=0 then 33 else 0:=by
 have e:hdE (.ok (n,q)) en=if(en:Int)-q<n then 30 else 0:=by
  by_cases h1:(en:Int)-q<n
  ·rw [if_pos h1];exact if_pos ⟨U,h1⟩
  ·rw [if_neg h1];exact if_neg (λhh=>h1 hh.2)
 unfold hdF;rw [e];by_cases h1:(en:Int)-q<n
 ·simp only [if_pos h1];simp
 ·simp only [if_neg h1];by_cases h2:d=0
  ·simp [h2]
  ·simp [h2]
theorem hdF_bad {l:LB}{p en d:Nat}{s:Except Int (Nat×Nat)}(hp:p<en) (hm:mayB (byteAt l p / 64:Nat) (byteAt l p % 32:Nat) (decide (byteAt l p / 32 % 2=1))=true) (hs:rdS l (p+1) en=s) (hF:hdF s en d≠0):rdN d l p en=.error (p,hdF s en d):=by
 have key:∀ ok,(ok=false<->d=0)->rdH l p en ok=.error (p,hdF s en d):=λok hok=>by
  unfold rdH;rw [if_neg z2_,if_neg (by rw [hm];decide),hs];cases s with
  |error c=>simp only;rw [hdF_err (nT hs)]
  |ok x =>
   obtain⟨n,q⟩:=x;have hq:=(mU hs).2;rw [hdF_okv] at hF |-;simp only;by_cases h1:n<=en-q
   ·have h3:¬ (en:Int)-q<n:=by omega
    rw [if_neg h3] at hF;rw [if_neg (show ¬ ¬ n<=en-q from λhh=>hh h1),if_neg h3];by_cases h2:d=0
    ·rw [if_pos (hok.2 h2),if_pos h2]
    ·rw [if_neg h2] at hF;exact absurd U hF
   ·rw [if_pos (show ¬ n<=en-q from h1),if_pos (show(en:Int)-q<n by omega)]
 cases d with
 |zero=>exact lg (key false (by simp))
 |succ d=>exact nW (key true (by simp))
theorem hdF_ok {l:LB}{p en d:Nat}{s:Except Int (Nat×Nat)}(hp:p<en) (hm:mayB (byteAt l p / 64:Nat) (byteAt l p % 32:Nat) (decide (byteAt l p / 32 % 2=1))=true) (hs:rdS l (p+1) en=s) (hF:hdF s en d=0) :
 ∃ n q d',hdN s=n/\hdQ s=q/\d=d'+1/\rdH l p en true=.ok (byteAt l p / 64,byteAt l p % 32,decide (byteAt l p / 32 % 2=1),n,q):=by
 cases s with
 |error c=>rw [hdF_err (nT hs)] at hF;exact absurd hF (nT hs)
 |ok x =>
  obtain⟨n,q⟩:=x;have hq:=(mU hs).2;rw [hdF_okv] at hF;by_cases h1:(en:Int)-q<n
  ·rw [if_pos h1] at hF;exact absurd hF bT
  ·rw [if_neg h1] at hF;by_cases h2:d=0
   ·rw [if_pos h2] at hF;exact absurd hF bT
   ·refine⟨n,q,d-1,U,U,by omega,?_⟩;unfold rdH;rw [if_neg z2_,if_neg (by rw [hm];decide),hs];simp only;rw [if_neg z2_,if_neg bT]
theorem mW:∀ (ks:LN) (set:Bool) (lo lo':Option LB) (ab b:LB),Nd.putL set ks lo ab=some b->Nd.putL false ks lo' ab=some b
 |[],set,lo,lo',ab,b,h=>by simpa [Nd.putL] using h
 |x::r,set,lo,lo',ab,b,h=>by
  simp only [Nd.putL] at h |-
  cases hx:x.put with
  |none=>simp [hx] at h
  |some z =>
   simp only [hx] at h |-
   split at h
   ·cases h
   ·simp only [Bool.false_and,c_,if_false];exact mW r set _ _ _ _ h
theorem rdK_put {d:Nat}{l:LB}{stop:Nat}(hst:stop<=l.length):∀ (f q1:Nat) (acc:LN) (rr:Bool) (last:Nat) (ks:LN) (r':Bool) (q2:Nat),q1<=stop->stop<=q1+f->rdK (rdN d l) l stop f q1 acc rr last=.ok (ks,r',q2) ->
 ∃ r,ks=acc++r/\Nd.rkL r<=d/\q2=stop/\∀ ab lo,Nd.putL false r lo ab=some (ab++cutL l q1 stop):=by
 intro f
 induction f with
 |zero =>
  intro q1 acc rr last ks r' q2 h1 h2 h3;simp only [rdK] at h3;injection h3 with h3;injection h3 with h7 h8;injection h8 with h8 h9;have hq:q1=stop:=by omega
  exact⟨[],by simp [h7],by simp [Nd.rkL],by omega,λab lo=>by simp [Nd.putL,cutL,hq]⟩
 |succ f ih =>
  intro q1 acc rr last ks r' q2 h1 h2 h3;by_cases hlt:q1<stop
  ·cases hx:rdN d l q1 stop with
   |error e=>rw [nX hlt hx] at h3;cases h3
   |ok y =>
    obtain⟨x,p'⟩:=y;rw [m7 hlt hx] at h3;have hle:=gA d l q1 stop x p' hx;obtain⟨hp,hr⟩:=nV d l q1 stop x p' hst hx;obtain⟨r,e1,e2,e3,e4⟩:=ih p' _ _ _ _ _ _ hle.2 z2_ h3;refine⟨x::r,by simp [e1],by simp only [Nd.rkL];omega,e3,λab lo=>?_⟩;simp only [Nd.putL,hp,Bool.false_and,c_,if_false];rw [e4,List.append_assoc,iU z2_ z2_]
  ·rw [gm hlt] at h3;injection h3 with h3;injection h3 with h7 h8;injection h8 with h8 h9;have hq:q1=stop:=by omega
   exact⟨[],by simp [h7],by simp [Nd.rkL],by omega,λab lo=>by simp [Nd.putL,cutL,hq]⟩
theorem rk_right {d:Nat}{l:LB}{p en c t n q p':Nat}{ks:LN}{r:Bool}(he:en<=l.length) (hen:en<4294967296) (hH:rdH l p en true=.ok (c,t,true,n,q)) (hK:rdK (rdN d l) l (q+n) n q [] true q=.ok (ks,r,p')) :
 (Nd.mk c t true [] ks).put.isSome=(r||(decide (c≠0)||decide (t≠17))):=by
 have h0:=mV hH;obtain⟨hm,hcut,hn⟩:=rI hH he;have hN:rdN (d+1) l p en=if r||(decide (c≠0)||decide (t≠17)) then .ok (.mk c t true [] ks,p') else .error (p,34):=by rw [f3 hH,hK]
 cases hr:(r||(decide (c≠0)||decide (t≠17))) with
 |true =>
  rw [hr,if_pos rfl] at hN;rw [(nV _ _ _ _ _ _ he hN).1];rfl
 |false =>
  rw [hr,if_neg bT] at hN;cases hp:(Nd.mk c t true [] ks).put with
  |none=>rfl
  |some b =>
   exfalso;obtain⟨r2,e1,e2,e3,e4⟩:=rdK_put (d:=d) (l:=l) (stop:=q+n) z2_ n q [] true q ks r p' z2_ z2_ hK;rw [List.nil_append] at e1;subst e1;have hb:=hp;rw [tF hm rfl] at hb;cases hpl:Nd.putL (decide ((c:Int)=0)&&decide ((t:Int)=17)) ks none [] with
   |none=>rw [hpl] at hb;simp at hb
   |some z =>
    rw [hpl] at hb;simp only [Option.map_some,aB] at hb;have hz:=mW _ _ _ none _ _ hpl;rw [e4 [] none,List.nil_append] at hz;injection hz with hz;subst hz;have hbc:b=cutL l p (q+n):=by
     rw [<- hb,mC z2_ z2_,show q+n-q=n by omega,<- hcut,iU z2_ z2_]
    have hbl:b.length=q+n-p:=by rw [hbc,mC z2_ z2_]
    have:=nU (d+1) _ b l p en hp (by simp only [Nd.rk];omega) z2_ (by rw [hbc];unfold cutL;exact List.take_prefix _ _) z2_;rw [this] at hN;cases hN
theorem rp_right {l:LB}{p en c t n q:Nat}{bs:LB}(he:en<=l.length) (hH:rdH l p en true=.ok (c,t,false,n,q)):(Nd.mk c t false bs []).put.isSome=(decide (c=2)||valB t bs):=by
 obtain⟨hm,_,_⟩:=rI hH he;have hr:=(may_rng hm).1;rw [tE hm rfl];by_cases h2:c=2
 ·subst h2;simp
 ·have h0:(c:Int)=0:=by omega
  rw [au h2,aj h0];cases valB t bs<;>rfl
theorem rdN_sz {d:Nat}{l:LB}{p e:Nat}{x:Nd}{q:Nat}(he:e<=l.length) (h:rdN d l p e=.ok (x,q)):x.sz+p<=q:=by
 have h1:=(nV d l p e x q he h).1;have h2:=gA d l p e x q h;have:=Nd.put_sz _ x _ (aL _) h1;rw [mC z2_ z2_] at this;omega
theorem z43_ {p:Prop}(u:p:=by repeat (first|exact trivial|refine⟨rfl,?_⟩|refine⟨(by exact cV (by first|exact and_t z7_ z2_|exact and_f z7_|exact and_f (by simp_all))),?_⟩)):p:=u
theorem z46_ {p:Prop}(u:p:=by repeat (first|exact trivial|refine⟨rfl,?_⟩|refine⟨(by exact cQ (by first|exact(if_pos z7_).symm|exact(if_neg z7_).symm)),?_⟩)):p:=u
theorem ca_135:callT prog 135=true:=by kernel_rfl
theorem ca_184:callT prog 184=true:=by kernel_rfl
def rrX:RdE (Nd×Nat)->Nd|.ok (x,_)=>x|.error _=>ndZ
def rrQ:RdE (Nd×Nat)->Nat|.ok (_,q)=>q|.error _=>0
def rrA:RdE (Nd×Nat)->Int|.ok _=>0|.error (a,_)=>a
def rrC:RdE (Nd×Nat)->Int|.ok _=>0|.error (_,c)=>c
def rrR (s:RdE (Nd×Nat)):Value->Part->Prop:=λv h'=>∃ cs,v=.tuple #[.agg (List.toArray cs),.int .i64 (rrQ s),.agg #[.int .i64 (rrA s),.int .i64 (rrC s)]]/\NdR h' cs (rrX s)
theorem iJ {s:RdE (Nd×Nat)}{a c:Int}{h:Part}(hs:s=.error (a,c)):rrR s (.tuple #[.agg #[.int .i64 0,.int .i64 0,.bool false,.slice none 0 0,.slice none 0 0],.int .i64 0,.agg #[.int .i64 a,.int .i64 c]]) h:=by
 subst hs;exact⟨_,U,d_ bu bu⟩
theorem rrR_ok {s:RdE (Nd×Nat)}{x:Nd}{q:Nat}{cs:LV}{h:Part}(hs:s=.ok (x,q)) (hx:NdR h cs x):rrR s (.tuple #[.agg cs.toArray,.int .i64 q,.agg #[.int .i64 0,.int .i64 0]]) h:=by
 subst hs;exact⟨cs,U,hx⟩
theorem rr_bad {s:RdE (Nd×Nat)}(h:rrC s≠0):s=.error (rrA s,rrC s):=by
 cases s with
 |error e=>rfl
 |ok x=>exact absurd U h
theorem rr_ok {d:Nat}{l:LB}{p e:Nat}(hp:p<=e) (h:rrC (rdN d l p e)=0):rdN d l p e=.ok (rrX (rdN d l p e),rrQ (rdN d l p e)):=by
 cases hs:rdN d l p e with
 |ok x=>rfl
 |error x =>
  obtain⟨a,c⟩:=x;rw [hs] at h;have h:c=0:=h;have:=rdN_at d l p e a c hp hs;omega
theorem and_t {k:Bool}{P Q:Prop} [Decidable P] [Decidable Q] (hk:k=true) (h:P<->Q):decide P=decide (k=true/\Q):=decide_eq_decide.2 ⟨λhp=>⟨hk,h.1 hp⟩,λhp=>h.2 hp.2⟩
theorem and_f {k:Bool}{Q:Prop} [Decidable Q] (hk:¬ k=true):false=decide (k=true/\Q):=(au (λhh=>hk hh.1)).symm
theorem rd_kid {d d':Nat}{l:LB}{p en c t n q f pos last:Nat}{k r:Bool}{acc:LN}{a e:Int}(hd:d=d'+1) (hH:rdH l p en true=.ok (c,t,k,n,q)) (hk:k=true) (hK:rdK (rdN d' l) l (q+n) n q [] true q=rdK (rdN d' l) l (q+n) (f+1) pos acc r last) (hp:pos<q+n)
 (hx:rdN d' l pos (q+n)=.error (a,e)):rdN d l p en=.error (a,e):=by
 subst hd hk;rw [f3 hH,hK,nX hp hx]
theorem rd_end {d d':Nat}{l:LB}{p en c t n q f pos last:Nat}{k r:Bool}{acc:LN}{bs:LB}(he:en<=l.length) (hen:en<4294967296) (hd:d=d'+1) (hH:rdH l p en true=.ok (c,t,k,n,q))
 (h1:k=true->bs=[]/\rdK (rdN d' l) l (q+n) n q [] true q=rdK (rdN d' l) l (q+n) f pos acc r last) (h0:k=false->acc=[]/\bs=cutL l q (q+n)) (hs:pos<=q+n) (hx:¬ (k=true/\pos<q+n)) :
 rdN d l p en=if(Nd.mk c t k bs acc).put.isSome then .ok (.mk c t k bs acc,q+n) else .error (p,34):=by
 subst hd;cases k with
 |true =>
  obtain⟨rfl,hK⟩:=h1 U;have hx2:¬ pos<q+n:=λhh=>hx ⟨U,hh⟩;have hp:pos=q+n:=by omega
  replace hK:=hK.trans (gm hx2)
  rw [rk_right he hen hH hK,f3 hH,hK,hp]
 |false =>
  obtain⟨rfl,rfl⟩:=h0 U;rw [rp_right he hH,je hH]
theorem rdnode_fn:∀ (d:Nat) (l:LB) (p en:Nat) (ab:OA) (cb:Nat) (h:Part),SlR u8R 1 h ab cb l->l.length<=16777216->en<=l.length->p<=l.length->d<=32 ->
 FnR prog 135 [.slice ab l.length cb,.int .i64 p,.int .i64 en,.int .i64 ((33:Int)-d)] h (rrR (rdN d l p en)):=by
 intro d
 induction d using Nat.strongRecOn with
 |_ d ih =>
 intro l p en ab cb h hl hll hen hpl0 hd;refine aM func135 U ntmps135 U (λe he=>?_);refine bg [(0,_),(1,_),(2,_),(3,_)] ⟨U,U,U,U,trivial⟩ ?_;have hh0:=aT h;refine Sr (bI eF U (λb1=>?_));refine Ru 1 U (bI lG U (λb2=>?_));refine a_ (az (Sr (Ru 3 U (a_ (Cs U (λhc3=>?_) λhc3=>?_)))))
 ·refine Sr (ah (bn (cs:=[.int .i64 0,.int .i64 0,.bool false,.slice none 0 0,.slice none 0 0]) eR U U) U ?_);refine Ru 1 U (ah (bn (cs:=[_,_]) fQ U U) U ?_);refine aV bP U U dl_ f8 f9 z4_ ?_;refine Ru 1 U (aV cZ U U dl_ dn j5 dn ?_);refine Nk [9,10,8,0,1,2,3] U ?_;exact bj (eK U U bP mm_ z4_ U U cZ mm_ dn) (iJ (by cases d with
   |zero=>exact lg (by unfold rdH;rw [if_pos z2_])
   |succ d=>exact nW (by unfold rdH;rw [if_pos z2_])))
 refine aA (Sr ?_);have hpl:p<l.length:=z2_;have hbt:=bY l p hpl;have hlt:=cx l p;refine Ru 2 U (cm (aI (m:=p) cY U U U hl U z2_) U ?_);rintro _ ⟨b4,o4,hi4,rfl,hE4⟩;refine ah (bv ff U z7_) U ?_;refine ah lH U ?_;refine Ru 1 U (Nk [11,10,9,8,0,1,2,3] U (Sr (Ru 1 U (ah qX U ?_))));rw [show((l[p].toNat:Int) / 64)=((byteAt l p / 64:Nat):Int) by rw [hbt];simp];refine Ru 1 U (ah uY U ?_);rw [show((l[p].toNat:Int) % 32)=((byteAt l p % 32:Nat):Int) by rw [hbt];simp];refine Ru 1 U (ah qX U ?_);refine ah uY U ?_;refine Ru 1 U ?_;rw [show decide ((l[p].toNat:Int) / 32 % 2=1)=decide (byteAt l p / 32 % 2=1) from decide_eq_decide.2 z2_];refine ah (bn (cs:=[_,_,_,.slice none 0 0,.slice none 0 0]) eR U U) U ?_;refine bI eF U (λb6=>?_);refine aV bP U U dl_ f8 f9 z4_ ?_;refine Nk [12,10,9,8,0,1,2,3] U (az (Sr (Ru 1 U (ah (aw dI U mm_ U) U ?_))));refine Ru 1 U (ah (aw dI U mm_ U) U ?_);refine Ru 1 U (ah (aw kC U mm_ U) U ?_);refine bh ca_112 U (rmay_fn _ _ _ _) U ?_;refine Ru 1 U (Nk [47,12,10,9,8,0,1,2,3] U (Cs U (λhc8=>?_) λhc8=>?_))
 ·have hmay:mayB (byteAt l p / 64:Nat) (byteAt l p % 32:Nat) (decide (byteAt l p / 32 % 2=1))=false:=(by simpa using hc8);refine Sr (ah (bn (cs:=[.int .i64 0,.int .i64 0,.bool false,.slice none 0 0,.slice none 0 0]) eR U U) U ?_);refine Ru 1 U (ah (bn (cs:=[_,_]) fQ U U) U ?_);refine aV bP U U dl_ f8 f9 z4_ ?_;refine Ru 1 U (aV cZ U U dl_ dn j5 dn ?_);refine Nk [9,12,10,8,0,1,2,3] U ?_;exact bj (eK U U bP mm_ z4_ U U cZ mm_ dn) (iJ (by cases d with
   |zero=>exact lg (by unfold rdH;rw [if_neg z2_,if_pos hmay])
   |succ d=>exact nW (by unfold rdH;rw [if_neg z2_,if_pos hmay])))
 have hmay:mayB (byteAt l p / 64:Nat) (byteAt l p % 32:Nat) (decide (byteAt l p / 32 % 2=1))=true:=(by simpa using hc8);refine aA (Sr (Ru 3 U (bL ca_184 U (vq z7_ z2_ z2_) U ?_)));rintro _ h9 hle9 rfl
 replace hl:=hl.mono hle9
 replace hh0:=hh0.mono hle9
 obtain⟨s,hs⟩:∃ s,rdS l (p+1) en=s:=⟨_,U⟩;rw [hs];have hsq:=hdQ_le l (p+1) en;rw [hs] at hsq;refine Ru 7 U (Nk [15,14,13,12,10,9,8,0,1,2,3] U (az (az (cJ [(67,.bool (decide (hdC s=0/\(en:Int)-hdQ s<hdN s)))] [(15,_),(14,_),(13,_),(12,_),(10,_),(9,_),(8,_),(0,_),(1,_),(3,_)] ⟨U,U,U,U,U,U,U,U,U,U,trivial⟩ ?_ ?_))))
 ·refine Rg (Ru 3 U (Bs 61 U (λhc10=>?_) λhc10=>?_))
  ·refine Ru 3 U (aQ U U  si_ U ?_);refine Ru 2 U (a_ (⟨U,U,?_⟩));exact uZ
  refine Ru 6 U (a_ (⟨U,U,?_⟩));exact uZ
 refine cJ [(15,.int .i64 (hdE s en))] [(14,_),(13,_),(12,_),(10,_),(9,_),(8,_),(0,_),(1,_),(3,_)] ⟨U,U,U,U,U,U,U,U,U,trivial⟩ ?_ ?_
 ·refine Cs U (λhc11=>?_) λhc11=>?_
  ·refine Rg (Ru 1 U (a_ (⟨U,U,?_⟩)));exact z46_
  refine aA (⟨U,U,?_⟩);exact z46_
 refine az (az (cJ [(73,.bool (decide (hdE s en=0/\d=0)))] [(15,_),(14,_),(13,_),(12,_),(10,_),(9,_),(8,_),(0,_),(1,_),(3,_)] ⟨U,U,U,U,U,U,U,U,U,U,trivial⟩ ?_ ?_))
 ·refine Rg (Ru 3 U (Bs 70 U (λhc12=>?_) λhc12=>?_))
  ·refine Ru 3 U (a_ (⟨U,U,?_⟩));exact uZ
  refine Ru 3 U (a_ (⟨U,U,?_⟩));exact uZ
 refine cJ [(15,.int .i64 (hdF s en d))] [(14,_),(13,_),(12,_),(10,_),(9,_),(8,_),(0,_),(1,_),(3,_)] ⟨U,U,U,U,U,U,U,U,U,trivial⟩ ?_ ?_
 ·refine Cs U (λhc13=>?_) λhc13=>?_
  ·refine Rg (Ru 1 U (a_ (⟨U,U,?_⟩)));exact z46_
  refine aA (⟨U,U,?_⟩);exact z46_
 refine az (Sr (Ru 2 U (a_ (Cs U (λhc14=>?_) λhc14=>?_))))
 ·refine Sr (ah (bn (cs:=[.int .i64 0,.int .i64 0,.bool false,.slice none 0 0,.slice none 0 0]) eR U U) U ?_);refine Ru 2 U (ah (bn (cs:=[_,_]) fQ U U) U ?_);refine aV bP U U dl_ f8 f9 z4_ ?_;refine Ru 1 U (aV cZ U U dl_ dn j5 dn ?_);exact Nk [9,14,13,12,10,8,0,1,3] U (bj (eK U U bP mm_ z4_ U U cZ mm_ dn) (iJ (hdF_bad z2_ hmay hs hc14)))
 obtain⟨zn,zq,d',hzn,hzq,hdd,hH⟩:=hdF_ok (d:=d) z2_ hmay hs z2_;rw [hzn,hzq];have hle:=mV hH;obtain⟨c,hcd⟩:∃ c,byteAt l p / 64=c:=⟨_,U⟩;obtain⟨t,htd⟩:∃ t,byteAt l p % 32=t:=⟨_,U⟩;obtain⟨k,hkd⟩:∃ k,decide (byteAt l p / 32 % 2=1)=k:=⟨_,U⟩;rw [hcd,htd,hkd] at hH |-;rw [hcd,htd] at hle;refine aA (az (Sr (Ru 1 U (ah (aw kC U mm_ U) U ?_))));refine bZ 5 1 ?_;refine bZ 35 5 ?_;refine Ru 1 U (Nk [82,14,13,12,10,9,8,0,1,3] U (Cs U (λhc15=>?_) λhc15=>?_))
 ·refine J.held ([]) 11 cM U (λh00=>?_);refine Tk 0 U (by first|exact bR kh rfl|exact bO kh rfl) ?_;refine Tk 2 U (aO U) ?_;refine Tk 3 U (aO U) ?_;refine Tk 4 U (aO U) ?_;refine Tk 5 U (aO U) ?_;refine Tk 6 U ai_ ?_;refine Te 7 U (eJ (m:=zq) (m':=zq+zn) cY U U U U z2_ z7_ U z2_ z2_) ?_;rintro _ ⟨as_,cs_,rfl,hSs⟩;obtain⟨bs,hbs⟩:∃ bs,cutL l zq (zq+zn)=bs:=⟨_,U⟩;have hbc:=hbs;unfold cutL at hbs;rw [hbs] at hSs |-;have hbsl:=hSs.big;have hbl2:bs.length=zn:=(by rw [<- hbs];simp;omega)
  refine Ta 1 U ?_;unfold One;refine ah (aw dt U mm_ U) U ?_;refine a_ ⟨(br_ h00),?_⟩;refine Ta 8 U ?_;unfold One;refine bX dq U U (bQ:CellsR u8R 1 _ [] []) U z7_ U dl_ z3_ U U (λa17 c17 xs17 hC17 hN17=>?_);obtain rfl:=hC17.u8;refine cW (R:=u8R) (l:=bs) dl_ bm U z3_ (λh18 hle18 hP18=>?_)
  replace hl:=hl.mono hle18
  replace hh0:=hh0.mono hle18
  replace hSs:=hSs.mono hle18
  refine a_ ⟨(br_ h00),?_⟩;refine Tk 9 U (by first|exact bR kh rfl|exact bO kh rfl) ?_;refine Ta 10 U ?_;unfold One;refine bK dt U U U dl_ fL ?_;refine a_ ⟨(br_ h00),?_⟩;refine cy cP ?_;refine Kp [14,13,12,10,9,8,0,1,3] U (az (Sr (JL.ents [.blk b6 _ _,.row none 0 35 5 0 [],.blk b1 _ _,.blk b2 _ _] pt_ ?_)));refine Ru 2 U (a_ (aJ (bM (λt_ S_ h_ L_=>∃ (g:Part) (f pos last:Nat) (acc:LN) (r:Bool) (bs:LB) (ak bk:OA) (ck ckb:Nat) (xs:LV),t_=zq+zn-pos/\S_=[(0,.slice ab l.length cb),(1,.int .i64 p),(3,.int .i64 ((33:Int)-d)),(8,.pointer (some ⟨b1,0,none⟩)),(10,.pointer (some ⟨b2,0,none⟩)),(12,.pointer (some ⟨b6,0,none⟩)),(13,.int .i64 zn),(14,.int .i64 zq),(16,.int .i64 pos)]/\g=h_/\L_=[.blk b6 35 [.int .i64 c,.int .i64 t,.bool k,.slice bk bs.length ckb,.slice ak acc.length ck],.row ak ck 35 5 acc.length xs,.blk b1 35 [.int .i64 0,.int .i64 0,.bool false,.slice none 0 0,.slice none 0 0],.blk b2 102 [.int .i64 0,.int .i64 0]]/\(h.le g/\SlR u8R 1 g ab cb l/\CellsR NdR 5 g xs acc/\SlR u8R 1 g bk ckb bs/\bs.length<=zn/\last<=pos/\zq<=pos/\pos<=zq+zn/\zq+zn<=pos+f/\Nd.szL acc+zq<=pos/\acc.length+zq<=pos/\(k=false->acc=[]/\bs=cutL l zq (zq+zn))/\(k=true->bs=[]/\rdK (rdN d' l) l (zq+zn) zn zq [] true zq=rdK (rdN d' l) l (zq+zn) f pos acc r last))) ⟨_,_,?_,⟨_,zn,zq,zq,[],true,bs,none,_,0,_,[],U,U,U,U,⟨by assumption,by assumption,bQ,(by first|assumption|exact bu),(by first|omega|exact Nat.zero_le _),by omega,by omega,by omega,by omega,by simp [Nd.szL],by simp,(by intro hh;first|exact⟨rfl,hbc.symm⟩|simp_all),(by intro hh;first|exact⟨rfl,rfl⟩|simp_all)⟩⟩⟩ ?_)))
  ·exact z6_
  rintro _ _ _ _ ⟨g,f,pos,last,acc,r,bs,ak,bk,ck,ckb,xs,rfl,rfl,rfl,rfl,hhg,hl,hC,hbsR,hbl,hlp,hzp,hps,hpf,hsz,hap,hK0,hK1⟩;refine az (az (cJ [(102,.bool (decide (k=true/\pos<zq+zn)))] [(0,_),(1,_),(3,_),(8,_),(10,_),(12,_),(13,_),(14,_),(16,_)] ⟨U,U,U,U,U,U,U,U,U,trivial⟩ ?_ ?_))
  ·refine Rg (Ru 1 U (ah (aw kC U mm_ U) U ?_));refine Ru 1 U (Bs 96 U (λhc19=>?_) λhc19=>?_)
   ·refine Ru 3 U (aQ U U  ai_ U ?_);refine Ru 2 U (a_ (⟨U,U,?_⟩));exact z43_
   refine Ru 6 U (a_ (⟨U,U,?_⟩));exact z43_
  refine Cs U (λhc20=>?_) λhc20=>?_
  ·obtain⟨hkt,hpos⟩:=hc20;obtain⟨hbs0,hK⟩:=hK1 hkt;obtain⟨f',rfl⟩:∃ f',f=f'+1:=⟨f-1,by omega⟩;refine aA (aJ (Sr (Ru 4 U (ah ai_ U ?_))));rw [show(zq:Int)+zn=((zq+zn:Nat):Int) by omega];refine Ru 1 U (ah ai_ U ?_);rw [show((33:Int)-(d:Int)+1)=33-(d':Int) by omega];refine bL ca_135 U ((ih d' z2_ l pos (zq+zn) ab cb _ z7_ hll z2_ z2_ z2_)) U ?_;rintro _ h21 hle21 ⟨xcs,rfl,hX⟩
   replace hhg:=hhg.mono hle21
   replace hl:=hl.mono hle21
   replace hC:=hC.mono hle21
   replace hbsR:=hbsR.mono hle21
   have hyo:=@rr_ok d' l pos (zq+zn) z2_;have hyb:=@rr_bad (rdN d' l pos (zq+zn));obtain⟨y,hy⟩:∃ y,rdN d' l pos (zq+zn)=y:=⟨_,U⟩;rw [hy] at hX hyo hyb |-
   refine Ru 4 U (bI eF U (λb22=>?_));refine bI lG U (λb23=>?_);refine aV bP U U dl_ f8 f9 z4_ ?_;refine Ru 1 U (aV cZ U U dl_ dn j5 dn ?_);refine a_ (az (Sr (Ru 1 U (ah (aw mI U mm_ U) U ?_))));refine Ru 1 U (a_ (Cs U (λhc24=>?_) λhc24=>?_))
   ·have hrd:=rd_kid hdd hH hkt hK hpos (hy.trans (hyb hc24));refine az (J.held ([.blk (by first|exact b23|exact b33) 102 [.int .i64 (rrA y),.int .i64 (rrC y)]]) 5 cM U (λh00=>?_));refine Tk 0 U (bn (cs:=[.int .i64 0,.int .i64 0,.bool false,.slice none 0 0,.slice none 0 0]) eR U U) ?_;refine Tk 1 U (bJ cZ U mm_ dn) ?_;refine Ta 2 U ?_;unfold One;refine aV bP U U dl_ f8 f9 z4_ ?_;refine a_ ⟨(br_ h00),?_⟩;refine Tk 3 U (bS U) ?_;refine Ta 4 U ?_;unfold One;refine aV cZ U U dl_ dn j5 dn ?_;refine a_ ⟨(br_ h00),?_⟩;refine cy cP ?_;exact bj (eK U U bP mm_ z4_ U U cZ mm_ dn) (iJ hrd)
   have hye:=hy.trans (hyo z2_);obtain⟨x,hxx⟩:∃ x,rrX y=x:=⟨_,U⟩;obtain⟨p',hpp⟩:∃ p',rrQ y=p':=⟨_,U⟩;rw [hxx,hpp] at hye;rw [hxx] at hX;rw [hpp];have hxl:=gA d' l pos (zq+zn) _ _ hye;have hxz:=rdN_sz z2_ hye;refine aA (Sr (Ru 1 U (ah (aw dz U mm_ U) U ?_)));refine ah (bJ bP U mm_ z4_) U ?_;refine JL.litA dU U z4_ U U (λb25=>?_);refine bV dU U U z7_ U dl_ dl_ z4_ (hX) z3_ U U (λa26 c26 xs26 hC26 hN26=>?_);refine Ru 1 U (bK dz U U U dl_ fL ?_);refine a_ (Rg (Ru 2 U (JL.ents [.blk b6 _ _,.row _ _ _ _ _ _,.blk b1 _ _,.blk b2 _ _] pt_ ?_)));refine a_ (⟨_,?_,_,?_,⟨_,f',p',pos,acc++[x],_,bs,_,_,_,_,_,U,U,U,U,⟨by assumption,by assumption,by assumption,by assumption,by omega,by omega,by omega,by omega,by omega,by rw [Nd.szL_append];simp [Nd.szL];omega,by simp;omega,λhh=>by simp_all,λ_=>⟨hbs0,by rw [hK,m7 hpos hye]⟩⟩⟩⟩)
   ·omega
   exact z6_
  refine bA (Kp [1,8,10,12,13,14] U (az (Sr ?_)));refine cW (R:=NdR) (l:=acc) dl_ z7_ U z2_ (λh9 hle9 hS9=>?_);have hB9:=hbsR.mono hle9;have hend:=rd_end (d:=d) (bs:=bs) hen z2_ hdd hH hK1 hK0 hps z7_;refine ah (bJ bP U mm_ z4_) U ?_;refine bh ca_185 U (lW (x:=.mk c t k bs acc) (d_ hB9 hS9) (by simp only [Nd.sz];omega)) U ?_;refine Ru 1 U (a_ (Cs U (λhc28=>?_) λhc28=>?_))
  ·rw [if_neg (by simpa using hc28)] at hend;refine Sr (ah (bn (cs:=[.int .i64 0,.int .i64 0,.bool false,.slice none 0 0,.slice none 0 0]) eR U U) U ?_);refine Ru 1 U (ah (bn (cs:=[_,_]) fQ U U) U ?_);refine aV bP U U dl_ f8 f9 z4_ ?_;refine Ru 1 U (aV cZ U U dl_ dn j5 dn ?_);exact Nk [9,8,10,12,13,14] U (bj (eK U U bP mm_ z4_ U U cZ mm_ dn) (iJ hend))
  rw [if_pos (by simpa using hc28)] at hend;refine aA (Kp [8,10,12,13,14] U (Sr (ah (bJ bP U mm_ z4_) U ?_)));refine Ru 2 U (ah ai_ U ?_);refine ah (bn (cs:=[.int .i64 0,.int .i64 0]) fQ U U) U ?_;refine aV bP U U dl_ f8 f9 z4_ ?_;refine Ru 1 U (aV cZ U U dl_ dn j5 dn ?_);exact Nk [9,8,10] U (bj (eK U U bP mm_ z4_ U U cZ mm_ dn) (rrR_ok hend (d_ hB9 hS9)))
 let bs:LB:=[]
 refine aA (az (Sr (JL.ents [.blk b6 _ _,.row none 0 35 5 0 [],.blk b1 _ _,.blk b2 _ _] pt_ ?_)));refine Ru 2 U (a_ (aJ (bM (λt_ S_ h_ L_=>∃ (g:Part) (f pos last:Nat) (acc:LN) (r:Bool) (bs:LB) (ak bk:OA) (ck ckb:Nat) (xs:LV),t_=zq+zn-pos/\S_=[(0,.slice ab l.length cb),(1,.int .i64 p),(3,.int .i64 ((33:Int)-d)),(8,.pointer (some ⟨b1,0,none⟩)),(10,.pointer (some ⟨b2,0,none⟩)),(12,.pointer (some ⟨b6,0,none⟩)),(13,.int .i64 zn),(14,.int .i64 zq),(16,.int .i64 pos)]/\g=h_/\L_=[.blk b6 35 [.int .i64 c,.int .i64 t,.bool k,.slice bk bs.length ckb,.slice ak acc.length ck],.row ak ck 35 5 acc.length xs,.blk b1 35 [.int .i64 0,.int .i64 0,.bool false,.slice none 0 0,.slice none 0 0],.blk b2 102 [.int .i64 0,.int .i64 0]]/\(h.le g/\SlR u8R 1 g ab cb l/\CellsR NdR 5 g xs acc/\SlR u8R 1 g bk ckb bs/\bs.length<=zn/\last<=pos/\zq<=pos/\pos<=zq+zn/\zq+zn<=pos+f/\Nd.szL acc+zq<=pos/\acc.length+zq<=pos/\(k=false->acc=[]/\bs=cutL l zq (zq+zn))/\(k=true->bs=[]/\rdK (rdN d' l) l (zq+zn) zn zq [] true zq=rdK (rdN d' l) l (zq+zn) f pos acc r last))) ⟨_,_,?_,⟨_,zn,zq,zq,[],true,bs,none,_,0,_,[],U,U,U,U,⟨by assumption,by assumption,bQ,(by first|assumption|exact bu),(by first|omega|exact Nat.zero_le _),by omega,by omega,by omega,by omega,by simp [Nd.szL],by simp,(by intro hh;first|exact⟨rfl,hbc.symm⟩|simp_all),(by intro hh;first|exact⟨rfl,rfl⟩|simp_all)⟩⟩⟩ ?_)))
 ·exact z6_
 rintro _ _ _ _ ⟨g,f,pos,last,acc,r,bs,ak,bk,ck,ckb,xs,rfl,rfl,rfl,rfl,hhg,hl,hC,hbsR,hbl,hlp,hzp,hps,hpf,hsz,hap,hK0,hK1⟩;refine az (az (cJ [(102,.bool (decide (k=true/\pos<zq+zn)))] [(0,_),(1,_),(3,_),(8,_),(10,_),(12,_),(13,_),(14,_),(16,_)] ⟨U,U,U,U,U,U,U,U,U,trivial⟩ ?_ ?_))
 ·refine Rg (Ru 1 U (ah (aw kC U mm_ U) U ?_));refine Ru 1 U (Bs 96 U (λhc29=>?_) λhc29=>?_)
  ·refine Ru 3 U (aQ U U  ai_ U ?_);refine Ru 2 U (a_ (⟨U,U,?_⟩));exact z43_
  refine Ru 6 U (a_ (⟨U,U,?_⟩));exact z43_
 refine Cs U (λhc30=>?_) λhc30=>?_
 ·obtain⟨hkt,hpos⟩:=hc30;obtain⟨hbs0,hK⟩:=hK1 hkt;obtain⟨f',rfl⟩:∃ f',f=f'+1:=⟨f-1,by omega⟩;refine aA (aJ (Sr (Ru 4 U (ah ai_ U ?_))));rw [show(zq:Int)+zn=((zq+zn:Nat):Int) by omega];refine Ru 1 U (ah ai_ U ?_);rw [show((33:Int)-(d:Int)+1)=33-(d':Int) by omega];refine bL ca_135 U ((ih d' z2_ l pos (zq+zn) ab cb _ z7_ hll z2_ z2_ z2_)) U ?_;rintro _ h31 hle31 ⟨xcs,rfl,hX⟩
  replace hhg:=hhg.mono hle31
  replace hl:=hl.mono hle31
  replace hC:=hC.mono hle31
  replace hbsR:=hbsR.mono hle31
  have hyo:=@rr_ok d' l pos (zq+zn) z2_;have hyb:=@rr_bad (rdN d' l pos (zq+zn));obtain⟨y,hy⟩:∃ y,rdN d' l pos (zq+zn)=y:=⟨_,U⟩;rw [hy] at hX hyo hyb |-
  refine Ru 4 U (bI eF U (λb32=>?_));refine bI lG U (λb33=>?_);refine aV bP U U dl_ f8 f9 z4_ ?_;refine Ru 1 U (aV cZ U U dl_ dn j5 dn ?_);refine a_ (az (Sr (Ru 1 U (ah (aw mI U mm_ U) U ?_))));refine Ru 1 U (a_ (Cs U (λhc34=>?_) λhc34=>?_))
  ·have hrd:=rd_kid hdd hH hkt hK hpos (hy.trans (hyb hc34));refine az (J.held ([.blk (by first|exact b23|exact b33) 102 [.int .i64 (rrA y),.int .i64 (rrC y)]]) 5 cM U (λh00=>?_));refine Tk 0 U (bn (cs:=[.int .i64 0,.int .i64 0,.bool false,.slice none 0 0,.slice none 0 0]) eR U U) ?_;refine Tk 1 U (bJ cZ U mm_ dn) ?_;refine Ta 2 U ?_;unfold One;refine aV bP U U dl_ f8 f9 z4_ ?_;refine a_ ⟨(br_ h00),?_⟩;refine Tk 3 U (bS U) ?_;refine Ta 4 U ?_;unfold One;refine aV cZ U U dl_ dn j5 dn ?_;refine a_ ⟨(br_ h00),?_⟩;refine cy cP ?_;exact bj (eK U U bP mm_ z4_ U U cZ mm_ dn) (iJ hrd)
  have hye:=hy.trans (hyo z2_);obtain⟨x,hxx⟩:∃ x,rrX y=x:=⟨_,U⟩;obtain⟨p',hpp⟩:∃ p',rrQ y=p':=⟨_,U⟩;rw [hxx,hpp] at hye;rw [hxx] at hX;rw [hpp];have hxl:=gA d' l pos (zq+zn) _ _ hye;have hxz:=rdN_sz z2_ hye;refine aA (Sr (Ru 1 U (ah (aw dz U mm_ U) U ?_)));refine ah (bJ bP U mm_ z4_) U ?_;refine JL.litA dU U z4_ U U (λb35=>?_);refine bV dU U U z7_ U dl_ dl_ z4_ (hX) z3_ U U (λa36 c36 xs36 hC36 hN36=>?_);refine Ru 1 U (bK dz U U U dl_ fL ?_);refine a_ (Rg (Ru 2 U (JL.ents [.blk b6 _ _,.row _ _ _ _ _ _,.blk b1 _ _,.blk b2 _ _] pt_ ?_)));refine a_ (⟨_,?_,_,?_,⟨_,f',p',pos,acc++[x],_,bs,_,_,_,_,_,U,U,U,U,⟨by assumption,by assumption,by assumption,by assumption,by omega,by omega,by omega,by omega,by omega,by rw [Nd.szL_append];simp [Nd.szL];omega,by simp;omega,λhh=>by simp_all,λ_=>⟨hbs0,by rw [hK,m7 hpos hye]⟩⟩⟩⟩)
  ·omega
  exact z6_
 refine bA (Kp [1,8,10,12,13,14] U (az (Sr ?_)));refine cW (R:=NdR) (l:=acc) dl_ z7_ U z2_ (λh9 hle9 hS9=>?_);have hB9:=hbsR.mono hle9;have hend:=rd_end (d:=d) (bs:=bs) hen z2_ hdd hH hK1 hK0 hps z7_;refine ah (bJ bP U mm_ z4_) U ?_;refine bh ca_185 U (lW (x:=.mk c t k bs acc) (d_ hB9 hS9) (by simp only [Nd.sz];omega)) U ?_;refine Ru 1 U (a_ (Cs U (λhc38=>?_) λhc38=>?_))
 ·rw [if_neg (by simpa using hc38)] at hend;refine Sr (ah (bn (cs:=[.int .i64 0,.int .i64 0,.bool false,.slice none 0 0,.slice none 0 0]) eR U U) U ?_);refine Ru 1 U (ah (bn (cs:=[_,_]) fQ U U) U ?_);refine aV bP U U dl_ f8 f9 z4_ ?_;refine Ru 1 U (aV cZ U U dl_ dn j5 dn ?_);exact Nk [9,8,10,12,13,14] U (bj (eK U U bP mm_ z4_ U U cZ mm_ dn) (iJ hend))
 rw [if_pos (by simpa using hc38)] at hend;refine aA (Kp [8,10,12,13,14] U (Sr (ah (bJ bP U mm_ z4_) U ?_)));refine Ru 2 U (ah ai_ U ?_);refine ah (bn (cs:=[.int .i64 0,.int .i64 0]) fQ U U) U ?_;refine aV bP U U dl_ f8 f9 z4_ ?_;refine Ru 1 U (aV cZ U U dl_ dn j5 dn ?_);exact Nk [9,8,10] U (bj (eK U U bP mm_ z4_ U U cZ mm_ dn) (rrR_ok hend (d_ hB9 hS9)))
theorem rtop_fn {a:OA}{c:Nat}{l:LB}{h:Part}(hl:SlR u8R 1 h a c l) (hll:l.length<=16777216) :
 FnR prog 81 [.slice a l.length c] h (λv h'=>∃ cs,v=.tuple #[.agg (List.toArray cs),.agg #[.int .i64 (rdTop l).2.1,.int .i64 (rdTop l).2.2]]/\NdR h' cs (rdTop l).1):=by
 refine aM func81 U ntmps81 U (λe he=>?_);refine bg [(0,_)] ⟨U,trivial⟩ ?_;have hh0:=aT h;refine Sr (bI eF U (λb1=>?_));refine bI lG U (λb2=>?_);refine a_ (az (Sr (Ru 3 U (a_ (Cs U (λhc3=>?_) λhc3=>?_)))))
 ·exfalso;omega
 refine aA (Sr (Ru 3 U (bL ca_135 U ((rdnode_fn 32 l 0 l.length a c _ hl z2_ z2_ z2_ z2_)) U ?_)));rintro _ h4 hle4 ⟨xcs,rfl,hX⟩
 replace hl:=hl.mono hle4
 replace hh0:=hh0.mono hle4
 have hyo:=@rr_ok 32 l 0 l.length z2_;have hyb:=@rr_bad (rdN 32 l 0 l.length);obtain⟨y,hy⟩:∃ y,rdN 32 l 0 l.length=y:=⟨_,U⟩;rw [hy] at hX hyo hyb |-
 refine Ru 4 U (bI eF U (λb5=>?_));refine bI lG U (λb6=>?_);refine aV bP U U dl_ f8 f9 z4_ ?_;refine Ru 1 U (aV cZ U U dl_ dn j5 dn ?_);refine Nk [5,6,4,3,2,0] U (az (Sr (Ru 1 U (ah (aw mI U mm_ U) U ?_))));refine Ru 1 U (a_ (Cs U (λhc7=>?_) λhc7=>?_))
 ·have hye:=hy.trans (hyb hc7);have ht:rdTop l=(ndZ,rrA y,rrC y):=(by unfold rdTop;rw [if_neg z2_,hye]);refine az (J.held ([.blk b6 102 [.int .i64 (rrA y),.int .i64 (rrC y)]]) 4 cM U (λh00=>?_));refine Tk 0 U (bn (cs:=[.int .i64 0,.int .i64 0,.bool false,.slice none 0 0,.slice none 0 0]) eR U U) ?_;refine Tk 1 U (bJ cZ U mm_ dn) ?_;refine Ta 2 U ?_;unfold One;refine aV bP U U dl_ f8 f9 z4_ ?_;refine a_ ⟨(br_ h00),?_⟩;refine Ta 3 U ?_;unfold One;refine aV cZ U U dl_ dn j5 dn ?_;refine a_ ⟨(br_ h00),?_⟩;refine cy cP ?_;refine Kp [5,4,3,2,0] U ?_;rw [ht];exact bj (RetV.cell2 U U bP mm_ z4_ U cZ mm_ dn) ⟨_,U,d_ bu bu⟩
 have hye:=hy.trans (hyo z2_);obtain⟨x,hxx⟩:∃ x,rrX y=x:=⟨_,U⟩;obtain⟨p',hpp⟩:∃ p',rrQ y=p':=⟨_,U⟩;rw [hxx,hpp] at hye;rw [hxx] at hX;rw [hpp];have hxl:=gA 32 l 0 l.length _ _ hye;refine aA (Kp [5,4,3,2,0] U (az (Sr (Ru 4 U (a_ (Cs U (λhc8=>?_) λhc8=>?_))))))
 ·have ht:rdTop l=(ndZ,(p':Int),35):=(by unfold rdTop;rw [if_neg z2_,hye];simp only;rw [if_pos z2_]);refine Sr (ah (bn (cs:=[.int .i64 0,.int .i64 0,.bool false,.slice none 0 0,.slice none 0 0]) eR U U) U ?_);refine Ru 1 U (ah (bn (cs:=[_,_]) fQ U U) U ?_);refine aV bP U U dl_ f8 f9 z4_ ?_;refine aV cZ U U dl_ dn j5 dn ?_;refine Nk [4,3,2] U ?_;rw [ht];exact bj (RetV.cell2 U U bP mm_ z4_ U cZ mm_ dn) ⟨_,U,d_ bu bu⟩
 have ht:rdTop l=(x,0,0):=(by unfold rdTop;rw [if_neg z2_,hye];simp only;rw [if_neg z2_]);refine aA (Kp [4,3,2] U (Sr (ah (bJ bP U mm_ z4_) U ?_)));refine ah (bn (cs:=[.int .i64 0,.int .i64 0]) fQ U U) U ?_;refine aV bP U U dl_ f8 f9 z4_ ?_;refine aV cZ U U dl_ dn j5 dn ?_;refine a_ ?_;rw [ht];exact bj (RetV.cell2 U U bP mm_ z4_ U cZ mm_ dn) ⟨_,U,hX⟩
theorem i9 (l:LB):(rdTop l).1.sz<=l.length+1:=by
 have hz:ndZ.sz<=1:=by decide
 unfold rdTop;split
 ·exact Nat.le_trans hz z2_
 ·split
  ·exact Nat.le_trans hz z2_
  ·rename_i x q h;split
   ·exact Nat.le_trans hz z2_
   ·have h1:=rdN_sz (aL _) h;have h2:=gA _ _ _ _ _ _ h;simp only;omega
theorem write_d {n:Nd}(hz:n.sz<=1073741824):FnD prog 19 [.nd n] (.tup [.bs n.wr.1,.i n.wr.2]):=.mk λh vs hT hd=>by
 obtain⟨v,rfl,h1⟩:=gB hd;obtain⟨cs,rfl,hR⟩:=dP.1 h1;exact(sR hR hT hz).mono λv h' _ ⟨a,c,e,r⟩=>⟨_,U,by rw [e];exact fU ((dm (h:=h')).2 ⟨_,_,U,r⟩) (cj (h:=h'))⟩
theorem den_flt {h:Part}{a c:Int}:Den (.st (Flt.enc ⟨a,c⟩)) h (.agg #[.int .i64 a,.int .i64 c]):=(dS (h:=h)).2 ⟨[.int .i64 a,.int .i64 c],U,.c U (cj (h:=h)) (.c U (cj (h:=h)) .n)⟩
theorem read_d {l:Txt}:FnD prog 55 [.bs l] (.tup [.nd (rdTop l).1,.st (Flt.enc ⟨(rdTop l).2.1,(rdTop l).2.2⟩)]):=.mk λh vs hT hd=>by
 obtain⟨v,rfl,h1⟩:=gB hd;obtain⟨a,cc,rfl,hR⟩:=dm.1 h1;exact(read_fn hR hT).mono λv h' _ ⟨cs,e,r⟩=>⟨_,U,by rw [e];exact fU ((dP (h:=h')).2 ⟨cs,U,r⟩) den_flt⟩
theorem rv {l:Txt}(hl:l.length<=16777216):FnD prog 81 [.bs l] (.tup [.nd (rdTop l).1,.st (Flt.enc ⟨(rdTop l).2.1,(rdTop l).2.2⟩)]):=.mk λh vs hT hd=>by
 obtain⟨v,rfl,h1⟩:=gB hd;obtain⟨a,cc,rfl,hR⟩:=dm.1 h1;exact(rtop_fn hR hl).mono λv h' _ ⟨cs,e,r⟩=>⟨_,U,by rw [e];exact fU ((dP (h:=h')).2 ⟨cs,U,r⟩) den_flt⟩
theorem tA {n:Nd}(hz:n.sz<=100000000):FnD prog 60 [.nd n] (.tup [.bs (n.put.getD []),.b n.put.isSome]):=.mk λh vs hT hd=>by
 obtain⟨v,rfl,h1⟩:=gB hd;obtain⟨cs,rfl,hR⟩:=dP.1 h1;exact(ib hR hz).mono λv h' _ ⟨a,c,e,r⟩=>⟨_,U,by rw [e];exact fU ((dm (h:=h')).2 ⟨_,_,U,r⟩) ((dH (h:=h')).2 U)⟩
theorem ru {x y:Nd}:FnD prog 13 [.nd x,.nd y] (.b (x.beq y)):=.mk λh vs hT hd=>by
 obtain⟨v,w,rfl,h1,h2⟩:=den2 hd;obtain⟨cs,rfl,hR⟩:=dP.1 h1;obtain⟨cs',rfl,hR'⟩:=dP.1 h2;exact(same_fn' hR hR').d ((dH (h:=h)).2 U)
theorem rdeep_d {x:Nd}(hz:x.sz<=1125899906842624):FnD prog 265 [.nd x] (.i x.rk):=.mk λh vs hT hd=>by
 obtain⟨v,rfl,h1⟩:=gB hd;obtain⟨cs,rfl,hR⟩:=dP.1 h1;exact(deep_fn' hR hz).d (cj (h:=h))
theorem nr {l r:Txt}:FnD prog 87 [.bs l,.bs r] (.i (Go.Lib.compareBytes l r)):=.mk λh vs hT hd=>by
 obtain⟨v,w,rfl,h1,h2⟩:=den2 hd;obtain⟨a,cc,rfl,hR⟩:=dm.1 h1;obtain⟨a',cc',rfl,hR'⟩:=dm.1 h2;exact(eZ hR hR').d (cj (h:=h))
theorem roidb_d {s:Txt}(hs:s.length<=10000000000):FnD prog 77 [.s s] (.tup [.bs ((oidB s).getD []),.i (if(oidB s).isSome then 0 else 20)]):=.mk λh vs hT hd=>by
 obtain⟨v,rfl,h1⟩:=gB hd;rw [dB.1 h1];exact(gM s h hs).mono λv h' _ ⟨a,c,e,r⟩=>⟨_,U,by rw [e];exact fU ((dm (h:=h')).2 ⟨_,_,U,r⟩) (cj (h:=h'))⟩
theorem roidt_d {l:Txt}(hb:l.length<=100000000):FnD prog 162 [.bs l] (.tup [.s ((oidT l).getD []),.i (if(oidT l).isSome then 0 else 20)]):=.mk λh vs hT hd=>by
 obtain⟨v,rfl,h1⟩:=gB hd;obtain⟨a,cc,rfl,hR⟩:=dm.1 h1;exact(lX hR hb).d (fU (cj (h:=h)) (cj (h:=h)))
theorem kK {s:Txt}(hs:s.length<=1000000):FnD prog 33 [.s s] (.nd (oiN s)):=.mk λh vs hT hd=>by
 obtain⟨v,rfl,h1⟩:=gB hd;rw [dB.1 h1];exact(roid_fn hs).mono λv h' _ ⟨a,c,e,r⟩=>⟨_,U,by rw [e];exact(dP (h:=h')).2 ⟨_,U,d_ r bu⟩⟩
theorem mQ {l:LN}:FnD prog 37 [.nds l] (.nd (.mk 0 16 true [] l)):=.mk λh vs hT hd=>by
 obtain⟨v,rfl,h1⟩:=gB hd;obtain⟨a,cc,rfl,hR⟩:=dN.1 h1;exact rseq_fn.mono λv h' hle e=>⟨_,U,by rw [e];exact(dP (h:=h')).2 ⟨_,U,d_ bu (hR.mono hle)⟩⟩
instance:Cn prog 19 (type_of% @write_d):=⟨@write_d⟩
instance:Cn prog 55 (type_of% @read_d):=⟨@read_d⟩
instance:Cn prog 81 (type_of% @rv):=⟨@rv⟩
instance:Cn prog 60 (type_of% @tA):=⟨@tA⟩
instance:Cn prog 13 (type_of% @ru):=⟨@ru⟩
instance:Cn prog 265 (type_of% @rdeep_d):=⟨@rdeep_d⟩
instance:Cn prog 87 (type_of% @nr):=⟨@nr⟩
instance:Cn prog 77 (type_of% @roidb_d):=⟨@roidb_d⟩
instance:Cn prog 162 (type_of% @roidt_d):=⟨@roidt_d⟩
instance:Cn prog 33 (type_of% @kK):=⟨@kK⟩
instance:Cn prog 37 (type_of% @mQ):=⟨@mQ⟩
section
open Go Go.RowKit Go.ChangeShapes Go.WideShapes Go.Lib Go.ChangeAt
theorem FnD.tt {P:Program} [Tb P] {Fi:Nat}{ds:List D}{h:Part}{vs:LV}(c:FnD P Fi ds (.bq true)) (hT:Tb.T P h) (hd:DenT ds h vs):Pure P Fi vs h (.bool true) :=
 Pure.of (R:=λu h' Lo=>Lo=[]/\∃ d,d=D.bq true/\Den d h' u) (c.fn h vs hT hd) (λu h' Lo ⟨_,d,e,k⟩=>by subst e;exact dH.1 k)
theorem DenT.n {h:Part}:DenT [] h []:=by unfold DenT;rfl
theorem DenT.c {h:Part}{d:D}{r:List D}{v:Value}{t:LV}(h2:Den d h v) (h3:DenT r h t):DenT (d::r) h (v::t):=by unfold DenT;exact⟨v,t,U,h2,h3⟩
theorem slR_enc {α:Type}{R:Rep α}{sz:Nat}{enc:α->List D}(hR:∀ {h cs y},R h cs y->encR enc h cs y) {h:Part}{cs:LV}{l:List α}(k:slR R sz h cs l):∃ v,cs=[v]/\v.oneCell'=true/\Den (.sl sz enc l) h v:=by
 obtain⟨a,c,rfl,r⟩:=k;exact⟨_,U,U,(iE (h:=h)).2 ⟨_,_,U,r.imp U (aT h) (λi p q cs h1 h2 h3=>by rw [h1] at h2;cases h2;exact hR h3)⟩⟩
section
variable {H:Type}{enc:TypeId×Value->H}{W:World}{base:Nat}{v:Value}{d:DataW H}{ps:List MemPlace}
theorem opens_by (n:Nat):Opens prog n 22 (slR u8R 1) 1 (λl=>(l.map λ_=>1).sum+1):=by
 cases n with
 |zero=>intro H enc W cs x h;simp [DataW.trod] at h
 |succ n=>exact rT n
end
end
def arV (P:Program) (T:Nat):Option Nat :=
 match P.underlying T with
 |some (.array n e)=>match aggT P e with
  |some none=>some n
  |_=>none
 |_=>none
theorem RunV.indexV {f:Fr}{S:Sig}{h:Part}{L:LE}{T ty:TypeId}{xo yo:Operand}{cs:LV}{len m:Nat}{k:IntKind}{i:Int}{v:Value}(hT:arV f.P T=some len) (hx:ev S xo=some (.agg cs.toArray)) (hy:ev S yo=some (.int k i)) (hi:i=(m:Int)) (h1:m<len) (hv:cs[m]?=some v) :
 RunV f S h L (.index T xo yo) ty v:=λa w s _ _ _ _=>by
 subst hi;unfold arV at hT;split at hT<;>try cases hT
 rename_i n e hu;split at hT<;>cases hT;rename_i ha;have h0:(0:Int)<=m:=by omega
 have h2:=f7 ha w;have h3:cs.toArray[m]?=some v:=by simpa using hv
 simp only [execOp,s.eval hx,s.eval hy,Instr.index,asIntOf,Sem.run_bind,Result.andThen,run_underlying hu,Sem.run_pure,part,h2];simp [h0,h1,h2,hv,part,Result.andThen]
theorem qu:∀ (vs A Z:LV),Z.length=vs.length->fill1 (A++Z) (partsV A.length vs)=A++vs
 |[],A,Z,h=>by
  obtain rfl:=List.eq_nil_of_length_eq_zero h;rfl
 |v::r,A,[],h=>by cases h
 |v::r,A,z::Z,h=>by
  simp only [partsV,fill1];have e:(A++z::Z).set A.length v=(A++[v])++Z:=by simp
  have ih:=qu r (A++[v]) Z (by simpa using h);rw [e];simpa using ih
def allI:List D->Bool
 |[]=>true
 |.v (.int _ _)::r=>allI r
 |_=>false
theorem allI_ok {h:Part}:∀ {ds:List D}{vs:LV},allI ds=true->DenT ds h vs->DenL ds h vs/\vs.all (·.oneCell')=true
 |[],vs,_,k=>by unfold DenT at k;subst k;exact⟨by unfold DenL;rfl,U⟩
 |.v (.int kk i)::r,vs,e,k=>by
  unfold DenT at k;obtain⟨v,t,rfl,h1,h2⟩:=k;obtain⟨h3,h4⟩:=allI_ok (ds:=r) e h2;have hv:=dB.1 h1;subst hv;exact⟨by unfold DenL;exact⟨_,t,U,U,h1,h3⟩,by simpa [Value.oneCell'] using h4⟩
section
variable {P:Program} [Tb P] {F:Fd}{a:LO}{o:LQ}{ops:Array Oper}{d T:Nat}{ty:TypeId}{pos:String}{af:Array Edge}{g:Option (Nat×Bool)}{xo yo:Operand}
theorem St1.bAr {ps:Array (Nat×Operand)}{ds:List D}{zs:LV}(hT:arZ P T=some (zs,1)) (hp:evsA a 0 ps.toList=some ds) (ha:allI ds=true) (hl:Nat.beq zs.length ds.length=true) (hg:gdB ops a g=some true) (hd:Nat.blt d F.m=true) :
 St1 P F ops a o ⟨some d,.build T ps,ty,pos,af,g⟩ d (.d (.st ds)):=.run hg hd λρ h S L cz=>by
 obtain⟨vs,h1,h2⟩:=ki cz hp;obtain⟨h3,h4⟩:=allI_ok ha h2;have h5:=h2.len;have h6:zs.length=vs.length:=by have:=aq hl;omega
 obtain⟨ps⟩:=ps;have key:∀ (vs:LV) (k n:Nat),vs.all (·.oneCell')=true->k+vs.length<=n->((partsV k vs).all λp=>p.2.oneCell'&&Nat.blt p.1 n)=true:=by
  intro vs
  induction vs with
  |nil=>intro k n _ _;rfl
  |cons v r ih =>
   intro k n hv hk;simp only [List.all_cons,Bool.and_eq_true,aC] at hv hk;simp only [partsV,List.all_cons,Bool.and_eq_true];exact⟨⟨hv.1,by simp;omega⟩,ih (k+1) n hv.2 z2_⟩
 have h7:=qu vs [] zs h6;simp only [List.nil_append,aG] at h7;exact⟨_,RunV.buildArr hT h1 (key vs 0 _ h4 z2_) h7,(dS (h:=h)).2 ⟨_,U,h3⟩⟩
theorem ux {h:Part}:∀ {ds:List D}{vs:LV}{m:Nat}{d:D},DenL ds h vs->nthG ds m=some d->∃ v,vs[m]?=some v/\Den d h v
 |[],vs,m,d,_,e=>by cases m<;>cases e
 |y::r,vs,0,d,k,e=>by
  unfold DenL at k;obtain⟨v,t,rfl,h1,h2,h3⟩:=k;simp only [nthG,aB] at e;subst e;exact⟨v,U,h2⟩
 |y::r,vs,m+1,d,k,e=>by
  unfold DenL at k;obtain⟨v,t,rfl,h1,h2,h3⟩:=k;obtain⟨v',h4,h5⟩:=ux (m:=m) h3 e;exact⟨v',by simpa using h4,h5⟩
theorem St1.ixAr {l:List D}{kk:IntKind}{i:Int}{len:Nat}{d':D}(m:Nat) (hT:arV P T=some len) (hx:evA a xo=some (.d (.st l))) (hy:evA a yo=some (.d (.v (.int kk i)))) (hi:i=(m:Int)) (hm:Nat.blt m len=true) (hn:nthG l m=some d') (hg:gdB ops a g=some true) (hd:Nat.blt d F.m=true) :
 St1 P F ops a o ⟨some d,.index T xo yo,ty,pos,af,g⟩ d (.d d'):=.run hg hd λρ h S L cz=>by
 obtain⟨v,h1,h2⟩:=cE cz hx;obtain⟨cs,rfl,h3⟩:=(dS (h:=h)).1 h2;obtain⟨w,h4,h5⟩:=ux h3 hn;exact⟨w,RunV.indexV hT h1 (dv cz hy) hi (by simpa using hm) h4,h5⟩
end
theorem n6 (n:Nd):n.kids.length<=n.sz:=by
 have h:=Nd.len_le_szL n.kids;cases n;simp only [Nd.kids,Nd.sz] at h |-;omega
structure FnW (P:Program) [Tb P] (Fi e:Nat) {α:Type} (K:Kd α) (l1:List α) (ds:List D) (l2:List α):Prop where
 fn:∀ h a c xs vs,Tb.T P h->CellsR K.R K.sz h xs l1->l1.length<=140737488355328->DenT ds h vs->Fn P Fi (.slice a l1.length c::vs) h [.row a c e K.sz l1.length xs] (Rets λv h' Lo=>∃ a' c' xs',v=.slice a' l2.length c'/\Lo=[.row a' c' e K.sz l2.length xs']/\CellsR K.R K.sz h' xs' l2/\l2.length<=140737488355328)
section
variable {P:Program} [Tb P] {F:Fd}{n:PostD}{x:Nat->PostD}{a a1 a':LO}{o o1 o':LQ}{ops:Array Oper}{rest:LR}
variable {d Fi e t0 k:Nat}{ty:TypeId}{pos:String}{af:Array Edge}{av:Array Operand}{os:List Operand}{ts:Array TypeId}{tl:List Nat}{ds:List D}{xo:Operand}
theorem Cw {α:Type}{K:Kd α}{l1 l2:List α}(hos:av.toList=xo::os) (hp:pubs (rowsA a os) a o=some (a1,o1)) (hx:evA a1 xo=some (.row k)) (hk:lkO o1 k=some (.row e (K.f l1))) (ha:argsA P a1 os ts.toList.tail=some ds) (c:FnW P Fi e K l1 ds l2)
 (hja:junA k a1=some a') (hjo:junO k (delO o1 k)=some o') (kk:JLD P F ops n x rest ((d,.row k)::a') ((k,.row e (K.f l2))::o')) (hF:callT P Fi=true:=by kernel_rfl) (hd:Nat.blt d F.m=true:=by rfl) :
 JLD P F ops n x (⟨some d,.call { callee:=.value (.func Fi),args:=av,argTypes:=ts },ty,pos,af,none⟩::rest) a o:=.mk λρ h S L cz ac w s=>by
 obtain⟨h',L',hle,hok,cz'⟩:=eY hp cz s.ok;obtain⟨v,h1,h2⟩:=cE cz' hx;cases h2;obtain⟨vs,h3,h4⟩:=f6 cz' ha;obtain⟨y,L2,hD,⟨xs,sz,rfl,hRow,hbig⟩,hr⟩:=cz'.o.get hk;obtain⟨rfl,hn,hc⟩:=K.row.1 hRow;have:=K.mono;have he:evl S (xo::os)=some (.slice (ρ.a k) (ρ.n k) (ρ.c k)::vs):=by simp only [evl,h1,h3]
 obtain⟨av⟩:=av;simp only at hos;subst hos;have cc:=c.fn h' (ρ.a k) (ρ.c k) xs vs cz'.t hc z2_ h4;rw [<- hn] at cc;refine d6 hF he cc (.cons hD .nil) hd (λv h2 Lo hle2 ⟨a2,c2,xs2,e1,e2,e3,e4⟩=>?_) ac w (s.with hok);subst e1 e2;have hden:DenO (ρ.setR k a2 c2 l2.length) h2 ((k,.row e (K.f l2))::o') ([.row a2 c2 e K.sz l2.length xs2]++L2):=by
  have en:(ρ.setR k a2 c2 l2.length).n k=l2.length:=by simp [Rho.setR]
  refine⟨_,L2,U,⟨xs2,K.sz,by simp [Rho.setR],?_,by rw [en];exact e4⟩,oE hjo (hr.mono hle2)⟩;rw [en];exact K.row.2 ⟨U,U,e3⟩
 have czm:=cz'.mono hle2;refine kk.k (ρ.setR k a2 c2 l2.length) h2 _ _ (eI (u:=.row k) ⟨czm.t,λt x hx=>?_,hden⟩ (by simp [Rho.setR,DenA]) d);obtain⟨y,g1,g2⟩:=oF hja hx;obtain⟨v,g3,g4⟩:=czm.s t y g1;exact⟨v,g3,g2 v g4⟩
theorem Cw0 {α:Type}{K:Kd α}{l2:List α}(hos:av.toList=xo::os) (hp:pubs (rowsA a os) a o=some (a1,o1)) (hx:evA a1 xo=some (.d (.v (.slice none 0 0)))) (hk:nextK a1 o1=some k) (ha:argsA P a1 os ts.toList.tail=some ds) (c:FnW P Fi e K [] ds l2)
 (kk:JLD P F ops n x rest ((d,.row k)::a1) ((k,.row e (K.f l2))::o1)) (hF:callT P Fi=true:=by kernel_rfl) (hd:Nat.blt d F.m=true:=by rfl) :
 JLD P F ops n x (⟨some d,.call { callee:=.value (.func Fi),args:=av,argTypes:=ts },ty,pos,af,none⟩::rest) a o:=.mk λρ h S L cz ac w s=>by
 obtain⟨h',L',hle,hok,cz'⟩:=eY hp cz s.ok;have h1:=dv cz' hx;obtain⟨vs,h3,h4⟩:=f6 cz' ha;have:=K.mono;have he:evl S (xo::os)=some (.slice none 0 0::vs):=by simp only [evl,h1,h3]
 obtain⟨av⟩:=av;simp only at hos;subst hos;have cc:=c.fn h' none 0 [] vs cz'.t bQ (by simp) h4;refine JL.own (L':=.row none 0 e K.sz 0 []::L') (λ_ hw=>hw.row_nil e K.sz) ?_ ac w (s.with hok);refine d6 hF he cc (.cons .here .nil) hd (λv h2 Lo hle2 ⟨a2,c2,xs2,e1,e2,e3,e4⟩=>?_);subst e1 e2;have cN':=(cz'.mono hle2).eqv hk (ρ.eqv_setR k a2 c2 l2.length);have hden:DenO (ρ.setR k a2 c2 l2.length) h2 ((k,.row e (K.f l2))::o1) ([.row a2 c2 e K.sz l2.length xs2]++L'):=by
  have en:(ρ.setR k a2 c2 l2.length).n k=l2.length:=by simp [Rho.setR]
  refine⟨_,L',U,⟨xs2,K.sz,by simp [Rho.setR],?_,by rw [en];exact e4⟩,cN'.o⟩;rw [en];exact K.row.2 ⟨U,U,e3⟩
 exact kk.k (ρ.setR k a2 c2 l2.length) h2 _ _ (eI (u:=.row k) ⟨cN'.t,cN'.s,hden⟩ (by simp [Rho.setR,DenA]) d)
end
theorem eE {N Q:Int}{n least:Nat}{l:LB}(hN:N=(n:Int)) (hQ:Q=(least:Int)) (hn:n<18446744073709551616) (hl:least<=20) (hb:l.length<=70368744177664) [Tb prog] :
 FnW prog 190 5 kB l [.v (.int .u64 N),.i Q] (l++dgs n least):=.mk λh a c xs vs hT hc hlen hd=>by
 obtain rfl:=CellsR.u8 hc;unfold DenT at hd;obtain⟨v1,t1,rfl,h1,hd⟩:=hd;unfold DenT at hd;obtain⟨v2,t2,rfl,h2,hd⟩:=hd;unfold DenT at hd;subst hd;rw [dB.1 h1,dB.1 h2];refine(iq hN hQ hn hl hb).mono λe h' Lo _ ⟨v,he,a',c',e1,e2⟩=>⟨v,he,a',c',_,e1,e2,bm,?_⟩;have hb2:=dp n least;simp only [aU];omega
structure FnO (P:Program) [Tb P] (Fi e:Nat) {α:Type} (K:Kd α) (ds cs:List D) (l:List α):Prop where
 fn:∀ h vs,Tb.T P h->DenT ds h vs->Fn P Fi vs h [] (Rets λv h' Lo=>∃ us a c xs,v=.agg (us++[Value.slice a l.length c]).toArray/\DenL cs h' us/\Lo=[.row a c e K.sz l.length xs]/\CellsR K.R K.sz h' xs l/\l.length<=140737488355328)
structure FnB (P:Program) [Tb P] (Fi t:Nat) (ds1:List D) (d0:D) (ds2:List D) (R:D->D->Prop):Prop where
 fn:∀ h b vs0 vs1 vs2,Tb.T P h->DenT ds1 h vs1->Den d0 h (.agg vs0.toArray)->DenT ds2 h vs2->Fn P Fi (vs1++.pointer (some ⟨b,0,none⟩)::vs2) h [.blk b t vs0] (Rets λv h' Lo=>∃ d d1 ws,R d d1/\Den d h' v/\Den d1 h' (.agg ws.toArray)/\Lo=[.blk b t ws])
def whlO:OE->Option (Nat×D)
 |.whl t d=>some (t,d)
 |.var t cs=>match dsOf cs with
  |some ds=>some (t,.st ds)
  |none=>none
 |_=>none
theorem whlO_ok {ρ:Rho}{h:Part}{k t:Nat}{e:OE}{d:D}{x:Ent}(hw:whlO e=some (t,d)) (q:DenE ρ h k e x):∃ vs,x=.blk (ρ.b k) t vs/\Den d h (.agg vs.toArray):=by
 unfold whlO at hw;split at hw
 ·cases hw;exact q
 ·split at hw<;>cases hw;rename_i hds;obtain⟨vs,e1,e2⟩:=q;exact⟨vs,e1,(dS (h:=h)).2 ⟨vs,U,e2.ds hds⟩⟩
 ·cases hw
theorem evl_app {S:Sig}:∀ {os1 os2:List Operand}{vs1 vs2:LV},evl S os1=some vs1->evl S os2=some vs2->evl S (os1++os2)=some (vs1++vs2)
 |[],os2,vs1,vs2,h1,h2=>by cases h1;exact h2
 |y::r,os2,vs1,vs2,h1,h2=>by
  simp only [evl] at h1;split at h1<;>cases h1;rename_i v vs h3 h4;simp only [List.cons_append,evl,h3,evl_app h4 h2]
section
variable {P:Program} [Tb P] {F:Fd}{n:PostD}{x:Nat->PostD}{a a1:LO}{o o1 o2:LQ}{ops:Array Oper}{rest l0:LR}
variable {d Fi e k t:Nat}{ty:TypeId}{pos:String}{af:Array Edge}{os:Array Operand}{ts:Array TypeId}{ds cs:List D}
theorem Co {α:Type}{K:Kd α}{l:List α}(hp:pubs (rowsA a os.toList) a o=some (a1,o1)) (ha:argsA P a1 os.toList ts.toList=some ds) (c:FnO P Fi e K ds cs l) (hk:nextK a1 o1=some k)
 (kk:JLD P F ops n x rest ((d,.recr cs k)::a1) ((k,.row e (K.f l))::o1)) (hF:callT P Fi=true:=by kernel_rfl) (hd:Nat.blt d F.m=true:=by rfl) :
 JLD P F ops n x (⟨some d,.call { callee:=.value (.func Fi),args:=os,argTypes:=ts },ty,pos,af,none⟩::rest) a o:=.mk λρ h S L cz ac w s=>by
 obtain⟨h',L',hle,hok,cz'⟩:=eY hp cz s.ok;obtain⟨vs,h3,h4⟩:=f6 cz' ha;have:=K.mono;obtain⟨os⟩:=os;refine d6 hF h3 (c.fn h' vs cz'.t h4) .nil hd (λv h2 Lo hle2 ⟨us,a2,c2,xs2,e1,e2,e3,e4,e5⟩=>?_) ac w (s.with hok);subst e1 e3;have cN':=(cz'.mono hle2).eqv hk (ρ.eqv_setR k a2 c2 l.length);have hden:DenO (ρ.setR k a2 c2 l.length) h2 ((k,.row e (K.f l))::o1) ([.row a2 c2 e K.sz l.length xs2]++L'):=by
  have en:(ρ.setR k a2 c2 l.length).n k=l.length:=by simp [Rho.setR]
  refine⟨_,L',U,⟨xs2,K.sz,by simp [Rho.setR],?_,by rw [en];exact e5⟩,cN'.o⟩;rw [en];exact K.row.2 ⟨U,U,e4⟩
 exact kk.k (ρ.setR k a2 c2 l.length) h2 _ _ (eI (u:=.recr cs k) ⟨cN'.t,cN'.s,hden⟩ ⟨us,by simp [Rho.setR],e2⟩ d)
theorem Pb (k:Nat) {c:Code}(hp:pub1 k a o=some (a1,o1)) (kk:JD P F c n x a1 o1):JD P F c n x a o:=.mk λρ h S L cz ac w s=>by
 obtain⟨h',L',hle,hok,cz'⟩:=rN hp cz s.ok;exact kk.k ρ h' S L' cz' ac w (s.with hok)
theorem Pl (k:Nat) (hp:pub1 k a o=some (a1,o1)) (kk:JLD P F ops n x l0 a1 o1):JLD P F ops n x l0 a o:=.mk λρ h S L cz ac w s=>by
 obtain⟨h',L',hle,hok,cz'⟩:=rN hp cz s.ok;exact kk.k ρ h' S L' cz' ac w (s.with hok)
theorem Cp {R:D->D->Prop}{os1 os2:List Operand}{xo:Operand}{ds1 ds2:List D}{d0:D}{e0:OE}(hos:os.toList=os1++xo::os2) (hp:pubs (rowsA a (os1++os2)) a o=some (a1,o1)) (hx:evA a1 xo=some (.own k 0)) (hk:lkO o1 k=some e0) (he:whlO e0=some (t,d0))
 (h1:argsA P a1 os1 ts.toList=some ds1) (h2:argsA P a1 os2 (ts.toList.drop (os1.length+1))=some ds2) (c:FnB P Fi t ds1 d0 ds2 R) (hdel:delQ o1 k=some o2)
 (kk:∀ d' d1,R d' d1->JLD P F ops n x rest ((d,.d d')::a1) ((k,.whl t d1)::o2)) (hF:callT P Fi=true:=by kernel_rfl) (hd:Nat.blt d F.m=true:=by rfl) :
 JLD P F ops n x (⟨some d,.call { callee:=.value (.func Fi),args:=os,argTypes:=ts },ty,pos,af,none⟩::rest) a o:=.mk λρ h S L cz ac w s=>by
 obtain rfl:=gv hdel;obtain⟨h',L',hle,hok,cz'⟩:=eY hp cz s.ok;obtain⟨v,g1,g2⟩:=cE cz' hx;cases g2;obtain⟨vs1,h3,h4⟩:=f6 cz' h1;obtain⟨vs2,h5,h6⟩:=f6 cz' h2;obtain⟨y,L2,hD,hE,hr⟩:=cz'.o.get hk;obtain⟨vs0,rfl,hd0⟩:=whlO_ok he hE;obtain⟨os⟩:=os;simp only at hos;subst hos;have hev:evl S (os1++xo::os2)=some (vs1++.pointer (some ⟨ρ.b k,0,none⟩)::vs2):=evl_app h3 (by simp only [evl,g1,h5]);refine d6 hF hev (c.fn h' (ρ.b k) vs0 vs1 vs2 cz'.t h4 hd0 h6) (.cons hD .nil) hd (λv h2 Lo hle2 ⟨d',d1,ws,hR,e1,e2,e3⟩=>?_) ac w (s.with hok);subst e3;have czm:=cz'.mono hle2;have hden:DenO ρ h2 ((k,.whl t d1)::delO o1 k) (.blk (ρ.b k) t ws::L2):=⟨_,L2,U,⟨ws,U,e2⟩,hr.mono hle2⟩;exact(kk d' d1 hR).k ρ h2 _ _ (eI (u:=.d d') ⟨czm.t,czm.s,hden⟩ e1 d)
def varO:OE->Option (Nat×List A)
 |.var t cs=>some (t,cs)
 |.whl t d=>match cellsD d with
  |some l=>match aOf l with
   |some cs=>some (t,cs)
   |none=>none
  |none=>none
 |_=>none
theorem varO_ok {ρ:Rho}{h:Part}{t:Nat}{e:OE}{cs:List A}{x:Ent}(hv:varO e=some (t,cs)) (q:DenE ρ h k e x):∃ vs,x=.blk (ρ.b k) t vs/\DenAL ρ h cs vs:=by
 unfold varO at hv;split at hv
 ·cases hv;exact q
 ·split at hv<;>try (cases hv;done)
  rename_i l hl;split at hv<;>cases hv;rename_i hcs;obtain⟨vs,e1,e2⟩:=q;obtain⟨ws,e3,e4⟩:=(fe hl).1 e2;have:vs=ws:=by injection e3 with e3;simpa using congrArg Array.toList e3
  subst this;exact⟨vs,e1,gY hcs e4⟩
 ·cases hv
theorem Rv {α:Type}(K:Kd α) (kv i e:Nat) {k t:Nat}{c:Code}{ov:OE}{cs cs':List A}(hlk:lkO o kv=some ov) (hv:varO ov=some (t,cs)) (hi:nthG cs i=some (.d (.v (.slice none 0 0)))) (hk:nextK a o=some k) (hs:setG cs i (.row k)=some cs') (hd:delQ o kv=some o1)
 (kk:JD P F c n x a ((kv,.var t cs')::(k,.row e (K.f []))::o1)):JD P F c n x a o:=.mk λρ h S L cz=>by
 obtain rfl:=gv hd;have c':=cz.eqv hk (ρ.eqv_setR k none 0 0);obtain⟨y,L2,hD,hE,hr⟩:=c'.o.get hlk;obtain⟨vs,rfl,hcs⟩:=varO_ok hv hE;obtain⟨h1,rfl⟩:=rq hs;obtain⟨v,h2,h3,h4⟩:=hcs.nth hi;have h5:=(dB (h:=h)).1 h4;subst h5;refine J.own (L':=.row none 0 e K.sz 0 []::L) (λ_ hw=>hw.row_nil e K.sz) (J.ents (.blk ((ρ.setR k none 0 0).b kv) t vs::.row none 0 e K.sz 0 []::L2) (.cons (.there hD) (.cons .here .all)) ?_);have hset:vs.set i (.slice none 0 0)=vs:=by
  have hlt:=(List.getElem?_eq_some_iff.1 h2).1;have hg:vs[i]=.slice none 0 0:=(List.getElem?_eq_some_iff.1 h2).2;rw [<- hg];exact List.set_getElem_self hlt
 have hcs':=hcs.set (x:=.row k) (v:=.slice none 0 0) (i:=i) U (by simp [DenA,Rho.setR]);rw [hset] at hcs';have hden:DenO (ρ.setR k none 0 0) h ((kv,.var t (cs.set i (.row k)))::(k,.row e (K.f []))::delO o kv) (.blk ((ρ.setR k none 0 0).b kv) t vs::.row none 0 e K.sz 0 []::L2) :=
  ⟨_,_,U,⟨vs,U,hcs'⟩,_,_,U,⟨[],K.sz,by simp [Rho.setR],K.row.2 ⟨U,by simp [Rho.setR],bQ⟩,by simp [Rho.setR]⟩,hr⟩
 exact kk.k (ρ.setR k none 0 0) h S _ ⟨c'.t,c'.s,hden⟩
end
section
variable {P:Program} [Tb P] {F:Fd}{n:PostD}{x:Nat->PostD}{a b Au:LO}{o ob o':LQ}{ops:Array Oper}{rest:LR}{base:Nat}{es r:List Ef}{c:Code}
variable {d k v e bytes Fi:Nat}{ty T:TypeId}{pos:String}{af:Array Edge}{xo yo:Operand}{us:List Nat}{d2:D}{os:Array Operand}{ts:Array TypeId}{ds cs:List D}
theorem Obl.app {α:Type}(K:Kd α) {l1 l2:List α}(hk0:keepA us (aR allT b r)=some Au) (hx:evA Au xo=some (.row k)) (hk:lkO (oS ob r) k=some (.row e (K.f l1))) (hy:evA Au yo=some (.d d2)) (hd2:nilD P T d2=K.f l2) (hT:findP (Tb.ap P) T=some (e,K.sz,bytes))
 (hb:(l1.length+l2.length)*bytes<=140737488355328) (hb0:Nat.blt 0 bytes=true) (hd:Nat.blt d F.m=true) :
 Obl P F ops x b ob r (eUpd us d k v (.rowv v e (K.f (l1++l2)))) ⟨some d,.call { callee:=.builtin .append,args:=#[xo,yo],argTypes:=#[T,T] },ty,pos,af,none⟩:=⟨Au,hk0,_,hk,λn A' O' hA hO hfr hn=>.mk λρ h S L cz=>by
 obtain⟨fA,fO⟩:=hfr v U;have cu:=cz.wk hA;obtain⟨w1,h1,h2⟩:=cE cu hx;cases h2;obtain⟨w,h3,h4⟩:=cE cu hy;have h5:=gR (P:=P) (T:=T) h w h4;rw [hd2] at h5;obtain⟨a2,c2,rfl,hR⟩:=K.den.1 h5;obtain⟨y,L',hD,⟨xs,sz,rfl,hRow,hbig⟩,hr⟩:=cz.o.get hO;obtain⟨rfl,hn',hc⟩:=K.row.1 hRow;have:=K.mono;refine bX (Tb.apt hT) h1 h3 hc hn' hR U hD hb hd hb0 (λaN cN xsN hcN hbN=>?_);have w:=ρ.ofk_setR v aN cN (l1++l2).length;have cf:=cz.fresh w fA fO;have en:(ρ.setR v aN cN (l1++l2).length).n v=(l1++l2).length:=by simp [Rho.setR]
 have hden:DenO (ρ.setR v aN cN (l1++l2).length) h ((k,.rowv v e (K.f (l1++l2)))::delO O' k) (.row aN cN e K.sz (l1++l2).length xsN::L') :=
  ⟨_,L',U,⟨xsN,K.sz,by simp [Rho.setR],by rw [en];exact K.row.2 ⟨U,U,hcN⟩,by rw [en];exact hbN⟩,hr.fresh w fO.del⟩
 exact a_ ⟨_,_,_,eI (u:=.row v) ⟨cf.t,cf.s,hden⟩ (by simp [Rho.setR,DenA]) d,hn⟩⟩
theorem Obl.callO {α:Type}{K:Kd α}{l:List α}(hk0:keepA us (aR allT b r)=some Au) (ha:argsA P Au os.toList ts.toList=some ds) (cc:FnO P Fi e K ds cs l) (hF:callT P Fi=true) (hd:Nat.blt d F.m=true) :
 Obl P F ops x b ob r (eMk us d k (.recr cs k) (.row e (K.f l))) ⟨some d,.call { callee:=.value (.func Fi),args:=os,argTypes:=ts },ty,pos,af,none⟩:=⟨Au,hk0,λn A' O' hA fA fO hn=>.mk λρ h S L cz=>by
 have cu:=cz.wk hA;obtain⟨vs,h3,h4⟩:=f6 cu ha;have:=K.mono;obtain⟨os⟩:=os;refine d6 hF h3 (cc.fn h vs cz.t h4) .nil hd (λv h2 Lo hle2 ⟨us,a2,c2,xs2,e1,e2,e3,e4,e5⟩=>?_);subst e1 e3;have cf:=(cz.mono hle2).fresh (ρ.ofk_setR k a2 c2 l.length) fA fO;have en:(ρ.setR k a2 c2 l.length).n k=l.length:=by simp [Rho.setR]
 have hden:DenO (ρ.setR k a2 c2 l.length) h2 ((k,.row e (K.f l))::O') ([.row a2 c2 e K.sz l.length xs2]++L) :=
  ⟨_,L,U,⟨xs2,K.sz,by simp [Rho.setR],by rw [en];exact K.row.2 ⟨U,U,e4⟩,by rw [en];exact e5⟩,cf.o⟩
 exact a_ ⟨_,_,_,eI (u:=.recr cs k) ⟨cf.t,cf.s,hden⟩ ⟨us,by simp [Rho.setR],e2⟩ d,hn⟩⟩
theorem Xap {α:Type}(K:Kd α) {l1 l2:List α}(hk0:keepA (tms [xo,yo]) a=some Au) (hx:evA Au xo=some (.row k)) (hk:lkO o k=some (.row e (K.f l1))) (hy:evA Au yo=some (.d d2)) (hd2:nilD P T d2=K.f l2) (hT:findP (Tb.ap P) T=some (e,K.sz,bytes)) (hv:nextK a o=some v)
 (hb:(l1.length+l2.length)*bytes<=140737488355328) (hb0:Nat.blt 0 bytes=true) (hd:Nat.blt d F.m=true) (hdel:delQ o k=some o')
 (kk:JX P F ops n x b ob base (eUpd (tms [xo,yo]) d k v (.rowv v e (K.f (l1++l2)))::es) rest ((d,.row v)::a) ((k,.rowv v e (K.f (l1++l2)))::o')) :
 JX P F ops n x b ob base es (⟨some d,.call { callee:=.builtin .append,args:=#[xo,yo],argTypes:=#[T,T] },ty,pos,af,none⟩::rest) a o:=by
 obtain rfl:=gv hdel;exact JX.put (λha ho=>⟨Obl.app K (by rw [<- ha];exact hk0) hx (by rw [<- ho];exact hk) hy hd2 hT hb hb0 hd,by subst ha;rfl,by subst ho;rfl⟩) kk
theorem Xco {α:Type}{K:Kd α}{l:List α}(hk0:keepA (tms os.toList) a=some Au) (ha:argsA P Au os.toList ts.toList=some ds) (cc:FnO P Fi e K ds cs l) (hv:nextK a o=some k)
 (kk:JX P F ops n x b ob base (eMk (tms os.toList) d k (.recr cs k) (.row e (K.f l))::es) rest ((d,.recr cs k)::a) ((k,.row e (K.f l))::o)) (hF:callT P Fi=true:=by kernel_rfl) (hd:Nat.blt d F.m=true:=by rfl) :
 JX P F ops n x b ob base es (⟨some d,.call { callee:=.value (.func Fi),args:=os,argTypes:=ts },ty,pos,af,none⟩::rest) a o :=
 JX.put (λha' ho=>⟨Obl.callO (by rw [<- ha'];exact hk0) ha cc hF hd,by subst ha';rfl,by subst ho;rfl⟩) kk
end
theorem qV:apT prog 46=some (22,1,24):=by kernel_rfl
theorem sl_46:slT prog 46=some (22,1):=by kernel_rfl
theorem uf {L:List (LB×Nd)}{p:LB×Nd}{k:Nat}(hs:L.Pairwise (λp q=>olt q p=false)) (hk:k<=L.length) (h1:∀ j (hj:j<L.length),k<=j->olt p L[j]=true) (h2:∀ (h0:0<k),olt p (L[k-1]'z2_)=false):(L.take k++p::L.drop k).Pairwise (λp q=>olt q p=false):=by
 have hp:=List.pairwise_iff_getElem.1 hs;refine List.pairwise_append.2 ⟨hs.sublist (List.take_sublist ..),List.pairwise_cons.2 ⟨λq hq=>?_,hs.sublist (List.drop_sublist ..)⟩,λq hq r hr=>?_⟩
 ·obtain⟨j,hj,rfl⟩:=List.getElem_of_mem hq;simp only [bC] at hj;rw [List.getElem_drop];exact gP.asy _ _ (h1 (k+j) z2_ z2_)
 ·obtain⟨i,hi,rfl⟩:=List.getElem_of_mem hq;simp only [bz] at hi;rw [List.getElem_take];rcases List.mem_cons.1 hr with rfl|hr
  ·have h0:0<k:=by omega
   rcases Nat.lt_or_ge i (k-1) with h|h
   ·exact gP.tr _ _ _ (hp i (k-1) z2_ z2_ h) (h2 h0)
   ·have:i=k-1:=by omega
    subst this;exact h2 h0
  ·obtain⟨j,hj,rfl⟩:=List.getElem_of_mem hr;simp only [bC] at hj;rw [List.getElem_drop];exact hp i (k+j) _ _ z2_
theorem lu {α:Type}{L M:List α}{p:α}{k:Nat}(h:L.Perm M):(L.take k++p::L.drop k).Perm (M++[p]):=by
 refine List.perm_middle.trans ?_;rw [List.take_append_drop];exact(h.cons p).trans (List.perm_append_singleton p M).symm
theorem cb_at {x y:LB}{i:Nat}(hx:i<x.length) (hy:i<y.length):Go.Lib.compareBytes (x.drop i) (y.drop i)=if x[i]<y[i] then -1 else if y[i]<x[i] then 1 else Go.Lib.compareBytes (x.drop (i+1)) (y.drop (i+1)):=by
 rw [aX hx,aX hy];rfl
theorem cb_end (x y:LB) (h:x=[]\/y=[]):Go.Lib.compareBytes x y<0<->x.length<y.length:=by
 cases x<;>cases y<;>simp_all [Go.Lib.compareBytes]
def bsR:Rep LB:=λh cs l=>∃ a c,cs=[.slice a l.length c]/\SlR u8R 1 h a c l
instance:Mono bsR:=⟨λhle ⟨a,c,e,r⟩=>⟨a,c,e,r.mono hle⟩,λ⟨a,c,e,_⟩ u hu=>by subst e;simp at hu;subst hu;rfl⟩
theorem rbelow_fn {a b:OA}{c d:Nat}{x y:LB}{h:Part}(hx:SlR u8R 1 h a c x) (hy:SlR u8R 1 h b d y):Pure prog 76 [.slice a x.length c,.slice b y.length d] h (.bool (decide (Go.Lib.compareBytes x y<0))):=by
 have hxb:=hx.big;have hyb:=hy.big;refine dY ?_;refine aM func76 U ntmps76 U (λe he=>?_);refine bg [(0,_),(1,_)] ⟨U,U,trivial⟩ ?_;refine Sr (Ru 1 U (a_ (az (Sr (Ru 1 U (a_ (aJ (bM (λt_ S_ h_ L_=>∃ (i:Nat),t_=x.length+1-i/\S_=[(0,.slice a x.length c),(1,.slice b y.length d),(5,.int .i64 i)]/\h=h_/\L_=[]/\((i<=x.length/\i<=y.length)/\Go.Lib.compareBytes (x.drop i) (y.drop i)=Go.Lib.compareBytes x y)) ⟨_,_,?_,⟨0,U,U,U,U,⟨by omega,U⟩⟩⟩ ?_))))))))
 ·exact g7
 rintro _ _ _ _ ⟨i,rfl,rfl,rfl,rfl,hi,he⟩;refine az (Sr (Ru 5 U (Bs 10 U (λhc1=>?_) λhc1=>?_)))
 ·refine Ru 5 U (a_ (Cs U (λhc2=>?_) λhc2=>?_))
  ·have hix:i<x.length:=z2_;have hiy:i<y.length:=z2_;rw [cb_at hix hiy] at he;refine aA (az (aJ (az (de cM cP ?_))));refine Rq 2 U ?_;refine du (aI cY U U z9_ z7_ U z2_) U ?_;rintro _ ⟨b3,o3,hi3,rfl,hE3⟩;refine cq (bv ff U z7_) U ?_;refine Rq 2 U ?_;refine du (aI cY U U z9_ z7_ U z2_) U ?_;rintro _ ⟨b5,o5,hi5,rfl,hE5⟩;refine cq (bv ff U z7_) U ?_;refine Rq 1 U ?_;refine eH ?_;refine Cs U (λhc7=>?_) λhc7=>?_
   ·have hne:x[i].toNat≠y[i].toNat:=z2_;have hv:decide (x[i].toNat<y[i].toNat)=decide (Go.Lib.compareBytes x y<0):=(by rw [<- he];simp only [UInt8.lt_iff_toNat_lt];split<;>simp_all<;>omega);refine az (de cM cP ?_);refine Rq 2 U ?_;refine du (aI cY U U z9_ z7_ U z2_) U ?_;rintro _ ⟨b8,o8,hi8,rfl,hE8⟩;refine cq (bv ff U z7_) U ?_;refine Rq 2 U ?_;refine du (aI cY U U z9_ z7_ U z2_) U ?_;rintro _ ⟨b10,o10,hi10,rfl,hE10⟩;refine cq (bv ff U z7_) U ?_;refine Rq 2 U ?_;refine eH ?_;exact ew (ay U U) (by first|exact congrArg Value.bool (by rw [<- hv];first|rfl|(simp;done)|(apply decide_eq_decide.2;omega)))
   have he2:Go.Lib.compareBytes (x.drop (i+1)) (y.drop (i+1))=Go.Lib.compareBytes x y:=(by rw [<- he];simp only [UInt8.lt_iff_toNat_lt];rw [if_neg z2_,if_neg z2_]);refine aA (Rg (Ru 1 U (ah ai_ U ?_)));refine Ru 1 U (a_ (⟨_,?_,_,?_,⟨i+1,U,U,U,U,⟨by omega,he2⟩⟩⟩))
   ·omega
   exact g7
  refine bA (Kp [0,1] U (Sr (Ru 6 U (Nk [4] U ?_))));have hend:x.drop i=[]\/y.drop i=[]:=(by simp only [List.drop_eq_nil_iff];omega);have hce:=cb_end _ _ hend;rw [he] at hce;simp only [bC] at hce;exact ew (ay U U) (congrArg Value.bool (by apply decide_eq_decide.2;rw [hce];omega))
 refine Ru 5 U (a_ (dA U ?_));refine bA (Kp [0,1] U (Sr (Ru 6 U (Nk [4] U ?_))));have hend:x.drop i=[]\/y.drop i=[]:=(by simp only [List.drop_eq_nil_iff];omega);have hce:=cb_end _ _ hend;rw [he] at hce;simp only [bC] at hce;exact ew (ay U U) (congrArg Value.bool (by apply decide_eq_decide.2;rw [hce];omega))
theorem gt_nx {L:List (LB×Nd)}{p:LB×Nd}{k:Nat}(h:∀ j (hj:j<L.length),k<=j->olt p L[j]=true) {hk:k-1<L.length}(h1:olt p (L[k-1]'hk)=true):∀ j (hj:j<L.length),k-1<=j->olt p L[j]=true:=λj hj hjk=>by
 rcases Nat.lt_or_ge j k with h2|h2
 ·have:j=k-1:=by omega
  subst this;exact h1
 ·exact h j hj h2
theorem rset_fn {a:OA}{c:Nat}{ks:LN}{h:Part}(hk:SlR NdR 5 h a c ks) (hT:Tabs h) (hlen:ks.length<=1000) (hsz:Nd.szL ks<=20000000):FnR prog 32 [.slice a ks.length c] h (SetR ks):=by
 refine aM func32 U ntmps32 U (λe he=>?_);refine bg [(0,_)] ⟨U,trivial⟩ ?_;have hh0:=aT h;refine Sr (bI eF U (λb1=>?_));refine Ru 1 U (a_ (Sr (ah (bn (cs:=[.int .i64 0,_,_,.slice none 0 0,.slice none 0 0]) eR U U) U ?_)));refine bI eF U (λb2=>?_);refine aV bP U U dl_ f8 f9 z4_ ?_;refine a_ ?_;refine Sr (Ru 1 U (a_ (az (Sr (Ru 1 U (a_ (aJ (bM (λt_ S_ h_ L_=>∃ (p:Part) (i:Nat) (aa:OA) (ac:Nat) (ka:OA) (kc:Nat) (l0 L:List (LB×Nd)) (bl:List LB) (nl:LN),t_=ks.length-i/\S_=[(0,.slice a ks.length c),(2,.pointer (some ⟨b1,0,none⟩)),(4,.pointer (some ⟨b2,0,none⟩)),(5,.slice aa bl.length ac),(6,.int .i64 i)]/\p=h_/\L_=[.blk b2 35 [.int .i64 0,.int .i64 17,.bool true,.slice none 0 0,.slice ka nl.length kc],.blk b1 35 [.int .i64 0,.int .i64 0,.bool false,.slice none 0 0,.slice none 0 0]]/\(h.le p/\Tabs p/\i<=ks.length/\SlR bsR 1 p aa ac bl/\SlR NdR 5 p ka kc nl/\(bl=L.map (·.1)/\nl=L.map (·.2))/\Prs l0 (ks.take i)/\L.Perm l0/\L.Pairwise (λp q=>olt q p=false))) ⟨_,_,?_,⟨_,0,none,0,none,0,[],[],[],[],U,U,U,U,⟨hh0,hT,by omega,bu,bu,⟨U,U⟩,⟨by simp,λp hp=>by cases hp⟩,List.Perm.refl _,List.Pairwise.nil⟩⟩⟩ ?_))))))))
 ·exact z6_
 rintro _ _ _ _ ⟨p,i,aa,ac,ka,kc,l0,L,bl,nl,rfl,rfl,rfl,rfl,hh0,hT,hi,hB,hN,hbn,hP,hL,hO⟩;have hk:=hk.mono hh0;refine az (Sr (Ru 4 U (a_ (Cs U (λhc3=>?_) λhc3=>?_))))
 ·have hi':i<ks.length:=z2_;have hz1:(ks[i]'hi').sz<=20000000:=Nat.le_trans (Nd.sz_le (aF hi')) hsz;refine aA (az (aJ (Sr (Ru 2 U (cm (aI gJ U U z9_ z7_ U z2_) U ?_)))));rintro _ ⟨b4,o4,hi4,rfl,hE4⟩;refine cm (dw bP U z7_) U ?_;rintro _ ⟨w,rfl,hNw⟩;refine bL ca_60 U (ib hNw z2_) U ?_;rintro _ h6 hle6 ⟨ba,bc,rfl,hbS⟩
  replace hk:=hk.mono hle6
  replace hT:=hT.mono hle6
  replace hh0:=hh0.mono hle6
  replace hB:=hB.mono hle6
  replace hN:=hN.mono hle6
  replace hNw:=hNw.mono hle6
  refine Ru 5 U (a_ (az (Sr (Ru 2 U (a_ (Cs U (λhc7=>?_) λhc7=>?_))))))
  ·refine Sr (ah (bn (cs:=[.int .i64 0,.int .i64 0,.bool false,.slice none 0 0,.slice none 0 0]) eR U U) U ?_);refine aV bP U U dl_ f8 f9 z4_ ?_;exact Ru 1 U (a_ (bj (RetV.cellAT U U bP mm_ z4_ U) (.inl ⟨⟨_,aF _,by simpa using hc7⟩,_,U,d_ bu bu⟩)))
  obtain⟨kb,hkb⟩:=Option.isSome_iff_exists.1 (show((ks[i]'hi').put).isSome=true by simpa using hc7);have hgd:((ks[i]'hi').put).getD []=kb:=(by rw [hkb];rfl);rw [hgd] at hbS |-;obtain⟨hbl,hnl⟩:=hbn;have hbll:bl.length=L.length:=(by rw [hbl,aD]);have hnll:nl.length=L.length:=(by rw [hnl,aD]);have hLl:L.length=i:=(by rw [hL.length_eq,hP.len,bz];omega);refine aA (Sr (Ru 3 U (a_ (az (aJ (bM (λt_ S_ h_ L_=>∃ (k:Nat),t_=k+1/\S_=[(0,.slice a ks.length c),(2,.pointer (some ⟨b1,0,none⟩)),(4,.pointer (some ⟨b2,0,none⟩)),(5,.slice aa bl.length ac),(6,.int .i64 i),(7,.slice ba kb.length bc),(9,.int .i64 k)]/\h6=h_/\L_=[.blk b2 35 [.int .i64 0,.int .i64 17,.bool true,.slice none 0 0,.slice ka nl.length kc],.blk b1 35 [.int .i64 0,.int .i64 0,.bool false,.slice none 0 0,.slice none 0 0]]/\(k<=L.length/\(∀ j (hj:j<L.length),k<=j->olt (kb,ks[i]'hi') L[j]=true))) ⟨_,_,?_,⟨L.length,U,U,U,U,⟨aL _,λj hj h=>by omega⟩⟩⟩ ?_))))))
  ·exact g7
  rintro _ _ _ _ ⟨k,rfl,rfl,rfl,rfl,hkl,hgt⟩;refine az (Sr (Ru 3 U (Bs 34 U (λhc8=>?_) λhc8=>?_)))
  ·refine Ru 3 U (aQ U U  si_ U ?_);refine cH U U  (aI sl_46 U U z9_ z7_ U z2_) U ?_;rintro _ ⟨b9,o9,hi9,rfl,hE9⟩;refine cH U U  (RunE.load1 dt U z7_) U ?_;rintro _ ⟨a9,c9,⟨⟩,hS9⟩;refine cG U U  ca_76 U (rbelow_fn z7_ z7_) U ?_;refine Ru 1 U (a_ (Cs U (λhc12=>?_) λhc12=>?_))
   ·have hk1:k-1<L.length:=z2_;have hbk:bl[((k:Int)-1).toNat]'z2_=(L[k-1]'hk1).1:=(by simp only [hbl,List.getElem_map,show((k:Int)-1).toNat=k-1 by omega]);rw [hbk] at hc12;have hlt:olt (kb,ks[i]'hi') (L[k-1]'hk1)=true:=aj hc12;refine aA (aJ (Rg (Ru 1 U (ah si_ U ?_))));refine Ru 1 U (a_ (⟨_,?_,_,?_,⟨k-1,U,U,U,U,⟨by omega,gt_nx hgt hlt⟩⟩⟩))
    ·omega
    exact g7
   have hk1:k-1<L.length:=z2_;have hbk:bl[((k:Int)-1).toNat]'z2_=(L[k-1]'hk1).1:=(by simp only [hbl,List.getElem_map,show((k:Int)-1).toNat=k-1 by omega]);rw [hbk] at hc12;have hst:∀ (h0:0<k),olt (kb,ks[i]'hi') (L[k-1]'z2_)=false:=λh0=>au hc12;refine bA (Sr (Ru 1 U (a_ (Sr ?_))));have htk:(bl.take k).length<=bl.length:=List.length_take_le' ..;have hdk:(bl.drop k).length<=bl.length:=(by simp);have htn:(nl.take k).length<=nl.length:=List.length_take_le' ..;have hdn:(nl.drop k).length<=nl.length:=(by simp);refine Ru 3 U (cm (RunE.cut_h sl_46 U U z9_ z7_ U z2_) U ?_);rintro _ ⟨a13,c13,rfl,hS13⟩;refine bZ 22 1 ?_;refine bX qV U U bQ U z7_ U dl_ z3_ U U (λa14 c14 xs14 hC14 hN14=>?_);refine Ru 1 U (cF qV zr_22 U U U U U (λb15=>?_));refine bV qV U U z7_ U dl_ dl_ U ((⟨_,_,U,hbS⟩:bsR _ _ kb)) z3_ U U (λa16 c16 xs16 hC16 hN16=>?_);refine Ru 1 U (a_ (Sr (Ru 3 U (cm (ei sl_46 U U z9_ z7_ U z2_) U ?_))));rintro _ ⟨a17,c17,rfl,hS17⟩;refine bX qV U U z7_ U z7_ U dl_ z3_ U U (λa18 c18 xs18 hC18 hN18=>?_);refine cW (R:=bsR) (l:=[]++bl.take k++[kb]++bl.drop k) dl_ z7_ U z7_ (λhp hlep hSr=>?_);replace hh0:=hh0.mono hlep;replace hT:=hT.mono hlep;replace hk:=hk.mono hlep;replace hN:=hN.mono hlep;refine Ru 1 U (a_ (Sr (Ru 1 U (a_ (az (J.held ([.blk b2 35 [.int .i64 0,.int .i64 17,.bool true,.slice none 0 0,.slice ka nl.length kc]]) 13 cM U (λh00=>?_)))))));refine Tk 0 U (aO U) ?_;refine Tk 1 U (by first|exact bR fi rfl|exact bO fi rfl) ?_;refine Tk 2 U (aw dz U mm_ U) ?_;refine Tk 3 U (aO U) ?_;refine Te 4 U (RunE.cut_h gJ U U z9_ z7_ U z2_) ?_;rintro _ ⟨a19,c19,rfl,hS19⟩;refine Tk 6 U (aO U) ?_;refine Tk 7 U (aO U) ?_;refine Te 8 U (aI gJ U U z9_ z7_ U z2_) ?_;rintro _ ⟨b20,o20,hi20,rfl,hE20⟩;refine Te 9 U (dw bP U z7_) ?_;rintro _ ⟨_,rfl,hNd21⟩;refine JH.all2 5 10 cP U U ?_ ?_
   ·unfold One;refine bZ 35 5 ?_;refine bX dU U U bQ U z7_ U dl_ z3_ U U (λa22 c22 xs22 hC22 hN22=>?_);refine a_ ⟨(br_ h00),?_⟩;refine Ta 10 U ?_;unfold One;refine JL.litA dU U z4_ U U (λb23=>?_);refine a_ ⟨(br_ h00),?_⟩;refine Ta 11 U ?_;unfold One;refine bV dU U U z7_ U dl_ dl_ z4_ (z7_) z3_ U U (λa24 c24 xs24 hC24 hN24=>?_);refine a_ ⟨(br_ h00),?_⟩;refine Tk 12 U (bS U) ?_;refine cy cP ?_;refine Kp [11,69,68,63,67,66,65,64,62,61,60,59,58,5,57,56,55,54,53,10,52,51,50,49,48,47,46,45,42,41,40,39,38,37,36,35,34,33,32,0,2,4,6,7,9] U (Rg (Ru 2 U (ah (aw dz U mm_ U) U ?_)));refine Ru 1 U (cm (ei gJ U U z9_ z7_ U z2_) U ?_);rintro _ ⟨a25,c25,rfl,hS25⟩;refine bX dU U U z7_ U z7_ U dl_ z3_ U U (λa26 c26 xs26 hC26 hN26=>?_);refine Ru 1 U (bK dz U U U dl_ fL ?_);refine cW (R:=NdR) (l:=[]++nl.take k++[ks[i]'hi']++nl.drop k) dl_ z7_ U z7_ (λhp2 hlep2 hSr2=>?_);replace hh0:=hh0.mono hlep2;replace hT:=hT.mono hlep2;replace hSr:=hSr.mono hlep2;refine a_ (Rg ?_)
    skip
    refine Ru 1 U (ah ai_ U ?_);refine Ru 1 U (a_ (⟨_,?_,_,?_,⟨_,i+1,_,_,_,_,l0++[(kb,ks[i]'hi')],L.take k++(kb,ks[i]'hi')::L.drop k,_,_,U,U,U,U,⟨by assumption,by assumption,by omega,by assumption,by assumption,⟨by rw [hbl];simp,by rw [hnl];simp⟩,by rw [lS hi'];exact hP.snoc hkb,lu hL,uf hO hkl hgt hst⟩⟩⟩))
    ·omega
    exact z6_
   unfold One;refine JL.litA dU U z4_ U U (λb27=>?_);refine a_ ⟨(br_ h00),?_⟩;refine Ta 5 U ?_;unfold One;refine bZ 35 5 ?_;refine bX dU U U bQ U z7_ U dl_ z3_ U U (λa28 c28 xs28 hC28 hN28=>?_);refine a_ ⟨(br_ h00),?_⟩;refine Ta 11 U ?_;unfold One;refine bV dU U U z7_ U dl_ dl_ z4_ (z7_) z3_ U U (λa29 c29 xs29 hC29 hN29=>?_);refine a_ ⟨(br_ h00),?_⟩;refine Tk 12 U (bS U) ?_;refine cy cP ?_;refine Kp [11,69,63,68,67,66,65,64,62,61,60,59,58,5,57,56,55,54,53,10,52,51,50,49,48,47,46,45,42,41,40,39,38,37,36,35,34,33,32,0,2,4,6,7,9] U (Rg (Ru 2 U (ah (aw dz U mm_ U) U ?_)));refine Ru 1 U (cm (ei gJ U U z9_ z7_ U z2_) U ?_);rintro _ ⟨a30,c30,rfl,hS30⟩;refine bX dU U U z7_ U z7_ U dl_ z3_ U U (λa31 c31 xs31 hC31 hN31=>?_);refine Ru 1 U (bK dz U U U dl_ fL ?_);refine cW (R:=NdR) (l:=[]++nl.take k++[ks[i]'hi']++nl.drop k) dl_ z7_ U z7_ (λhp2 hlep2 hSr2=>?_);replace hh0:=hh0.mono hlep2;replace hT:=hT.mono hlep2;replace hSr:=hSr.mono hlep2;refine a_ (Rg ?_)
   skip
   refine Ru 1 U (ah ai_ U ?_);refine Ru 1 U (a_ (⟨_,?_,_,?_,⟨_,i+1,_,_,_,_,l0++[(kb,ks[i]'hi')],L.take k++(kb,ks[i]'hi')::L.drop k,_,_,U,U,U,U,⟨by assumption,by assumption,by omega,by assumption,by assumption,⟨by rw [hbl];simp,by rw [hnl];simp⟩,by rw [lS hi'];exact hP.snoc hkb,lu hL,uf hO hkl hgt hst⟩⟩⟩))
   ·omega
   exact z6_
  have hst:∀ (h0:0<k),olt (kb,ks[i]'hi') (L[k-1]'z2_)=false:=λh0=>by omega
  refine Ru 8 U (a_ (dA U ?_));refine bA (Sr (Ru 1 U (a_ (Sr ?_))));have htk:(bl.take k).length<=bl.length:=List.length_take_le' ..;have hdk:(bl.drop k).length<=bl.length:=(by simp);have htn:(nl.take k).length<=nl.length:=List.length_take_le' ..;have hdn:(nl.drop k).length<=nl.length:=(by simp);refine Ru 3 U (cm (RunE.cut_h sl_46 U U z9_ z7_ U z2_) U ?_);rintro _ ⟨a32,c32,rfl,hS32⟩;refine bZ 22 1 ?_;refine bX qV U U bQ U z7_ U dl_ z3_ U U (λa33 c33 xs33 hC33 hN33=>?_);refine Ru 1 U (cF qV zr_22 U U U U U (λb34=>?_));refine bV qV U U z7_ U dl_ dl_ U ((⟨_,_,U,hbS⟩:bsR _ _ kb)) z3_ U U (λa35 c35 xs35 hC35 hN35=>?_);refine Ru 1 U (a_ (Sr (Ru 3 U (cm (ei sl_46 U U z9_ z7_ U z2_) U ?_))));rintro _ ⟨a36,c36,rfl,hS36⟩;refine bX qV U U z7_ U z7_ U dl_ z3_ U U (λa37 c37 xs37 hC37 hN37=>?_);refine cW (R:=bsR) (l:=[]++bl.take k++[kb]++bl.drop k) dl_ z7_ U z7_ (λhp hlep hSr=>?_);replace hh0:=hh0.mono hlep;replace hT:=hT.mono hlep;replace hk:=hk.mono hlep;replace hN:=hN.mono hlep;refine Ru 1 U (a_ (Sr (Ru 1 U (a_ (az (J.held ([.blk b2 35 [.int .i64 0,.int .i64 17,.bool true,.slice none 0 0,.slice ka nl.length kc]]) 13 cM U (λh00=>?_)))))));refine Tk 0 U (aO U) ?_;refine Tk 1 U (by first|exact bR fi rfl|exact bO fi rfl) ?_;refine Tk 2 U (aw dz U mm_ U) ?_;refine Tk 3 U (aO U) ?_;refine Te 4 U (RunE.cut_h gJ U U z9_ z7_ U z2_) ?_;rintro _ ⟨a38,c38,rfl,hS38⟩;refine Tk 6 U (aO U) ?_;refine Tk 7 U (aO U) ?_;refine Te 8 U (aI gJ U U z9_ z7_ U z2_) ?_;rintro _ ⟨b39,o39,hi39,rfl,hE39⟩;refine Te 9 U (dw bP U z7_) ?_;rintro _ ⟨_,rfl,hNd40⟩;refine JH.all2 5 10 cP U U ?_ ?_
  ·unfold One;refine bZ 35 5 ?_;refine bX dU U U bQ U z7_ U dl_ z3_ U U (λa41 c41 xs41 hC41 hN41=>?_);refine a_ ⟨(br_ h00),?_⟩;refine Ta 10 U ?_;unfold One;refine JL.litA dU U z4_ U U (λb42=>?_);refine a_ ⟨(br_ h00),?_⟩;refine Ta 11 U ?_;unfold One;refine bV dU U U z7_ U dl_ dl_ z4_ (z7_) z3_ U U (λa43 c43 xs43 hC43 hN43=>?_);refine a_ ⟨(br_ h00),?_⟩;refine Tk 12 U (bS U) ?_;refine cy cP ?_;refine Rg (Ru 2 U (ah (aw dz U mm_ U) U ?_));refine Ru 1 U (cm (ei gJ U U z9_ z7_ U z2_) U ?_);rintro _ ⟨a44,c44,rfl,hS44⟩;refine bX dU U U z7_ U z7_ U dl_ z3_ U U (λa45 c45 xs45 hC45 hN45=>?_);refine Ru 1 U (bK dz U U U dl_ fL ?_);refine cW (R:=NdR) (l:=[]++nl.take k++[ks[i]'hi']++nl.drop k) dl_ z7_ U z7_ (λhp2 hlep2 hSr2=>?_);replace hh0:=hh0.mono hlep2;replace hT:=hT.mono hlep2;replace hSr:=hSr.mono hlep2;refine a_ (Rg ?_)
   skip
   refine Ru 1 U (ah ai_ U ?_);refine Ru 1 U (a_ (⟨_,?_,_,?_,⟨_,i+1,_,_,_,_,l0++[(kb,ks[i]'hi')],L.take k++(kb,ks[i]'hi')::L.drop k,_,_,U,U,U,U,⟨by assumption,by assumption,by omega,by assumption,by assumption,⟨by rw [hbl];simp,by rw [hnl];simp⟩,by rw [lS hi'];exact hP.snoc hkb,lu hL,uf hO hkl hgt hst⟩⟩⟩))
   ·omega
   exact z6_
  unfold One;refine JL.litA dU U z4_ U U (λb46=>?_);refine a_ ⟨(br_ h00),?_⟩;refine Ta 5 U ?_;unfold One;refine bZ 35 5 ?_;refine bX dU U U bQ U z7_ U dl_ z3_ U U (λa47 c47 xs47 hC47 hN47=>?_);refine a_ ⟨(br_ h00),?_⟩;refine Ta 11 U ?_;unfold One;refine bV dU U U z7_ U dl_ dl_ z4_ (z7_) z3_ U U (λa48 c48 xs48 hC48 hN48=>?_);refine a_ ⟨(br_ h00),?_⟩;refine Tk 12 U (bS U) ?_;refine cy cP ?_;refine Rg (Ru 2 U (ah (aw dz U mm_ U) U ?_));refine Ru 1 U (cm (ei gJ U U z9_ z7_ U z2_) U ?_);rintro _ ⟨a49,c49,rfl,hS49⟩;refine bX dU U U z7_ U z7_ U dl_ z3_ U U (λa50 c50 xs50 hC50 hN50=>?_);refine Ru 1 U (bK dz U U U dl_ fL ?_);refine cW (R:=NdR) (l:=[]++nl.take k++[ks[i]'hi']++nl.drop k) dl_ z7_ U z7_ (λhp2 hlep2 hSr2=>?_);replace hh0:=hh0.mono hlep2;replace hT:=hT.mono hlep2;replace hSr:=hSr.mono hlep2;refine a_ (Rg ?_)
  skip
  refine Ru 1 U (ah ai_ U ?_);refine Ru 1 U (a_ (⟨_,?_,_,?_,⟨_,i+1,_,_,_,_,l0++[(kb,ks[i]'hi')],L.take k++(kb,ks[i]'hi')::L.drop k,_,_,U,U,U,U,⟨by assumption,by assumption,by omega,by assumption,by assumption,⟨by rw [hbl];simp,by rw [hnl];simp⟩,by rw [lS hi'];exact hP.snoc hkb,lu hL,uf hO hkl hgt hst⟩⟩⟩))
  ·omega
  exact z6_
 have hie:i=ks.length:=z2_;rw [hie,List.take_length] at hP;obtain⟨hbl,hnl⟩:=hbn;subst hnl;refine bA (Kp [2,4] U (Sr (ah (bJ bP U mm_ z4_) U ?_)));refine aV bP U U dl_ f8 f9 z4_ ?_;exact Ru 1 U (a_ (bj (RetV.cellAT U U bP mm_ z4_ U) (.inr ⟨_,l0,L,U,hP,hL,hO,d_ bu hN⟩)))
theorem ins0_fn {h:Part}:Pure prog 224 [.slice none 0 0,.int .i64 0,.int .i64 0,.func (.func 120) #[] #[]] h (.tuple #[]):=by
 have hx:(0:Nat)=0:=rfl;refine dY ?_;refine aM func224 U ntmps224 U (λe he=>?_);refine bg [(0,_),(1,_),(2,_),(3,_)] ⟨U,U,U,U,trivial⟩ ?_;refine Sr (Ru 1 U (ah ai_ U ?_));refine Ru 1 U (a_ (aJ (bM (λt_ S_ h_ L_=>∃ (i:Nat),t_=0-i/\S_=[(0,.slice none 0 0),(1,.int .i64 0),(2,.int .i64 0),(3,.func (.func 120) #[] #[]),(8,.int .i64 1)]/\h=h_/\L_=[]/\(True)) ⟨_,_,?_,⟨0,U,U,U,U,trivial⟩⟩ ?_)))
 ·exact z6_
 rintro _ _ _ _ ⟨i,rfl,rfl,rfl,rfl,-⟩;refine az (Sr (Ru 3 U (a_ (Cs U (λhc1=>?_) λhc1=>?_))))
 ·exfalso;omega
 exact bA (⟨_,[],_,(eo U),.nil,_,U,U⟩)
theorem vf {h:Part}:Pure prog 169 [.slice none 0 0,.int .i64 0,.func (.func 120) #[] #[]] h (.tuple #[]):=by
 refine dY ?_;refine aM func169 U ntmps169 U (λe he=>?_);refine bg [(0,_),(1,_),(2,_)] ⟨U,U,U,trivial⟩ ?_;refine Sr (Ru 1 U (a_ (Sr (Ru 3 U (a_ (az (aJ (bM (λt_ S_ h_ L_=>∃ (i:Nat),t_=0-i/\S_=[(0,.slice none 0 0),(1,.int .i64 0),(2,.func (.func 120) #[] #[]),(6,.int .i64 20),(7,.int .i64 0),(8,.int .i64 20)]/\h=h_/\L_=[]/\(True)) ⟨_,_,?_,⟨0,U,U,U,U,trivial⟩⟩ ?_))))))))
 ·exact z6_
 rintro _ _ _ _ ⟨i,rfl,rfl,rfl,rfl,-⟩;refine az (Sr (Ru 3 U (a_ (Cs U (λhc1=>?_) λhc1=>?_))))
 ·exfalso;omega
 refine bA (Sr (Ru 4 U (bh ca_224 U (ins0_fn) U ?_)));refine Nk [0,1,2,6,7,8] U (aJ (bM (λt_ S_ h_ L_=>∃ (i:Nat),t_=0-i/\S_=[(0,.slice none 0 0),(1,.int .i64 0),(2,.func (.func 120) #[] #[]),(6,.int .i64 20)]/\h=h_/\L_=[]/\(True)) ⟨_,_,?_,⟨0,U,U,U,U,trivial⟩⟩ ?_))
 ·exact z6_
 rintro _ _ _ _ ⟨i,rfl,rfl,rfl,rfl,-⟩;refine az (Sr (Ru 3 U (a_ (Cs U (λhc3=>?_) λhc3=>?_))))
 ·exfalso;omega
 exact bA (⟨_,[],_,(eo U),.nil,_,U,U⟩)
theorem ssf0_fn {h:Part}:Pure prog 119 [.slice none 0 0,.func (.func 120) #[] #[]] h (.tuple #[]):=by
 refine dY ?_;refine aM func119 U ntmps119 U (λe he=>?_);refine bg [(0,_),(1,_)] ⟨U,U,trivial⟩ ?_;refine Rg (Ru 4 U (bh ca_169 U (vf) U ?_));exact a_ (⟨_,[],_,(eo U),.nil,_,U,U⟩)
theorem pset0_fn {a:OA}{c:Nat}{h:Part}(hk:SlR NdR 5 h a c ([]:LN)):FnR prog 65 [.slice a ([]:LN).length c] h (SetR []):=by
 refine aM func65 U ntmps65 U (λe he=>?_);refine bg [(0,_)] ⟨U,trivial⟩ ?_;have hh0:=aT h;refine Sr (bI eF U (λb1=>?_));refine Ru 1 U (a_ (Sr (Ru 1 U (a_ (az (Sr (Ru 1 U (bL vS U (pV _ _ _ _ _ (aL _) hk bT) U ?_))))))));rintro _ h2 hle2 ⟨oa,oc,rfl,hO⟩
 replace hk:=hk.mono hle2
 replace hh0:=hh0.mono hle2
 refine Ru 2 U (a_ (aJ (bM (λt_ S_ h_ L_=>∃ (i:Nat),t_=0-i/\S_=[(2,.pointer (some ⟨b1,0,none⟩)),(4,.slice none 0 0),(13,.slice oa ([]:LN).length oc),(14,.int .i64 0),(15,.int .i64 0)]/\h2=h_/\L_=[.blk b1 35 [.int .i64 0,.int .i64 0,.bool false,.slice none 0 0,.slice none 0 0]]/\(True)) ⟨_,_,?_,⟨0,U,U,U,U,trivial⟩⟩ ?_)))
 ·exact z6_
 rintro _ _ _ _ ⟨i,rfl,rfl,rfl,rfl,-⟩;refine Sr (Ru 1 U (a_ (az (Cs U (λhc3=>?_) λhc3=>?_))))
 ·exfalso;omega
 refine bA (Kp [2,4] U (Sr (Ru 1 U (bh ca_119 U (ssf0_fn) U ?_))));refine a_ (Sr (ah (bn (cs:=[.int .i64 0,_,_,.slice none 0 0,.slice none 0 0]) eR U U) U ?_));refine bI eF U (λb5=>?_);refine aV bP U U dl_ f8 f9 z4_ ?_;refine a_ (az (Sr (Ru 3 U (a_ (aJ (bM (λt_ S_ h_ L_=>∃ (i:Nat),t_=0-i/\S_=[(2,.pointer (some ⟨b1,0,none⟩)),(9,.pointer (some ⟨b5,0,none⟩)),(39,.slice none 0 0),(40,.int .i64 0),(41,.int .i64 0)]/\h2=h_/\L_=[.blk b5 35 [.int .i64 0,.int .i64 17,.bool true,.slice none 0 0,.slice none 0 0],.blk b1 35 [.int .i64 0,.int .i64 0,.bool false,.slice none 0 0,.slice none 0 0]]/\(True)) ⟨_,_,?_,⟨0,U,U,U,U,trivial⟩⟩ ?_))))))
 ·exact z6_
 rintro _ _ _ _ ⟨i,rfl,rfl,rfl,rfl,-⟩;refine Sr (Ru 1 U (a_ (az (Cs U (λhc6=>?_) λhc6=>?_))))
 ·exfalso;omega
 refine bA (Kp [2,9] U (Sr (ah (bJ bP U mm_ z4_) U ?_)));refine aV bP U U dl_ f8 f9 z4_ ?_;exact Ru 1 U (a_ (bj (RetV.cellAT U U bP mm_ z4_ U) (.inr ⟨_,[],[],U,⟨U,λp hp=>by cases hp⟩,List.Perm.refl _,List.Pairwise.nil,d_ bu bu⟩)))
def SetM (ks:LN) (m:Nd) (e:Int):Prop:=(setBad ks/\m=ndZ/\e=34)\/∃ l0 L,Prs l0 ks/\L.Perm l0/\List.Pairwise (λp q=>olt q p=false) L/\m=.mk 0 17 true [] (L.map (·.2))/\e=0
def setV (ks:LN) (v:Value) (h':Part):Prop:=∃ cs m e,v=.tuple #[.agg (List.toArray cs),.int .i64 e]/\NdR h' cs m/\SetM ks m e
theorem setR_V {ks:LN}{v:Value}{h:Part}(k:SetR ks v h):setV ks v h:=by
 rcases k with ⟨h1,cs,rfl,h2⟩|⟨cs,l0,L,rfl,h1,h2,h3,h4⟩
 ·exact⟨cs,_,_,U,h2,.inl ⟨h1,U,U⟩⟩
 ·exact⟨cs,_,_,U,h4,.inr ⟨l0,L,h1,h2,h3,U,U⟩⟩
theorem pset_fn {a:OA}{c:Nat}{ks:LN}{h:Part}(hk:SlR NdR 5 h a c ks) (hT:Tabs h) (hlen:ks.length<=19) (hsz:Nd.szL ks<=20000000):FnR prog 65 [.slice a ks.length c] h (setV ks):=by
 cases ks with
 |nil=>exact(pset0_fn hk).mono λv h' _ r=>setR_V r
 |cons x r=>exact(pset1_fn hk hT (by simp) hlen hsz).mono λv h' _ r=>setR_V r
theorem rset_fn' {a:OA}{c:Nat}{ks:LN}{h:Part}(hk:SlR NdR 5 h a c ks) (hT:Tabs h) (hlen:ks.length<=1000) (hsz:Nd.szL ks<=20000000):FnR prog 32 [.slice a ks.length c] h (setV ks):=(rset_fn hk hT hlen hsz).mono λv h' _ r=>setR_V r
theorem Prs.eq {l:List (LB×Nd)}{ks:LN}(h:Prs l ks):l=ks.map λx=>(x.put.getD [],x):=by
 rw [<- h.1,List.map_map];have:∀ p∈l,p=((λx:Nd=>(x.put.getD [],x))∘λp:LB×Nd=>p.2) p:=λp hp=>by
  have:=h.2 p hp;show p=(p.2.put.getD [],p.2);rw [this];rfl
 exact(List.map_id l).symm.trans (List.map_congr_left this)
theorem setBad.perm {ks ks':LN}(hp:ks.Perm ks') (h:setBad ks):setBad ks':=by
 obtain⟨x,hx,h⟩:=h;exact⟨x,hp.mem_iff.1 hx,h⟩
theorem Prs.not_bad {l:List (LB×Nd)}{ks:LN}(h:Prs l ks):¬ setBad ks:=λ⟨x,hx,hb⟩=>by
 rw [<- h.1] at hx;obtain⟨p,hp,rfl⟩:=List.mem_map.1 hx;rw [h.2 p hp] at hb;cases hb
theorem SetM.eq {ks ks':LN}{m m':Nd}{e e':Int}(hp:ks.Perm ks') (hz:Nd.szL ks<=20000000) (h:SetM ks m e) (h':SetM ks' m' e'):m=m'/\e=e':=by
 rcases h with ⟨h1,h2,h3⟩|⟨l0,L,h1,h2,h3,h4,h5⟩
 ·rcases h' with ⟨g1,g2,g3⟩|⟨l0',L',g1,g2,g3,g4,g5⟩
  ·exact⟨h2.trans g2.symm,h3.trans g3.symm⟩
  ·exact absurd (h1.perm hp) g1.not_bad
 ·rcases h' with ⟨g1,g2,g3⟩|⟨l0',L',g1,g2,g3,g4,g5⟩
  ·exact absurd (g1.perm hp.symm) h1.not_bad
  ·have hll:l0'.Perm l0:=by rw [h1.eq,g1.eq];exact hp.symm.map _
   have hb:∀ p∈l0,p.1.length<4294967296:=λp hpm=>by
    have h6:=dF _ p.2 p.1 (aL _) (h1.2 p hpm);have h7:p.2∈ks:=by rw [<- h1.1];exact List.mem_map.2 ⟨p,hpm,U⟩
    have h8:=Nd.sz_le h7;omega
   have:=sort_one h1.2 hb h2 (g2.trans hll) h3 g3;subst this;exact⟨h4.trans g4.symm,h5.trans g5.symm⟩
theorem szL_perm {a b:LN}(h:a.Perm b):Nd.szL a=Nd.szL b:=by
 induction h with
 |nil=>rfl
 |cons x _ ih=>simp only [Nd.szL,ih]
 |swap x y l=>simp only [Nd.szL];omega
 |trans _ _ i1 i2=>exact i1.trans i2
theorem SetM.sz {ks:LN}{m:Nd}{e:Int}(h:SetM ks m e):m.sz<=1+Nd.szL ks:=by
 rcases h with ⟨h1,rfl,h3⟩|⟨l0,L,h1,h2,h3,rfl,h5⟩
 ·simp [ndZ,Nd.sz,Nd.szL]
 ·have:=szL_perm (h2.map (·.2));rw [h1.1] at this;simp [Nd.sz,this]
instance:Nonempty (Nd×Int):=⟨(ndZ,0)⟩
noncomputable def setF (ks:LN):Nd×Int:=Classical.epsilon λp=>SetM ks p.1 p.2
theorem setF_of {ks ks':LN}{m:Nd}{e:Int}(hp:ks'.Perm ks) (hz:Nd.szL ks<=20000000) (h:SetM ks' m e):m=(setF ks).1/\e=(setF ks).2:=by
 have h0:SetM ks m e:=by
  rcases h with ⟨h1,h2,h3⟩|⟨l0,L,h1,h2,h3,h4,h5⟩
  ·exact .inl ⟨h1.perm hp,h2,h3⟩
  ·refine .inr ⟨ks.map λx=>(x.put.getD [],x),L,⟨by simp [List.map_map,Function.comp_def],λp hp'=>?_⟩,h2.trans ?_,h3,h4,h5⟩
   ·obtain⟨x,hx,rfl⟩:=List.mem_map.1 hp';have hx':=hp.mem_iff.2 hx;rw [<- h1.1] at hx';obtain⟨q,hq,rfl⟩:=List.mem_map.1 hx';simp [h1.2 q hq]
   ·rw [h1.eq];exact hp.map _
 have h1:SetM ks (setF ks).1 (setF ks).2:=Classical.epsilon_spec (p:=λp:Nd×Int=>SetM ks p.1 p.2) ⟨(m,e),h0⟩;exact h0.eq (List.Perm.refl _) hz h1
theorem setM_ex (ks:LN):∃ p:Nd×Int,SetM ks p.1 p.2:=by
 by_cases hb:setBad ks
 ·exact⟨(ndZ,34),.inl ⟨hb,U,U⟩⟩
 ·have hput:∀ x∈ks,x.put=some (x.put.getD []):=λx hx=>by
   cases hp:x.put with
   |none=>exact absurd ⟨x,hx,hp⟩ hb
   |some b=>rfl
  refine⟨(_,0),.inr ⟨ks.map λx=>(x.put.getD [],x),(ks.map λx=>(x.put.getD [],x)).mergeSort (λp q=>!olt q p),⟨by simp [List.map_map,Function.comp_def],λp hp=>?_⟩,List.mergeSort_perm _ _,?_,U,U⟩⟩
  ·obtain⟨x,hx,rfl⟩:=List.mem_map.1 hp;exact hput x hx
  ·refine(List.pairwise_mergeSort (le:=λp q=>!olt q p) (λx y w h1 h2=>?_) (λx y=>?_) _).imp λh=>by simpa using h
   ·simp only [Bool.not_eq_true'] at h1 h2 |-
    exact gP.tr x y w h1 h2
   ·cases h:olt y x with
    |false=>rfl
    |true=>simp [gP.asy y x h]
theorem pw (ks:LN):SetM ks (setF ks).1 (setF ks).2:=Classical.epsilon_spec (p:=λp:Nd×Int=>SetM ks p.1 p.2) (setM_ex ks)
theorem pset_d (ks:LN) (hl:ks.length<=19) (hz:Nd.szL ks<=20000000):FnD prog 65 [.nds ks] (.tup [.nd (setF ks).1,.i (setF ks).2]):=.mk λh vs hT hd=>by
 obtain⟨v,rfl,h1⟩:=gB hd;obtain⟨a,cc,rfl,hR⟩:=dN.1 h1;exact(pset_fn hR hT hl hz).mono λv h' _ ⟨cs,m,e,hv,r,hs⟩=>by
  obtain⟨rfl,rfl⟩:=setF_of (List.Perm.refl _) hz hs;exact⟨_,U,by rw [hv];exact fU ((dP (h:=h')).2 ⟨cs,U,r⟩) (cj (h:=h'))⟩
theorem rset_d (ks:LN) (hl:ks.length<=1000) (hz:Nd.szL ks<=20000000):FnD prog 32 [.nds ks] (.tup [.nd (setF ks).1,.i (setF ks).2]):=.mk λh vs hT hd=>by
 obtain⟨v,rfl,h1⟩:=gB hd;obtain⟨a,cc,rfl,hR⟩:=dN.1 h1;exact(rset_fn' hR hT hl hz).mono λv h' _ ⟨cs,m,e,hv,r,hs⟩=>by
  obtain⟨rfl,rfl⟩:=setF_of (List.Perm.refl _) hz hs;exact⟨_,U,by rw [hv];exact fU ((dP (h:=h')).2 ⟨cs,U,r⟩) (cj (h:=h'))⟩
theorem nd1 {c t:Int}{k:Bool}{b:Txt}{l:LN}:(Nd.mk c t k b l).cls=c:=rfl
theorem nd2 {c t:Int}{k:Bool}{b:Txt}{l:LN}:(Nd.mk c t k b l).tag=t:=rfl
theorem nd3 {c t:Int}{k:Bool}{b:Txt}{l:LN}:(Nd.mk c t k b l).cons=k:=rfl
theorem nd4 {c t:Int}{k:Bool}{b:Txt}{l:LN}:(Nd.mk c t k b l).bytes=b:=rfl
theorem nd5 {c t:Int}{k:Bool}{b:Txt}{l:LN}:(Nd.mk c t k b l).kids=l:=rfl
theorem oid_rt {b s:Txt}(h:oidT b=some s):oidB s=some b:=by
 rw [oh] at h;unfold decO at h;cases hd:decGo b 0 true with
 |none=>rw [hd] at h;cases h
 |some l =>
  rw [hd] at h;by_cases hl:l=[]
  ·simp [hl] at h
  ·simp only [if_neg hl,Option.map_some,aB] at h;obtain⟨h1,h2⟩:=oU b 0 true l (λ_=>rfl) (λx=>by cases x) hd;rw [<- h,tN l h2,if_neg hl,<- h1,uh,List.nil_append]
theorem oid_tr {b s:Txt}(h:oidB s=some b):(oidT b).isSome=true:=by
 unfold oidB at h;split at h
 ·cases h
 ·rename_i l hl;split at h
  ·rename_i hok;cases h;have hlt:=jj s [] l hl;have hg:∀ i,l.getD i 0<9223372036854775808:=λi=>by
    by_cases hi:i<l.length
    ·rw [bG hi];exact hlt _ (aF hi)
    ·rw [bi,cv z2_];simp
   have h3:decGo (enc ((40*l.getD 0 0+l.getD 1 0)::l.drop 2)) 0 true=some ((40*l.getD 0 0+l.getD 1 0)::l.drop 2):=by
    refine so _ λx hx=>?_;rw [List.mem_cons] at hx;rcases hx with rfl|hx
    ·unfold oidOk at hok;simp only [Bool.and_eq_true,Bool.or_eq_true,ax] at hok;have:=hg 1;omega
    ·exact hlt x (List.mem_of_mem_drop hx)
   rw [oh];unfold decO;rw [h3];simp
  ·cases h
def OrdK (l:List Txt) (i:Nat):Prop:=∀ j,j<i->¬ 0<Go.Lib.compareBytes (l.getD j []) (l.getD (j+1) [])
instance (l:List Txt) (i:Nat):Decidable (OrdK l i):=inferInstanceAs (Decidable (∀ j,j<i->_))
def ordB (l:List Txt):Bool:=decide (OrdK l (l.length-1))
theorem od (x y:Txt) (r:List Txt):ordB (x::y::r)=(!decide (0<Go.Lib.compareBytes x y)&&ordB (y::r)):=by
 unfold ordB OrdK;rw [Bool.eq_iff_iff];simp only [ax,Bool.and_eq_true,Bool.not_eq_true',decide_eq_false_iff_not,aC,Nat.add_sub_cancel];constructor
 ·intro h;exact⟨h 0 z2_,λj hj=>h (j+1) z2_⟩
 ·rintro⟨h1,h2⟩ j hj;cases j with
  |zero=>exact h1
  |succ j=>exact h2 j z2_
theorem m8 (set:Bool):∀ (ks:LN) (last acc:Txt),(Nd.putL set ks (some last) acc).isSome=(ks.all (·.put.isSome)&&(!set||ordB (last::ks.map λk=>k.put.getD [])))
 |[],last,acc=>by simp [Nd.putL,ordB,OrdK]
 |x::r,last,acc=>by
  simp only [Nd.putL,List.map_cons,List.all_cons];cases hx:x.put with
  |none=>simp
  |some b =>
   simp only [Option.isSome_some,Bool.true_and,Option.getD_some];rw [od];simp only [aboveB];by_cases hc:0<Go.Lib.compareBytes last b
   ·simp only [aj hc,Bool.and_true,Bool.not_true,Bool.false_and,Bool.or_false];cases set with
    |true=>simp
    |false=>simp only [c_,if_false,Bool.not_false,Bool.and_true];rw [m8];simp
   ·simp only [au hc,Bool.and_false,c_,if_false,Bool.not_false,Bool.true_and];rw [m8]
theorem fw (set:Bool) (ks:LN) (acc:Txt):(Nd.putL set ks none acc).isSome=(ks.all (·.put.isSome)&&(!set||ordB (ks.map λk=>k.put.getD []))):=by
 cases ks with
 |nil=>simp [Nd.putL,ordB,OrdK]
 |cons x r =>
  simp only [Nd.putL,List.map_cons,List.all_cons];cases hx:x.put with
  |none=>simp
  |some b =>
   simp only [aboveB,Bool.and_false,c_,if_false,Option.isSome_some,Bool.true_and,Option.getD_some];rw [m8]
theorem ee (ks:LN):(Nd.mk 0 16 true [] ks).put.isSome=ks.all (·.put.isSome):=by
 have h:okN 0 16 true [] ks=true:=by simp [okN,mayB,form]
 rw [Nd.put,if_pos h,Option.isSome_map,show(decide ((0:Int)=0)&&decide ((16:Int)=17))=false by decide,fw];simp
theorem nZ (ks:LN):(Nd.mk 0 17 true [] ks).put.isSome=(ks.all (·.put.isSome)&&ordB (ks.map λk=>k.put.getD [])):=by
 have h:okN 0 17 true [] ks=true:=by simp [okN,mayB,form]
 rw [Nd.put,if_pos h,Option.isSome_map,show(decide ((0:Int)=0)&&decide ((17:Int)=17))=true by decide,fw];simp
theorem gQ {s:Txt}(h:(oidB s).isSome=true):(oiN s).put.isSome=true:=by
 obtain⟨b,hb⟩:=Option.isSome_iff_exists.1 h;have h2:=oid_tr hb;have hv:valB 6 b=true:=by unfold valB;simp [h2]
 have h3:okN 0 6 false b []=true:=by simp [okN,mayB,form,hv]
 simp only [oiN,hb,Option.getD_some,Nd.put,h3,if_true,Option.isSome_map];rw [fw];simp
theorem wr_put {n:Nd}(h:n.wr.2=0):n.put=some n.wr.1:=by
 rcases sT n with h1|h1
 ·exact h1.2.1
 ·exact absurd h h1
theorem rd_wr {v:Txt}(h:(rdTop v).2.2=0):(rdTop v).1.wr=(v,0):=wr_rdTop (a:=(rdTop v).2.1) (by rw [<- h])
def fldV (v:Txt):Bool:=decide ((rdTop v).2.2=0)&&decide (((rdTop v).1.rk:Int)<=20)
def fnOk (f:Fe):Bool:=(oidB f.oid).isSome&&decide (1<=(f.vals.length:Int))&&decide ((f.vals.length:Int)<=8)&&f.vals.all fldV&&ordB f.vals
def setN (f:Fe):Nd:=.mk 0 17 true [] (f.vals.map λv=>(rdTop v).1)
def fieldN (f:Fe):Nd:=if fnOk f then .mk 0 16 true [] [oiN f.oid,setN f] else ndZ0
def fieldE (f:Fe):Int:=if fnOk f then 0 else 60
def cOid (n:Nd):Txt×Bool:=if decide (n.cls=0)&&decide (n.tag=6) then((oidT n.bytes).getD [],(oidT n.bytes).isSome) else([],false)
theorem mu {f:Fe}:fieldE f=0<->fnOk f=true:=by
 unfold fieldE;cases fnOk f<;>simp
theorem jE (n:Nd) (l m:Int):FnD prog 98 [.nd n,.i l,.i m] (.b (isSeqB n l m)):=by
 unfold isSeqB;exact aE func98 U ntmps98 U (λe=>Z)
instance:Cn prog 98 (type_of% @jE):=⟨@jE⟩
def isCtxB (n:Nd) (t:Int) (c:Bool):Bool:=decide (n.cls=2)&&decide (n.tag=t)&&(n.cons == c)
theorem iy (n:Nd) (t:Int) (c:Bool):FnD prog 99 [.nd n,.i t,.b c] (.b (isCtxB n t c)):=by
 unfold isCtxB;exact aE func99 U ntmps99 U (λe=>Z)
instance:Cn prog 99 (type_of% @iy):=⟨@iy⟩
theorem qE (s:Txt) (hs:s.length<=50000000000):FnD prog 21 [.s s] (.tup [.nd (oiN s),.b (oidB s).isSome]):=by
 unfold oiN;exact aE func21 U ntmps21 U (λe=>Z)
instance:Cn prog 21 (type_of% @qE):=⟨@qE⟩
theorem lx (n:Nd) (hz:n.sz<=1073741824):FnD prog 100 [.nd n] (.tup [.s (cOid n).1,.b (cOid n).2]):=by
 have:=dQ n;unfold cOid;exact aE func100 U ntmps100 U (λe=>Z)
instance:Cn prog 100 (type_of% @lx):=⟨@lx⟩
theorem uC (l:LN) (hz:Nd.szL l<=1099511627776):FnD prog 22 [.nds l] (.nd (.mk 0 16 true [] l)):=by
 exact aE func22 U ntmps22 U (λe=>Z)
theorem kl (n:Nd) (hz:n.sz<=1073741824):FnD prog 90 [.nd n] (.bs n.wr.1):=by
 exact aE func90 U ntmps90 U (λe=>Z)
instance:Cn prog 90 (type_of% @kl):=⟨@kl⟩
theorem cid_d (b:Txt):FnD prog 174 [.bs b] (.bs b):=by
 exact aE func174 U ntmps174 U (λe=>Z)
instance:Cn prog 174 (type_of% @cid_d):=⟨@cid_d⟩
theorem cdeep_go:∀ (m:Nat) (n:Nd),n.rk<=m->n.sz<=1073741824->FnD prog 172 [.nd n] (.i n.rk):=by
 intro m
 induction m with
 |zero=>intro n hn;cases n;simp [Nd.rk] at hn
 |succ m ih =>
 intro n hn hz;obtain⟨c,t,k,bs,ks⟩:=n;simp only [Nd.rk] at hn;simp only [Nd.sz] at hz;have hll:=Nd.len_le_szL ks;have hrl:=Nd.rkL_le_szL ks;refine aE func172 U ntmps172 U (λe=>?_);refine W ?_;refine Lp (γ:=Nat) (λg=>g<=ks.length) (λg=>ks.length+1-g) (λg=>[(3,.d (.i (Nd.rkL (ks.take g):Nat))),(7,.d (.nds ks)),(8,.d (.i (ks.length:Int))),(9,.d (.i (g:Int)))]) (λ_=>[]) 0 z2_ ⟨U,U,U,U,trivial⟩ trivial ?_;intro g hg;refine W ?_;refine Ci U (λh=>?_) (λh=>?_)
 ·have hl:g<ks.length:=by omega
  have hget:ks.getD g (.mk 0 0 false [] [])=ks[g]:=bG hl;have h1:=Nd.rk_lt (aF hl);have h2:ks[g].sz<=Nd.szL ks:=Nd.sz_le (aF hl);have h3:=Nd.rkL_le ks (g+1);have hk:=ih (ks.getD g (.mk 0 0 false [] [])) (by rw [hget];omega) (by rw [hget];omega);refine W ?_;have e1:((Nd.rkL (ks.take (g+1)):Nat):Int)=max ((Nd.rkL (ks.take g):Nat):Int) ((ks.getD g (.mk 0 0 false [] [])).rk:Int):=by rw [Nd.rkL_take ks g hl,hget];omega
  refine⟨g+1,by omega,by omega,?_,trivial⟩;show WkA [(3,.d (.i (Nd.rkL (ks.take (g+1)):Nat))),(7,.d (.nds ks)),(8,.d (.i (ks.length:Int))),(9,.d (.i ((g+1:Nat):Int)))] _;rw [e1];exact⟨U,U,U,U,trivial⟩
 ·have hge:g=ks.length:=by omega
  subst hge;rw [List.take_length];refine W ?_;refine Rt U U ?_;simp only [resD,Nd.rk];rfl
theorem cdeep_d (n:Nd) (hz:n.sz<=1073741824):FnD prog 172 [.nd n] (.i n.rk):=cdeep_go _ n (aL _) hz
instance:Cn prog 172 (type_of% @cdeep_d):=⟨@cdeep_d⟩
theorem gO {l:List Txt}{i:Nat}(h:OrdK l i) (hc:¬ 0<Go.Lib.compareBytes (l.getD i []) (l.getD (i+1) [])):OrdK l (i+1):=λj hj=>by
 by_cases hji:j=i
 ·subst hji;exact hc
 ·exact h j z2_
theorem nc (l:List Txt) (hl:l.length<=1073741824):FnD prog 173 [.sl 1 bE l,.v (.func (.func 174) #[] #[]),.b false] (.b (ordB l)):=by
 refine aE func173 U ntmps173 U (λe=>?_);refine W ?_;refine Lp (γ:=Nat) (λg=>(g=0\/g+1<=l.length)/\OrdK l g) (λg=>l.length+1-g) (λg=>[(0,.d (.sl 1 bE l)),(1,.d (.v (.func (.func 174) #[] #[]))),(2,.d (.b false)),(7,.d (.i ((g:Int)+1)))]) (λ_=>[]) 0 ⟨.inl U,λj hj=>by omega⟩ ⟨U,U,U,U,trivial⟩ trivial ?_;rintro g ⟨hg,ho⟩;refine W ?_;refine Ci U (λh=>?_) (λh=>?_)
 ·refine W ?_;have hgg:((g:Int)+1-1).toNat=g:=by omega
  refine Bg U U (λh2=>?_) (λh2=>?_)
  ·rw [hgg] at h2;have hb:ordB l=false:=by
    refine au λhh=>hh g z2_ h2
   refine W ?_;refine Rt U U ?_;rw [hb];rfl
  rw [hgg] at h2;refine W ?_;refine Bg U U (λh3=>?_) (λh3=>?_)
  all_goals
   refine W ?_
   first|exact⟨g+1,by omega,⟨.inr z2_,gO ho h2⟩,⟨rfl,rfl,rfl,rfl,trivial⟩,trivial⟩|(refine Ci rfl (λh=>by cases h) (λ_=>?_);refine W ?_;exact⟨g+1,by omega,⟨.inr z2_,gO ho h2⟩,⟨rfl,rfl,rfl,rfl,trivial⟩,trivial⟩)
 ·have hb:ordB l=true:=aj λj hj=>ho j z2_;refine W ?_;refine Rt U U ?_;rw [hb];rfl
instance:Cn prog 173 (type_of% @nc):=⟨@nc⟩
theorem szl_rd (B:Nat):∀ (l:List Txt),(∀ v∈l,v.length<=B)->Nd.szL (l.map λv=>(rdTop v).1)<=l.length*(B+1)
 |[],_=>by simp [Nd.szL]
 |v::r,h=>by
  have h1:=i9 v;have h2:=h v (aK ..);have h3:=szl_rd B r (λw hw=>h w (aP _ hw));simp only [List.map_cons,Nd.szL,aC,Nat.add_mul];omega
theorem fb (f:Fe) (h1:f.oid.length<=10000000) (h2:f.vals.length<=10000000) (h3:∀ v∈f.vals,v.length<=10000000):FnD prog 128 [.st f.enc] (.tup [.nd (fieldN f),.i (fieldE f)]):=by
 have ho:=dZ f.oid;have bad:fnOk f=false->resD [.nd ndZ0,.i 60]=.tup [.nd (fieldN f),.i (fieldE f)]:=λhb=>by simp [resD,fieldN,fieldE,hb]
 refine aE func128 U ntmps128 U (λe=>?_);refine W ?_;refine Bg U U (λg1=>?_) (λg1=>?_)
 ·refine W ?_;exact Rt U U (bad (by simp [fnOk,g1]))
 refine W ?_;refine Bg U U (λg2=>?_) (λg2=>?_)
 ·refine W ?_;exact Rt U U (bad (by simp [fnOk,show ¬ 1<=(f.vals.length:Int) by omega]))
 refine W ?_;refine Ci U (λg3=>?_) (λg3=>?_)
 ·refine W ?_;exact Rt U U (bad (by simp [fnOk,show ¬ (f.vals.length:Int)<=8 by omega]))
 refine W ?_;refine Rv kN 3 4 35 U U U U U U ?_;refine Lp (γ:=Nat) (λg=>g<=f.vals.length/\(f.vals.take g).all fldV=true) (λg=>f.vals.length+1-g)
  (λg=>[(1,.own 0 0),(2,.own 1 0),(4,.own 2 0),(6,.own 3 0),(34,.d (.sl 1 bE f.vals)),(35,.d (.i (f.vals.length:Int))),(36,.d (.i (g:Int)))])
  (λg=>[(3,.var 35 [.d (.i 0),.d (.i 17),.d (.v (.bool true)),.d (.v (.slice none 0 0)),.row 4]),(4,.row 35 (.nds ((f.vals.take g).map λv=>(rdTop v).1))),(0,.whl 48 (.st f.enc)),(1,.var 35 [.d (.i 0),.d (.i 0),.d (.b false),.d (.v (.slice none 0 0)),.d (.v (.slice none 0 0))]),(2,.whl 35 (.nd (oiN f.oid)))]) 0 ⟨by omega,U⟩ ?_ ?_ ?_
 ·exact⟨U,U,U,U,U,U,U,trivial⟩
 ·exact⟨U,U,U,U,U,trivial⟩
 rintro g ⟨hg,hall⟩;have hs:=i9 (f.vals.getD g default);have hml:((f.vals.take g).map λv=>(rdTop v).1).length<=10000000:=by rw [aD];have:=List.length_take_le' g f.vals;omega
 refine W ?_;refine Ci U (λh=>?_) (λh=>?_)
 ·have hl:g<f.vals.length:=by omega
  have hget:f.vals.getD g default=f.vals[g]:=bG hl;have hvl:=h3 _ (aF hl);have hvl2:(f.vals.getD g default).length<=10000000:=by rw [hget];exact hvl
  have hbad:fldV (f.vals.getD g default)=false->fnOk f=false:=λhb=>by
   have:f.vals.all fldV=false:=by
    rw [List.all_eq_false];exact⟨f.vals[g],aF hl,by rw [<- hget,hb];simp⟩
   simp [fnOk,this]
  refine W ?_;refine Bg U U (λh4=>?_) (λh4=>?_)
  ·refine W ?_;exact Rt U U (bad (hbad (by unfold fldV;rw [au (p:=(rdTop (f.vals.getD g default)).2.2=0) h4];rfl)))
  refine W ?_;refine Ci U (λh5=>?_) (λh5=>?_)
  ·refine W ?_;exact Rt U U (bad (hbad (by unfold fldV;rw [au (p:=((rdTop (f.vals.getD g default)).1.rk:Int)<=20) z2_,Bool.and_false])))
  refine W ?_;have hok:fldV (f.vals.getD g default)=true:=by unfold fldV;rw [aj (p:=(rdTop (f.vals.getD g default)).2.2=0) h4,aj (p:=((rdTop (f.vals.getD g default)).1.rk:Int)<=20) z2_];rfl
  have e1:(f.vals.take (g+1)).map (λv=>(rdTop v).1)=(f.vals.take g).map (λv=>(rdTop v).1)++[(rdTop (f.vals.getD g default)).1]:=by
   rw [am hl,List.map_append,hget];rfl
  have e2:(f.vals.take (g+1)).all fldV=true:=by
   rw [am hl,List.all_append,hall,<- hget];simp only [List.all_cons,hok,List.all_nil];rfl
  refine⟨g+1,by omega,⟨by omega,e2⟩,⟨U,U,U,U,U,U,U,trivial⟩,?_⟩;show WkO [(3,.var 35 [.d (.i 0),.d (.i 17),.d (.v (.bool true)),.d (.v (.slice none 0 0)),.row 4]),(4,.row 35 (.nds ((f.vals.take (g+1)).map λv=>(rdTop v).1))),(0,.whl 48 (.st f.enc)),(1,.var 35 [.d (.i 0),.d (.i 0),.d (.b false),.d (.v (.slice none 0 0)),.d (.v (.slice none 0 0))]),(2,.whl 35 (.nd (oiN f.oid)))] _;rw [e1];exact⟨U,U,U,U,U,trivial⟩
 ·have hge:g=f.vals.length:=by omega
  subst hge;rw [List.take_length] at hall;rw [List.take_length];have hsz:=szl_rd 10000000 f.vals h3;have hsz2:Nd.szL (f.vals.map λv=>(rdTop v).1)<=8*10000001:=Nat.le_trans hsz (bD _ z2_);refine W ?_;refine Ci U (λh6=>?_) (λh6=>?_)
  ·refine W ?_;exact Rt U U (bad (by simp [fnOk,h6]))
  have hsq:=uC [oiN f.oid,.mk 0 17 true [] (f.vals.map λv=>(rdTop v).1)] (by simp only [Nd.szL,Nd.sz,aG];omega);refine Pb 4 U ?_;refine W ?_;refine Rt U U ?_;have hb:fnOk f=true:=by
   simp only [fnOk,g1,hall,h6,show(1:Int)<=f.vals.length by omega,show(f.vals.length:Int)<=8 by omega,decide_true,Bool.and_true]
  simp only [resD,fieldN,fieldE,hb,if_true,setN]
instance:Cn prog 128 (type_of% @fb):=⟨@fb⟩
theorem n7:∀ (p q:Txt),Go.Op.bytesLess p q=belowB p q
 |_,[]=>by simp [Go.Op.bytesLess,belowB]
 |[],_::_=>by simp [Go.Op.bytesLess,belowB]
 |a::x,b::y=>by
  simp only [Go.Op.bytesLess,belowB,n7 x y];by_cases h:a=b
  ·subst h;simp
  ·simp [h]
theorem below_d (p q:Txt):FnD prog 91 [.bs p,.bs q] (.b (decide (0<Go.Lib.compareBytes q p))):=by
 rw [<- jI,<- n7];exact aE func91 U ntmps91 U (λe=>Z)
instance:Cn prog 91 (type_of% @below_d):=⟨@below_d⟩
theorem nM (s:Txt) (hs:s.length<=1000000000):FnD prog 50 [.s s] (.b (oidB s).isSome):=by
 exact aE func50 U ntmps50 U (λe=>Z)
instance:Cn prog 50 (type_of% @nM):=⟨@nM⟩
def kdI (n:Nd) (i:Int):Nd:=if i<0\/(n.kids.length:Int)<=i then .mk 0 0 false [] [] else n.kids.getD i.toNat (.mk 0 0 false [] [])
theorem kid_d (n:Nd) (i:Int):FnD prog 295 [.nd n,.i i] (.nd (kdI n i)):=by
 unfold kdI;exact aE func295 U ntmps295 U (λe=>Z)
instance:Cn prog 295 (type_of% @kid_d):=⟨@kid_d⟩
theorem pH (n:Nd) (hz:n.sz<=10000000):FnD prog 298 [.nd n] (.s ((oidT n.bytes).getD [])):=by
 have:=dQ n;exact aE func298 U ntmps298 U (λe=>Z)
instance:Cn prog 298 (type_of% @pH):=⟨@pH⟩
theorem mN (x y:Nd):FnD prog 40 [.nd x,.nd y] (.nd (.mk 0 16 true [] [x,y])):=by
 exact aE func40 U ntmps40 U (λe=>Z)
instance:Cn prog 40 (type_of% @mN):=⟨@mN⟩
theorem fP (f:Fe) (h1:f.oid.length<=1000000) (h2:f.vals.length<=1000000) (h3:∀ v∈f.vals,v.length<=1000000):FnD prog 238 [.st f.enc] (.tup [.nd (fieldN f),.i (fieldE f)]):=by
 have bad:fnOk f=false->resD [.nd ndZ0,.i 60]=.tup [.nd (fieldN f),.i (fieldE f)]:=λhb=>by simp [resD,fieldN,fieldE,hb]
 refine aE func238 U ntmps238 U (λe=>?_);refine W ?_;refine Bg U U (λg1=>?_) (λg1=>?_)
 ·refine W ?_;exact Rt U U (bad (by simp [fnOk,g1]))
 refine W ?_;refine Bg U U (λg2=>?_) (λg2=>?_)
 ·refine W ?_;exact Rt U U (bad (by simp [fnOk,show ¬ 1<=(f.vals.length:Int) by omega]))
 refine W ?_;refine Ci U (λg3=>?_) (λg3=>?_)
 ·refine W ?_;exact Rt U U (bad (by simp [fnOk,show ¬ (f.vals.length:Int)<=8 by omega]))
 refine W ?_;refine Rn kN 4 35 U U ?_;refine Lp (γ:=Nat) (λg=>g<=f.vals.length/\(f.vals.take g).all fldV=true/\OrdK f.vals (g-1)) (λg=>f.vals.length+1-g)
  (λg=>[(1,.own 0 0),(2,.own 1 0),(4,.row 2),(5,.d (.i (g:Int)))])
  (λg=>[(2,.row 35 (.nds ((f.vals.take g).map λv=>(rdTop v).1))),(0,.whl 48 (.st f.enc)),(1,.var 35 [.d (.i 0),.d (.i 0),.d (.b false),.d (.v (.slice none 0 0)),.d (.v (.slice none 0 0))])]) 0 ⟨by omega,U,λj hj=>by omega⟩ ?_ ?_ ?_
 ·exact⟨U,U,U,U,trivial⟩
 ·exact⟨U,U,U,trivial⟩
 rintro g ⟨hg,hall,hord⟩;have hs:=i9 (f.vals.getD g default);have hml:((f.vals.take g).map λv=>(rdTop v).1).length<=10000000:=by rw [aD];have:=List.length_take_le' g f.vals;omega
 refine W ?_;refine Ci U (λh=>?_) (λh=>?_)
 ·have hl:g<f.vals.length:=by omega
  have hget:f.vals.getD g default=f.vals[g]:=bG hl;have hvl:=h3 _ (aF hl);have hvl2:(f.vals.getD g default).length<=1000000:=by rw [hget];exact hvl
  have hbad:fldV (f.vals.getD g default)=false->fnOk f=false:=λhb=>by
   have:f.vals.all fldV=false:=by
    rw [List.all_eq_false];exact⟨f.vals[g],aF hl,by rw [<- hget,hb];simp⟩
   simp [fnOk,this]
  refine W ?_;refine BXl 44 U (λhc h4=>?_) (λhc h4=>?_)
  ·rw [hc];refine W ?_;exact Rt U U (bad (hbad (by unfold fldV;rw [au (p:=(rdTop (f.vals.getD g default)).2.2=0) h4];rfl)))
  rw [hc];clear hc;refine W ?_;refine BXl 49 U (λhc h5=>?_) (λhc h5=>?_)
  ·rw [hc];refine W ?_;exact Rt U U (bad (hbad (by unfold fldV;rw [au (p:=((rdTop (f.vals.getD g default)).1.rk:Int)<=20) z2_,Bool.and_false])))
  rw [hc];clear hc;refine W ?_;have hok:fldV (f.vals.getD g default)=true:=by unfold fldV;rw [aj (p:=(rdTop (f.vals.getD g default)).2.2=0) h4,aj (p:=((rdTop (f.vals.getD g default)).1.rk:Int)<=20) z2_];rfl
  have e1:(f.vals.take (g+1)).map (λv=>(rdTop v).1)=(f.vals.take g).map (λv=>(rdTop v).1)++[(rdTop (f.vals.getD g default)).1]:=by
   rw [am hl,List.map_append,hget];rfl
  have e2:(f.vals.take (g+1)).all fldV=true:=by
   rw [am hl,List.all_append,hall,<- hget];simp only [List.all_cons,hok,List.all_nil];rfl
  refine BXl 52 U (λhc h6=>?_) (λhc h6=>?_)
  ·rw [hc];clear hc;have hgg:((g:Int)-1).toNat=g-1:=by omega
   have hg1:g-1+1=g:=by omega
   refine W ?_;refine Ci U (λh7=>?_) (λh7=>?_)
   ·rw [hgg] at h7;refine W ?_;exact Rt U U (bad (by
     have:ordB f.vals=false:=au λhh=>hh (g-1) z2_ (by rw [hg1];exact h7);simp [fnOk,this]))
   ·rw [hgg] at h7;refine W ?_;refine⟨g+1,by omega,⟨by omega,e2,?_⟩,⟨U,U,U,U,trivial⟩,?_⟩
    ·have:=gO hord (by rw [hg1];exact h7);rw [hg1] at this;exact this
    show WkO [(2,.row 35 (.nds ((f.vals.take (g+1)).map λv=>(rdTop v).1))),(0,.whl 48 (.st f.enc)),(1,.var 35 [.d (.i 0),.d (.i 0),.d (.b false),.d (.v (.slice none 0 0)),.d (.v (.slice none 0 0))])] _;rw [e1];exact⟨U,U,U,trivial⟩
  ·rw [hc];clear hc;refine W ?_;refine⟨g+1,by omega,⟨by omega,e2,λj hj=>by omega⟩,⟨U,U,U,U,trivial⟩,?_⟩;show WkO [(2,.row 35 (.nds ((f.vals.take (g+1)).map λv=>(rdTop v).1))),(0,.whl 48 (.st f.enc)),(1,.var 35 [.d (.i 0),.d (.i 0),.d (.b false),.d (.v (.slice none 0 0)),.d (.v (.slice none 0 0))])] _;rw [e1];exact⟨U,U,U,trivial⟩
 ·have hge:g=f.vals.length:=by omega
  subst hge;rw [List.take_length] at hall;rw [List.take_length];refine Pb 2 U ?_;refine W ?_;refine Rt U U ?_;have hb:fnOk f=true:=by
   simp only [fnOk,g1,hall,show(1:Int)<=f.vals.length by omega,show(f.vals.length:Int)<=8 by omega,decide_true,Bool.and_true,Bool.true_and];exact aj hord
  simp only [resD,fieldN,fieldE,hb,if_true,setN]
instance:Cn prog 238 (type_of% @fP):=⟨@fP⟩
theorem kdI_nat (n:Nd) (i:Nat):kdI n (i:Int)=kd n i:=by
 unfold kdI kd;split
 ·rw [bi,cv z2_];rfl
 ·rfl
theorem iN (n:Nd):(n.put.getD []).length<=8*n.sz:=by
 cases h:n.put with
 |none=>simp
 |some b=>exact(dF _ n b (aL _) h).2
instance:DecidableEq Fe:=λa b=>decidable_of_iff (a.oid=b.oid/\a.vals=b.vals) (by cases a;cases b;simp)
def fvM (m:Int):List Txt->Int->Int
 |[],n=>n
 |v::r,n=>if n<=m then fvM m r (n+1+v.length) else n
def fsM (m:Int):List Fe->Int->Int
 |[],n=>n
 |f::r,n=>if n<=m then fsM m r (fvM m f.vals (n+1+f.oid.length)) else n
theorem fvM_stop (m n:Int) (h:m<n):∀ l,fvM m l n=n
 |[]=>rfl
 |_::_=>if_neg z2_
theorem uj (m n:Int) (h:m<n):∀ l,fsM m l n=n
 |[]=>rfl
 |_::_=>if_neg z2_
def FeB (f:Fe):Prop:=f.oid.length<=140737488355328/\f.vals.length<=140737488355328/\∀ v∈f.vals,v.length<=140737488355328
theorem fT (l:List Fe) (m:Int) (h0:0<=m) (h1:m<=1000000000000) (hl:l.length<=140737488355328) (hB:∀ f∈l,FeB f):FnD prog 54 [.sl 2 Fe.enc l,.i m] (.i (fsM m l 0)):=by
 refine aE func54 U ntmps54 U (λe=>?_);refine W ?_;refine Lp (γ:=Nat×Int) (λg=>g.1<=l.length/\0<=g.2/\g.2<=m+1+140737488355328/\fsM m l 0=fsM m (l.drop g.1) g.2) (λg=>l.length+1-g.1) (λg=>[(0,.d (.sl 2 Fe.enc l)),(1,.d (.i m)),(5,.d (.i g.2)),(6,.d (.i (g.1:Int)))]) (λ_=>[]) (0,0) ⟨by simp,by simp,by simp only;omega,U⟩ ⟨U,U,U,U,trivial⟩ trivial ?_;rintro⟨g,n⟩ ⟨i0,i1,i2,i3⟩;dsimp only at i0 i1 i2 i3;show JD _ _ _ _ _ [(0,.d (.sl 2 Fe.enc l)),(1,.d (.i m)),(5,.d (.i n)),(6,.d (.i (g:Int)))] [];have fin:m<n\/g=l.length->resD [.i n]=.i (fsM m l 0):=λh=>by
  rw [i3];rcases h with h|h
  ·rw [uj m n h];rfl
  ·rw [h,List.drop_length];rfl
 refine W ?_;refine Bg U U (λh=>?_) (λh=>?_)
 ·have hlt:g<l.length:=by omega
  obtain⟨b1,b2,b3⟩:=hB _ (aF hlt);rw [<- bG (z:=default) hlt] at b1 b2 b3;have hdr:l.drop g=l.getD g default::l.drop (g+1):=by rw [aX hlt,bG hlt]
  refine W ?_;refine Ci U (λh2=>?_) (λh2=>?_)
  ·rw [hdr] at i3;simp only [fsM,if_pos h2] at i3;refine W ?_;refine Lp (γ:=Nat×Int) (λk=>k.1<=(l.getD g default).vals.length/\0<=k.2/\k.2<=m+1+140737488355328/\fvM m (l.getD g default).vals (n+1+(l.getD g default).oid.length)=fvM m ((l.getD g default).vals.drop k.1) k.2) (λk=>(l.getD g default).vals.length+1-k.1) (λk=>[(0,.d (.sl 2 Fe.enc l)),(1,.d (.i m)),(5,.d (.i k.2)),(6,.d (.i (g:Int))),(7,.d (.i (k.1:Int)))]) (λ_=>[]) (0,n+1+(l.getD g default).oid.length) ⟨by simp,by simp only;omega,by simp only;omega,U⟩ ⟨U,U,U,U,U,trivial⟩ trivial ?_;rintro⟨k,q⟩ ⟨j0,j1,j2,j3⟩;dsimp only at j0 j1 j2 j3;show JD _ _ _ _ _ [(0,.d (.sl 2 Fe.enc l)),(1,.d (.i m)),(5,.d (.i q)),(6,.d (.i (g:Int))),(7,.d (.i (k:Int)))] [];have nx:m<q\/k=(l.getD g default).vals.length->fsM m l 0=fsM m (l.drop (g+1)) q:=λh=>by
    rw [i3,j3];rcases h with h|h
    ·rw [fvM_stop m q h]
    ·rw [h,List.drop_length];rfl
   refine W ?_;refine Bg U U (λh3=>?_) (λh3=>?_)
   ·have hlk:k<(l.getD g default).vals.length:=by omega
    have c1:=b3 _ (aF hlk);rw [<- bG (z:=default) hlk] at c1;have hdk:(l.getD g default).vals.drop k=(l.getD g default).vals.getD k default::(l.getD g default).vals.drop (k+1):=by rw [aX hlk,bG hlk]
    refine W ?_;refine Ci U (λh4=>?_) (λh4=>?_)
    ·rw [hdk] at j3;simp only [fvM,if_pos h4] at j3;refine W ?_;exact⟨(k+1,q+1+((l.getD g default).vals.getD k default).length),by simp only;omega,⟨by simp only;omega,by simp only;omega,by simp only;omega,j3⟩,⟨U,U,U,U,U,trivial⟩,trivial⟩
    ·refine W ?_;exact⟨(g+1,q),by simp only;omega,⟨by simp only;omega,j1,j2,nx (.inl z2_)⟩,⟨U,U,U,U,trivial⟩,trivial⟩
   ·refine W ?_;exact⟨(g+1,q),by simp only;omega,⟨by simp only;omega,j1,j2,nx (.inr z2_)⟩,⟨U,U,U,U,trivial⟩,trivial⟩
  ·refine W ?_;exact Rt U U (fin (.inl z2_))
 ·refine W ?_;exact Rt U U (fin (.inr z2_))
instance:Cn prog 54 (type_of% @fT):=⟨@fT⟩
def renA (v k:Nat):LO->Option LO
 |[]=>some []
 |(t,x)::r=>match renA v k r with
  |some r'=>match x with
   |.row j=>bif Nat.beq j v then some ((t,.row k)::r') else some ((t,.row j)::r')
   |.recr l j=>bif Nat.beq j v then some ((t,.recr l k)::r') else some ((t,.recr l j)::r')
   |x=>some ((t,x)::r')
  |none=>none
def renL (v k:Nat):List A->Option (List A)
 |[]=>some []
 |x::r=>match renL v k r with
  |some r'=>match x with
   |.row j=>bif Nat.beq j v then some (.row k::r') else some (.row j::r')
   |.recr l j=>bif Nat.beq j v then some (.recr l k::r') else some (.recr l j::r')
   |x=>some (x::r')
  |none=>none
def renO (v k:Nat):LQ->Option LQ
 |[]=>some []
 |(i,e)::r=>match renO v k r with
  |some r'=>match e with
   |.var t cs=>match renL v k cs with
    |some cs'=>some ((i,.var t cs')::r')
    |none=>none
   |e=>some ((i,e)::r')
  |none=>none
section
variable {ρ:Rho}{h:Part}{v k:Nat}(q:ρ.a k=ρ.a v/\ρ.c k=ρ.c v/\ρ.n k=ρ.n v)
include q
theorem renA_ok:∀ {a a':LO},renA v k a=some a'->∀ {t:Nat}{x:A},lkA a' t=some x->∃ y,lkA a t=some y/\∀ w,DenA ρ h y w->DenA ρ h x w
 |[],a',e,t,x,hx=>by cases e;cases hx
 |(i,y)::r,a',e,t,x,hx=>by
  simp only [renA] at e;split at e
  ·rename_i r' hr;have ih:=renA_ok hr (t:=t) (x:=x);have key:∀ z,(∀ w,DenA ρ h y w->DenA ρ h z w)->a'=(i,z)::r'->∃ u,lkA ((i,y)::r) t=some u/\∀ w,DenA ρ h u w->DenA ρ h x w:=λz hz ha=>by
    subst ha;simp only [lkA] at hx |-
    cases hb:Nat.beq i t with
    |true=>simp only [hb,cond_true,aB] at hx |-;subst hx;exact⟨y,U,hz⟩
    |false=>simp only [hb,cond_false] at hx |-;exact ih hx
   split at e
   ·rename_i j;cases hb:Nat.beq j v with
    |true =>
     obtain rfl:=aq hb;rw [hb,cond_true] at e;exact key (.row k) (λw hw=>by simp only [DenA] at hw |-;rw [q.1,q.2.1,q.2.2];exact hw) (by simpa using e.symm)
    |false=>rw [hb,cond_false] at e;exact key _ (λw hw=>hw) (by simpa using e.symm)
   ·rename_i l j;cases hb:Nat.beq j v with
    |true =>
     obtain rfl:=aq hb;rw [hb,cond_true] at e;exact key (.recr l k) (λw hw=>by simp only [DenA] at hw |-;rw [q.1,q.2.1,q.2.2];exact hw) (by simpa using e.symm)
    |false=>rw [hb,cond_false] at e;exact key _ (λw hw=>hw) (by simpa using e.symm)
   ·exact key _ (λw hw=>hw) (by simpa using e.symm)
  ·cases e
theorem renL_ok:∀ {l l':List A}{cs:LV},renL v k l=some l'->DenAL ρ h l cs->DenAL ρ h l' cs
 |[],l',cs,e,hd=>by cases e;exact hd
 |y::r,l',cs,e,⟨w,t,e2,h1,h2,h3⟩=>by
  simp only [renL] at e;split at e
  ·rename_i r' hr;have ih:=renL_ok hr h3;split at e
   ·rename_i j;cases hb:Nat.beq j v with
    |true =>
     obtain rfl:=aq hb;rw [hb,cond_true] at e;cases e;exact⟨w,t,e2,h1,by simp only [DenA] at h2 |-;rw [q.1,q.2.1,q.2.2];exact h2,ih⟩
    |false=>rw [hb,cond_false] at e;cases e;exact⟨w,t,e2,h1,h2,ih⟩
   ·rename_i l j;cases hb:Nat.beq j v with
    |true =>
     obtain rfl:=aq hb;rw [hb,cond_true] at e;cases e;exact⟨w,t,e2,h1,by simp only [DenA] at h2 |-;rw [q.1,q.2.1,q.2.2];exact h2,ih⟩
    |false=>rw [hb,cond_false] at e;cases e;exact⟨w,t,e2,h1,h2,ih⟩
   ·cases e;exact⟨w,t,e2,h1,h2,ih⟩
  ·cases e
theorem renO_ok:∀ {o o':LQ}{L:LE},renO v k o=some o'->DenO ρ h o L->DenO ρ h o' L
 |[],o',L,e,hd=>by cases e;exact hd
 |(i,y)::r,o',L,e,⟨x,L',e2,h1,h2⟩=>by
  simp only [renO] at e;split at e
  ·rename_i r' hr;have ih:=renO_ok hr h2;split at e
   ·split at e<;>cases e;rename_i cs' hcs;obtain⟨vs,h3,h4⟩:=h1;exact⟨x,L',e2,⟨vs,h3,renL_ok q hcs h4⟩,ih⟩
   ·cases e;exact⟨x,L',e2,h1,ih⟩
  ·cases e
end
section
variable {P:Program} [Tb P] {F:Fd}{n:PostD}{x:Nat->PostD}{a a1 a2:LO}{o o1 o2:LQ}{v t:Nat}{d:D}
theorem Nvk (k:Nat) {c:Code}(hk:lkO o k=some (.rowv v t d)) (hja:junA k a=some a1) (hjo:junO k (delO o k)=some o1) (hra:renA v k a1=some a2) (hro:renO v k o1=some o2) (kk:JD P F c n x a2 ((k,.row t d)::o2)):JD P F c n x a o:=.mk λρ h S L cz=>by
 obtain⟨y,L2,hD,⟨xs,sz,rfl,hR,hb⟩,hr⟩:=cz.o.get hk;refine J.ents (.row (ρ.a v) (ρ.c v) t sz (ρ.n v) xs::L2) (.cons hD .all) ?_;have q:(ρ.setR k (ρ.a v) (ρ.c v) (ρ.n v)).a k=(ρ.setR k (ρ.a v) (ρ.c v) (ρ.n v)).a v/\(ρ.setR k (ρ.a v) (ρ.c v) (ρ.n v)).c k=(ρ.setR k (ρ.a v) (ρ.c v) (ρ.n v)).c v/\(ρ.setR k (ρ.a v) (ρ.c v) (ρ.n v)).n k=(ρ.setR k (ρ.a v) (ρ.c v) (ρ.n v)).n v:=by
  by_cases hvk:v=k
  ·subst hvk;simp
  ·obtain⟨_,e1,e2,e3⟩:=lT ρ hvk (ρ.a v) (ρ.c v) (ρ.n v);rw [e1,e2,e3];simp [Rho.setR]
 refine kk.k (ρ.setR k (ρ.a v) (ρ.c v) (ρ.n v)) h S _ ⟨cz.t,λs y hy=>?_,_,L2,U,⟨xs,sz,by simp [Rho.setR],by simpa [Rho.setR] using hR,by simpa [Rho.setR] using hb⟩,renO_ok q hro (oE hjo hr)⟩;obtain⟨y1,g1,g2⟩:=renA_ok (h:=h) q hra hy;obtain⟨y2,g3,g4⟩:=oF (aa:=ρ.a v) (c:=ρ.c v) (nn:=ρ.n v) (h:=h) (ρ:=ρ) hja g1;obtain⟨w,g5,g6⟩:=cz.s s _ g3;exact⟨w,g5,g2 w (g4 w g6)⟩
end
abbrev fnD (i:Nat):D:=.v (.func (.func i) #[] #[])
theorem insB_d (v:Txt):FnD prog 209 [.sl 1 bE [v],.i 0,.i 1,fnD 87] (.v (.tuple #[])):=by
 refine aE func209 U ntmps209 U (λe=>?_);refine W ?_;refine Lp (λ_:Unit=>True) (λ_=>0) (λ_=>[(2,.d (.i 1)),(8,.d (.i 1))]) (λ_=>[]) () trivial ⟨U,U,trivial⟩ trivial ?_;rintro _ _;refine W ?_;exact⟨_,_,_,U,U,U⟩
instance:Cn prog 209 (type_of% @insB_d):=⟨@insB_d⟩
theorem stbB_d (v:Txt):FnD prog 152 [.sl 1 bE [v],.i 1,fnD 87] (.v (.tuple #[])):=by
 refine aE func152 U ntmps152 U (λe=>?_);refine W ?_;refine Lp (λ_:Unit=>True) (λ_=>0) (λ_=>[(0,.d (.sl 1 bE [v])),(1,.d (.i 1)),(2,.d (fnD 87)),(6,.d (.i 20)),(7,.d (.i 0)),(8,.d (.i 20))]) (λ_=>[]) () trivial ⟨U,U,U,U,U,U,trivial⟩ trivial ?_;rintro _ _;refine W ?_;refine Lp (λ_:Unit=>True) (λ_=>0) (λ_=>[(1,.d (.i 1)),(6,.d (.i 20))]) (λ_=>[]) () trivial ⟨U,U,trivial⟩ trivial ?_;rintro _ _;refine W ?_;exact⟨_,_,_,U,U,U⟩
instance:Cn prog 152 (type_of% @stbB_d):=⟨@stbB_d⟩
theorem srtB_d (v:Txt):FnD prog 104 [.sl 1 bE [v],fnD 87] (.v (.tuple #[])):=by
 refine aE func104 U ntmps104 U (λe=>?_);refine W ?_;exact⟨_,_,_,U,U,U⟩
instance:Cn prog 104 (type_of% @srtB_d):=⟨@srtB_d⟩
theorem insF_d (f:Fe):FnD prog 211 [.sl 2 Fe.enc [f],.i 0,.i 1,fnD 106] (.v (.tuple #[])):=by
 refine aE func211 U ntmps211 U (λe=>?_);refine W ?_;refine Lp (λ_:Unit=>True) (λ_=>0) (λ_=>[(2,.d (.i 1)),(8,.d (.i 1))]) (λ_=>[]) () trivial ⟨U,U,trivial⟩ trivial ?_;rintro _ _;refine W ?_;exact⟨_,_,_,U,U,U⟩
instance:Cn prog 211 (type_of% @insF_d):=⟨@insF_d⟩
theorem stbF_d (f:Fe):FnD prog 153 [.sl 2 Fe.enc [f],.i 1,fnD 106] (.v (.tuple #[])):=by
 refine aE func153 U ntmps153 U (λe=>?_);refine W ?_;refine Lp (λ_:Unit=>True) (λ_=>0) (λ_=>[(0,.d (.sl 2 Fe.enc [f])),(1,.d (.i 1)),(2,.d (fnD 106)),(6,.d (.i 20)),(7,.d (.i 0)),(8,.d (.i 20))]) (λ_=>[]) () trivial ⟨U,U,U,U,U,U,trivial⟩ trivial ?_;rintro _ _;refine W ?_;refine Lp (λ_:Unit=>True) (λ_=>0) (λ_=>[(1,.d (.i 1)),(6,.d (.i 20))]) (λ_=>[]) () trivial ⟨U,U,trivial⟩ trivial ?_;rintro _ _;refine W ?_;exact⟨_,_,_,U,U,U⟩
instance:Cn prog 153 (type_of% @stbF_d):=⟨@stbF_d⟩
theorem srtF_d (f:Fe):FnD prog 105 [.sl 2 Fe.enc [f],fnD 106] (.v (.tuple #[])):=by
 refine aE func105 U ntmps105 U (λe=>?_);refine W ?_;exact⟨_,_,_,U,U,U⟩
instance:Cn prog 105 (type_of% @srtF_d):=⟨@srtF_d⟩
theorem cown_d (f:Fe) (hl:f.vals.length<=1000000000000) (hv:∀ v∈f.vals,v.length<=140737488355328):FnD prog 58 [.st f.enc] (.st f.enc):=by
 refine aE func58 U ntmps58 U (λe=>?_);refine W ?_;refine Rv (kS 1 bE) 2 1 22 U U U U U U ?_;refine Lp (γ:=Nat) (λg=>g<=f.vals.length) (λg=>f.vals.length+1-g)
  (λg=>[(1,.own 0 0),(2,.own 1 0),(3,.own 2 0),(10,.d (.sl 1 bE f.vals)),(11,.d (.i (f.vals.length:Int))),(12,.d (.i (g:Int)))])
  (λg=>[(2,.var 48 [.d (.s f.oid),.row 3]),(3,.row 22 (.sl 1 bE (f.vals.take g))),(1,.var 48 [.d (.s []),.d (.v (.slice none 0 0))]),(0,.whl 48 (.st f.enc))]) 0 z2_ ?_ ?_ ?_
 ·exact⟨U,U,U,U,U,U,trivial⟩
 ·exact⟨U,U,U,U,trivial⟩
 intro g hg;have hml:(f.vals.take g).length<=1000000000000:=by have:=List.length_take_le' g f.vals;omega
 refine W ?_;refine Ci U (λh=>?_) (λh=>?_)
 ·have hlt:g<f.vals.length:=by omega
  have hget:f.vals.getD g default=f.vals[g]:=bG hlt;have hb:=hv _ (aF hlt);rw [<- hget] at hb;refine W ?_;refine Xap (kS 1 bE) U U U U U U U (by simp only [aC,aG];omega) U U U ?_;refine RX1 U U ?_;refine df U ?_;refine Nvk 3 U U U U U ?_;refine W ?_;have e1:f.vals.take (g+1)=f.vals.take g++[f.vals.getD g default]:=by rw [am hlt,hget]
  refine⟨g+1,by omega,by omega,⟨U,U,U,U,U,U,trivial⟩,?_⟩;show WkO [(2,.var 48 [.d (.s f.oid),.row 3]),(3,.row 22 (.sl 1 bE (f.vals.take (g+1)))),(1,.var 48 [.d (.s []),.d (.v (.slice none 0 0))]),(0,.whl 48 (.st f.enc))] _;rw [e1];exact⟨U,U,U,U,trivial⟩
 ·have hge:g=f.vals.length:=by omega
  subst hge;rw [List.take_length];refine Pb 3 U ?_;refine W ?_;exact Rt U U U
instance:Cn prog 58 (type_of% @cown_d):=⟨@cown_d⟩
def getF (l:List Fe) (o:Txt):List Txt×Bool:=match l.find? (λf=>decide (f.oid=o)) with
 |some f=>(f.vals,true)
 |none=>([],false)
theorem cget_d (l:List Fe) (o:Txt) (hl:l.length<=140737488355328) (hB:∀ f∈l,f.vals.length<=1000000000000/\∀ v∈f.vals,v.length<=140737488355328):FnD prog 18 [.sl 2 Fe.enc l,.s o] (.tup [.sl 1 bE (getF l o).1,.b (getF l o).2]):=by
 refine aE func18 U ntmps18 U (λe=>?_);refine W ?_;refine Lp (γ:=Nat) (λg=>g<=l.length/\getF l o=getF (l.drop g) o) (λg=>l.length+1-g) (λg=>[(1,.d (.s o)),(8,.d (.sl 2 Fe.enc l)),(9,.d (.i (l.length:Int))),(10,.d (.i (g:Int)))]) (λ_=>[]) 0 ⟨by omega,U⟩ ⟨U,U,U,U,trivial⟩ trivial ?_;rintro g ⟨hg,hf⟩;refine W ?_;refine Ci U (λh=>?_) (λh=>?_)
 ·have hlt:g<l.length:=by omega
  have hget:l.getD g default=l[g]:=bG hlt;obtain⟨b2,b3⟩:=hB _ (aF hlt);rw [<- hget] at b2 b3;have hdr:l.drop g=l.getD g default::l.drop (g+1):=by rw [aX hlt,hget]
  rw [hdr] at hf;refine W ?_;refine Ci U (λh2=>?_) (λh2=>?_)
  ·have hgf:getF l o=((l.getD g default).vals,true):=by
    rw [hf];unfold getF;rw [List.find?_cons,aj h2]
   refine W ?_;refine Rt U U ?_;rw [hgf];rfl
  ·refine W ?_;refine⟨g+1,by omega,⟨by omega,?_⟩,⟨U,U,U,U,trivial⟩,trivial⟩;rw [hf];unfold getF;rw [List.find?_cons,au h2]
 ·refine W ?_;refine Rt U U ?_;rw [hf,List.drop_of_length_le z2_];rfl
instance:Cn prog 18 (type_of% @cget_d):=⟨@cget_d⟩
theorem qC (o v:Txt) (hv:v.length<=140737488355328):FnD prog 57 [.sl 2 Fe.enc [⟨o,[v]⟩]] (.sl 2 Fe.enc [⟨o,[v]⟩]):=by
 have ho:=@cown_d ⟨o,[v]⟩ (by simp) (λw hw=>by simp at hw;subst hw;exact hv);refine aE func57 U ntmps57 U (λe=>?_);refine W ?_;refine Rn (kS 2 Fe.enc) 3 48 U U ?_;refine Lp (γ:=Nat) (λg=>g<=1) (λg=>2-g)
  (λg=>[(3,.row 0),(7,.d (.sl 2 Fe.enc [⟨o,[v]⟩])),(8,.d (.i 1)),(9,.d (.i (g:Int)))])
  (λg=>[(0,.row 48 (.sl 2 Fe.enc (if g=0 then [] else [⟨o,[v]⟩])))]) 0 z2_ ⟨U,U,U,U,trivial⟩ ⟨U,trivial⟩ ?_
 intro g hg;obtain rfl|rfl:g=0\/g=1:=by omega
 ·show JD _ _ _ _ _ [(3,.row 0),(7,.d (.sl 2 Fe.enc [⟨o,[v]⟩])),(8,.d (.i 1)),(9,.d (.i 0))] [(0,.row 48 (.sl 2 Fe.enc []))];refine W ?_;refine bx (St1.litS (enc:=Fe.enc) [⟨o,[v]⟩] U U U U (λ_ _=>rfl) U U U U U) ?_;refine W ?_;exact⟨1,by omega,by omega,⟨U,U,U,U,trivial⟩,⟨U,trivial⟩⟩
 ·show JD _ _ _ _ _ [(3,.row 0),(7,.d (.sl 2 Fe.enc [⟨o,[v]⟩])),(8,.d (.i 1)),(9,.d (.i 1))] [(0,.row 48 (.sl 2 Fe.enc [⟨o,[v]⟩]))];refine Pb 0 U ?_;refine W ?_;exact Rt U U U
instance:Cn prog 57 (type_of% @qC):=⟨@qC⟩
theorem cput_d (o v:Txt) (hv:v.length<=140737488355328):FnD prog 17 [.sl 2 Fe.enc [],.st (Fe.enc ⟨o,[v]⟩)] (.sl 2 Fe.enc [⟨o,[v]⟩]):=by
 refine aE func17 U ntmps17 U (λe=>?_);refine W ?_;refine Lp (γ:=Unit) (λ_=>True) (λ_=>0) (λ_=>[(3,.own 0 0),(5,.d (.v (.slice none 0 0))),(9,.d (.i 0)),(10,.d (.i 0))]) (λ_=>[(0,.whl 48 (.st (Fe.enc ⟨o,[v]⟩)))]) () trivial ⟨U,U,U,U,trivial⟩ ⟨U,trivial⟩ ?_;rintro _ _;refine W ?_;refine bx (St1.litS (enc:=Fe.enc) [⟨o,[v]⟩] U U U U (λ_ _=>rfl) U U U U U) ?_;refine bx (St1.app0 (kS 2 Fe.enc) U U U U (by simp) U U) ?_;refine W ?_;exact Rt U U U
instance:Cn prog 17 (type_of% @cput_d):=⟨@cput_d⟩
section
variable {P:Program} [Tb P] {n:PostD}{x:Nat->PostD}{a a1:LO}{o o1:LQ}{e:Env}{m:Nat}{fn:Func}{ρ:Rho}{h:Part}{S:Sig}{L:LE}{ds:List D}{b t:Nat}
theorem rtv_ok (cz:Cz P ρ h a o S L) (hp:pubs (ksO o) a o=some (a1,o1)) (hr:resL P a1 o1 fn.results.toList fn.resultTypes.toList=some ds) {ac:Act}{w:World}(s:Sat e m S h L ac w):∃ h' L' v,h.le h'/\Sat e m S h' L' ac w/\Cz P ρ h' a1 o1 S L'/\RetV P e m fn S h' L' v/\Den (resD ds) h' v:=by
 obtain⟨h',L',hle,hok,cz'⟩:=eY hp cz s.ok;obtain⟨vs,h1,h2⟩:=nP (e:=e) (m:=m) cz' hr;have hlen:=h1.len;have hrun:∀ ac w,Sat e m S h' L' ac w->(fn.results.mapM (relem ac.tmps)).run P w=.ok vs.toArray w:=λac w s=>by
  have:=h2 ac w s;rw [Array.mapM_eq_mapM_toList];simp [this]
 refine(λ⟨v,hv,hd⟩=>⟨h',L',v,hle,s.with hok,cz',λac w s=>hv ac w s,hd⟩:(∃ v,(∀ ac w,Sat e m S h' L' ac w->(results fn ac.tmps).run P w=.ok v w)/\Den (resD ds) h' v)->_) ?_
 match ds,vs,h1,hlen with
 |[],[],h1,_=>exact⟨.tuple #[],λac w s=>by rw [eX];simp [hrun ac w s],cj (h:=h')⟩
 |[d],[v],h1,_ =>
  unfold DenT at h1;obtain⟨v',t,e1,h3,h4⟩:=h1;cases e1;exact⟨v,λac w s=>by rw [eX];simp [hrun ac w s],h3⟩
 |d::d2::r,v::v2::r',h1,_=>exact⟨.tuple (v::v2::r').toArray,λac w s=>by rw [eX];simp [hrun ac w s],(oQ (h:=h')).2 ⟨_,U,h1⟩⟩
abbrev RB (b t:Nat) (R:D->D->Prop):Ending->Part->LE->Prop:=Rets λv h' Lo=>∃ d d1 ws,R d d1/\Den d h' v/\Den d1 h' (.agg ws.toArray)/\Lo=[.blk b t ws]
def FB (P:Program) (e:Env) (m:Nat) (fn:Func) (b t:Nat) (R:D->D->Prop):Fd:=⟨e,m,RetPost P e m fn (RB b t R),PanPost (RB b t R)⟩
def RtBD (P:Program) [Tb P] (fn:Func) (b t:Nat) (R:D->D->Prop):PostD:=λa o=>∃ a1 o1 ds e0 d1 kp,pubs (ksO o) a o=some (a1,o1)/\resL P a1 o1 fn.results.toList fn.resultTypes.toList=some ds/\lkO o1 0=some e0/\whlO e0=some (t,d1)/\lkO o1 kp=some (.pin 0 b)/\R (resD ds) d1
variable {R:D->D->Prop}
theorem rtB_ok (k:up P (RtBD P fn b t R) S h L) {ac:Act}{w:World}(s:Sat e m S h L ac w):∃ S h' L',Sat e m S h' L' ac w/\RetPost P e m fn (RB b t R) S h' L':=by
 obtain⟨ρ,a,o,cz,a1,o1,ds,e0,d1,kp,hp,hr,h0,hw,hpin,hR⟩:=k;obtain⟨h',L',v,hle,s',cz',hv,hd⟩:=rtv_ok cz hp hr s;obtain⟨y,L2,hD,hE,_⟩:=cz'.o.get h0;obtain⟨ws,rfl,hd1⟩:=whlO_ok hw hE;obtain⟨z,L3,_,⟨hb,_⟩,_⟩:=cz'.o.get hpin;rw [hb] at hD;exact⟨S,h',L',s',v,_,L2,hv,.cons hD .nil,v,U,_,_,ws,hR,hd,hd1,U⟩
theorem RtB {d1:D}{e0:OE}(kp:Nat) (hp:pubs (ksO o) a o=some (a1,o1)) (hr:resL P a1 o1 fn.results.toList fn.resultTypes.toList=some ds) (h0:lkO o1 0=some e0) (hw:whlO e0=some (t,d1)) (hpin:lkO o1 kp=some (.pin 0 b)) (hR:R (resD ds) d1):JD P (FB P e m fn b t R) .ret n x a o:=.mk λρ h S L cz ac w s=>by
 obtain⟨S',h',L',s',hh⟩:=rtB_ok ⟨ρ,a,o,cz,a1,o1,ds,e0,d1,kp,hp,hr,h0,hw,hpin,hR⟩ s;exact dE (f:=(FB P e m fn b t R).fr P) (n:=up P n) (x:=λi=>up P (x i)) hh ac w s'
omit [Tb P] in
theorem argS {A2:LO}{S2:Sig}(h2:∀ t y,lkA A2 t=some y->∃ v,look S2 t=some v/\DenA ρ h y v):∀ {ds:List D}{vs:LV}{i t:Nat}{y:A},DenT ds h vs->lkA (argA i ds++A2) t=some y->∃ v,look (argSig i vs++S2) t=some v/\DenA ρ h y v
 |[],vs,i,t,y,hd,hy=>by unfold DenT at hd;subst hd;exact h2 t y hy
 |d::r,vs,i,t,y,hd,hy=>by
  unfold DenT at hd;obtain⟨v,t',rfl,h3,h4⟩:=hd;simp only [argA,lkA,argSig,look,List.cons_append] at hy |-
  cases hb:Nat.beq i t with
  |true=>simp only [hb,cond_true,aB] at hy |-;subst hy;exact⟨v,U,h3⟩
  |false=>simp only [hb,cond_false] at hy |-;exact argS h2 h4 hy
theorem nt:∀ (vs us:LV) (i:Nat),argSig i (vs++us)=argSig i vs++argSig (i+vs.length) us
 |[],us,i=>rfl
 |v::r,us,i=>by
  simp only [List.cons_append,argSig,nt r us (i+1),aC];rw [show i+1+r.length=i+(r.length+1) by omega]
theorem FnB.intro {Fi:Nat}{c:Code}{ds1 ds2:List D}{d0:D}(hf:P.funcs[Fi]?=some fn) (hb:fn.body=some c) (hm:fn.ntmps=m) (hl:Nat.ble (ds1.length+(ds2.length+1)) m=true)
 (k:∀ e b,JD P (FB P e m fn b t R) c (RtBD P fn b t R) NoExD (argA 0 ds1++(ds1.length,.own 0 0)::argA (ds1.length+1) ds2) [(1,.pin 0 b),(0,.whl t d0)]):FnB P Fi t ds1 d0 ds2 R:=.mk λh b vs0 vs1 vs2 hT h1 h0 h2=>by
 have l1:=h1.len;have l2:=h2.len;refine aM hf hb hm (by simp only [aU,aC,l1,l2];exact hl) (λe he=>?_);refine J.own (L':=.row none 0 0 0 0 []::[.blk b t vs0]) (λ_ hw=>hw.row_nil 0 0) ?_;have cz:Cz P ⟨λ_=>b,λ_=>none,λ_=>0,λ_=>0⟩ h (argA 0 ds1++(ds1.length,.own 0 0)::argA (ds1.length+1) ds2) [(1,.pin 0 b),(0,.whl t d0)] (argSig 0 (vs1++.pointer (some ⟨b,0,none⟩)::vs2)) (.row none 0 0 0 0 []::[.blk b t vs0]):=by
  refine⟨hT,λt y hy=>?_,_,_,U,⟨U,U⟩,_,_,U,⟨vs0,U,h0⟩,U⟩;rw [nt];refine argS (λt y hy=>?_) h1 hy;rw [Nat.zero_add,l1];simp only [lkA,argSig,look] at hy |-
  cases hb:Nat.beq ds1.length t with
  |true=>simp only [hb,cond_true,aB] at hy |-;subst hy;exact⟨_,U,U⟩
  |false =>
   simp only [hb,cond_false] at hy |-
   have:=argS (A2:=[]) (S2:=[]) (ρ:=⟨λ_=>b,λ_=>none,λ_=>0,λ_=>0⟩) (λt y hy=>by cases hy) h2 (by rw [List.append_nil];exact hy);simpa using this
 intro ac w s;refine wpm ((k e b).k _ h _ _ cz ac w s) (λex a' w' q=>?_);cases ex with
 |normal=>obtain⟨S',h',L',s',q'⟩:=q;obtain⟨S2,h2,L2,s2,hh⟩:=rtB_ok q' s';exact⟨S2,h2,L2,s2,hh⟩
 |exit i=>obtain⟨S',h',L',s',⟨_,_,_,_,hh⟩,_⟩:=q;exact hh.elim
 |goto i=>obtain⟨S',h',L',s',⟨_,_,_,_,hh⟩⟩:=q;exact hh.elim
 |_=>exact q
end
def mapT (P:Program) (T:Nat) (u:TypeDesc):Bool:=match P.underlying T with
 |some (.map K E)=>match P.underlying K,P.info? E with
  |some .string,some i=>match i.zero,u with
   |some (.bool false),.string=>true
   |_,_=>false
  |some (.int .i64),some i=>match i.zero,u with
   |some (.bool false),.int .i64=>true
   |_,_=>false
  |_,_=>false
 |_=>false
theorem sf {P:Program}{T:Nat}{u:TypeDesc}(h:mapT P T u=true):∃ K E i,P.underlying T=some (.map K E)/\P.underlying K=some u/\P.info? E=some i/\i.zero=some (.bool false):=by
 unfold mapT at h;split at h<;>try (cases h;done)
 rename_i K E h1;split at h<;>try (cases h;done)
 all_goals
  rename_i i h2 h3;split at h<;>try (cases h;done)
  rename_i h4;exact⟨K,E,i,h1,h2,h3,h4⟩
structure KeyOk {α:Type} [DecidableEq α] (u:TypeDesc) (mk:α->Value):Prop where
 same:∀ s t,Instr.sameNow u (mk s) (mk t)=some (decide (t=s))
 chk:∀ (P:Program) (K:Nat) (w:World) (e:Bool) (s:α),P.underlying K=some u->(Instr.checkKey e 10000 K (mk s)).run P w=.ok () w
abbrev strV (s:LB):Value:=.string ⟨s.toArray⟩
abbrev i64V (i:Int):Value:=.int .i64 i
theorem key_str:KeyOk .string strV:=⟨λs t=>by
 unfold Instr.sameNow;by_cases hts:t=s
 ·subst hts;have hself:((⟨t.toArray⟩:ByteArray) == ⟨t.toArray⟩)=true:=by show(t.toArray == t.toArray)=true;simp
  simp [hself]
 ·have hne:((⟨s.toArray⟩:ByteArray) == ⟨t.toArray⟩)=false:=by
   show(s.toArray == t.toArray)=false;rw [beq_eq_false_iff_ne];intro hh;exact hts (by simpa using (congrArg Array.toList hh.symm))
  simp [hne,hts],λP K w e s h2=>by unfold Instr.checkKey;simp [run_underlying h2,Result.andThen]⟩
theorem sm:KeyOk (.int .i64) i64V:=⟨λs t=>by
 unfold Instr.sameNow;by_cases hts:t=s
 ·subst hts;simp
 ·simp [hts];exact λh=>hts h.symm,λP K w e s h2=>by unfold Instr.checkKey;simp [run_underlying h2,Result.andThen]⟩
theorem gu {α:Type} [DecidableEq α] {u:TypeDesc}{mk:α->Value}(hk:KeyOk u mk) {s:α}:∀ {arr:List MapEntry}{es:List α}(i:Nat),arr.map (λe=>(e.key,e.val))=(es.map mk).map (λv=>(v,Value.bool true))->∃ r,Instr.findNow u (mk s) arr i=some r/\(r=none/\(es.any λt=>decide (t=s))=false\/∃ j,r=some (j,.bool true)/\(es.any λt=>decide (t=s))=true)
 |[],es,i,he=>by
  have:es=[]:=by simpa using he.symm
  subst this;exact⟨none,U,.inl ⟨U,U⟩⟩
 |e::r,[],i,he=>by simp at he
 |e::r,t::es,i,he=>by
  simp only [List.map_cons,List.cons.injEq,Prod.mk.injEq] at he;obtain⟨⟨h1,h2⟩,h3⟩:=he;unfold Instr.findNow;rw [h1,h2,hk.same];by_cases hts:t=s
  ·subst hts;exact⟨some (i,.bool true),by simp,.inr ⟨i,U,by simp⟩⟩
  ·obtain⟨r',h4,h5⟩:=gu hk (s:=s) (i+1) h3;exact⟨r',by simp [hts,h4],by simpa [hts] using h5⟩
section
variable {f:Fr}{n:Post}{x:Nat->Post}{S:Sig}{h:Part}{L L':LE}{ops:Array Oper}{rest:LR}{d b cl T:Nat}{ty:TypeId}{pos:String}{af:Array Edge}{arr:Array MapEntry}{α:Type} [DecidableEq α] {u:TypeDesc}{mk:α->Value}{es:List α}{s:α}{xo yo vo:Operand}
theorem JL.makeMap (hd:Nat.blt d f.m=true) (k:∀ b,JL f ops n x rest ((d,.map (some b))::S) h (.obj b (.map #[] 0)::L)):JL f ops n x (⟨some d,.makeMap T none,ty,pos,af,none⟩::rest) S h L:=λa w s =>
 d8 (v:=.map (some w.heap.size)) (w':=w.alloc (.map #[] 0)) U (by simp [execOp,Instr.makeMap,newObj,Sem.run]) (k w.heap.size _ _ (s.put hd _ (s.ok.allocObj _)))
omit [DecidableEq α] in
theorem iI {P:Program}{K:Nat}{w:World}{r:Option (Nat×Value)}(h2:P.underlying K=some u) (hr:Instr.findNow u (mk s) arr.toList 0=some r):(Instr.findKey K (mk s) arr.toList).run P w=.ok r w:=by
 simp [Instr.findKey,run_underlying h2,Result.andThen,hr]
theorem RunV.lookSet (hk:KeyOk u mk) (hT:mapT f.P T u=true) (hx:ev S xo=some (.map (some b))) (hy:ev S yo=some (mk s)) (hm:Ent.obj b (.map arr cl)∈L) (he:arr.toList.map (λe=>(e.key,e.val))=(es.map mk).map (λv=>(v,Value.bool true))) :
 RunV f S h L (.lookup T xo yo false) ty (.bool (es.any λt=>decide (t=s))):=λa w st _ _ _ _=>by
 obtain⟨K,E,i,h1,h2,h3,h4⟩:=sf hT;have hw:w.heap[b]?=some (.map arr cl):=st.ok.own _ hm;obtain⟨r,hr,hc⟩:=gu hk (s:=s) 0 he;have hck:=hk.chk f.P K w arr.isEmpty s h2;have hfk:=iI (P:=f.P) (w:=w) h2 hr;rcases hc with ⟨rfl,hc⟩|⟨j,rfl,hc⟩
 ·simp [execOp,st.eval hx,st.eval hy,Instr.lookup,run_underlying h1,getObj,Sem.run,hw,hck,hfk,Result.andThen,zeroValue,typeInfo,h3,h4,hc]
 ·simp [execOp,st.eval hx,st.eval hy,Instr.lookup,run_underlying h1,getObj,Sem.run,hw,hck,hfk,Result.andThen,zeroValue,typeInfo,h3,h4,hc]
theorem JL.putSet (hk:KeyOk u mk) (hT:mapT f.P T u=true) (hx:ev S xo=some (.map (some b))) (hy:ev S yo=some (mk s)) (hv:ev S vo=some (.bool true)) (u1:Del (.obj b (.map arr cl)) L L') (he:arr.toList.map (λe=>(e.key,e.val))=(es.map mk).map (λv=>(v,Value.bool true))) (hn:(es.any λt=>decide (t=s))=false)
 (k:JL f ops n x rest S h (.obj b (.map (arr.push ⟨mk s,.bool true,cl⟩) (cl+1))::L')):JL f ops n x (⟨none,.mapUpdate T xo yo vo,ty,pos,af,none⟩::rest) S h L:=λa w st=>by
 obtain⟨K,E,i,h1,h2,h3,h4⟩:=sf hT;have hw:w.heap[b]?=some (.map arr cl):=st.ok.own _ u1.mem;obtain⟨r,hr,hc⟩:=gu hk (s:=s) 0 he;have hck:=hk.chk f.P K w false s h2;have hfk:=iI (P:=f.P) (w:=w) h2 hr;rcases hc with ⟨rfl,hc⟩|⟨j,rfl,hc⟩
 ·refine eW (w':=w.putObj b (.map (arr.push ⟨mk s,.bool true,cl⟩) (cl+1))) U ?_ (k _ _ (st.with ((st.ok.perm u1.perm).putObj _)));simp [execOp,st.eval hx,st.eval hy,st.eval hv,Instr.mapUpdate,run_underlying h1,getObj,setObj,Sem.run,hw,hck,hfk,Result.andThen,World.putObj]
 ·rw [hn] at hc;cases hc
end
section
variable {P:Program} [Tb P] {F:Fd}{n:PostD}{x:Nat->PostD}{a b Au:LO}{o o1 ob:LQ}{ops:Array Oper}{rest:LR}{base:Nat}{es0:List Ef}
variable {d k T:Nat}{ty:TypeId}{pos:String}{af:Array Edge}{g:Option (Nat×Bool)}{xo yo vo:Operand}{α:Type} [DecidableEq α] {u:TypeDesc}{mk:α->Value}{es:List α}{s:α}
theorem Mm (hk:nextK a o=some k) (hd:Nat.blt d F.m=true) (kk:JLD P F ops n x rest ((d,.mp k)::a) ((k,.set [])::o)):JLD P F ops n x (⟨some d,.makeMap T none,ty,pos,af,none⟩::rest) a o:=.mk λρ h S L cz=>by
 refine JL.makeMap hd (λbb=>?_);have c':=cz.eqv hk (ρ.eqv_setB k bb);exact kk.k (ρ.setB k bb) h _ _ (eI (u:=.mp k) (⟨c'.t,c'.s,_,L,U,⟨#[],0,by rw [gK],U⟩,c'.o⟩:Cz P (ρ.setB k bb) h a ((k,.set [])::o) S (.obj bb (.map #[] 0)::L)) (by show _=_;rw [gK]) d)
theorem St1.lookK (hK:KeyOk u mk) (hx:evA a xo=some (.mp k)) (hy:evA a yo=some (.d (.v (mk s)))) (hk:lkO o k=some (.set (es.map mk))) (hT:mapT P T u=true) (hg:gdB ops a g=some true) (hd:Nat.blt d F.m=true) :
 St1 P F ops a o ⟨some d,.lookup T xo yo false,ty,pos,af,g⟩ d (.d (.bq (es.any λt=>decide (t=s)))):=.run hg hd λρ h S L cz=>by
 obtain⟨v,h1,h2⟩:=cE cz hx;cases h2;obtain⟨y,L',hD,⟨arr,cl,rfl,he⟩,hr⟩:=cz.o.get hk;exact⟨_,RunV.lookSet hK hT h1 (dv cz hy) hD.mem he,(dH (h:=h)).2 U⟩
theorem MuK (hK:KeyOk u mk) (hx:evA a xo=some (.mp k)) (hy:evA a yo=some (.d (.v (mk s)))) (hv:evA a vo=some (.d (.v (.bool true)))) (hk:lkO o k=some (.set (es.map mk))) (hn:(es.any λt=>decide (t=s))=false) (hT:mapT P T u=true) (hdel:delQ o k=some o1)
 (kk:JLD P F ops n x rest a ((k,.set ((es++[s]).map mk))::o1)):JLD P F ops n x (⟨none,.mapUpdate T xo yo vo,ty,pos,af,none⟩::rest) a o:=.mk λρ h S L cz=>by
 obtain rfl:=gv hdel;obtain⟨v,h1,h2⟩:=cE cz hx;cases h2;obtain⟨y,L',hD,⟨arr,cl,rfl,he⟩,hr⟩:=cz.o.get hk;refine JL.putSet hK hT h1 (dv cz hy) (dv cz hv) hD he hn ?_;exact kk.k ρ h S _ ⟨cz.t,cz.s,_,L',U,⟨_,_,U,by simp [he]⟩,hr⟩
theorem St1.look {s:Txt}{es:List Txt}(hx:evA a xo=some (.mp k)) (hy:evA a yo=some (.d (.v (.string ⟨⟨s⟩⟩)))) (hk:lkO o k=some (.set (es.map strV))) (hT:mapT P T .string=true) (hg:gdB ops a g=some true) (hd:Nat.blt d F.m=true) :
 St1 P F ops a o ⟨some d,.lookup T xo yo false,ty,pos,af,g⟩ d (.d (.bq (es.any λt=>decide (t=s)))):=.lookK key_str hx hy hk hT hg hd
theorem Mu {s:Txt}{es:List Txt}(hx:evA a xo=some (.mp k)) (hy:evA a yo=some (.d (.v (.string ⟨⟨s⟩⟩)))) (hv:evA a vo=some (.d (.v (.bool true)))) (hk:lkO o k=some (.set (es.map strV))) (hn:(es.any λt=>decide (t=s))=false) (hT:mapT P T .string=true) (hdel:delQ o k=some o1)
 (kk:JLD P F ops n x rest a ((k,.set ((es++[s]).map strV))::o1)):JLD P F ops n x (⟨none,.mapUpdate T xo yo vo,ty,pos,af,none⟩::rest) a o:=MuK key_str hx hy hv hk hn hT hdel kk
end
abbrev oData:Txt:=[49,46,50,46,56,52,48,46,49,49,51,53,52,57,46,49,46,55,46,49]
abbrev oSigned:Txt:=[49,46,50,46,56,52,48,46,49,49,51,53,52,57,46,49,46,55,46,50]
abbrev nilV:D:=.v (.slice none 0 0)
section
set_option pp.deepTerms true
set_option pp.maxSteps 100000
theorem int_d (n:Int):FnD prog 25 [.i n] (.nd (.mk 0 2 false (intB n) [])):=.mk λh vs hT hd=>by
 obtain⟨v,rfl,h1⟩:=gB hd;rw [dB.1 h1];exact int_fn.mono λv h' _ ⟨cs,e,r⟩=>⟨_,U,by rw [e];exact(dP (h:=h')).2 ⟨cs,U,r⟩⟩
instance:Cn prog 25 (type_of% @int_d):=⟨@int_d⟩
theorem uB (l:LN) (hz:Nd.szL l<=1099511627776):FnO prog 22 35 kN [.nds l] [.i 0,.i 16,.v (.bool true),nilV] l:=.mk λh vs hT hd=>by
 obtain⟨v,rfl,h1⟩:=gB hd;obtain⟨a,cc,rfl,hR⟩:=dN.1 h1;have hb:=hR.big;exact(cseqo_fn hR hz).mono λe h' Lo _ ⟨v,he,a',c',xs,e1,e2,e3⟩=>⟨v,he,[.int .i64 0,.int .i64 16,.bool true,.slice none 0 0],a',c',xs,e1,.c U (cj (h:=h')) (.c U (cj (h:=h')) (.c U (cj (h:=h')) (.c U (cj (h:=h')) .n))),e2,e3,hb⟩
end
abbrev kInt:Nd:=.mk 0 2 false (intB 1) []
abbrev kSet:Nd:=.mk 0 17 true [] []
abbrev kOct:Nd:=.mk 0 4 false [5] []
abbrev kCtx:Nd:=.mk 2 0 true [] [kOct]
abbrev kCon:Nd:=.mk 0 16 true [] [oiN oData,kCtx]
abbrev kIn:Nd:=.mk 0 16 true [] [kInt,kSet,kCon,kSet]
abbrev kMid:Nd:=.mk 2 0 true [] [kIn]
abbrev kTop:Nd:=.mk 0 16 true [] [oiN oSigned,kMid]
abbrev kSd:Sd:=⟨oData,true,[5],[],[],[]⟩
def knB:Txt:=kTop.wr.1
theorem knB_len:(knB.length:Int)=42:=by kernel_rfl
theorem knB_1:((knB.getD 1 default).toNat:Int)=40:=by kernel_rfl
theorem kTop_wr:kTop.wr=(knB,0):=by
 have:kTop.wr.2=0:=by kernel_rfl
 rw [<- this];rfl
theorem kTop_sz:kTop.sz<=1000:=by decide +kernel
theorem oG {x:Nd}(hz:x.sz<=1073741824):FnD prog 102 [.nd x] (.tup [.i x.intV,.b x.intOk]):=.mk λh vs hT hd=>by
 obtain⟨v,rfl,h1⟩:=gB hd;obtain⟨cs,rfl,hR⟩:=dP.1 h1;exact(intof_fn hR hT hz).d (fU (cj (h:=h)) ((dH (h:=h)).2 U))
theorem equal_d {l r:Txt}:FnD prog 103 [.bs l,.bs r] (.b (decide (l=r))):=.mk λh vs hT hd=>by
 obtain⟨v,w,rfl,h1,h2⟩:=den2 hd;obtain⟨a,cc,rfl,hR⟩:=dm.1 h1;obtain⟨a',cc',rfl,hR'⟩:=dm.1 h2;exact(bequal_fn hR hR').d ((dH (h:=h)).2 U)
theorem FnD.to {P:Program} [Tb P] {Fi:Nat}{ds:List D}{d d':D}(c:FnD P Fi ds d) (h:d=d'):FnD P Fi ds d':=h ▸ c
theorem kparts_b:FnB prog 101 27 [] (.st [.s [],.b false,nilV,nilV,nilV,nilV]) [.nds [kInt,kSet,kCon,kSet]] (λd d1=>d=.b true/\d1=.st [.s oData,.b true,.bs [5],nilV,nilV,nilV]):=by
 have h1:FnD prog 98 [.nd kCon,.i 1,.i 2] (.b true):=(jE kCon 1 2).to (by rw [show isSeqB kCon 1 2=true by kernel_rfl]);have h2:FnD prog 100 [.nd (oiN oData)] (.tup [.s oData,.b true]):=(lx (oiN oData) (Nat.le_trans (dZ _) bT)).to (by rw [show cOid (oiN oData)=(oData,true) by kernel_rfl]);have h3:FnD prog 99 [.nd kCtx,.i 0,.b true] (.b true):=(iy kCtx 0 true).to (by rw [show isCtxB kCtx 0 true=true by kernel_rfl]);have h4:FnD prog 99 [.nd kSet,.i 0,.b true] (.b false):=(iy kSet 0 true).to (by rw [show isCtxB kSet 0 true=false by kernel_rfl]);have h5:FnD prog 99 [.nd kSet,.i 1,.b true] (.b false):=(iy kSet 1 true).to (by rw [show isCtxB kSet 1 true=false by kernel_rfl]);refine FnB.intro func101 U ntmps101 U (λe b=>?_);refine W ?_;refine Lp (γ:=Unit) (λ_=>True) (λ_=>0) (λ_=>[(0,.own 0 0),(7,.d (.b true)),(198,.d (.i 0)),(199,.d (.i 0))]) (λ_=>[(0,.var 27 [.d (.s oData),.d (.b true),.d (.bs [5]),.d nilV,.d nilV,.d nilV]),(1,.pin 0 b)]) () trivial ⟨U,U,U,U,trivial⟩ ⟨U,U,trivial⟩ ?_;rintro _ _;refine W ?_;exact RtB 1 U U U U U ⟨U,U⟩
def FeS (f:Fe):Prop:=(f.oid.length<=400000/\(oiN f.oid).sz<=200000)/\f.vals.length<=400000/\∀ v∈f.vals,v.length<=100000
theorem jv {f:Fe}(h:FeS f):(fieldN f).sz<=1100000:=by
 unfold fieldN;cases hb:fnOk f with
 |false=>simp [ndZ0,Nd.sz,Nd.szL]
 |true =>
  have h8:f.vals.length<=8:=by
   simp only [fnOk,Bool.and_eq_true,ax] at hb;omega
  have h1:=szl_rd 100000 f.vals h.2.2;have h2:Nd.szL (f.vals.map λv=>(rdTop v).1)<=8*100001:=Nat.le_trans h1 (bD _ h8);have h4:=h.1.2;simp only [if_true,setN,Nd.sz,Nd.szL,aG];omega
def fbP (f:Fe):Txt:=if fieldE f≠0 then [] else(fieldN f).wr.1
def fbR (f:Fe):Txt:=if fieldE f≠0 then [] else(fieldN f).put.getD []
theorem fv (f:Fe) (h:FeS f):FnD prog 107 [.st f.enc] (.bs (fbP f)):=by
 have hz:=jv h;have hc:=fb f (Nat.le_trans h.1.1 z2_) (Nat.le_trans h.2.1 z2_) (λv hv=>Nat.le_trans (h.2.2 v hv) z2_);unfold fbP;exact aE func107 U ntmps107 U (λe=>Z)
instance:Cn prog 107 (type_of% @fv):=⟨@fv⟩
theorem i_ (n:Nd) (hz:n.sz<=100000000):FnD prog 20 [.nd n] (.bs (n.put.getD [])):=by
 exact aE func20 U ntmps20 U (λe=>Z)
instance:Cn prog 20 (type_of% @i_):=⟨@i_⟩
theorem gj (f:Fe) (h:FeS f):FnD prog 262 [.st f.enc] (.bs (fbR f)):=by
 have hz:=jv h;have hc:=fP f (Nat.le_trans h.1.1 z2_) (Nat.le_trans h.2.1 z2_) (λv hv=>Nat.le_trans (h.2.2 v hv) z2_);unfold fbR;exact aE func262 U ntmps262 U (λe=>Z)
instance:Cn prog 262 (type_of% @gj):=⟨@gj⟩
theorem lp {l:List Fe}{i:Nat}(h:i<l.length):(l.map fbP).getD i []=fbP (l.getD i default):=by
 rw [bG (by rw [aD];exact h),List.getElem_map,bG h]
theorem qx {l:List Fe}(hB:∀ f∈l,FeS f) (i:Nat):FeS (l.getD i default):=by
 by_cases h:i<l.length
 ·rw [bG h];exact hB _ (aF h)
 ·rw [bi,cv z2_];exact⟨⟨Nat.zero_le _,Nat.le_trans (dZ []) bT⟩,Nat.zero_le _,λv hv=>by cases hv⟩
theorem iW (l:List Fe) (hl:l.length<=1073741824) (hB:∀ f∈l,FeS f):FnD prog 143 [.sl 2 Fe.enc l,fnD 107,.b false] (.b (ordB (l.map fbP))):=by
 have hs:=qx hB;refine aE func143 U ntmps143 U (λe=>?_);refine W ?_;refine Lp (γ:=Nat) (λg=>(g=0\/g+1<=l.length)/\OrdK (l.map fbP) g) (λg=>l.length+1-g) (λg=>[(0,.d (.sl 2 Fe.enc l)),(1,.d (fnD 107)),(2,.d (.b false)),(7,.d (.i ((g:Int)+1)))]) (λ_=>[]) 0 ⟨.inl U,λj hj=>by omega⟩ ⟨U,U,U,U,trivial⟩ trivial ?_;rintro g ⟨hg,ho⟩;have c1:=fv (l.getD ((g:Int)+1-1).toNat default) (hs _);have c2:=fv (l.getD (g+1) default) (hs _);refine W ?_;refine Ci U (λh=>?_) (λh=>?_)
 ·refine W ?_;have hgg:((g:Int)+1-1).toNat=g:=by omega
  refine Bg U U (λh2=>?_) (λh2=>?_)
  ·rw [hgg,<- lp z2_,<- lp z2_] at h2;have hb:ordB (l.map fbP)=false:=by
    refine au λhh=>hh g (by rw [aD];omega) h2
   refine W ?_;refine Rt U U ?_;rw [hb];rfl
  rw [hgg,<- lp z2_,<- lp z2_] at h2;refine W ?_;refine Bg U U (λh3=>?_) (λh3=>?_)
  all_goals
   refine W ?_
   first|exact⟨g+1,by omega,⟨.inr z2_,gO ho h2⟩,⟨rfl,rfl,rfl,rfl,trivial⟩,trivial⟩|(refine Ci rfl (λh=>by cases h) (λ_=>?_);refine W ?_;exact⟨g+1,by omega,⟨.inr z2_,gO ho h2⟩,⟨rfl,rfl,rfl,rfl,trivial⟩,trivial⟩)
 ·have hb:ordB (l.map fbP)=true:=aj λj hj=>ho j (by rw [aD] at hj;omega);refine W ?_;refine Rt U U ?_;rw [hb];rfl
instance:Cn prog 143 (type_of% @iW):=⟨@iW⟩
theorem n_ {f:Fe}(h:fnOk f=true):(fieldN f).put.isSome=true:=by
 have h':=h;simp only [fnOk,Bool.and_eq_true,ax] at h';obtain⟨⟨⟨⟨h1,h2⟩,h3⟩,h4⟩,h5⟩:=h';have hp:∀ v∈f.vals,(rdTop v).1.put=some v:=λv hv=>by
  have h6:=List.all_eq_true.1 h4 v hv;simp only [fldV,Bool.and_eq_true,ax] at h6;have h7:=rd_wr h6.1;have h8:=wr_put (n:=(rdTop v).1) (by rw [h7]);rw [h7] at h8;exact h8
 have e1:(f.vals.map λv=>(rdTop v).1).map (λk=>k.put.getD [])=f.vals:=by
  rw [List.map_map];conv=>rhs;rw [<- List.map_id f.vals]
  exact List.map_congr_left λv hv=>by simp only [Function.comp,hp v hv];rfl
 have e2:(f.vals.map λv=>(rdTop v).1).all (·.put.isSome)=true:=by
  rw [List.all_map,List.all_eq_true];intro v hv;simp only [Function.comp,hp v hv];rfl
 unfold fieldN;rw [if_pos h,ee,List.all_cons,gQ h1,List.all_cons];unfold setN;rw [nZ,e2,e1,h5];rfl
theorem rkL_le {B:Nat}:∀ {l:LN},(∀ k∈l,k.rk<=B)->Nd.rkL l<=B
 |[],_=>by simp [Nd.rkL]
 |k::r,h=>by
  have h1:=h k (aK ..);have h2:=rkL_le (l:=r) λk hk=>h k (aP _ hk);simp only [Nd.rkL];omega
theorem qw {f:Fe}(h:fnOk f=true):(fieldN f).rk<=22:=by
 have h':=h;simp only [fnOk,Bool.and_eq_true,ax] at h';obtain⟨⟨⟨⟨h1,h2⟩,h3⟩,h4⟩,h5⟩:=h';have hv:Nd.rkL (f.vals.map λv=>(rdTop v).1)<=20:=rkL_le λk hk=>by
  obtain⟨v,hv,rfl⟩:=List.mem_map.1 hk;have h6:=List.all_eq_true.1 h4 v hv;simp only [fldV,Bool.and_eq_true,ax] at h6;omega
 unfold fieldN;rw [if_pos h];simp only [setN,Nd.rk,Nd.rkL];have:(oiN f.oid).rk=1:=by unfold oiN;first|rfl|simp [Nd.rk,Nd.rkL]
 omega
theorem qv {f:Fe}(hs:FeS f) (h:fnOk f=true):(fieldN f).wr=((fieldN f).put.getD [],0)/\2<=((fieldN f).put.getD []).length:=by
 obtain⟨b,hb⟩:=Option.isSome_iff_exists.1 (n_ h);have h1:=jv hs;have h2:=dF _ (fieldN f) b (aL _) hb;have h3:=qw h;rw [hb];refine⟨?_,h2.1⟩;unfold Nd.wr;rw [hb];simp only;rw [if_neg z2_,if_neg z2_];rfl
theorem fb_same {f:Fe}(hs:FeS f):fbP f=fbR f:=by
 unfold fbP fbR;by_cases h:fieldE f=0
 ·rw [if_neg (by simp [h]),if_neg (by simp [h]),(qv hs (mu.1 h)).1]
 ·rw [if_pos h,if_pos h]
theorem fb_len {f:Fe}(hs:FeS f):(fbR f).length=0<->fieldE f≠0:=by
 unfold fbR;by_cases h:fieldE f=0
 ·have:=(qv hs (mu.1 h)).2;rw [if_neg (by simp [h])];exact⟨λhh=>by omega,λhh=>absurd h hh⟩
 ·rw [if_pos h];exact⟨λ_=>h,λ_=>rfl⟩
def seenP:List Txt->List Fe->Bool
 |_,[]=>true
 |es,f::r=>if fieldE f≠0 then false else if(es.any λt=>decide (t=f.oid))=true then false else seenP (es++[f.oid]) r
def rfP (l:List Fe):Bool:=if 16<(l.length:Int) then false else if ordB (l.map fbP)=false then false else seenP [] l
def refP:Nat->List Txt->Txt->List Fe->Bool
 |_,_,_,[]=>true
 |i,es,prev,f::r=>if 16<=(i:Int) then false else if((fbR f).length:Int)=0 then false else if 0<Go.Lib.compareBytes prev (fbR f) then false else if(es.any λt=>decide (t=f.oid))=true then false else refP (i+1) (es++[f.oid]) (fbR f) r
theorem refP_eq:∀ (l:List Fe) (i:Nat) (es:List Txt) (prev:Txt),(∀ f∈l,FeS f)->refP i es prev l=(decide (l=[]\/i+l.length<=16)&&ordB (prev::l.map fbR)&&seenP es l)
 |[],i,es,prev,_=>by simp [refP,seenP,ordB,OrdK]
 |f::r,i,es,prev,h=>by
  have ih:=refP_eq r (i+1) (es++[f.oid]) (fbR f) λg hg=>h g (aP _ hg);have hl:=fb_len (h f (aK ..));rw [List.map_cons,od];simp only [refP,seenP];by_cases h1:16<=(i:Int)
  ·rw [if_pos h1,au (by simp;omega)];simp
  rw [if_neg h1];by_cases h2:fieldE f=0
  ·rw [if_neg (show ¬ ((fbR f).length:Int)=0 by have:=mt hl.1 (by simp [h2]);omega),if_neg (show ¬ fieldE f≠0 by simp [h2])];by_cases h3:0<Go.Lib.compareBytes prev (fbR f)
   ·rw [if_pos h3,aj h3];simp
   ·rw [if_neg h3,au h3];by_cases h4:(es.any λt=>decide (t=f.oid))=true
    ·rw [if_pos h4,if_pos h4];simp
    ·rw [if_neg h4,if_neg h4,ih];have:(r=[]\/i+1+r.length<=16)<->(f::r=[]\/i+(f::r).length<=16):=by
      constructor
      ·rintro(hr|hr)
       ·subst hr;right;simp;omega
       ·right;simp;omega
      ·rintro(hr|hr)
       ·cases hr
       ·right;simp at hr;omega
     rw [show decide (r=[]\/i+1+r.length<=16)=decide (f::r=[]\/i+(f::r).length<=16) from decide_eq_decide.2 this];simp
  ·rw [if_pos (by have:=hl.2 h2;omega),if_pos h2];simp
theorem cmp_nil (y:Txt):¬ 0<Go.Lib.compareBytes [] y:=by cases y<;>simp [Go.Lib.compareBytes]
theorem ord_nil (l:List Txt):ordB ([]::l)=ordB l:=by
 cases l with
 |nil=>rfl
 |cons y r=>rw [od,au (cmp_nil y)];simp
theorem rf_same {l:List Fe}(h:∀ f∈l,FeS f):refP 0 [] [] l=rfP l:=by
 rw [refP_eq l 0 [] [] h,ord_nil];have e:l.map fbP=l.map fbR:=List.map_congr_left λf hf=>fb_same (h f hf);unfold rfP;rw [e];by_cases h1:16<(l.length:Int)
 ·rw [if_pos h1,au (by rintro(hh|hh);(subst hh;simp at h1);omega)];simp
 ·rw [if_neg h1,aj (by right;omega)];cases ordB (l.map fbR)<;>simp
theorem f5 (l:List Fe) (hl:l.length<=400000) (hB:∀ f∈l,FeS f):FnD prog 86 [.sl 2 Fe.enc l] (.b (rfP l)):=by
 have hs:=qx hB;have ho:=iW l z2_ hB;refine aE func86 U ntmps86 U (λe=>?_);refine W ?_;refine Bg U U (λh=>?_) (λh=>?_)
 ·refine W ?_;refine Rt U U ?_;unfold rfP;rw [if_pos h];rfl
 refine W ?_;refine Ci U (λh2=>?_) (λh2=>?_)
 ·refine W ?_;refine Rt U U ?_;unfold rfP;rw [if_neg h,if_pos h2];rfl
 refine W ?_;refine Mm U U ?_;refine W ?_;have fin:seenP [] l=rfP l:=by
  unfold rfP;rw [if_neg h,if_neg (by rw [h2];simp)]
 refine Lp (γ:=Nat) (λg=>g<=l.length/\seenP [] l=seenP ((l.take g).map (·.oid)) (l.drop g)) (λg=>l.length+1-g) (λg=>[(3,.mp 0),(17,.d (.sl 2 Fe.enc l)),(18,.d (.i (l.length:Int))),(19,.d (.i (g:Int)))]) (λg=>[(0,.set (((l.take g).map (·.oid)).map strV))]) 0 ⟨by omega,U⟩ ⟨U,U,U,U,trivial⟩ ⟨U,trivial⟩ ?_;rintro g ⟨hg,hf⟩;have hfe:=hs g;have c1:=fb (l.getD g default) (Nat.le_trans hfe.1.1 z2_) (Nat.le_trans hfe.2.1 z2_) (λv hv=>Nat.le_trans (hfe.2.2 v hv) z2_);refine W ?_;refine Ci U (λh3=>?_) (λh3=>?_)
 ·have hlt:g<l.length:=by omega
  have hget:l.getD g default=l[g]:=bG hlt;have hdr:l.drop g=l.getD g default::l.drop (g+1):=by rw [aX hlt,hget]
  have htk:(l.take (g+1)).map (·.oid)=(l.take g).map (·.oid)++[(l.getD g default).oid]:=by rw [am hlt,List.map_append,hget];rfl
  rw [hdr] at hf;simp only [seenP] at hf;refine W ?_;refine Bg U U (λh4=>?_) (λh4=>?_)
  ·rw [if_pos h4] at hf;refine W ?_;refine Rt U U ?_;rw [<- fin,hf];rfl
  rw [if_neg (show ¬ fieldE (l.getD g default)≠0 from λhh=>hh h4)] at hf;refine W ?_;refine bx (St1.look U U U U U U) ?_;refine W ?_;refine Ci U (λh5=>?_) (λh5=>?_)
  ·rw [if_pos h5] at hf;refine W ?_;refine Rt U U ?_;rw [<- fin,hf];rfl
  rw [if_neg (by rw [h5];simp)] at hf;refine W ?_;refine Mu U U U U h5 U U ?_;refine W ?_;refine⟨g+1,by omega,⟨by omega,?_⟩,⟨U,U,U,U,trivial⟩,?_⟩
  ·rw [htk];exact hf
  ·show WkO [(0,.set (((l.take (g+1)).map (·.oid)).map strV))] _;rw [htk];exact⟨U,trivial⟩
 ·refine W ?_;refine Rt U U ?_;rw [<- fin,hf,List.drop_of_length_le z2_];rfl
instance:Cn prog 86 (type_of% @f5):=⟨@f5⟩
theorem Nl {P:Program} [Tb P] {F:Fd}{n:PostD}{x:Nat->PostD}{a:LO}{o:LQ}{c:Code}(t:Nat) (d:D) (hx:lkA a t=some (.d (.v (.slice none 0 0)))) (hd:∀ h,Den d h (.slice none 0 0)) (kk:JD P F c n x ((t,.d d)::a) o):JD P F c n x a o:=.mk λρ h S L cz=>by
 have h1:look S t=some (.slice none 0 0):=dv (y:=.tmp t) cz hx;refine kk.k ρ h _ _ ⟨cz.t,λu y hy=>?_,cz.o⟩;simp only [lkA] at hy;cases hq:Nat.beq t u with
 |true =>
  obtain rfl:=aq hq;simp only [hq,cond_true,aB] at hy;subst hy;exact⟨_,h1,hd h⟩
 |false=>simp only [hq,cond_false] at hy;exact cz.s u y hy
theorem den_bsnil (h:Part):Den (.bs []) h (.slice none 0 0):=(dm (h:=h)).2 ⟨none,0,U,bu⟩
theorem f0 (l:List Fe) (hl:l.length<=400000) (hB:∀ f∈l,FeS f):FnD prog 235 [.sl 2 Fe.enc l] (.b (refP 0 [] [] l)):=by
 have hs:=qx hB;refine aE func235 U ntmps235 U (λe=>?_);refine W ?_;refine Nl 3 (.bs []) U den_bsnil ?_;refine Lp (γ:=Nat×Txt) (λk=>k.1<=l.length/\refP 0 [] [] l=refP k.1 ((l.take k.1).map (·.oid)) k.2 (l.drop k.1)) (λk=>l.length+1-k.1) (λk=>[(0,.d (.sl 2 Fe.enc l)),(3,.d (.bs k.2)),(4,.d (.i (k.1:Int)))]) (λ_=>[]) (0,[]) ⟨by omega,U⟩ ⟨U,U,U,trivial⟩ trivial ?_;rintro⟨g,prev⟩ ⟨hg,hf⟩;dsimp only at hg hf;show JD _ _ _ _ _ [(0,.d (.sl 2 Fe.enc l)),(3,.d (.bs prev)),(4,.d (.i (g:Int)))] [];have hfe:=hs g;have c1:=gj (l.getD g default) hfe;refine W ?_;refine Ci U (λh3=>?_) (λh3=>?_)
 ·have hlt:g<l.length:=by omega
  have hget:l.getD g default=l[g]:=bG hlt;have hdr:l.drop g=l.getD g default::l.drop (g+1):=by rw [aX hlt,hget]
  have htk:(l.take (g+1)).map (·.oid)=(l.take g).map (·.oid)++[(l.getD g default).oid]:=by rw [am hlt,List.map_append,hget];rfl
  rw [hdr] at hf;simp only [refP] at hf;refine W ?_;refine Bg U U (λh4=>?_) (λh4=>?_)
  ·rw [if_pos h4] at hf;refine W ?_;refine Rt U U ?_;rw [hf];rfl
  rw [if_neg h4] at hf;refine W ?_;refine Bg U U (λh5=>?_) (λh5=>?_)
  ·rw [if_pos h5] at hf;refine W ?_;refine Rt U U ?_;rw [hf];rfl
  rw [if_neg h5] at hf;refine W ?_;refine Ci U (λh6=>?_) (λh6=>?_)
  ·rw [if_pos h6] at hf;refine W ?_;refine Rt U U ?_;rw [hf];rfl
  rw [if_neg h6] at hf;refine W ?_;refine Lp (γ:=Nat) (λj=>j<=g/\(((l.take j).map (·.oid)).any λt=>decide (t=(l.getD g default).oid))=false) (λj=>g+1-j) (λj=>[(0,.d (.sl 2 Fe.enc l)),(4,.d (.i (g:Int))),(5,.d (.bs (fbR (l.getD g default)))),(6,.d (.i (j:Int)))]) (λ_=>[]) 0 ⟨by omega,U⟩ ⟨U,U,U,U,trivial⟩ trivial ?_;rintro j ⟨hj,ha⟩;refine W ?_;refine Ci U (λh7=>?_) (λh7=>?_)
  ·have hltj:j<l.length:=by omega
   have htj:(l.take (j+1)).map (·.oid)=(l.take j).map (·.oid)++[(l.getD j default).oid]:=by rw [am hltj,List.map_append,bG hltj];rfl
   refine W ?_;refine Ci U (λh8=>?_) (λh8=>?_)
   ·refine W ?_;refine Rt U U ?_;rw [hf,if_pos]
    ·rfl
    ·rw [List.any_eq_true];refine⟨(l.getD j default).oid,List.mem_map.2 ⟨l.getD j default,?_,U⟩,aj h8⟩;rw [bG hltj,List.mem_take_iff_getElem];exact⟨j,by omega,U⟩
   ·refine W ?_;refine⟨j+1,by omega,⟨by omega,?_⟩,⟨U,U,U,U,trivial⟩,trivial⟩;rw [htj,List.any_append,ha];simp only [List.any_cons,List.any_nil,au h8,Bool.or_false]
  ·obtain rfl:j=g:=by omega
   rw [ha,if_neg (by simp),<- htk] at hf;refine W ?_;exact⟨(j+1,fbR (l.getD j default)),by simp only;omega,⟨by simp only;omega,hf⟩,⟨U,U,U,trivial⟩,trivial⟩
 ·refine W ?_;refine Rt U U ?_;rw [hf,List.drop_of_length_le z2_];rfl
instance:Cn prog 235 (type_of% @f0):=⟨@f0⟩
def vW:List Txt->Nat
 |[]=>0
 |v::r=>1+v.length+vW r
def fW:List Fe->Nat
 |[]=>0
 |f::r=>1+f.oid.length+vW f.vals+fW r
theorem fvM_eq (m:Int):∀ (l:List Txt) (n:Int),fvM m l n<=m->fvM m l n=n+vW l
 |[],n,_=>by simp [fvM,vW]
 |v::r,n,h=>by
  simp only [fvM] at h |-
  split at h
  ·rename_i hn;rw [if_pos hn,fvM_eq m r _ h];simp only [vW];omega
  ·omega
theorem fsM_eq (m:Int):∀ (l:List Fe) (n:Int),fsM m l n<=m->fsM m l n=n+fW l
 |[],n,_=>by simp [fsM,fW]
 |f::r,n,h=>by
  simp only [fsM] at h |-
  split at h
  ·rename_i hn;rw [if_pos hn];have h1:fvM m f.vals (n+1+f.oid.length)<=m:=by
    by_cases hh:m<fvM m f.vals (n+1+f.oid.length)
    ·rw [uj m _ hh] at h;exact h
    ·omega
   rw [fsM_eq m r _ h,fvM_eq m _ _ h1];simp only [fW];omega
  ·omega
theorem vW_le:∀ (l:List Txt),l.length<=vW l/\∀ v∈l,v.length<=vW l
 |[]=>⟨aL _,λv hv=>by cases hv⟩
 |v::r=>by
  have h:=vW_le r;refine⟨by simp only [vW,aC];omega,λw hw=>?_⟩;simp only [vW];cases hw with
  |head=>omega
  |tail _ hw=>have:=h.2 w hw;omega
theorem fW_le:∀ (l:List Fe),l.length<=fW l/\∀ f∈l,f.oid.length+vW f.vals<=fW l
 |[]=>⟨aL _,λv hv=>by cases hv⟩
 |f::r=>by
  have h:=fW_le r;refine⟨by simp only [fW,aC];omega,λw hw=>?_⟩;simp only [fW];cases hw with
  |head=>omega
  |tail _ hw=>have:=h.2 w hw;omega
theorem t9:∀ (l:List Txt),Nd.szL (l.map λv=>(rdTop v).1)<=vW l
 |[]=>by simp [Nd.szL]
 |v::r=>by
  have h1:=i9 v;have h2:=t9 r;simp only [List.map_cons,Nd.szL,vW];omega
theorem jO:∀ (l:List Fe),Nd.szL (l.map fieldN)<=26*fW l
 |[]=>by simp [Nd.szL]
 |f::r=>by
  have h1:=t9 f.vals;have h2:=jO r;have h3:=dZ f.oid;have h4:(fieldN f).sz<=26*(1+f.oid.length+vW f.vals):=by
   unfold fieldN;split
   ·simp only [setN,Nd.sz,Nd.szL,aG];omega
   ·simp [ndZ0,Nd.sz,Nd.szL];omega
  simp only [List.map_cons,Nd.szL,fW];omega
theorem fu (l:List Fe) (hl:l.length<=400000) (hB:∀ f∈l,FeS f):FnD prog 74 [.sl 2 Fe.enc l] (.nds (l.map fieldN)):=by
 have hs:=qx hB;refine aE func74 U ntmps74 U (λe=>?_);refine W ?_;refine Rn kN 3 35 U U ?_;refine Lp (γ:=Nat) (λg=>g<=l.length) (λg=>l.length+1-g) (λg=>[(3,.row 0),(8,.d (.sl 2 Fe.enc l)),(9,.d (.i (l.length:Int))),(10,.d (.i (g:Int)))]) (λg=>[(0,.row 35 (.nds ((l.take g).map fieldN)))]) 0 z2_ ⟨U,U,U,U,trivial⟩ ⟨U,trivial⟩ ?_;intro g hg;have hfe:=hs g;have c1:=fb (l.getD g default) (Nat.le_trans hfe.1.1 z2_) (Nat.le_trans hfe.2.1 z2_) (λv hv=>Nat.le_trans (hfe.2.2 v hv) z2_);have hml:((l.take g).map fieldN).length<=10000000:=by rw [aD];have:=List.length_take_le' g l;omega
 refine W ?_;refine Ci U (λh3=>?_) (λh3=>?_)
 ·have hlt:g<l.length:=by omega
  have htk:(l.take (g+1)).map fieldN=(l.take g).map fieldN++[fieldN (l.getD g default)]:=by rw [am hlt,List.map_append,bG hlt];rfl
  refine W ?_;refine⟨g+1,by omega,by omega,⟨U,U,U,U,trivial⟩,?_⟩;show WkO [(0,.row 35 (.nds ((l.take (g+1)).map fieldN)))] _;rw [htk];exact⟨U,trivial⟩
 ·have hge:g=l.length:=by omega
  subst hge;rw [List.take_length];refine W ?_;refine Pb 0 U ?_;refine W ?_;exact Rt U U U
instance:Cn prog 74 (type_of% @fu):=⟨@fu⟩
theorem lf (l:List Fe) (hl:l.length<=400000) (hB:∀ f∈l,FeS f):FnD prog 182 [.sl 2 Fe.enc l] (.nds (l.map fieldN)):=by
 have hs:=qx hB;refine aE func182 U ntmps182 U (λe=>?_);refine W ?_;refine Rn kN 3 35 U U ?_;refine Lp (γ:=Nat) (λg=>g<=l.length) (λg=>l.length+1-g) (λg=>[(0,.d (.sl 2 Fe.enc l)),(3,.row 0),(4,.d (.i (g:Int)))]) (λg=>[(0,.row 35 (.nds ((l.take g).map fieldN)))]) 0 z2_ ⟨U,U,U,trivial⟩ ⟨U,trivial⟩ ?_;intro g hg;have hfe:=hs g;have c1:=fP (l.getD g default) (Nat.le_trans hfe.1.1 z2_) (Nat.le_trans hfe.2.1 z2_) (λv hv=>Nat.le_trans (hfe.2.2 v hv) z2_);have hml:((l.take g).map fieldN).length<=10000000:=by rw [aD];have:=List.length_take_le' g l;omega
 refine W ?_;refine Ci U (λh3=>?_) (λh3=>?_)
 ·have hlt:g<l.length:=by omega
  have htk:(l.take (g+1)).map fieldN=(l.take g).map fieldN++[fieldN (l.getD g default)]:=by rw [am hlt,List.map_append,bG hlt];rfl
  refine W ?_;refine⟨g+1,by omega,by omega,⟨U,U,U,trivial⟩,?_⟩;show WkO [(0,.row 35 (.nds ((l.take (g+1)).map fieldN)))] _;rw [htk];exact⟨U,trivial⟩
 ·have hge:g=l.length:=by omega
  subst hge;rw [List.take_length];refine W ?_;refine Pb 0 U ?_;refine W ?_;exact Rt U U U
instance:Cn prog 182 (type_of% @lf):=⟨@lf⟩
theorem th:∀ (l:List Fe) (es:List Txt),seenP es l=true->∀ f∈l,fieldE f=0
 |[],_,_,f,hf=>by cases hf
 |f::r,es,h,g,hg=>by
  simp only [seenP] at h;split at h
  ·cases h
  ·rename_i h1;split at h
   ·cases h
   ·cases hg with
    |head=>exact Decidable.not_not.1 h1
    |tail _ hg=>exact th r _ h g hg
theorem iH (x y:Txt):FnD prog 12 [.bs x,.bs y] (.b (decide (x=y))):=by
 exact aE func12 U ntmps12 U (λe=>Z)
instance:Cn prog 12 (type_of% @iH):=⟨@iH⟩
theorem pq (n:Int):FnD prog 85 [.i n] (.i (shaSize n)):=.mk λh vs hT hd=>by
 obtain⟨v,rfl,h1⟩:=gB hd;rw [dB.1 h1];exact vg.mono λv h' _ e=>⟨_,U,by rw [e];exact cj (h:=h')⟩
instance:Cn prog 85 (type_of% @pq):=⟨@pq⟩
theorem mP (n:Int):FnD prog 129 [.i n] (.i (shaSize n)):=.mk λh vs hT hd=>by
 obtain⟨v,rfl,h1⟩:=gB hd;rw [dB.1 h1];exact lV.mono λv h' _ e=>⟨_,U,by rw [e];exact cj (h:=h')⟩
instance:Cn prog 129 (type_of% @mP):=⟨@mP⟩
theorem te (n:Int):FnD prog 118 [.i n] (.s (oidH n)):=.mk λh vs hT hd=>by
 obtain⟨v,rfl,h1⟩:=gB hd;rw [dB.1 h1];exact vh.d (cj (h:=h))
instance:Cn prog 118 (type_of% @te):=⟨@te⟩
theorem pD (n:Int):FnD prog 75 [.i n] (.s (oidH n)):=.mk λh vs hT hd=>by
 obtain⟨v,rfl,h1⟩:=gB hd;rw [dB.1 h1];exact vk.mono λv h' _ e=>⟨_,U,by rw [e];exact cj (h:=h')⟩
instance:Cn prog 75 (type_of% @pD):=⟨@pD⟩
def digN' (n:Int):Nd:=.mk 0 16 true [] [oiN (oidH n)]
theorem qL (n:Int):FnD prog 64 [.i n] (.nd (digN' n)):=by
 have h1:=oi n;have h2:=dZ (oidH n);have h3:=uC [oiN (oidH n)] (by simp only [Nd.szL];omega);have h4:=qE (oidH n) z2_;exact aE func64 U ntmps64 U (λe=>Z)
instance:Cn prog 64 (type_of% @qL):=⟨@qL⟩
theorem pN (n:Int):FnD prog 31 [.i n] (.nd (digN' n)):=by
 have h1:=oi n;have h3:=mQ (l:=[oiN (oidH n)]);have h4:=kK (s:=oidH n) z2_;exact aE func31 U ntmps31 U (λe=>Z)
instance:Cn prog 31 (type_of% @pN):=⟨@pN⟩
theorem rctx_d (t:Int) (l:LN):FnD prog 34 [.i t,.nds l] (.nd (.mk 2 t true [] l)):=by
 exact aE func34 U ntmps34 U (λe=>Z)
instance:Cn prog 34 (type_of% @rctx_d):=⟨@rctx_d⟩
theorem pI (b:Txt):FnD prog 35 [.bs b] (.nd (.mk 0 4 false b [])):=by
 exact aE func35 U ntmps35 U (λe=>Z)
instance:Cn prog 35 (type_of% @pI):=⟨@pI⟩
theorem mH {n:Int}(h:someH n):algN n=.mk 0 16 true [] [oiN (algO n),.mk 0 5 false [] []]:=by
 unfold algN;rw [if_pos];rcases h with rfl|rfl|rfl<;>kernel_rfl
theorem algN_none {n:Int}(h:¬ someH n):algN n=ndZ0:=by
 unfold someH at h;have e:algO n=[]:=by
  unfold algO;rw [if_neg z2_,if_neg z2_,if_neg z2_]
 unfold algN;rw [e,if_neg (by rw [show(oidB []).isSome=false by kernel_rfl];simp)]
theorem tD (n:Int):FnD prog 183 [.i n] (.nd (algN n)):=by
 refine aE func183 U ntmps183 U (λe=>?_);refine W ?_;refine Ci U (λh=>?_) (λh=>?_)
 ·rw [mH (.inl h)];subst h;refine W ?_;refine Rt U U ?_;rfl
 refine W ?_;refine Ci U (λh2=>?_) (λh2=>?_)
 ·rw [mH (.inr (.inl h2))];subst h2;refine W ?_;refine Rt U U ?_;rfl
 refine W ?_;refine Ci U (λh3=>?_) (λh3=>?_)
 ·rw [mH (.inr (.inr h3))];subst h3;refine W ?_;refine Rt U U ?_;rfl
 rw [algN_none (by unfold someH;omega)];refine W ?_;refine Rt U U ?_;rfl
instance:Cn prog 183 (type_of% @tD):=⟨@tD⟩
theorem un {sz:Nat}:∀ {vs:LV},(∀ c∈vs,c.cells.toList.length=sz)->((vs.map (·.cells.toList)).flatten).length=vs.length*sz
 |[],_=>by simp
 |c::r,h=>by
  have h1:=h c (aK ..);have h2:=un (vs:=r) λc hc=>h c (aP _ hc);simp only [List.map_cons,List.flatten_cons,aU,h1,h2,aC,Nat.add_mul,Nat.one_mul];omega
section
variable {P:Program} [Tb P] {F:Fd}{n:PostD}{x:Nat->PostD}{a b Au:LO}{o ob o':LQ}{ops:Array Oper}{rest:LR}{base:Nat}{es r:List Ef}{c:Code}
variable {d k e bytes len:Nat}{ty T:TypeId}{pos:String}{af:Array Edge}{us:List Nat}{ps:Array (Nat×Operand)}{ds ds':List D}
theorem Obl.lit {α:Type}(K:Kd α) {l:List α}(hk0:keepA us (aR allT b r)=some Au) (hp:evsA Au 0 ps.toList=some ds) (hf:foldQ P e ds=some ds') (hl:litQ P ds'=some (K.f l)) (hT:findP (Tb.ap P) T=some (e,K.sz,bytes)) (h1:Nat.beq K.sz (szD (K.f l))=true) (h2:Nat.beq len ds.length=true) (h3:Nat.ble (len*K.sz) 16777216=true)
 (hd:Nat.blt d F.m=true) :
 Obl P F ops x b ob r (eMk us d k (.row k) (.row e (K.f l))) ⟨some d,.buildSlice T len ps,ty,pos,af,none⟩:=⟨Au,hk0,λn A' O' hA fA fO hn=>.mk λρ h S L cz=>by
 have cu:=cz.wk hA;obtain⟨vs,h4,h5⟩:=ki cu hp;obtain⟨h6,h7,h8,h9⟩:=sj hl (jt hf h5);have e1:=aq h1;have e2:=aq h2;have e3:=h5.len;have e4:len=vs.length:=by omega
 have e5:len*K.sz<=16777216:=by simpa using h3
 obtain⟨_,hn',hc⟩:=K.row.1 h6;have:=K.mono;obtain⟨ps⟩:=ps;refine JL.litG vs (Tb.apt hT) h4 e4 (by rw [e1];exact h7) h3 (Nat.mul_pos z2_ z2_) hd (λbb=>?_);have hlm:len<=140737488355328:=by
  have:len<=len*K.sz:=Nat.le_mul_of_pos_right _ z2_;omega
 have hfl:=un h7;have hmx:l.length<=maxLen:=by
  have q1:(16777216:Nat)<=maxLen:=by decide
  have q2:len<=len*K.sz:=Nat.le_mul_of_pos_right _ z2_;omega
 refine JL.own (L':=.row (some ⟨bb,0,none⟩) l.length e K.sz l.length (vs.map (·.cells.toList)).flatten::L) (λ_ hw=>hw.toRow (by rw [hfl,hn',e1]) hmx) ?_;have cf:=cz.fresh (ρ.ofk_setR k (some ⟨bb,0,none⟩) l.length l.length) fA fO;have en:(ρ.setR k (some ⟨bb,0,none⟩) l.length l.length).n k=l.length:=by simp [Rho.setR]
 have hden:DenO (ρ.setR k (some ⟨bb,0,none⟩) l.length l.length) h ((k,.row e (K.f l))::O') (.row (some ⟨bb,0,none⟩) l.length e K.sz l.length (vs.map (·.cells.toList)).flatten::L) :=
  ⟨_,L,U,⟨(vs.map (·.cells.toList)).flatten,K.sz,by simp [Rho.setR],by rw [en];exact K.row.2 ⟨U,U,hc⟩,by rw [en];omega⟩,cf.o⟩
 have hll:len=l.length:=by omega
 rw [hll];exact a_ ⟨_,_,_,eI (u:=.row k) ⟨cf.t,cf.s,hden⟩ (by simp [Rho.setR,DenA]) d,hn⟩⟩
theorem Xlt {α:Type}(K:Kd α) {l:List α}(hk0:keepA (usesO (.buildSlice T len ps)) a=some Au) (hp:evsA Au 0 ps.toList=some ds) (hf:foldQ P e ds=some ds') (hl:litQ P ds'=some (K.f l)) (hT:findP (Tb.ap P) T=some (e,K.sz,bytes)) (h1:Nat.beq K.sz (szD (K.f l))=true) (h2:Nat.beq len ds.length=true) (h3:Nat.ble (len*K.sz) 16777216=true)
 (hv:nextK a o=some k) (hd:Nat.blt d F.m=true)
 (kk:JX P F ops n x b ob base (eMk (usesO (.buildSlice T len ps)) d k (.row k) (.row e (K.f l))::es) rest ((d,.row k)::a) ((k,.row e (K.f l))::o)) :
 JX P F ops n x b ob base es (⟨some d,.buildSlice T len ps,ty,pos,af,none⟩::rest) a o :=
 JX.put (λha ho=>⟨Obl.lit K (by rw [<- ha];exact hk0) hp hf hl hT h1 h2 h3 hd,by subst ha;rfl,by subst ho;rfl⟩) kk
end
def CvA (y x:A):Prop:=∀ ρ h v,DenA ρ h y v->DenA ρ h x v
theorem CvA.r {y:A}:CvA y y:=λ_ _ _ h=>h
abbrev aZ:=@CvA.r
theorem CvA.q {b:Bool}:CvA (.d (.v (.bool b))) (.d (.bq b)):=λ_ h v k=>by
 rw [dB.1 (show Den (.v (.bool b)) h v from k)];exact(dH (h:=h)).2 U
def WkD:LO->LO->Prop
 |[],_=>True
 |(t,x)::r,a=>(∃ y,lkA a t=some y/\CvA y x)/\WkD r a
theorem WkD.lk {a:LO}{ρ:Rho}{h:Part}{S:Sig}:∀ {aa:LO}{t:Nat}{x:A},WkD aa a->(∀ t x,lkA a t=some x->∃ v,look S t=some v/\DenA ρ h x v)->lkA aa t=some x->∃ v,look S t=some v/\DenA ρ h x v
 |[],t,x,_,_,hx=>by cases hx
 |(u,y)::r,t,x,⟨⟨z,h1,h2⟩,hr⟩,hs,hx=>by
  simp only [lkA] at hx;cases hb:Nat.beq u t with
  |true =>
   obtain rfl:=aq hb;simp only [hb,cond_true,aB] at hx;subst hx;obtain⟨v,g1,g2⟩:=hs _ _ h1;exact⟨v,g1,h2 _ _ _ g2⟩
  |false=>simp only [hb,cond_false] at hx;exact WkD.lk hr hs hx
section
variable {P:Program} [Tb P] {F:Fd}{n:PostD}{x x':Nat->PostD}{a:LO}{o:LQ}{c d:Code}
theorem JD.wd {a':LO}{o':LQ}(hA:WkD a' a) (hO:WkO o' o) (k:JD P F c n x a' o'):JD P F c n x a o:=.mk λρ h S L cz=>by
 obtain⟨L',Lr,h1,h2⟩:=hO.den cz.o;exact J.ents L' h1 (k.k ρ h S L' ⟨cz.t,λt y hy=>hA.lk cz.s hy,h2⟩)
theorem Jm {γ:Type}(aa:γ->LO) (oo:γ->LQ) (I:γ->Prop) (k1:JD P F c (λa1 o1=>∃ g,I g/\WkD (aa g) a1/\WkO (oo g) o1) x a o) (k2:∀ g,I g->JD P F d n x' (aa g) (oo g)):JD P F c (JD P F d n x') x a o :=
 JD.cut k1 (λa1 o1 ⟨g,hI,hA,hO⟩=>(k2 g hI).wd hA hO) (λ_ _ _ h=>h)
end
section
variable {P:Program} [Tb P] {F:Fd}{a:LO}{o:LQ}{ops:Array Oper}{d:Nat}{ty T yt:TypeId}{pos:String}{af:Array Edge}{g:Option (Nat×Bool)}{xo yo:Operand}{p q:Int}{k k':IntKind}
theorem St1.band (hx:evA a xo=some (.d (.v (.int k p)))) (hy:evA a yo=some (.d (.v (.int k q)))) (hg:gdB ops a g=some true) (hd:Nat.blt d F.m=true) :
 St1 P F ops a o ⟨some d,.binOp .and T xo yo yt,ty,pos,af,g⟩ d (.d (.v (.int k (bits .and k p q)))):=.bin hx hy (λ_ _ _ h1 h2=>RunV.and_ h1 h2) hg hd
theorem St1.bor (hx:evA a xo=some (.d (.v (.int k p)))) (hy:evA a yo=some (.d (.v (.int k q)))) (hg:gdB ops a g=some true) (hd:Nat.blt d F.m=true) :
 St1 P F ops a o ⟨some d,.binOp .or T xo yo yt,ty,pos,af,g⟩ d (.d (.v (.int k (bits .or k p q)))):=.bin hx hy (λ_ _ _ h1 h2=>RunV.or_ h1 h2) hg hd
theorem St1.shr_ (hx:evA a xo=some (.d (.v (.int k p)))) (hy:evA a yo=some (.d (.v (.int k' q)))) (h0:0<=q/\q<=k.bits) (hg:gdB ops a g=some true) (hd:Nat.blt d F.m=true) :
 St1 P F ops a o ⟨some d,.binOp .shr T xo yo yt,ty,pos,af,g⟩ d (.d (.v (.int k (p / 2 ^ q.toNat)))):=.bin hx hy (λ_ _ _ h1 h2=>RunV.shr h1 h2 h0.1 h0.2) hg hd
theorem St1.shl_ (hx:evA a xo=some (.d (.v (.int k p)))) (hy:evA a yo=some (.d (.v (.int k' q)))) (h0:0<=q/\q<=k.bits) (hg:gdB ops a g=some true) (hd:Nat.blt d F.m=true) :
 St1 P F ops a o ⟨some d,.binOp .shl T xo yo yt,ty,pos,af,g⟩ d (.d (.v (.int k (k.wrap (p*2 ^ q.toNat))))):=.bin hx hy (λ_ _ _ h1 h2=>RunV.shl h1 h2 h0.1 h0.2) hg hd
end
def basicK (n:Nd):Bool:=isB (kd n 0) 1&&decide ((((kd n 0).bytes.getD 0 0).toNat:Int)=255)
def basicI (n:Nd):Bool:=(kd n 1).intOk&&decide ((kd n 1).tag=2)&&decide (0<=(kd n 1).intV)&&decide ((kd n 1).intV<=255)
def basicB (n:Nd):Bool:=isSeqB n 0 2&&(!decide (0<(n.kids.length:Int))||basicK n)&&(!decide ((n.kids.length:Int)=2)||basicI n)
theorem ri (n:Nd) (c0 c1 c2 c3 c4 c5 c6:D) (hz:n.sz<=1000000):FnB prog 266 283 [.nd n] (.st [c0,c1,c2,c3,c4,c5,c6]) [] (λd _=>d=.b (basicB n)):=by
 have k0:=qh n 0;have k1:=qh n 1;have hi:=@oG (n.kids.getD 1 (.mk 0 0 false [] [])) z2_;unfold basicB basicK basicI kd;refine FnB.intro func266 U ntmps266 U (λe b=>?_);refine W ?_;refine Ci U (λh1=>?_) (λh1=>?_)
 ·refine W ?_;exact RtB 1 U U U U U (by simp_all [resD,nilD])
 have h1':isSeqB n 0 2=true:=by simp_all
 refine W ?_;refine Bg U U (λh2=>?_) (λh2=>?_)
 ·refine W ?_;refine Bg U U (λh3=>?_) (λh3=>?_)
  ·refine W ?_;exact RtB 1 U U U U U (by simp_all [resD,nilD])
  refine W ?_;refine Ci U (λh4=>?_) (λh4=>?_)
  ·refine W ?_;exact RtB 1 U U U U U (by simp_all [resD,nilD])
  have h4':((n.kids.getD 0 (.mk 0 0 false [] [])).bytes.getD 0 0).toNat=255:=by
   have:=h4;omega
  rw [h3.1];refine W ?_;refine Ci U (λh5=>?_) (λh5=>?_)
  ·refine W ?_;refine Bg U U (λh6=>?_) (λh6=>?_)
   ·refine W ?_;exact RtB 1 U U U U U (by simp_all [resD,nilD])
   refine W ?_;refine Bg U U (λh7=>?_) (λh7=>?_)
   ·refine W ?_;exact RtB 1 U U U U U (by simp_all [resD,nilD])
   refine W ?_;refine Bg U U (λh8=>?_) (λh8=>?_)
   ·refine W ?_;exact RtB 1 U U U U U (by simp_all [resD,nilD];omega)
   refine W ?_;refine Ci U (λh9=>?_) (λh9=>?_)
   ·refine W ?_;exact RtB 1 U U U U U (by simp_all [resD,nilD])
   refine W ?_;exact RtB 1 U U U U U (by simp_all [resD,nilD])
  ·refine W ?_;exact RtB 1 U U U U U (by simp_all [resD,nilD])
 ·refine W ?_;refine Ci U (λh5=>?_) (λh5=>?_)
  ·exfalso;omega
  refine W ?_;exact RtB 1 U U U U U (by simp_all [resD,nilD])
theorem bits_last {n:Nd}(h:isB n 3=true):((n.bytes.getD 0 0).toNat:Int)<=7:=by
 have h3:=(jr h bT).2.2;unfold valB bitsB at h3;rw [if_neg bT,if_neg bT,if_pos rfl] at h3;have:=(of_decide_eq_true h3);have h8:¬ 7<byteAt n.bytes 0:=λe=>this.1 (.inr (.inl e));unfold byteAt at h8;omega
section
variable {P:Program} [Tb P] {F:Fd}{n:PostD}{x:Nat->PostD}{a:LO}{o:LQ}{ops:Array Oper}{rest:LR}{d:Nat}{ty:TypeId}{pos:String}{af:Array Edge}{g:Option (Nat×Bool)}{q:Op}
theorem JLD.ug (hg:gdB ops a g=some true) (k:JLD P F ops n x (⟨some d,q,ty,pos,af,none⟩::rest) a o):JLD P F ops n x (⟨some d,q,ty,pos,af,g⟩::rest) a o:=.mk λρ h S L cz=>by
 rcases gdB_t cz hg with rfl|⟨j,dj,b,rfl,h3,h4⟩
 ·exact k.k ρ h S L cz
 ·exact JL.guarded h3 h4 (k.k ρ h S L cz)
end
def oBasic:Txt:=[50,46,53,46,50,57,46,49,57]
def oUsage:Txt:=[50,46,53,46,50,57,46,49,53]
def oUses:Txt:=[50,46,53,46,50,57,46,51,55]
def oSki:Txt:=[50,46,53,46,50,57,46,49,52]
def usageB (n:Nd):Bool:=isB n 3&&decide (2<=(n.bytes.length:Int))&&decide ((n.bytes.length:Int)<=3)&&!decide (bits .and .u8 (((n.bytes.getD ((n.bytes.length:Int)-1).toNat 0).toNat:Int) / 2 ^ ((n.bytes.getD 0 0).toNat:Int).toNat) 1=0)&&!(decide ((n.bytes.length:Int)=3)&&decide (((n.bytes.getD 0 0).toNat:Int)<7))
def usesB (n:Nd):Bool:=isSeqB n 1 32&&n.kids.all λk=>(oidOf k).2
def skiB (n:Nd):Bool:=isB n 4&&decide (1<=(n.bytes.length:Int))&&decide ((n.bytes.length:Int)<=64)
def tellB (x:Xt):Bool:=if x.oid=oBasic then decide ((rdTop x.val).2.2=0)&&basicB (rdTop x.val).1 else if x.oid=oUsage then decide ((rdTop x.val).2.2=0)&&usageB (rdTop x.val).1 else if x.oid=oUses then decide ((rdTop x.val).2.2=0)&&usesB (rdTop x.val).1 else if x.oid=oSki then decide ((rdTop x.val).2.2=0)&&skiB (rdTop x.val).1 else true
theorem tell_o (x:Xt) (c0 c1 c2 c3 c4 c5 c6:D) (hz:(rdTop x.val).1.sz<=1000000) (hn:¬ x.oid=oUsage):FnB prog 240 283 [.st (Xt.enc x)] (.st [c0,c1,c2,c3,c4,c5,c6]) [] (λd _=>d=.b (tellB x)):=by
 have ht:=ri (rdTop x.val).1 c0 c1 c2 c3 c4 c5 c6 hz;refine FnB.intro func240 U ntmps240 U (λe b=>?_);refine W ?_;refine Ci U (λg1=>?_) (λg1=>?_)
 ·have g1':x.oid=oBasic:=g1;have e1:tellB x=(decide ((rdTop x.val).2.2=0)&&basicB (rdTop x.val).1):=by unfold tellB;rw [if_pos g1']
  rw [e1];refine W ?_;refine Bg U U (λh1=>?_) (λh1=>?_)
  ·refine W ?_;refine JLD.ug U ?_;refine Cp (os1:=[.tmp 29]) (os2:=[]) U U U U U U U ht U ?_;rintro d' d1 rfl;refine W ?_;exact RtB 1 U U U U U (by simp_all [resD,nilD])
  ·refine W ?_;exact RtB 1 U U U U U (by simp_all [resD,nilD])
 refine W ?_;refine Ci U (λg2=>?_) (λg2=>?_)
 ·exact absurd g2 hn
 refine W ?_;refine Ci U (λg3=>?_) (λg3=>?_)
 ·have e1:tellB x=(decide ((rdTop x.val).2.2=0)&&usesB (rdTop x.val).1):=by unfold tellB;rw [if_neg (show ¬ x.oid=oBasic from g1),if_neg (show ¬ x.oid=oUsage from g2),if_pos (show x.oid=oUses from g3)]
  rw [e1];refine W ?_;refine Bg U U (λh1=>?_) (λh1=>?_)
  ·refine W ?_;exact RtB 1 U U U U U (by simp_all [resD,nilD])
  refine W ?_;refine Ci U (λh2=>?_) (λh2=>?_)
  ·refine W ?_;exact RtB 1 U U U U U (by simp_all [resD,nilD,usesB])
  refine W ?_;refine Rn (kS 1 strE) 9 9 U U ?_;refine Lp (γ:=Nat) (λg=>g<=(rdTop x.val).1.kids.length/\((rdTop x.val).1.kids.take g).all (λk=>(oidOf k).2)=true) (λg=>(rdTop x.val).1.kids.length+1-g)
   (λg=>[(1,.own 0 0),(9,.row 5),(130,.d (.nds (rdTop x.val).1.kids)),(131,.d (.i ((rdTop x.val).1.kids.length:Int))),(132,.d (.i (g:Int)))])
   (λg=>[(0,.whl 283 (.st [c0,c1,c2,c3,c4,c5,c6])),(1,.pin 0 b),(5,.row 9 (.sl 1 strE (((rdTop x.val).1.kids.take g).map λk=>(oidOf k).1)))]) 0 ⟨by omega,U⟩ ⟨U,U,U,U,U,trivial⟩ ⟨U,U,U,trivial⟩ ?_
  rintro g ⟨hg,hall⟩;have k0:=qh (rdTop x.val).1 g;refine W ?_;refine Ci U (λh3=>?_) (λh3=>?_)
  ·have hl:g<(rdTop x.val).1.kids.length:=by omega
   have ek:kd (rdTop x.val).1 g=(rdTop x.val).1.kids[g]:=by simp [kd,List.getD,hl]
   refine W ?_;refine Ci U (λh4=>?_) (λh4=>?_)
   ·have hb:usesB (rdTop x.val).1=false:=by
     unfold usesB;have:((rdTop x.val).1.kids.all λk=>(oidOf k).2)=false:=by
      rw [List.all_eq_false];refine⟨_,aF hl,?_⟩;rw [<- ek];unfold kd;simp_all
     rw [this,Bool.and_false]
    refine W ?_;exact RtB 1 U U U U U (by rw [hb,Bool.and_false];rfl)
   have hml:(List.map (λk=>(oidOf k).1) (List.take g (rdTop x.val).1.kids)).length<=1000000:=by
    rw [aD];have h1:=n6 (rdTop x.val).1;have h2:(List.take g (rdTop x.val).1.kids).length<=(rdTop x.val).1.kids.length:=List.length_take_le' ..;omega
   refine W ?_;have hk:(oidOf (kd (rdTop x.val).1 g)).2=true:=by unfold kd;simp_all
   have e1:((rdTop x.val).1.kids.take (g+1)).map (λk=>(oidOf k).1)=((rdTop x.val).1.kids.take g).map (λk=>(oidOf k).1)++[(oidOf (kd (rdTop x.val).1 g)).1]:=by
    rw [am hl,List.map_append,ek];rfl
   have e2:((rdTop x.val).1.kids.take (g+1)).all (λk=>(oidOf k).2)=true:=by
    rw [am hl,List.all_append,hall,<- ek];simp [hk]
   refine⟨g+1,by omega,⟨by omega,e2⟩,⟨U,U,U,U,U,trivial⟩,?_⟩;show WkO [(0,.whl 283 (.st [c0,c1,c2,c3,c4,c5,c6])),(1,.pin 0 b),(5,.row 9 (.sl 1 strE (((rdTop x.val).1.kids.take (g+1)).map λk=>(oidOf k).1)))] _;rw [e1];exact⟨U,U,U,trivial⟩
  ·have hge:g=(rdTop x.val).1.kids.length:=by omega
   subst hge;rw [List.take_length] at hall;have hb:usesB (rdTop x.val).1=true:=by unfold usesB;rw [h2.1,hall];rfl
   refine W ?_;exact RtB 1 U U U U U (by rw [hb,aj (show(rdTop x.val).2.2=0 from h1)];rfl)
 refine W ?_;refine Ci U (λg4=>?_) (λg4=>?_)
 ·have e1:tellB x=(decide ((rdTop x.val).2.2=0)&&skiB (rdTop x.val).1):=by unfold tellB;rw [if_neg (show ¬ x.oid=oBasic from g1),if_neg (show ¬ x.oid=oUsage from g2),if_neg (show ¬ x.oid=oUses from g3),if_pos (show x.oid=oSki from g4)]
  rw [e1];refine W ?_;refine Bg U U (λh1=>?_) (λh1=>?_)
  ·refine W ?_;exact RtB 1 U U U U U (by simp_all [resD,nilD])
  refine W ?_;refine Bg U U (λh2=>?_) (λh2=>?_)
  ·refine W ?_;exact RtB 1 U U U U U (by simp_all [resD,nilD,skiB])
  refine W ?_;refine Bg U U (λh3=>?_) (λh3=>?_)
  ·refine W ?_;exact RtB 1 U U U U U (by simp_all [resD,nilD,skiB];try omega)
  refine W ?_;refine Ci U (λh4=>?_) (λh4=>?_)
  ·refine W ?_;exact RtB 1 U U U U U (by simp_all [resD,nilD,skiB];try omega)
  refine W ?_;exact RtB 1 U U U U U (by simp_all [resD,nilD,skiB];try omega)
 have e1:tellB x=true:=by unfold tellB;rw [if_neg (show ¬ x.oid=oBasic from g1),if_neg (show ¬ x.oid=oUsage from g2),if_neg (show ¬ x.oid=oUses from g3),if_neg (show ¬ x.oid=oSki from g4)]
 rw [e1];refine W ?_;exact RtB 1 U U U U U U
theorem tell_u (x:Xt) (c0 c1 c2 c3 c4 c5 c6:D) (hz:(rdTop x.val).1.sz<=1000000) (hu:x.oid=oUsage):FnB prog 240 283 [.st (Xt.enc x)] (.st [c0,c1,c2,c3,c4,c5,c6]) [] (λd _=>d=.b (tellB x)):=by
 refine FnB.intro func240 U ntmps240 U (λe b=>?_);refine W ?_;refine Ci U (λg1=>?_) (λg1=>?_)
 ·rw [hu] at g1;exact absurd g1 bT
 refine W ?_;refine Ci U (λg2=>?_) (λg2=>absurd hu g2);have e1:tellB x=(decide ((rdTop x.val).2.2=0)&&usageB (rdTop x.val).1):=by unfold tellB;rw [if_neg (show ¬ x.oid=oBasic from g1),if_pos (show x.oid=oUsage from g2)]
 rw [e1];have kb:=dQ (rdTop x.val).1;generalize (rdTop x.val).1=n at *;generalize (rdTop x.val).2.2=cd at *
 repeat (refine JD.seq ?_)
 refine Jm (γ:=Bool) (λg=>[(1,.own 0 0),(5,.own 3 0),(83,.d (.bq g))]) (λ_=>[(0,.whl 283 (.st [c0,c1,c2,c3,c4,c5,c6])),(1,.pin 0 b),(3,.whl 35 (.nd n))]) (λg=>(decide (cd=0)&&usageB n)=!g) ?_ ?_
 ·refine W ?_;refine BXl 37 U (λhc h1=>?_) (λhc h1=>?_)
  ·rw [hc];refine W ?_;exact⟨true,by simp_all,⟨⟨_,U,aZ⟩,⟨_,U,aZ⟩,⟨_,U,CvA.q⟩,trivial⟩,⟨U,U,U,trivial⟩⟩
  rw [hc];refine W ?_;refine BXl 42 U (λhd h2=>?_) (λhd h2=>?_)
  ·rw [hd];refine W ?_;exact⟨true,by simp_all [usageB],⟨⟨_,U,aZ⟩,⟨_,U,aZ⟩,⟨_,U,CvA.q⟩,trivial⟩,⟨U,U,U,trivial⟩⟩
  rw [hd];refine W ?_;refine BXl 48 U (λhe h3=>?_) (λhe h3=>?_)
  ·rw [he];refine W ?_;exact⟨true,by simp_all [usageB];try omega,⟨⟨_,U,aZ⟩,⟨_,U,aZ⟩,⟨_,U,CvA.q⟩,trivial⟩,⟨U,U,U,trivial⟩⟩
  rw [he];refine W ?_;refine BXl 54 U (λhf h4=>?_) (λhf h4=>?_)
  ·rw [hf];refine W ?_;exact⟨true,by simp_all [usageB];try omega,⟨⟨_,U,aZ⟩,⟨_,U,aZ⟩,⟨_,U,CvA.q⟩,trivial⟩,⟨U,U,U,trivial⟩⟩
  rw [hf];refine W ?_;have hb7:=bits_last h2.1;refine cK U (St1.shr_ U U ⟨Int.natCast_nonneg _,show _<=(8:Int) by omega⟩ U U) ?_;refine W ?_;refine cK U (St1.band U U U U) ?_;refine W ?_;refine BXl 71 U (λhg h5=>?_) (λhg h5=>?_)
  ·rw [hg];refine W ?_;exact⟨true,by simp_all [usageB];try omega,⟨⟨_,U,aZ⟩,⟨_,U,aZ⟩,⟨_,U,CvA.q⟩,trivial⟩,⟨U,U,U,trivial⟩⟩
  rw [hg];have hu4:isB n 3=true:=h2.1;have q0:(decide (cd=0)&&usageB n)=!(decide ((n.bytes.length:Int)=3)&&decide (((n.bytes.getD 0 0).toNat:Int)<7)):=by
   unfold usageB;rw [hu4,aj (show cd=0 by simpa using h1),aj (show 2<=(n.bytes.length:Int) by omega),aj (show(n.bytes.length:Int)<=3 by omega),au h5];rfl
  rw [q0];refine W ?_;refine BXl 76 U (λhi h6=>?_) (λhi h6=>?_)
  ·rw [hi];refine W ?_;exact⟨decide (((n.bytes.getD 0 0).toNat:Int)<7),by rw [Bool.true_and],⟨⟨_,U,aZ⟩,⟨_,U,aZ⟩,⟨_,U,aZ⟩,trivial⟩,⟨U,U,U,trivial⟩⟩
  ·rw [hi];refine W ?_;exact⟨false,U,⟨⟨_,U,aZ⟩,⟨_,U,aZ⟩,⟨_,U,CvA.q⟩,trivial⟩,⟨U,U,U,trivial⟩⟩
 rintro g hg;rw [hg];refine Ci U (λh7=>?_) (λh7=>?_)
 ·rw [h7];refine W ?_;exact RtB 1 U U U U U U
 subst h7;have hU:usageB n=true:=by cases hh:usageB n<;>simp_all
 have hl:2<=(n.bytes.length:Int)/\(n.bytes.length:Int)<=3:=by
  unfold usageB at hU;simp only [Bool.and_eq_true,ax] at hU;exact⟨hU.1.1.1.2,hU.1.1.2⟩
 clear hg;refine W ?_;refine bx (St1.mul U U z2_ U U) ?_;refine W ?_;refine Lp (γ:=Nat×Int) (λg=>True) (λg=>100-g.1) (λg=>[(1,.own 0 0),(5,.own 3 0),(94,.d (.i (8*((n.bytes.length:Int)-1)))),(95,.d (.i (g.1:Int)))])
  (λg=>[(0,.var 283 [.d c0,.d c1,.d c2,.d (.v (.bool true)),.d (.i g.2),.d c5,.d c6]),(1,.pin 0 b),(3,.whl 35 (.nd n))]) (0,0) trivial ⟨U,U,U,U,trivial⟩ ⟨U,U,U,trivial⟩ ?_
 rintro⟨g,u⟩ _;show JD _ _ _ _ _ [(1,.own 0 0),(5,.own 3 0),(94,.d (.i (8*((n.bytes.length:Int)-1)))),(95,.d (.i (g:Int)))] [(0,.var 283 [.d c0,.d c1,.d c2,.d (.v (.bool true)),.d (.i u),.d c5,.d c6]),(1,.pin 0 b),(3,.whl 35 (.nd n))];refine W ?_;refine Ci U (λh8=>?_) (λh8=>?_)
 ·refine W ?_;refine cK U (St1.quo U U z2_ U U) ?_;refine W ?_;refine cK U (St1.rem U U z2_ U U) ?_;refine cK U (St1.shr_ U U ⟨by omega,show _<=(8:Int) by omega⟩ U U) ?_;refine cK U (St1.band U U U U) ?_;refine W ?_;refine Ci U (λh9=>?_) (λh9=>?_)
  ·refine W ?_;refine cK U (St1.shl_ U U ⟨by omega,show _<=(64:Int) by omega⟩ U U) ?_;refine cK U (St1.bor U U U U) ?_;refine W ?_;exact⟨(g+1,_),by simp only;omega,trivial,⟨U,U,U,U,trivial⟩,⟨U,U,U,trivial⟩⟩
  ·refine W ?_;exact⟨(g+1,u),by simp only;omega,trivial,⟨U,U,U,U,trivial⟩,⟨U,U,U,trivial⟩⟩
 ·refine W ?_;exact RtB 1 U U U U U U
theorem tell_b (x:Xt) (c0 c1 c2 c3 c4 c5 c6:D) (hz:(rdTop x.val).1.sz<=1000000):FnB prog 240 283 [.st (Xt.enc x)] (.st [c0,c1,c2,c3,c4,c5,c6]) [] (λd _=>d=.b (tellB x)):=by
 by_cases h:x.oid=oUsage
 ·exact tell_u x c0 c1 c2 c3 c4 c5 c6 hz h
 ·exact tell_o x c0 c1 c2 c3 c4 c5 c6 hz h
theorem sJ (x:Xt) (hz:(rdTop x.val).1.sz<=1000000):FnD prog 188 [.st (Xt.enc x)] (.b (tellB x)):=by
 refine aE func188 U ntmps188 U (λe=>?_);refine W ?_;refine Cp (os1:=[.tmp 3]) (os2:=[]) U U U U U U U (tell_b x _ _ _ _ _ _ _ hz) U ?_;rintro d' d1 rfl;refine W ?_;exact Rt U U U
instance:Cn prog 188 (type_of% @sJ):=⟨@sJ⟩
theorem month_d (y m:Int) (h0:0<=y):FnD prog 250 [.i y,.i m] (.i (monthI y m)):=.mk λh vs hT hd=>by
 unfold DenT at hd;obtain⟨v1,t1,rfl,h1,hd⟩:=hd;unfold DenT at hd;obtain⟨v2,t2,rfl,h2,hd⟩:=hd;unfold DenT at hd;subst hd;rw [dB.1 h1,dB.1 h2];exact(ow y m h h0).d (cj (h:=h))
theorem uK (y:Int) (h0:0<=y/\y<=1000000):FnD prog 251 [.i y] (.i (beforeI y)):=.mk λh vs hT hd=>by
 unfold DenT at hd;obtain⟨v1,t1,rfl,h1,hd⟩:=hd;unfold DenT at hd;subst hd;rw [dB.1 h1];exact(qT y h h0.1 h0.2).d (cj (h:=h))
instance:Cn prog 250 (type_of% @month_d):=⟨@month_d⟩
instance:Cn prog 251 (type_of% @uK):=⟨@uK⟩
def yGo (D:Int):Nat->Int->Int
 |0,y=>y
 |k+1,y=>if beforeI (y+1)<=D then yGo D k (y+1) else y
def mGo (y:Int):Nat->Int->Int->Int×Int
 |0,d,m=>(d,m)
 |k+1,d,m=>if monthI y m<=d then mGo y k (d-monthI y m) (m+1) else(d,m)
def dayO (t:Int):Int:=(t - -62167219200) / 86400
def yearO (t:Int):Int:=yGo (dayO t) 10010 (dayO t / 366)
def dateO (t:Int):Int×Int×Int:=(yearO t,(mGo (yearO t) 400 (dayO t-beforeI (yearO t)) 1).2,(mGo (yearO t) 400 (dayO t-beforeI (yearO t)) 1).1+1)
theorem fJ (y:Int) (h:0<=y):365*y<=beforeI y:=by unfold beforeI;split<;>omega
theorem ky (y:Int) (h:0<=y):beforeI y<=366*y:=by unfold beforeI;split<;>omega
theorem vU (y:Int) (h:0<=y):beforeI (y+1)<=beforeI y+366:=by unfold beforeI;(repeat' split)<;>omega
theorem date_d (t:Int) (h0:-62167219200<=t/\t<=253402300799):FnD prog 255 [.i t] (.tup [.i (dateO t).1,.i (dateO t).2.1,.i (dateO t).2.2,.i 0]):=by
 have hD0:0<=dayO t:=by unfold dayO;omega
 have hD1:dayO t<=3652424:=by unfold dayO;omega
 refine aE func255 U ntmps255 U (λe=>?_);refine W ?_;refine Bg U U (λ_=>?_) (λ_=>?_)
 ·exfalso;omega
 refine W ?_;refine Ci U (λ_=>?_) (λ_=>?_)
 ·exfalso;omega
 refine W ?_;refine Lp (γ:=Nat×Int) (λg=>0<=g.2/\beforeI g.2<=dayO t/\yGo (dayO t) g.1 g.2=yearO t/\10010<=(g.1:Int)+g.2) (λg=>g.1) (λg=>[(6,.d (.i (dayO t))),(7,.d (.i g.2))]) (λ_=>[]) (10010,dayO t / 366)
  ⟨by simp only;omega,by have:=ky (dayO t / 366) z2_;simp only;omega,U,by simp only;omega⟩ ⟨U,U,trivial⟩ trivial ?_
 rintro⟨k,y⟩ ⟨i0,i1,i2,i3⟩;dsimp only at i0 i1 i2 i3;show JD _ _ _ _ _ [(6,.d (.i (dayO t))),(7,.d (.i y))] [];have lo:=fJ y i0;obtain⟨k,rfl⟩:∃ k',k=k'+1:=⟨k-1,by omega⟩;simp only [yGo] at i2;refine W ?_;refine Ci U (λhc=>?_) (λhc=>?_)
 ·rw [if_pos hc] at i2;refine W ?_;exact⟨(k,y+1),by simp only;omega,⟨by simp only;omega,hc,i2,by simp only;omega⟩,⟨U,U,trivial⟩,trivial⟩
 rw [if_neg hc] at i2;subst i2;have nx:=vU (yearO t) i0;have bd:=iB (yearO t) i0 z2_;refine W ?_;refine Lp (γ:=Nat×Int×Int) (λg=>0<=g.2.1/\1<=g.2.2/\28*(g.2.2-1)+g.2.1<=366/\mGo (yearO t) g.1 g.2.1 g.2.2=mGo (yearO t) 400 (dayO t-beforeI (yearO t)) 1/\g.2.1<(g.1:Int)) (λg=>g.1)
  (λg=>[(6,.d (.i g.2.1)),(7,.d (.i (yearO t))),(8,.d (.i g.2.2))]) (λ_=>[]) (400,dayO t-beforeI (yearO t),1)
  ⟨by simp only;omega,by simp only;omega,by simp only;omega,U,by simp only;omega⟩ ?_ trivial ?_
 ·exact⟨U,U,U,trivial⟩
 rintro⟨k,d,m⟩ ⟨j0,j1,j2,j3,j4⟩;dsimp only at j0 j1 j2 j3 j4;show JD _ _ _ _ _ [(6,.d (.i d)),(7,.d (.i (yearO t))),(8,.d (.i m))] [];obtain⟨k,rfl⟩:∃ k',k=k'+1:=⟨k-1,by omega⟩;have mb:=dR (yearO t) m;rw [mGo] at j3;refine W ?_;refine Ci U (λhc2=>?_) (λhc2=>?_)
 ·rw [if_pos hc2] at j3;refine W ?_;exact⟨(k,d-monthI (yearO t) m,m+1),by simp only;omega,⟨by simp only;omega,by simp only;omega,by simp only;omega,j3,by simp only;omega⟩,⟨U,U,U,trivial⟩,trivial⟩
 rw [if_neg hc2] at j3;refine W ?_;refine Rt U U ?_;simp only [dateO,<- j3];rfl
instance:Cn prog 255 (type_of% @date_d):=⟨@date_d⟩
theorem mGo_bd (y:Int):∀ (k:Nat) (d m:Int),0<=d->0<=m->0<=(mGo y k d m).1/\(mGo y k d m).1<=d/\m<=(mGo y k d m).2/\(mGo y k d m).2<=m+k
 |0,d,m,h,h2=>by simp [mGo];omega
 |k+1,d,m,h,h2=>by
  have:=dR y m;rw [mGo];split
  ·have:=mGo_bd y k (d-monthI y m) (m+1) z2_ z2_;omega
  ·simp only;omega
theorem yGo_bd (D:Int):∀ (k:Nat) (y:Int),0<=y->beforeI y<=D->0<=yGo D k y/\beforeI (yGo D k y)<=D
 |0,y,h,h2=>by simp [yGo];omega
 |k+1,y,h,h2=>by
  rw [yGo];split
  ·exact yGo_bd D k (y+1) z2_ z7_
  ·exact⟨h,h2⟩
theorem kj (t:Int) (h0:-62167219200<=t/\t<=253402300799):0<=(dateO t).1/\(dateO t).1<=10010/\0<=(dateO t).2.1/\(dateO t).2.1<=401/\0<=(dateO t).2.2/\(dateO t).2.2<=3652425:=by
 have hD0:0<=dayO t:=by unfold dayO;omega
 have hD1:dayO t<=3652424:=by unfold dayO;omega
 have h1:=ky (dayO t / 366) z2_;have h2:=yGo_bd (dayO t) 10010 (dayO t / 366) z2_ z2_;have h3:0<=yearO t/\beforeI (yearO t)<=dayO t:=h2;have h4:=fJ (yearO t) h3.1;have h5:=mGo_bd (yearO t) 400 (dayO t-beforeI (yearO t)) 1 z2_ z2_;have h6:=iB (yearO t) h3.1 z2_;unfold dateO;dsimp only;omega
def nthO (t:Int):Nat->Int
 |0=>(dateO t).2.1
 |1=>(dateO t).2.2
 |2=>(t - -62167219200) % 86400 / 3600
 |3=>(t - -62167219200) % 86400 / 60 % 60
 |_=>(t - -62167219200) % 86400 % 60
def accO (t y:Int) (w:Nat):Nat->Txt
 |0=>dgs y.toNat w
 |g+1=>accO t y w g++dgs (nthO t g).toNat 2
theorem nth_bd (t:Int) (h0:-62167219200<=t/\t<=253402300799) (g:Nat):0<=nthO t g/\nthO t g<=4000000:=by
 have bd:=kj t h0;unfold nthO;split<;>omega
theorem lD (t y:Int) (w:Nat):∀ g,(accO t y w g).length<=20*(g+1)
 |0=>dp _ _
 |g+1=>by have:=dp (nthO t g).toNat 2;have:=lD t y w g;simp only [accO,aU];omega
theorem v8 (t:Int) (h0:-62167219200<=t/\t<=253402300799):FnD prog 226 [.i t,.i 2] (.bs (accO t ((dateO t).1 % 100) 2 5)):=by
 have bd:=kj t h0;refine aE func226 U ntmps226 U (λe=>?_);refine W ?_;refine Cw0 U U U U U (eE (n:=((dateO t).1 % 100).toNat) (least:=2) z2_ U z2_ z2_ (by simp)) ?_;refine W ?_;refine bx (St1.bAr (zs:=List.replicate 5 (.int .i64 0)) cP U U U U U) ?_;refine W ?_;refine Lp (γ:=Nat) (λg=>g<=5) (λg=>6-g) (λg=>[(10,.row 0),(40,.d (.st [.i (nthO t 0),.i (nthO t 1),.i (nthO t 2),.i (nthO t 3),.i (nthO t 4)])),(41,.d (.i (g:Int)))]) (λg=>[(0,.row 5 (.bs (accO t ((dateO t).1 % 100) 2 g)))]) 0 z2_ ⟨U,U,U,trivial⟩ ⟨U,trivial⟩ ?_;intro g hg;have nb:∀ g,0<=nthO t g/\nthO t g<=4000000:=nth_bd t h0;have ab:=lD t ((dateO t).1 % 100) 2;obtain rfl|rfl|rfl|rfl|rfl|rfl:g=0\/g=1\/g=2\/g=3\/g=4\/g=5:=by omega
 ·have nb0:=nb 0;refine W ?_;refine bx (St1.ixAr (len:=5) 0 cP U U U U U U U) ?_;refine W ?_;refine Cw U U U U U (eE (l:=accO t ((dateO t).1 % 100) 2 0) (n:=(nthO t 0).toNat) (least:=2) z2_ U z2_ z2_ (by have:=ab 0;omega)) U U ?_;refine W ?_;exact⟨1,by omega,by omega,⟨U,U,U,trivial⟩,⟨U,trivial⟩⟩
 ·have nb0:=nb 1;refine W ?_;refine bx (St1.ixAr (len:=5) 1 cP U U U U U U U) ?_;refine W ?_;refine Cw U U U U U (eE (l:=accO t ((dateO t).1 % 100) 2 1) (n:=(nthO t 1).toNat) (least:=2) z2_ U z2_ z2_ (by have:=ab 1;omega)) U U ?_;refine W ?_;exact⟨2,by omega,by omega,⟨U,U,U,trivial⟩,⟨U,trivial⟩⟩
 ·have nb0:=nb 2;refine W ?_;refine bx (St1.ixAr (len:=5) 2 cP U U U U U U U) ?_;refine W ?_;refine Cw U U U U U (eE (l:=accO t ((dateO t).1 % 100) 2 2) (n:=(nthO t 2).toNat) (least:=2) z2_ U z2_ z2_ (by have:=ab 2;omega)) U U ?_;refine W ?_;exact⟨3,by omega,by omega,⟨U,U,U,trivial⟩,⟨U,trivial⟩⟩
 ·have nb0:=nb 3;refine W ?_;refine bx (St1.ixAr (len:=5) 3 cP U U U U U U U) ?_;refine W ?_;refine Cw U U U U U (eE (l:=accO t ((dateO t).1 % 100) 2 3) (n:=(nthO t 3).toNat) (least:=2) z2_ U z2_ z2_ (by have:=ab 3;omega)) U U ?_;refine W ?_;exact⟨4,by omega,by omega,⟨U,U,U,trivial⟩,⟨U,trivial⟩⟩
 ·have nb0:=nb 4;refine W ?_;refine bx (St1.ixAr (len:=5) 4 cP U U U U U U U) ?_;refine W ?_;refine Cw U U U U U (eE (l:=accO t ((dateO t).1 % 100) 2 4) (n:=(nthO t 4).toNat) (least:=2) z2_ U z2_ z2_ (by have:=ab 4;omega)) U U ?_;refine W ?_;exact⟨5,by omega,by omega,⟨U,U,U,trivial⟩,⟨U,trivial⟩⟩
 ·refine W ?_;exact Rt U U U
theorem v7 (t:Int) (h0:-62167219200<=t/\t<=253402300799):FnD prog 226 [.i t,.i 4] (.bs (accO t ((dateO t).1) 4 5)):=by
 have bd:=kj t h0;refine aE func226 U ntmps226 U (λe=>?_);refine W ?_;refine Cw0 U U U U U (eE (n:=((dateO t).1).toNat) (least:=4) z2_ U z2_ z2_ (by simp)) ?_;refine W ?_;refine bx (St1.bAr (zs:=List.replicate 5 (.int .i64 0)) cP U U U U U) ?_;refine W ?_;refine Lp (γ:=Nat) (λg=>g<=5) (λg=>6-g) (λg=>[(10,.row 0),(40,.d (.st [.i (nthO t 0),.i (nthO t 1),.i (nthO t 2),.i (nthO t 3),.i (nthO t 4)])),(41,.d (.i (g:Int)))]) (λg=>[(0,.row 5 (.bs (accO t ((dateO t).1) 4 g)))]) 0 z2_ ⟨U,U,U,trivial⟩ ⟨U,trivial⟩ ?_;intro g hg;have nb:∀ g,0<=nthO t g/\nthO t g<=4000000:=nth_bd t h0;have ab:=lD t ((dateO t).1) 4;obtain rfl|rfl|rfl|rfl|rfl|rfl:g=0\/g=1\/g=2\/g=3\/g=4\/g=5:=by omega
 ·have nb0:=nb 0;refine W ?_;refine bx (St1.ixAr (len:=5) 0 cP U U U U U U U) ?_;refine W ?_;refine Cw U U U U U (eE (l:=accO t ((dateO t).1) 4 0) (n:=(nthO t 0).toNat) (least:=2) z2_ U z2_ z2_ (by have:=ab 0;omega)) U U ?_;refine W ?_;exact⟨1,by omega,by omega,⟨U,U,U,trivial⟩,⟨U,trivial⟩⟩
 ·have nb0:=nb 1;refine W ?_;refine bx (St1.ixAr (len:=5) 1 cP U U U U U U U) ?_;refine W ?_;refine Cw U U U U U (eE (l:=accO t ((dateO t).1) 4 1) (n:=(nthO t 1).toNat) (least:=2) z2_ U z2_ z2_ (by have:=ab 1;omega)) U U ?_;refine W ?_;exact⟨2,by omega,by omega,⟨U,U,U,trivial⟩,⟨U,trivial⟩⟩
 ·have nb0:=nb 2;refine W ?_;refine bx (St1.ixAr (len:=5) 2 cP U U U U U U U) ?_;refine W ?_;refine Cw U U U U U (eE (l:=accO t ((dateO t).1) 4 2) (n:=(nthO t 2).toNat) (least:=2) z2_ U z2_ z2_ (by have:=ab 2;omega)) U U ?_;refine W ?_;exact⟨3,by omega,by omega,⟨U,U,U,trivial⟩,⟨U,trivial⟩⟩
 ·have nb0:=nb 3;refine W ?_;refine bx (St1.ixAr (len:=5) 3 cP U U U U U U U) ?_;refine W ?_;refine Cw U U U U U (eE (l:=accO t ((dateO t).1) 4 3) (n:=(nthO t 3).toNat) (least:=2) z2_ U z2_ z2_ (by have:=ab 3;omega)) U U ?_;refine W ?_;exact⟨4,by omega,by omega,⟨U,U,U,trivial⟩,⟨U,trivial⟩⟩
 ·have nb0:=nb 4;refine W ?_;refine bx (St1.ixAr (len:=5) 4 cP U U U U U U U) ?_;refine W ?_;refine Cw U U U U U (eE (l:=accO t ((dateO t).1) 4 4) (n:=(nthO t 4).toNat) (least:=2) z2_ U z2_ z2_ (by have:=ab 4;omega)) U U ?_;refine W ?_;exact⟨5,by omega,by omega,⟨U,U,U,trivial⟩,⟨U,trivial⟩⟩
 ·refine W ?_;exact Rt U U U
def wrO (t w:Int):Txt:=accO t (if w=2 then(dateO t).1 % 100 else(dateO t).1) w.toNat 5
theorem ph (t w:Int) (h0:-62167219200<=t/\t<=253402300799) (hw:w=2\/w=4):FnD prog 226 [.i t,.i w] (.bs (wrO t w)):=by
 rcases hw with rfl|rfl
 ·exact v8 t h0
 ·exact v7 t h0
instance:Cn prog 226 (type_of% @ph):=⟨@ph⟩
theorem nz (t w:Int):(wrO t w).length<=200:=Nat.le_trans (lD _ _ _ 5) z2_
def shortO (t:Int):Option Txt:=if t < -631152000\/2524607999<t then none else some (wrO t 2++[90])
theorem short_d (t:Int):FnD prog 170 [.i t] (.tup [.s ((shortO t).getD []),.i (if(shortO t).isSome then 0 else 21)]):=by
 have hl:=nz t 2;unfold shortO;refine aE func170 U ntmps170 U (λe=>?_);refine W ?_;refine Bg U U (λ_=>?_) (λ_=>?_)
 ·exact Z
 refine W ?_;refine Ci U (λ_=>?_) (λ_=>?_)
 ·exact Z
 exact Z
instance:Cn prog 170 (type_of% @short_d):=⟨@short_d⟩
def longO (t:Int):Option Txt:=if t < -62167219200\/253402300799<t then none else some (wrO t 4++[90])
theorem long_d (t:Int):FnD prog 171 [.i t,.i 0] (.tup [.s ((longO t).getD []),.i (if(longO t).isSome then 0 else 21)]):=by
 have hl:=nz t 4;unfold longO;refine aE func171 U ntmps171 U (λe=>?_);refine W ?_;refine Bg U U (λ_=>?_) (λ_=>?_)
 ·exact Z
 refine W ?_;refine Ci U (λ_=>?_) (λ_=>?_)
 ·exact Z
 exact Z
instance:Cn prog 171 (type_of% @long_d):=⟨@long_d⟩
theorem jP (t:Int):((shortO t).getD []).length<=201:=by
 have:=nz t 2;unfold shortO;split<;>simp;omega
theorem mm (t:Int):((longO t).getD []).length<=201:=by
 have:=nz t 4;unfold longO;split<;>simp;omega
theorem ite21 (b:Bool):((if b=true then(0:Int) else 21)=0)=(b=true):=by cases b<;>simp
def timeN (t:Int):Nd:=if(shortO t).isSome then .mk 0 23 false ((shortO t).getD []) [] else if(longO t).isSome then .mk 0 24 false ((longO t).getD []) [] else ndZ0
def timeE (t:Int):Int:=if(shortO t).isSome then 0 else if(longO t).isSome then 0 else 21
theorem time_d (t:Int):FnD prog 121 [.i t] (.tup [.nd (timeN t),.i (timeE t)]):=by
 have h1:=jP t;have h2:=mm t;unfold timeN timeE;refine aE func121 U ntmps121 U (λe=>?_);refine W ?_;refine Ci U (λh=>?_) (λh=>?_)
 ·rw [ite21] at h;refine W ?_;refine Rt U U ?_;simp [resD,h]
 rw [ite21] at h;refine W ?_;refine Ci U (λg=>?_) (λg=>?_)
 ·have g':(longO t).isSome=false:=by cases hh:(longO t).isSome<;>simp_all
  refine W ?_;refine Rt U U ?_;simp [resD,h,g']
 have g':(longO t).isSome=true:=by cases hh:(longO t).isSome<;>simp_all
 refine W ?_;refine Rt U U ?_;simp [resD,h,g']
instance:Cn prog 121 (type_of% @time_d):=⟨@time_d⟩
section
variable {P:Program} [Tb P] {F:Fd}{n:PostD}{x:Nat->PostD}{a b Au:LO}{o ob o':LQ}{ops:Array Oper}{rest:LR}{base:Nat}{es r:List Ef}{c:Code}
variable {d k v e bytes Fi:Nat}{ty T:TypeId}{pos:String}{af:Array Edge}{xo yo:Operand}{us:List Nat}{d2:D}
theorem Obl.appD {α:Type}(K:Kd α) {l1 l2:List α}(hk0:keepA us (aR allT b r)=some Au) (hx:evA Au xo=some (.row k)) (hk:lkO (oS ob r) k=some (.row e (K.f l1))) (hy:evA Au yo=some (.d d2)) (hd2:nilD P T d2=K.f l2) (hT:findP (Tb.ap P) T=some (e,K.sz,bytes))
 (hb:(l1.length+l2.length)*bytes<=140737488355328) (hb0:Nat.blt 0 bytes=true) (hd:Nat.blt d F.m=true) :
 Obl P F ops x b ob r ⟨us,none,some (d,.d (K.f (l1++l2))),some (k,.rowv v e (K.f [])),false,some v⟩ ⟨some d,.call { callee:=.builtin .append,args:=#[xo,yo],argTypes:=#[T,T] },ty,pos,af,none⟩:=⟨Au,hk0,_,hk,λn A' O' hA hO hfr hn=>.mk λρ h S L cz=>by
 obtain⟨fA,fO⟩:=hfr v U;have cu:=cz.wk hA;obtain⟨w1,h1,h2⟩:=cE cu hx;cases h2;obtain⟨w,h3,h4⟩:=cE cu hy;have h5:=gR (P:=P) (T:=T) h w h4;rw [hd2] at h5;obtain⟨a2,c2,rfl,hR⟩:=K.den.1 h5;obtain⟨y,L',hD,⟨xs,sz,rfl,hRow,hbig⟩,hr⟩:=cz.o.get hO;obtain⟨rfl,hn',hc⟩:=K.row.1 hRow;have:=K.mono;refine bX (Tb.apt hT) h1 h3 hc hn' hR U hD hb hd hb0 (λaN cN xsN hcN hbN=>?_);refine cW .here hcN U hbN (λh' hle hS=>?_);refine JL.own (L':=.row none 0 e K.sz 0 []::L') (λ_ hw=>hw.row_nil e K.sz) ?_;have w:=ρ.ofk_setR v none 0 0;have cf:=(cz.mono hle).fresh w fA fO;have hden:DenO (ρ.setR v none 0 0) h' ((k,.rowv v e (K.f []))::delO O' k) (.row none 0 e K.sz 0 []::L') :=
  ⟨_,L',U,⟨[],K.sz,by simp [Rho.setR],K.row.2 ⟨U,by simp [Rho.setR],bQ⟩,by simp [Rho.setR]⟩,(hr.mono hle).fresh w fO.del⟩
 exact a_ ⟨_,_,_,eI (u:=.d (K.f (l1++l2))) ⟨cf.t,cf.s,hden⟩ (K.den.2 ⟨_,_,U,hS⟩) d,hn⟩⟩
theorem Xad {α:Type}(K:Kd α) {l1 l2:List α}(hk0:keepA (tms [xo,yo]) a=some Au) (hx:evA Au xo=some (.row k)) (hk:lkO o k=some (.row e (K.f l1))) (hy:evA Au yo=some (.d d2)) (hd2:nilD P T d2=K.f l2) (hT:findP (Tb.ap P) T=some (e,K.sz,bytes)) (hv:nextK a o=some v)
 (hb:(l1.length+l2.length)*bytes<=140737488355328) (hb0:Nat.blt 0 bytes=true) (hd:Nat.blt d F.m=true) (hdel:delQ o k=some o')
 (kk:JX P F ops n x b ob base (⟨tms [xo,yo],none,some (d,.d (K.f (l1++l2))),some (k,.rowv v e (K.f [])),false,some v⟩::es) rest ((d,.d (K.f (l1++l2)))::a) ((k,.rowv v e (K.f []))::o')) :
 JX P F ops n x b ob base es (⟨some d,.call { callee:=.builtin .append,args:=#[xo,yo],argTypes:=#[T,T] },ty,pos,af,none⟩::rest) a o:=by
 obtain rfl:=gv hdel;exact JX.put (λha ho=>⟨Obl.appD K (by rw [<- ha];exact hk0) hx (by rw [<- ho];exact hk) hy hd2 hT hb hb0 hd,by subst ha;rfl,by subst ho;rfl⟩) kk
end
theorem bef_step (y:Int) (h:0<=y):beforeI y+365<=beforeI (y+1):=by
 have:=bef_1 y h;have:365<=daysI y 0:=by unfold daysI;rw [if_pos rfl];split<;>omega
 omega
theorem uL (y:Int) (h:0<=y):∀ k:Nat,beforeI y<=beforeI (y+k)
 |0=>by simp
 |k+1=>by
  have h1:=uL y h k;have h2:=bef_step (y+k) z2_;have e:y+((k+1:Nat):Int)=y+k+1:=by omega
  rw [e];omega
theorem nq {y z:Int}(h:0<=y) (hz:y<=z):beforeI y<=beforeI z:=by
 have:=uL y h (z-y).toNat;have e:y+((z-y).toNat:Int)=z:=by omega
 rwa [e] at this
theorem bef_one {y z D:Int}(hy:0<=y) (hz:0<=z) (h1:beforeI y<=D) (h2:D<beforeI (y+1)) (h3:beforeI z<=D) (h4:D<beforeI (z+1)):y=z:=by
 by_cases h:y<z
 ·have:=nq (show 0<=y+1 by omega) (show y+1<=z by omega);omega
 by_cases h':z<y
 ·have:=nq (show 0<=z+1 by omega) (show z+1<=y by omega);omega
 omega
theorem yGo_up (D:Int):∀ (k:Nat) (y:Int),0<=y->D<365*(k+y+1)->D<beforeI (yGo D k y+1)
 |0,y,h,h2=>by
  have:=fJ (y+1) z2_;simp only [yGo];omega
 |k+1,y,h,h2=>by
  rw [yGo];split
  ·exact yGo_up D k (y+1) z2_ z2_
  ·omega
theorem gE (t:Int) (h0:-62167219200<=t/\t<=253402300799):0<=yearO t/\beforeI (yearO t)<=dayO t/\dayO t<beforeI (yearO t+1):=by
 have hD0:0<=dayO t:=by unfold dayO;omega
 have hD1:dayO t<=3652424:=by unfold dayO;omega
 have h1:=ky (dayO t / 366) z2_;have h2:=yGo_bd (dayO t) 10010 (dayO t / 366) z2_ z2_;have h3:=yGo_up (dayO t) 10010 (dayO t / 366) z2_ z2_;exact⟨h2.1,h2.2,h3⟩
theorem year_is {t y:Int}(h0:-62167219200<=t/\t<=253402300799) (hy:0<=y) (h1:beforeI y<=dayO t) (h2:dayO t<beforeI (y+1)):yearO t=y:=by
 obtain⟨a,b,c⟩:=gE t h0;exact bef_one a hy b c h1 h2
theorem v6 {t:Int}(h0:-62167219200<=t/\t<=253402300799):(1950<=yearO t/\yearO t<=2049)<->(-631152000<=t/\t<=2524607999):=by
 obtain⟨a,b,c⟩:=gE t h0;have e1:beforeI 1950=712223:=by decide
 have e2:beforeI 2050=748748:=by decide
 constructor
 ·rintro⟨h1,h2⟩;have q1:=nq (show(0:Int)<=1950 by decide) h1;have q2:=nq (show 0<=yearO t+1 by omega) (show yearO t+1<=2050 by omega);unfold dayO at *;omega
 ·rintro⟨h1,h2⟩;constructor
  ·by_cases h:yearO t<1950
   ·have:=nq (show 0<=yearO t+1 by omega) (show yearO t+1<=1950 by omega);unfold dayO at *;omega
   ·omega
  ·by_cases h:2049<yearO t
   ·have:=nq (show(0:Int)<=2050 by decide) (show 2050<=yearO t by omega);unfold dayO at *;omega
   ·omega
section
variable {P:Program} [Tb P] {F:Fd}{a:LO}{o:LQ}{ops:Array Oper}{d:Nat}{ty T yt:TypeId}{pos:String}{af:Array Edge}{g:Option (Nat×Bool)}{xo yo:Operand}{p q:Int}{k:IntKind}
theorem St1.quoU (hx:evA a xo=some (.d (.v (.int .u64 p)))) (hy:evA a yo=some (.d (.v (.int .u64 q)))) (h0:0<=p/\p<=18446744073709551615/\0<q) (hg:gdB ops a g=some true) (hd:Nat.blt d F.m=true) :
 St1 P F ops a o ⟨some d,.binOp .quo T xo yo yt,ty,pos,af,g⟩ d (.d (.v (.int .u64 (p / q)))):=.bin hx hy (λ_ _ _ h1 h2=>RunV.quo_u64 h1 h2 h0.1 h0.2.1 h0.2.2) hg hd
theorem St1.remU (hx:evA a xo=some (.d (.v (.int .u64 p)))) (hy:evA a yo=some (.d (.v (.int .u64 q)))) (h0:0<=p/\0<q) (hg:gdB ops a g=some true) (hd:Nat.blt d F.m=true) :
 St1 P F ops a o ⟨some d,.binOp .rem T xo yo yt,ty,pos,af,g⟩ d (.d (.v (.int .u64 (p % q)))):=.bin hx hy (λ_ _ _ h1 h2=>RunV.rem_u64 h1 h2 h0.1 h0.2) hg hd
end
theorem rdays_d (y m:Int) (h0:0<=y):FnD prog 270 [.i y,.i m] (.i (daysI y m)):=.mk λh vs hT hd=>by
 obtain⟨v,w,rfl,h1,h2⟩:=den2 hd;rw [dB.1 h1,dB.1 h2];exact(oW y m h h0).d (cj (h:=h))
instance:Cn prog 270 (type_of% @rdays_d):=⟨@rdays_d⟩
theorem pM (n q:Int) (h0:0<=n) (h1:n<=18446744073709551615) (h2:0<=q) (h3:q<=20):FnD prog 217 [.v (.int .u64 n),.i q] (.s (dgs n.toNat q.toNat)):=.mk λh vs hT hd=>by
 obtain⟨v,w,rfl,g1,g2⟩:=den2 hd;rw [dB.1 g1,dB.1 g2];exact(gk (n:=n.toNat) (least:=q.toNat) z2_ z2_ z2_ z2_).d (cj (h:=h))
instance:Cn prog 217 (type_of% @pM):=⟨@pM⟩
abbrev inT (t:Int):Prop:=-62167219200<=t/\t<=253402300799
theorem rF (t:Int) (h0:inT t):FnD prog 292 [.i t] (.tup [.i (dateO t).1,.i (dateO t).2.1,.i (dateO t).2.2,.i 0]):=by
 have hD0:0<=dayO t:=by unfold dayO;omega
 have hD1:dayO t<=3652424:=by unfold dayO;omega
 refine aE func292 U ntmps292 U (λe=>?_);refine W ?_;refine Bg U U (λ_=>?_) (λ_=>?_)
 ·exfalso;omega
 refine W ?_;refine Ci U (λ_=>?_) (λ_=>?_)
 ·exfalso;omega
 refine W ?_;refine Lp (γ:=Int×Int) (λg=>0<=g.1/\0<=g.2/\beforeI g.2+g.1=dayO t) (λg=>g.1.toNat) (λg=>[(6,.d (.i g.1)),(7,.d (.i g.2))]) (λ_=>[]) (dayO t,0)
  ⟨hD0,by simp only;omega,by simp [beforeI]⟩ ⟨U,U,trivial⟩ trivial ?_
 rintro⟨d,y⟩ ⟨i0,i1,i2⟩;dsimp only at i0 i1 i2;show JD _ _ _ _ _ [(6,.d (.i d)),(7,.d (.i y))] [];have lo:=fJ y i1;refine W ?_;refine Ci U (λhc=>?_) (λhc=>?_)
 ·have:=bef_400 y i1;refine W ?_;exact⟨(d-146097,y+400),by simp only;omega,⟨by simp only;omega,by simp only;omega,by simp only;omega⟩,⟨U,U,trivial⟩,trivial⟩
 refine W ?_;refine Lp (γ:=Int×Int) (λg=>0<=g.1/\0<=g.2/\beforeI g.2+g.1=dayO t) (λg=>g.1.toNat) (λg=>[(6,.d (.i g.1)),(7,.d (.i g.2))]) (λ_=>[]) (d,y)
  ⟨i0,i1,i2⟩ ⟨U,U,trivial⟩ trivial ?_
 clear i0 i1 i2 lo hc;rintro⟨d,y⟩ ⟨i0,i1,i2⟩;dsimp only at i0 i1 i2;show JD _ _ _ _ _ [(6,.d (.i d)),(7,.d (.i y))] [];have lo:=fJ y i1;have nx:=bef_1 y i1;have db:=uy y 0;refine W ?_;refine Ci U (λhc=>?_) (λhc=>?_)
 ·refine W ?_;exact⟨(d-daysI y 0,y+1),by simp only;omega,⟨by simp only;omega,by simp only;omega,by simp only;omega⟩,⟨U,U,trivial⟩,trivial⟩
 have ey:yearO t=y:=year_is h0 i1 z2_ z2_;have ed:d=dayO t-beforeI (yearO t):=by rw [ey];omega
 have hb:dayO t-beforeI (yearO t)<=366:=by rw [<- ed];omega
 subst ed;rw [<- ey];clear ey hc nx lo i2;refine W ?_;refine Lp (γ:=Nat×Int×Int) (λg=>0<=g.2.1/\1<=g.2.2/\28*(g.2.2-1)+g.2.1<=366/\mGo (yearO t) g.1 g.2.1 g.2.2=mGo (yearO t) 400 (dayO t-beforeI (yearO t)) 1/\g.2.1<(g.1:Int)) (λg=>g.1)
  (λg=>[(6,.d (.i g.2.1)),(7,.d (.i (yearO t))),(8,.d (.i g.2.2))]) (λ_=>[]) (400,dayO t-beforeI (yearO t),1)
  ⟨by simp only;omega,by simp only;omega,by simp only;omega,U,by simp only;omega⟩ ?_ trivial ?_
 ·exact⟨U,U,U,trivial⟩
 rintro⟨k,d,m⟩ ⟨j0,j1,j2,j3,j4⟩;dsimp only at j0 j1 j2 j3 j4;show JD _ _ _ _ _ [(6,.d (.i d)),(7,.d (.i (yearO t))),(8,.d (.i m))] [];obtain⟨k,rfl⟩:∃ k',k=k'+1:=⟨k-1,by omega⟩;have yb:=(gE t h0).1;have mb:=dR (yearO t) m;have em:daysI (yearO t) m=monthI (yearO t) m:=by unfold daysI;rw [if_neg z2_]
 rw [mGo] at j3;refine W ?_;rw [em];refine Ci U (λhc2=>?_) (λhc2=>?_)
 ·rw [if_pos hc2] at j3;refine W ?_;exact⟨(k,d-daysI (yearO t) m,m+1),by simp only;omega,⟨by simp only;omega,by simp only;omega,by simp only;omega,by simp only;rw [em];exact j3,by simp only;omega⟩,⟨U,U,U,trivial⟩,trivial⟩
 rw [if_neg hc2] at j3;refine W ?_;refine Rt U U ?_;simp only [dateO,<- j3];rfl
theorem pO (t:Int) (h0:¬ inT t):FnD prog 292 [.i t] (.tup [.i 0,.i 0,.i 0,.i 21]):=by
 refine aE func292 U ntmps292 U (λe=>?_);refine W ?_;refine Bg U U (λ_=>?_) (λ_=>?_)
 ·refine W ?_;exact Rt U U U
 refine W ?_;refine Ci U (λ_=>?_) (λ_=>?_)
 ·refine W ?_;exact Rt U U U
 exfalso;omega
def secO (t:Int):Int:=(t - -62167219200) % 86400
def clkO (t:Int):Txt:=dgs (dateO t).2.1.toNat 2++dgs (dateO t).2.2.toNat 2++dgs (secO t / 3600).toNat 2++dgs (secO t / 60 % 60).toNat 2++dgs (secO t % 60).toNat 2
theorem tx (t:Int) (h0:inT t):FnD prog 293 [.i t] (.s (clkO t)):=by
 have c1:=rF t h0;have bd:=kj t h0;have d1:=dp (dateO t).2.1.toNat (Int.toNat 2);have d2:=dp (dateO t).2.2.toNat (Int.toNat 2);have d3:=dp (secO t / 3600).toNat (Int.toNat 2);have d4:=dp (secO t / 60 % 60).toNat (Int.toNat 2);have d5:=dp (secO t % 60).toNat (Int.toNat 2);have hs:0<=secO t/\secO t<86400:=by unfold secO;omega
 unfold clkO;refine aE func293 U ntmps293 U (λe=>?_);refine W ?_;have e1:(t - -62167219200) % 86400=secO t:=rfl;rw [e1];refine bx (St1.quoU U U z2_ U U) ?_;refine W ?_;refine bx (St1.quoU U U z2_ U U) ?_;refine bx (St1.remU U U z2_ U U) ?_;refine W ?_;refine bx (St1.remU U U z2_ U U) ?_;refine W ?_;exact Rt U U U
theorem clk_len (t:Int):(clkO t).length<=100:=by
 have d1:=dp (dateO t).2.1.toNat 2;have d2:=dp (dateO t).2.2.toNat 2;have d3:=dp (secO t / 3600).toNat 2;have d4:=dp (secO t / 60 % 60).toNat 2;have d5:=dp (secO t % 60).toNat 2;unfold clkO;simp only [aU];omega
theorem acc_clk (t y:Int) (w:Nat):accO t y w 5=dgs y.toNat w++clkO t:=by
 simp only [accO,clkO,nthO,secO,List.append_assoc]
theorem tj (t:Int):FnD prog 284 [.i t] (.tup [.s ((shortO t).getD []),.i (if(shortO t).isSome then 0 else 21)]):=by
 by_cases h0:inT t
 ·have c1:=rF t h0;have c2:=tx t h0;have bd:=kj t h0;have cl:=clk_len t;have dl:=dp ((dateO t).1 % 100).toNat (Int.toNat 2);have ys:=v6 h0;have ye:yearO t=(dateO t).1:=rfl;rw [ye] at ys;refine aE func284 U ntmps284 U (λe=>?_);refine W ?_;refine Bg U U (λ_=>?_) (λ_=>?_)
  ·have e1:shortO t=none:=by unfold shortO;rw [if_pos z2_]
   rw [e1];refine W ?_;exact Rt U U U
  refine W ?_;refine Ci U (λ_=>?_) (λ_=>?_)
  ·have e1:shortO t=none:=by unfold shortO;rw [if_pos z2_]
   rw [e1];refine W ?_;exact Rt U U U
  have e1:shortO t=some (dgs ((dateO t).1 % 100).toNat 2++clkO t++[90]):=by
   unfold shortO wrO;rw [if_neg z2_,if_pos U,<- acc_clk];rfl
  rw [e1];refine W ?_;exact Rt U U U
 ·have c1:=pO t h0;have e1:shortO t=none:=by unfold shortO;rw [if_pos z2_]
  rw [e1];refine aE func284 U ntmps284 U (λe=>?_);refine W ?_;exact Rt U U U
instance:Cn prog 284 (type_of% @tj):=⟨@tj⟩
theorem rlong_d (t:Int):FnD prog 285 [.i t,.i 0] (.tup [.s ((longO t).getD []),.i (if(longO t).isSome then 0 else 21)]):=by
 by_cases h0:inT t
 ·have c1:=rF t h0;have c2:=tx t h0;have bd:=kj t h0;have cl:=clk_len t;have dl:=dp (dateO t).1.toNat (Int.toNat 4);have e1:longO t=some (dgs (dateO t).1.toNat 4++clkO t++[90]):=by
   unfold longO wrO;rw [if_neg z2_,if_neg bT,<- acc_clk];rfl
  rw [e1];refine aE func285 U ntmps285 U (λe=>?_);refine W ?_;exact Rt U U U
 ·have c1:=pO t h0;have e1:longO t=none:=by unfold longO;rw [if_pos z2_]
  rw [e1];refine aE func285 U ntmps285 U (λe=>?_);refine W ?_;exact Rt U U U
instance:Cn prog 285 (type_of% @rlong_d):=⟨@rlong_d⟩
theorem rtime_d (t:Int):FnD prog 260 [.i t] (.tup [.nd (timeN t),.i (timeE t)]):=by
 have h1:=jP t;have h2:=mm t;unfold timeN timeE;refine aE func260 U ntmps260 U (λe=>?_);refine W ?_;refine Ci U (λh=>?_) (λh=>?_)
 ·rw [ite21] at h;refine W ?_;refine Rt U U ?_;simp [resD,h]
 rw [ite21] at h;refine W ?_;refine Ci U (λg=>?_) (λg=>?_)
 ·have g':(longO t).isSome=false:=by cases hh:(longO t).isSome<;>simp_all
  refine W ?_;refine Rt U U ?_;simp [resD,h,g']
 have g':(longO t).isSome=true:=by cases hh:(longO t).isSome<;>simp_all
 refine W ?_;refine Rt U U ?_;simp [resD,h,g']
instance:Cn prog 260 (type_of% @rtime_d):=⟨@rtime_d⟩
end Go.Proofs.YtojokloclmcloaaGreatDoor
