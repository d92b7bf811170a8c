/- CmsSigners: names of nodes by the reference; who signs; which signers are right; CmsSigners: the signer of a node, by the program; CmsSigners: the signer of a node, by the program, walked; CmsSigners: signers' nodes, by the program and by the reference; CmsSigners: signers' nodes, by the reference; CmsSigners: the signer of a node, by the reference; signers held against each other; CmsSigners: its function, from the parts. -/
import Derived.Test.YtcnacdlfmbigaaaGreatDoorQ5
set_option linter.unusedSimpArgs false
set_option linter.unusedVariables false
set_option linter.constructorNameAsVariable false
namespace Go.Proofs.YtcnacdlfmbigaaaGreatDoor
open Go Go.RowKit
section
set_option maxRecDepth 100000
set_option maxHeartbeats 4000000
theorem fC (n:Nd) (i:Int):(kdI n i).sz≤n.sz:=by
 unfold kdI
 split
 ·have:=sz_pos n;simp only [Nd.sz,Nd.szL,bh];omega
 ·exact cO n _
theorem mT (n:Nd) (hz:n.sz≤8000):FnD Tryz.prog 51 [.nd n] (.tup [.sl 3 At.enc (nameOf n).1,.b (nameOf n).2]):=by
 rw [jU]
 have hlz:=iC n
 have hB:∀ a∈(n.kids.take 20).map atR,a.oid.length≤1000000∧a.text.length≤1000000:=fun a ha=>by
  obtain⟨k,hk,rfl⟩:=List.mem_map.1 ha
  have h1:=dh (List.mem_of_mem_take hk)
  have h2:=nd_szL n
  have q0:(kd k 0).sz≤k.sz:=cO k 0
  have q1:(kd (kd k 0) 0).sz≤(kd k 0).sz:=cO _ 0
  have q2:(kd (kd k 0) 1).sz≤(kd k 0).sz:=cO _ 1
  have ol:=jc (kd (kd k 0) 0).bytes
  have kb:=c_ (kd (kd k 0) 0)
  have kb2:=c_ (kd (kd k 0) 1)
  constructor
  ·show((oidT (kd (kd k 0) 0).bytes).getD []).length≤_;omega
  ·show(kd (kd k 0) 1).bytes.length≤_;omega
 have hN:FnD Tryz.prog 33 [.sl 3 At.enc ((n.kids.take 20).map atR)] (.tup [.nd (nameM (nmR n)),.i (nameE (nmR n))]):=jD _ (by rw [aK];have:=List.length_take_le 20 n.kids;omega) hB
 have bad:(decide (nameE (nmR n)=0)&&(nameM (nmR n)).beq n)=false→resD [.sl 3 At.enc [],.b false]=.tup [.sl 3 At.enc (nameOfR n).1,.b (nameOfR n).2]:=fun hb=>by
  simp only [nameOfR,hb];rfl
 refine aB Tryz.func51 rfl Tryz.ntmps51 rfl (fun e=>?_)
 refine W ?_
 refine Rn (kS 3 At.enc) 4 126 rfl rfl ?_
 refine Lp (γ:=Nat) (fun g=>g≤n.kids.length∧g≤20) (fun g=>30-g)
  (fun g=>[(1,.own 0 0),(4,.row 1),(5,.d (.i (g:Int)))])
  (fun g=>[(1,.row 126 (.sl 3 At.enc ((n.kids.take g).map atR))),(0,.whl 31 (.nd n))]) 0 ⟨by omega,by omega⟩ ⟨rfl,rfl,rfl,trivial⟩ ⟨rfl,rfl,trivial⟩ ?_
 rintro g ⟨hg,hg20⟩
 have hml:((n.kids.take g).map atR).length≤20:=by rw [aK];have:=List.length_take_le g n.kids;omega
 have hlen:((n.kids.take g).map atR).length=g:=by rw [aK,bH];omega
 have s0:=fC n g
 have s1:=fC (kdI n g) 0
 have s2:=fC (kdI (kdI n g) 0) 0
 have s3:=fC (kdI (kdI n g) 0) 1
 have fin:(n.kids.take g)=n.kids.take 20→n.kids.take g=n.kids.take 20:=id
 refine W ?_
 refine Bg rfl rfl (fun h=>?_) (fun h=>?_)
 ·refine W ?_
  refine Ci rfl (fun h2=>?_) (fun h2=>?_)
  ·have hl:g<n.kids.length:=by omega
   have e3:(n.kids.take (g+1)).map atR=(n.kids.take g).map atR++[⟨(oidT (kdI (kdI (kdI n g) 0) 0).bytes).getD [],(kdI (kdI (kdI n g) 0) 1).tag,(kdI (kdI (kdI n g) 0) 1).bytes⟩]:=by
    have hk:kdI n g=n.kids[g]:=by rw [dT];unfold kd;exact ce hl
    rw [av hl,List.map_append,hk]
    have e0:kdI n.kids[g] 0=kd n.kids[g] 0:=dT _ 0
    have e1:kdI (kd n.kids[g] 0) 0=kd (kd n.kids[g] 0) 0:=dT _ 0
    have e2:kdI (kd n.kids[g] 0) 1=kd (kd n.kids[g] 0) 1:=dT _ 1
    rw [e0,e1,e2];rfl
   refine W ?_
   refine Xap (kS 3 At.enc) (l2:=[⟨(oidT (kdI (kdI (kdI n g) 0) 0).bytes).getD [],(kdI (kdI (kdI n g) 0) 1).tag,(kdI (kdI (kdI n g) 0) 1).bytes⟩]) rfl rfl rfl rfl rfl rfl rfl (by simp only [aA,bh];omega) rfl rfl rfl ?_
   refine RX1 rfl rfl ?_
   refine dI rfl ?_
   refine Nvk 1 rfl rfl rfl rfl rfl ?_
   refine W ?_
   refine⟨g+1,by omega,⟨by omega,by omega⟩,⟨rfl,rfl,rfl,trivial⟩,?_⟩
   show WkO [(1,.row 126 (.sl 3 At.enc ((n.kids.take (g+1)).map atR))),(0,.whl 31 (.nd n))] _
   rw [e3]
   exact⟨rfl,rfl,trivial⟩
  ·have hT:n.kids.take g=n.kids.take 20:=by rw [show g=20 by omega]
   rw [hT]
   refine Pb 1 rfl ?_
   refine W ?_
   refine Bg rfl rfl (fun q1=>?_) (fun q1=>?_)
   ·refine W ?_
    exact Rt rfl rfl (bad (by rw [am q1];rfl))
   refine W ?_
   refine Ci rfl (fun q2=>?_) (fun q2=>?_)
   ·refine W ?_
    exact Rt rfl rfl (bad (by rw [q2,Bool.and_false]))
   refine W ?_
   refine Rt rfl rfl ?_
   have hb:(decide (nameE (nmR n)=0)&&(nameM (nmR n)).beq n)=true:=by rw [an q1,q2];rfl
   simp only [resD,nameOfR,hb,if_true];rfl
 ·have hT:n.kids.take g=n.kids.take 20:=by rw [show g=n.kids.length by omega,List.take_length,aJ z2_]
  rw [hT]
  refine W ?_
  refine Bg rfl rfl (fun q1=>?_) (fun q1=>?_)
  ·refine W ?_
   exact Rt rfl rfl (bad (by rw [am q1];rfl))
  refine W ?_
  refine Ci rfl (fun q2=>?_) (fun q2=>?_)
  ·refine W ?_
   exact Rt rfl rfl (bad (by rw [q2,Bool.and_false]))
  refine W ?_
  refine Rt rfl rfl ?_
  have hb:(decide (nameE (nmR n)=0)&&(nameM (nmR n)).beq n)=true:=by rw [an q1,q2];rfl
  simp only [resD,nameOfR,hb,if_true];rfl
instance:Cn Tryz.prog 51 (type_of% @mT):=⟨@mT⟩
abbrev z7:List D:=[.v (.slice none 0 0),.v (.slice none 0 0),.v (.slice none 0 0),.i 0,.v (.slice none 0 0),.v (.slice none 0 0),.v (.slice none 0 0)]
def whoD (v w:Nd):List D:=if isCtxB w 0 false then(if v.intOk&&decide (v.tag=2) then [.v (.slice none 0 0),.v (.slice none 0 0),.bs w.bytes,.i 0,.v (.slice none 0 0),.v (.slice none 0 0),.v (.slice none 0 0)] else z7)
 else(if v.intOk&&decide (v.tag=2)&&(isSeqB w 2 2&&decide ((kd w 1).tag=2)) then [.sl 3 At.enc (nameOf (kd w 0)).1,.ws (kd w 1).natL,.v (.slice none 0 0),.i 0,.v (.slice none 0 0),.v (.slice none 0 0),.v (.slice none 0 0)] else z7)
theorem who_b (v w:Nd) (hv:v.sz≤1000000) (hw:w.sz≤1000000):FnB Tryz.prog 45 28 [] (.st z7) [.nd v,.nd w] (fun d d1=>d=.b (whoB v w)∧d1=.st (whoD v w)):=by
 have hi:=@mc v z2_
 cases hc:isCtxB w 0 false with
 |true =>
  have hx:FnD Tryz.prog 47 [.nd w,.i 0,.b false] (.b true):=(f0 w 0 false).to (by rw [hc])
  have hB:whoB v w=(v.intOk&&decide (v.tag=2)&&decide (v.intV=3)):=by unfold whoB;rw [if_pos hc]
  have hD:whoD v w=(if v.intOk&&decide (v.tag=2) then [.v (.slice none 0 0),.v (.slice none 0 0),.bs w.bytes,.i 0,.v (.slice none 0 0),.v (.slice none 0 0),.v (.slice none 0 0)] else z7):=by unfold whoD;rw [if_pos hc]
  rw [hB,hD]
  have kb:=c_ w
  refine FnB.intro Tryz.func45 rfl Tryz.ntmps45 rfl (fun e b=>?_)
  refine W ?_
  refine Bg rfl rfl (fun h1=>?_) (fun h1=>?_)
  ·have h1':v.intOk=false:=by simpa using h1
   rw [h1']
   refine W ?_
   exact RtB 1 rfl rfl rfl rfl rfl ⟨rfl,rfl⟩
  have h1':v.intOk=true:=by simpa using h1
  rw [h1']
  refine W ?_
  refine Ci rfl (fun h2=>?_) (fun h2=>?_)
  ·rw [am (show ¬ v.tag=2 from h2)]
   refine W ?_
   exact RtB 1 rfl rfl rfl rfl rfl ⟨rfl,rfl⟩
  have h2':v.tag=2:=by simpa using h2
  rw [an h2']
  refine W ?_
  exact RtB 1 rfl rfl rfl rfl rfl ⟨rfl,rfl⟩
 |false =>
  have hx:FnD Tryz.prog 47 [.nd w,.i 0,.b false] (.b false):=(f0 w 0 false).to (by rw [hc])
  have hn:¬ isCtxB w 0 false=true:=by rw [hc];simp
  have hB:whoB v w=(v.intOk&&decide (v.tag=2)&&(isSeqB w 2 2&&decide ((kd w 1).tag=2)&&(nameOf (kd w 0)).2&&(kd w 1).natOk&&decide (v.intV=1))):=by unfold whoB;rw [if_neg hn]
  have hD:whoD v w=(if v.intOk&&decide (v.tag=2)&&(isSeqB w 2 2&&decide ((kd w 1).tag=2)) then [.sl 3 At.enc (nameOf (kd w 0)).1,.ws (kd w 1).natL,.v (.slice none 0 0),.i 0,.v (.slice none 0 0),.v (.slice none 0 0),.v (.slice none 0 0)] else z7):=by unfold whoD;rw [if_neg hn]
  rw [hB,hD]
  have q0:=cO w 0
  have q1:=cO w 1
  have c1:=lY (kd w 0) (by unfold kd;omega)
  have c2:=p8 (kd w 1) (by unfold kd;omega)
  unfold kd at c1 c2 ⊢
  refine FnB.intro Tryz.func45 rfl Tryz.ntmps45 rfl (fun e b=>?_)
  refine W ?_
  refine Bg rfl rfl (fun h1=>?_) (fun h1=>?_)
  ·have h1':v.intOk=false:=by simpa using h1
   rw [h1']
   refine W ?_
   exact RtB 1 rfl rfl rfl rfl rfl ⟨rfl,rfl⟩
  have h1':v.intOk=true:=by simpa using h1
  rw [h1']
  refine W ?_
  refine Ci rfl (fun h2=>?_) (fun h2=>?_)
  ·rw [am (show ¬ v.tag=2 from h2)]
   refine W ?_
   exact RtB 1 rfl rfl rfl rfl rfl ⟨rfl,rfl⟩
  have h2':v.tag=2:=by simpa using h2
  rw [an h2']
  refine W ?_
  refine Bg rfl rfl (fun h3=>?_) (fun h3=>?_)
  ·have h3':isSeqB w 2 2=false:=by simp_all
   rw [h3']
   refine W ?_
   exact RtB 1 rfl rfl rfl rfl rfl ⟨rfl,rfl⟩
  have h3':isSeqB w 2 2=true:=by simp_all
  rw [h3']
  refine W ?_
  refine Ci rfl (fun h4=>?_) (fun h4=>?_)
  ·rw [am (show ¬ (w.kids.getD 1 (.mk 0 0 false [] [])).tag=2 from h4)]
   refine W ?_
   exact RtB 1 rfl rfl rfl rfl rfl ⟨rfl,rfl⟩
  have h4':(w.kids.getD 1 (.mk 0 0 false [] [])).tag=2:=by simpa using h4
  rw [an h4']
  refine W ?_
  refine Bg rfl rfl (fun h5=>?_) (fun h5=>?_)
  ·rw [h5]
   refine W ?_
   refine Bg rfl rfl (fun h6=>?_) (fun h6=>?_)
   ·rw [h6]
    refine W ?_
    exact RtB 1 rfl rfl rfl rfl rfl ⟨rfl,rfl⟩
   ·rw [h6]
    refine W ?_
    exact RtB 1 rfl rfl rfl rfl rfl ⟨rfl,rfl⟩
  ·rw [h5]
   refine W ?_
   exact RtB 1 rfl rfl rfl rfl rfl ⟨rfl,rfl⟩
structure SgW (s:Sg):Prop where
 isu:s.issuer.length≤1000000
 isuB:∀ a∈s.issuer,a.oid.length≤1000000∧a.text.length≤1000000
 ser:s.serial.length≤4096
 sgd:s.signed.length≤400000
 sgdB:∀ f∈s.signed,FeS f
 uns:s.unsigned.length≤400000
 unsB:∀ f∈s.unsigned,FeS f
theorem l_ (s:Sg) (h:SgW s):FnD Tryz.prog 22 [.st s.enc] (.b (rightSg s)):=by
 obtain⟨b1,b2,b3,b4,b5,b6,b7⟩:=h
 have c1:=qE s.issuer b1 b2
 have c2:=dF s.signed b4 b5
 have c3:=dF s.unsigned b6 b7
 unfold rightSg whoOk sBits
 exact aB Tryz.func22 rfl Tryz.ntmps22 rfl (fun e=>Z)
theorem rM (s:Sg) (h:SgW s):FnD Tryz.prog 32 [.st s.enc] (.b (rightSg s)):=by
 obtain⟨b1,b2,b3,b4,b5,b6,b7⟩:=h
 have c0:=oL s.serial z2_
 have c1:=jD s.issuer b1 b2
 have c2:=dV s.signed b4 b5
 rw [rf_same b5] at c2
 have c3:=dV s.unsigned b6 b7
 rw [rf_same b7] at c3
 unfold rightSg whoOk sBits
 exact aB Tryz.func32 rfl Tryz.ntmps32 rfl (fun e=>Z)
end
section
set_option maxRecDepth 100000
set_option maxHeartbeats 4000000
theorem qD (x:Nd):x.natL.length≤x.bytes.length / 4+1:=by
 unfold Nd.natL
 split
 ·rw [jt]
  have h:=go x.bytes
  have e:(256:Nat) ^ x.bytes.length=2 ^ (8*x.bytes.length):=by rw [Nat.pow_mul]
  rw [e] at h
  have:=my _ _ h
  unfold nd;omega
 ·simp
theorem gz (n:Nd):Nd.szL n.kids+1≤n.sz:=by cases n;simp only [Nd.kids,Nd.sz];omega
theorem ly:∀ (l:List Nd) (k:Nat),Nd.szL (l.drop k)≤Nd.szL l
 |_,0=>aD _
 |[],_+1=>aD _
 |x::r,k+1=>by
  have:=ly r k
  simp only [List.drop_succ_cons,Nd.szL];omega
theorem s5 (l:List Nd) (i:Nat):(lk l i).sz≤Nd.szL l+1:=by
 unfold lk
 by_cases h:i<l.length
 ·rw [ce h]
  have:=dh (aL h)
  omega
 ·rw [bg,bL z2_]
  simp [Nd.sz,Nd.szL]
theorem sgT_sz (n:Nd):Nd.szL (sgT n)+1≤n.sz:=by
 have h1:=ly n.kids 3
 have h2:=gz n
 unfold sgT;omega
theorem sgU_sz (n:Nd):Nd.szL (sgU n)+1≤n.sz:=by
 have h1:=sgT_sz n
 unfold sgU
 split
 ·have:=ly (sgT n) 1;omega
 ·omega
theorem nt {ks:List Nd}(hz:Nd.szL ks≤8000):(fldsP ks).1.length≤8000∧∀ f∈(fldsP ks).1,FeS f:=by
 have hlz:=dD ks
 unfold fldsP
 split
 ·rename_i h
  refine⟨by rw [aK];omega,fun f hf=>?_⟩
  obtain⟨k,hk,rfl⟩:=List.mem_map.1 hf
  exact ph (by have:=dh hk;omega) (List.all_eq_true.1 h k hk)
 ·exact⟨Nat.zero_le _,fun f hf=>by cases hf⟩
theorem flR_fes {ks:List Nd}(hz:Nd.szL ks≤8000):(flR ks).1.length≤8000∧∀ f∈(flR ks).1,FeS f:=by
 have hlz:=dD ks
 unfold flR
 split
 ·rename_i h
  rw [Bool.and_eq_true] at h
  refine⟨by rw [aK];omega,fun f hf=>?_⟩
  obtain⟨k,hk,rfl⟩:=List.mem_map.1 hf
  exact ph (by have:=dh hk;omega) (List.all_eq_true.1 h.2 k hk)
 ·exact⟨Nat.zero_le _,fun f hf=>by cases hf⟩
theorem ng {n:Nd}(hz:n.sz≤8000):(nameOf n).1.length≤1000000∧∀ a∈(nameOf n).1,a.oid.length≤1000000∧a.text.length≤1000000:=by
 have hk:=iC n
 have hl:=nd_szL n
 unfold nameOf
 split
 ·refine⟨by rw [aK];omega,fun a ha=>?_⟩
  obtain⟨k,hk,rfl⟩:=List.mem_map.1 ha
  have h1:=dh hk
  have q0:(kd k 0).sz≤k.sz:=cO k 0
  have q1:(kd (kd k 0) 0).sz≤(kd k 0).sz:=cO _ 0
  have q2:(kd (kd k 0) 1).sz≤(kd k 0).sz:=cO _ 1
  have ol:=n7 (kd (kd k 0) 0)
  have kb:=c_ (kd (kd k 0) 0)
  have kb2:=c_ (kd (kd k 0) 1)
  unfold atO
  simp only
  omega
 ·exact⟨Nat.zero_le _,fun f hf=>by cases hf⟩
theorem np (n:Nd) (i:Nat):(kd n i).sz≤n.sz:=cO n i
theorem sgw_S {n:Nd}(hz:n.sz≤8000):SgW (sgS n):=by
 have k1:=np n 1
 have k10:=np (kd n 1) 0
 have k11:=np (kd n 1) 1
 have hb:=c_ (kd (kd n 1) 1)
 have hn:=qD (kd (kd n 1) 1)
 have hT:=sgT_sz n
 have hU:=sgU_sz n
 have l0:=s5 (sgT n) 0
 have l2:=s5 (sgU n) 2
 have z0:=gz (lk (sgT n) 0)
 have z2:=gz (lk (sgU n) 2)
 obtain⟨n1,n2⟩:=ng (n:=kd (kd n 1) 0) z2_
 obtain⟨f1,f2⟩:=nt (ks:=(lk (sgT n) 0).kids) z2_
 obtain⟨f3,f4⟩:=nt (ks:=(lk (sgU n) 2).kids) z2_
 unfold sgS
 refine⟨?_,?_,?_,?_,?_,?_,?_⟩
 ·simp only [isuOf];split
  ·simp
  ·exact n1
 ·simp only [isuOf];split
  ·intro a ha;cases ha
  ·exact n2
 ·simp only [serOf];split
  ·simp
  ·omega
 ·simp only;split
  ·omega
  ·simp
 ·simp only;split
  ·exact f2
  ·intro f hf;cases hf
 ·simp only;split
  ·omega
  ·simp
 ·simp only;split
  ·exact f4
  ·intro f hf;cases hf
theorem sgw_R {n:Nd}(hz:n.sz≤8000):SgW (sgR n):=by
 have k1:=np n 1
 have k3:=np n 3
 have k10:=np (kd n 1) 0
 have k11:=np (kd n 1) 1
 have ki:=np n (sgI n+2)
 have hb:=c_ (kd (kd n 1) 1)
 have hn:=qD (kd (kd n 1) 1)
 have z0:=gz (kd n 3)
 have z2:=gz (kd n (sgI n+2))
 obtain⟨n1,n2⟩:=ng (n:=kd (kd n 1) 0) z2_
 obtain⟨f1,f2⟩:=flR_fes (ks:=(kd n 3).kids) z2_
 obtain⟨f3,f4⟩:=flR_fes (ks:=(kd n (sgI n+2)).kids) z2_
 unfold sgR
 refine⟨?_,?_,?_,?_,?_,?_,?_⟩
 ·simp only [isuR];split
  ·simp
  ·exact n1
 ·simp only [isuR];split
  ·intro a ha;cases ha
  ·exact n2
 ·simp only [serR];split
  ·simp
  ·omega
 ·simp only;split
  ·omega
  ·simp
 ·simp only;split
  ·exact f2
  ·intro f hf;cases hf
 ·simp only;omega
 ·exact f4
def whoT (v w:Nd):List D:=if whoB v w then Sg.enc ⟨isuOf w,serOf w,skiOf w,0,[],[],[]⟩ else whoD v w
theorem pA:∀ {h:Part}{v:Value},Den (.v (.slice none 0 0)) h v→∀ {α:Type}{sz:Nat}{enc:α→List D},Den (.sl sz enc []) h v:=fun k=>by
 intro α sz enc
 rw [d9.1 k];exact den_nil
theorem qZ {h:Part}{v:Value}(k:Den (.v (.slice none 0 0)) h v):Den (.bs []) h v:=by
 rw [d9.1 k];exact nK h
theorem who_t (v w:Nd) (hv:v.sz≤1000000) (hw:w.sz≤1000000):FnB Tryz.prog 45 28 [] (.st z7) [.nd v,.nd w] (fun d d1=>d=.b (whoB v w)∧d1=.st (whoT v w)):=by
 refine(who_b v w hv hw).imp fun d d1 ⟨h1,h2⟩=>⟨_,⟨h1,rfl⟩,fun h x k0=>?_⟩
 subst h2
 unfold whoT
 cases hB:whoB v w with
 |false=>rw [if_neg (by simp)];exact k0
 |true =>
  rw [if_pos rfl]
  have hB':=hB
  simp only [whoB,Bool.and_eq_true,aj] at hB'
  obtain⟨⟨b1,b2⟩,b3⟩:=hB'
  unfold whoD at k0
  unfold isuOf serOf skiOf Sg.enc
  rw [b1,an b2] at k0
  obtain⟨cs,rfl,k⟩:=df.1 k0
  clear k0
  refine(df (h:=h)).2 ⟨cs,rfl,?_⟩
  cases hc:isCtxB w 0 false with
  |true =>
   rw [hc,if_pos rfl,if_pos (show(true&&true)=true from rfl)] at k
   rw [if_pos rfl,if_pos rfl,if_pos rfl]
   unfold DenL at k;obtain⟨v1,t1,rfl,o1,d1,k⟩:=k
   unfold DenL at k;obtain⟨v2,t2,rfl,o2,d2,k⟩:=k
   unfold DenL at k;obtain⟨v3,t3,rfl,o3,d3,k⟩:=k
   unfold DenL at k;obtain⟨v4,t4,rfl,o4,d4,k⟩:=k
   unfold DenL at k;obtain⟨v5,t5,rfl,o5,d5,k⟩:=k
   unfold DenL at k;obtain⟨v6,t6,rfl,o6,d6,k⟩:=k
   unfold DenL at k;obtain⟨v7,t7,rfl,o7,d7,k⟩:=k
   exact .c o1 (pA d1) (.c o2 (pA d2) (.c o3 d3 (.c o4 d4 (.c o5 (pA d5) (.c o6 (qZ d6) (.c o7 (pA d7) k))))))
  |false =>
   rw [hc,if_neg (by simp)] at b3
   simp only [Bool.and_eq_true,aj] at b3
   rw [hc,if_neg (by simp),b3.1.1.1.1,an b3.1.1.1.2,if_pos (show(true&&true&&(true&&true))=true from rfl)] at k
   rw [if_neg (by simp),if_neg (by simp),if_neg (by simp)]
   unfold DenL at k;obtain⟨v1,t1,rfl,o1,d1,k⟩:=k
   unfold DenL at k;obtain⟨v2,t2,rfl,o2,d2,k⟩:=k
   unfold DenL at k;obtain⟨v3,t3,rfl,o3,d3,k⟩:=k
   unfold DenL at k;obtain⟨v4,t4,rfl,o4,d4,k⟩:=k
   unfold DenL at k;obtain⟨v5,t5,rfl,o5,d5,k⟩:=k
   unfold DenL at k;obtain⟨v6,t6,rfl,o6,d6,k⟩:=k
   unfold DenL at k;obtain⟨v7,t7,rfl,o7,d7,k⟩:=k
   exact .c o1 d1 (.c o2 d2 (.c o3 (qZ d3) (.c o4 d4 (.c o5 (pA d5) (.c o6 (qZ d6) (.c o7 (pA d7) k))))))
end
section
set_option maxRecDepth 100000
set_option maxHeartbeats 4000000
def okS (n:Nd):Bool:=!sgHas n||((fldsP (lk (sgT n) 0).kids).2&&decide (0<((fldsP (lk (sgT n) 0).kids).1.length:Int)))
def okU (n:Nd):Bool:=!decide (((sgU n).length:Int)=3)||((fldsP (lk (sgU n) 2).kids).2&&isCtxB (lk (sgU n) 2) 1 true&&decide (0<((fldsP (lk (sgU n) 2).kids).1.length:Int)))
theorem ep (n:Nd):sgOk n=(n.put.isSome&&isSeqB n 5 7&&whoB (kd n 0) (kd n 1)&&decide (2≤((sgU n).length:Int))&&decide (((sgU n).length:Int)≤3)&&decide (algOf (lk (sgU n) 0)=digOf (kd n 2))&&decide ((lk (sgU n) 1).cls=0)&&decide ((lk (sgU n) 1).tag=4)&&okS n&&okU n&&rightSg (sgS n)):=rfl
theorem sgS_eq (n:Nd):sgS n=⟨isuOf (kd n 1),serOf (kd n 1),skiOf (kd n 1),digOf (kd n 2),(sgS n).signed,(lk (sgU n) 1).bytes,(sgS n).unsigned⟩:=rfl
theorem gL (n:Nd) (hz:n.sz≤8000):FnD Tryz.prog 9 [.nd n] (.tup [.st (sgOf n).1.enc,.b (sgOf n).2]):=by
 have hcr:=l_ (sgS n) (sgw_S hz)
 rw [sgS_eq n] at hcr
 have bad:sgOk n=false→resD [.st sg0.enc,.b false]=.tup [.st (sgOf n).1.enc,.b (sgOf n).2]:=fun hb=>by
  unfold sgOf;rw [hb];rfl
 have k0:=cO n 0
 have k1:=cO n 1
 have k2:=cO n 2
 have hT:=sgT_sz n
 have hU:=sgU_sz n
 refine aB Tryz.func9 rfl Tryz.ntmps9 rfl (fun e=>?_)
 refine W ?_
 refine Bg rfl rfl (fun g1=>?_) (fun g1=>?_)
 ·have g1':n.put.isSome=false:=by simpa using g1
  refine W ?_
  exact Rt rfl rfl (bad (by rw [ep,g1'];simp))
 refine W ?_
 refine Ci rfl (fun g2=>?_) (fun g2=>?_)
 ·have g2':isSeqB n 5 7=false:=by simp_all
  refine W ?_
  exact Rt rfl rfl (bad (by rw [ep,g2'];simp))
 have g1':n.put.isSome=true:=by simp_all
 have g2':isSeqB n 5 7=true:=by simp_all
 have g2l:5≤(n.kids.length:Int)∧(n.kids.length:Int)≤7:=by
  have h:=g2'
  simp only [isSeqB,Bool.and_eq_true,aj] at h
  exact⟨h.1.2,h.2⟩
 refine W ?_
 refine Xcp (os1:=[]) rfl rfl rfl rfl rfl rfl rfl (who_t (n.kids.getD 0 (.mk 0 0 false [] [])) (n.kids.getD 1 (.mk 0 0 false [] [])) z2_ z2_) rfl ?_
 refine W ?_
 refine Ci rfl (fun g3=>?_) (fun g3=>?_)
 ·have g3':whoB (kd n 0) (kd n 1)=false:=by unfold kd;simpa using g3
  refine W ?_
  exact Rt rfl rfl (bad (by rw [ep,g3'];simp))
 have g3':whoB (kd n 0) (kd n 1)=true:=by unfold kd;simpa using g3
 have hw:whoT (n.kids.getD 0 (.mk 0 0 false [] [])) (n.kids.getD 1 (.mk 0 0 false [] []))=Sg.enc ⟨isuOf (kd n 1),serOf (kd n 1),skiOf (kd n 1),0,[],[],[]⟩:=by
  show whoT (kd n 0) (kd n 1)=_
  unfold whoT;rw [g3',if_pos rfl]
 rw [hw]
 have hTl:(n.kids.drop 3).length=n.kids.length-3:=bm ..
 have hT0:Nd.szL ((n.kids.drop 3).getD 0 (.mk 0 0 false [] [])).kids≤8000:=by
  have h1:((n.kids.drop 3).getD 0 (.mk 0 0 false [] [])).sz≤Nd.szL (n.kids.drop 3)+1:=s5 (n.kids.drop 3) 0
  have h2:=gz ((n.kids.drop 3).getD 0 (.mk 0 0 false [] []))
  have h3:Nd.szL (n.kids.drop 3)+1≤n.sz:=hT
  omega
 have hTd:(sgT n).length=n.kids.length-3:=hTl
 refine W ?_
 refine Jm (γ:=List Fe×List Nd×Bool) (fun g=>[(1,.own 0 0),(2,.own 1 0),(4,.own 2 0),(5,.d (.nds g.2.1)),(6,.d (.bq g.2.2)),(7,.d (.v (.bool true)))])
  (fun g=>[(2,.var 28 [.d (.sl 3 At.enc (isuOf (kd n 1))),.d (.ws (serOf (kd n 1))),.d (.bs (skiOf (kd n 1))),.d (.i (digOf (kd n 2))),.d (.sl 2 Fe.enc g.1),.d (.bs []),.d (.sl 2 Fe.enc [])]),(1,.var 28 [.d (.v (.slice none 0 0)),.d (.v (.slice none 0 0)),.d (.v (.slice none 0 0)),.d (.i 0),.d (.v (.slice none 0 0)),.d (.v (.slice none 0 0)),.d (.v (.slice none 0 0))]),(0,.whl 31 (.nd n))])
  (fun g=>g.1=(sgS n).signed∧g.2.1=sgU n∧g.2.2=okS n) ?_ ?_
 ·refine Ci rfl (fun g4=>?_) (fun g4=>?_)
  ·have hH:sgHas n=true:=g4
   have e1:(sgS n).signed=(fldsP (lk (sgT n) 0).kids).1:=by show(if sgHas n=true then _ else _)=_;rw [if_pos hH]
   have e2:sgU n=(sgT n).drop 1:=by unfold sgU;rw [if_pos hH]
   have e3:okS n=((fldsP (lk (sgT n) 0).kids).2&&decide (0<((fldsP (lk (sgT n) 0).kids).1.length:Int))):=by unfold okS;rw [hH];rfl
   refine W ?_
   refine Bg rfl rfl (fun g5=>?_) (fun g5=>?_)
   ·refine W ?_
    exact⟨((fldsP (lk (sgT n) 0).kids).1,(sgT n).drop 1,decide (0<((fldsP (lk (sgT n) 0).kids).1.length:Int))),⟨e1.symm,e2.symm,by rw [e3,show(fldsP (lk (sgT n) 0).kids).2=true from g5];rfl⟩,⟨⟨_,rfl,bW⟩,⟨_,rfl,bW⟩,⟨_,rfl,bW⟩,⟨_,rfl,bW⟩,⟨_,rfl,bW⟩,⟨_,rfl,bW⟩,trivial⟩,⟨rfl,rfl,rfl,trivial⟩⟩
   ·refine W ?_
    exact⟨((fldsP (lk (sgT n) 0).kids).1,(sgT n).drop 1,false),⟨e1.symm,e2.symm,by rw [e3,show(fldsP (lk (sgT n) 0).kids).2=false from g5];rfl⟩,⟨⟨_,rfl,bW⟩,⟨_,rfl,bW⟩,⟨_,rfl,bW⟩,⟨_,rfl,bW⟩,⟨_,rfl,CvA.q⟩,⟨_,rfl,bW⟩,trivial⟩,⟨rfl,rfl,rfl,trivial⟩⟩
  ·have hH:sgHas n=false:=g4
   have e1:(sgS n).signed=[]:=by show(if sgHas n=true then _ else _)=_;rw [if_neg (by rw [hH];simp)]
   have e2:sgU n=sgT n:=by unfold sgU;rw [if_neg (by rw [hH];simp)]
   have e3:okS n=true:=by unfold okS;rw [hH];rfl
   refine W ?_
   exact⟨([],sgT n,true),⟨e1.symm,e2.symm,e3.symm⟩,⟨⟨_,rfl,bW⟩,⟨_,rfl,bW⟩,⟨_,rfl,bW⟩,⟨_,rfl,bW⟩,⟨_,rfl,CvA.q⟩,⟨_,rfl,bW⟩,trivial⟩,⟨rfl,rfl,rfl,trivial⟩⟩
 rintro⟨sgd,U,okv⟩ ⟨i1,i2,i3⟩
 dsimp only at i1 i2 i3
 subst i1 i2 i3
 show JD _ _ _ _ _ [(1,.own 0 0),(2,.own 1 0),(4,.own 2 0),(5,.d (.nds (sgU n))),(6,.d (.bq (okS n))),(7,.d (.v (.bool true)))] [(2,.var 28 [.d (.sl 3 At.enc (isuOf (kd n 1))),.d (.ws (serOf (kd n 1))),.d (.bs (skiOf (kd n 1))),.d (.i (digOf (kd n 2))),.d (.sl 2 Fe.enc (sgS n).signed),.d (.bs []),.d (.sl 2 Fe.enc [])]),(1,.var 28 [.d (.v (.slice none 0 0)),.d (.v (.slice none 0 0)),.d (.v (.slice none 0 0)),.d (.i 0),.d (.v (.slice none 0 0)),.d (.v (.slice none 0 0)),.d (.v (.slice none 0 0))]),(0,.whl 31 (.nd n))]
 have u0:((sgU n).getD 0 (.mk 0 0 false [] [])).sz≤8001:=by have h:((sgU n).getD 0 (.mk 0 0 false [] [])).sz≤_:=s5 (sgU n) 0;omega
 have u1:((sgU n).getD 1 (.mk 0 0 false [] [])).bytes.length≤8001:=by
  have h:((sgU n).getD 1 (.mk 0 0 false [] [])).sz≤_:=s5 (sgU n) 1
  have h2:=c_ ((sgU n).getD 1 (.mk 0 0 false [] []));omega
 have u2:Nd.szL ((sgU n).getD 2 (.mk 0 0 false [] [])).kids≤8000:=by
  have h:((sgU n).getD 2 (.mk 0 0 false [] [])).sz≤_:=s5 (sgU n) 2
  have h2:=gz ((sgU n).getD 2 (.mk 0 0 false [] []));omega
 refine W ?_
 refine BXl 62 rfl (fun hc h5=>?_) (fun hc h5=>?_)
 ·rw [hc]
  refine W ?_
  exact Rt rfl rfl (bad (by rw [ep,am (show ¬ 2≤((sgU n).length:Int) by omega)];simp))
 rw [hc]
 clear hc
 refine W ?_
 refine BXl 67 rfl (fun hc h6=>?_) (fun hc h6=>?_)
 ·rw [hc]
  refine W ?_
  exact Rt rfl rfl (bad (by rw [ep,am (show ¬ ((sgU n).length:Int)≤3 by omega)];simp))
 rw [hc]
 clear hc
 refine W ?_
 refine BXl 76 rfl (fun hc h7=>?_) (fun hc h7=>?_)
 ·rw [hc]
  refine W ?_
  exact Rt rfl rfl (bad (by rw [ep,am (show ¬ algOf (lk (sgU n) 0)=digOf (kd n 2) from h7)];simp))
 rw [hc]
 clear hc
 refine W ?_
 refine BXl 83 rfl (fun hc h8=>?_) (fun hc h8=>?_)
 ·rw [hc]
  refine W ?_
  exact Rt rfl rfl (bad (by rw [ep,am (show ¬ (lk (sgU n) 1).cls=0 from h8)];simp))
 rw [hc]
 clear hc
 refine W ?_
 refine Ci rfl (fun h9=>?_) (fun h9=>?_)
 ·refine W ?_
  exact Rt rfl rfl (bad (by rw [ep,am (show ¬ (lk (sgU n) 1).tag=4 from h9)];simp))
 refine W ?_
 refine Jm (γ:=List Fe×Bool) (fun g=>[(1,.own 0 0),(2,.own 1 0),(4,.own 2 0),(6,.d (.bq (okS n))),(7,.d (.bq g.2))])
  (fun g=>[(2,.var 28 [.d (.sl 3 At.enc (isuOf (kd n 1))),.d (.ws (serOf (kd n 1))),.d (.bs (skiOf (kd n 1))),.d (.i (digOf (kd n 2))),.d (.sl 2 Fe.enc (sgS n).signed),.d (.bs (lk (sgU n) 1).bytes),.d (.sl 2 Fe.enc g.1)]),(1,.var 28 [.d (.v (.slice none 0 0)),.d (.v (.slice none 0 0)),.d (.v (.slice none 0 0)),.d (.i 0),.d (.v (.slice none 0 0)),.d (.v (.slice none 0 0)),.d (.v (.slice none 0 0))]),(0,.whl 31 (.nd n))])
  (fun g=>g.1=(sgS n).unsigned∧g.2=okU n) ?_ ?_
 ·refine Ci rfl (fun q1=>?_) (fun q1=>?_)
  ·have e1:(sgS n).unsigned=(fldsP (lk (sgU n) 2).kids).1:=by show(if((sgU n).length:Int)=3 then _ else _)=_;rw [if_pos q1]
   have e3:okU n=((fldsP (lk (sgU n) 2).kids).2&&isCtxB (lk (sgU n) 2) 1 true&&decide (0<((fldsP (lk (sgU n) 2).kids).1.length:Int))):=by unfold okU;rw [an q1];rfl
   refine W ?_
   refine Bg rfl rfl (fun q2=>?_) (fun q2=>?_)
   ·refine W ?_
    refine Bg rfl rfl (fun q3=>?_) (fun q3=>?_)
    ·refine W ?_
     exact⟨((fldsP (lk (sgU n) 2).kids).1,decide (0<((fldsP (lk (sgU n) 2).kids).1.length:Int))),⟨e1.symm,by rw [e3,show(fldsP (lk (sgU n) 2).kids).2=true from q2,show isCtxB (lk (sgU n) 2) 1 true=true from q3];rfl⟩,⟨⟨_,rfl,bW⟩,⟨_,rfl,bW⟩,⟨_,rfl,bW⟩,⟨_,rfl,bW⟩,⟨_,rfl,bW⟩,trivial⟩,⟨rfl,rfl,rfl,trivial⟩⟩
    ·refine W ?_
     exact⟨((fldsP (lk (sgU n) 2).kids).1,false),⟨e1.symm,by rw [e3,show isCtxB (lk (sgU n) 2) 1 true=false from q3];simp⟩,⟨⟨_,rfl,bW⟩,⟨_,rfl,bW⟩,⟨_,rfl,bW⟩,⟨_,rfl,bW⟩,⟨_,rfl,CvA.q⟩,trivial⟩,⟨rfl,rfl,rfl,trivial⟩⟩
   ·refine W ?_
    exact⟨((fldsP (lk (sgU n) 2).kids).1,false),⟨e1.symm,by rw [e3,show(fldsP (lk (sgU n) 2).kids).2=false from q2];simp⟩,⟨⟨_,rfl,bW⟩,⟨_,rfl,bW⟩,⟨_,rfl,bW⟩,⟨_,rfl,bW⟩,⟨_,rfl,CvA.q⟩,trivial⟩,⟨rfl,rfl,rfl,trivial⟩⟩
  ·have e1:(sgS n).unsigned=[]:=by show(if((sgU n).length:Int)=3 then _ else _)=_;rw [if_neg q1]
   have e3:okU n=true:=by unfold okU;rw [am q1];rfl
   refine W ?_
   exact⟨([],true),⟨e1.symm,e3.symm⟩,⟨⟨_,rfl,bW⟩,⟨_,rfl,bW⟩,⟨_,rfl,bW⟩,⟨_,rfl,bW⟩,⟨_,rfl,CvA.q⟩,trivial⟩,⟨rfl,rfl,rfl,trivial⟩⟩
 rintro⟨uns,okw⟩ ⟨i1,i2⟩
 dsimp only at i1 i2
 subst i1 i2
 show JD _ _ _ _ _ [(1,.own 0 0),(2,.own 1 0),(4,.own 2 0),(6,.d (.bq (okS n))),(7,.d (.bq (okU n)))] [(2,.var 28 [.d (.sl 3 At.enc (isuOf (kd n 1))),.d (.ws (serOf (kd n 1))),.d (.bs (skiOf (kd n 1))),.d (.i (digOf (kd n 2))),.d (.sl 2 Fe.enc (sgS n).signed),.d (.bs (lk (sgU n) 1).bytes),.d (.sl 2 Fe.enc (sgS n).unsigned)]),(1,.var 28 [.d (.v (.slice none 0 0)),.d (.v (.slice none 0 0)),.d (.v (.slice none 0 0)),.d (.i 0),.d (.v (.slice none 0 0)),.d (.v (.slice none 0 0)),.d (.v (.slice none 0 0))]),(0,.whl 31 (.nd n))]
 refine W ?_
 refine Bg rfl rfl (fun p1=>?_) (fun p1=>?_)
 ·have p1':okS n=false:=by simpa using p1
  refine W ?_
  exact Rt rfl rfl (bad (by rw [ep,p1'];simp))
 have p1':okS n=true:=by simpa using p1
 refine W ?_
 refine Bg rfl rfl (fun p2=>?_) (fun p2=>?_)
 ·have p2':okU n=false:=by simpa using p2
  refine W ?_
  exact Rt rfl rfl (bad (by rw [ep,p2'];simp))
 have p2':okU n=true:=by simpa using p2
 refine W ?_
 refine Ci rfl (fun p3=>?_) (fun p3=>?_)
 ·have p3':rightSg (sgS n)=false:=by
   first|exact p3|(have h:(!rightSg (sgS n))=true:=p3;simpa using h)
  refine W ?_
  exact Rt rfl rfl (bad (by rw [ep,p3'];simp))
 have p3':rightSg (sgS n)=true:=by
  first|exact p3|(have h:(!rightSg (sgS n))=false:=p3;simpa using h)
 refine W ?_
 refine Rt rfl rfl ?_
 have hok:sgOk n=true:=by
  rw [ep,g1',g2',g3',an (show 2≤((sgU n).length:Int) by omega),an (show((sgU n).length:Int)≤3 by omega),an (show algOf (lk (sgU n) 0)=digOf (kd n 2) from by first|exact h7|exact Decidable.not_not.1 h7),an (show(lk (sgU n) 1).cls=0 from by first|exact h8|exact Decidable.not_not.1 h8),an (show(lk (sgU n) 1).tag=4 from by first|exact h9|exact Decidable.not_not.1 h9),p1',p2',p3'];rfl
 unfold sgOf
 rw [hok];rfl
instance:Cn Tryz.prog 9 (type_of% @gL):=⟨@gL⟩
end
section
set_option maxRecDepth 100000
set_option maxHeartbeats 4000000
theorem oz {α:Type}(f:α→Nd) (B:Nat):∀ (l:List α),(∀ x∈l,(f x).sz≤B)→Nd.szL (l.map f)≤l.length*B
 |[],_=>by simp [Nd.szL]
 |x::r,h=>by
  have h1:=h x (aF ..)
  have h2:=oz f B r (fun y hy=>h y (aI _ hy))
  simp only [List.map_cons,Nd.szL,aA,Nat.add_mul]
  omega
theorem nameN_sz {l:List At}(hB:∀ a∈l,a.oid.length≤1000000∧a.text.length≤1000000):(nameN l).sz≤300000000:=by
 rw [lZ]
 unfold nameM
 split
 ·rename_i h
  unfold nameB at h
  rw [Bool.and_eq_true,aj] at h
  have h1:=oz atM 12000100 l (fun a ha=>by
   have h2:=atS_sz a
   obtain⟨b1,b2⟩:=hB a ha
   simp only [atM,Nd.sz,Nd.szL,bh];omega)
  have h3:l.length*12000100≤16*12000100:=bz _ z2_
  simp only [Nd.sz,bh];omega
 ·simp [ndZ0,Nd.sz,Nd.szL]
theorem natN_sz (l:List UInt32) (h:l.length≤4096):(natN l).sz≤20000:=by
 have h1:=(lW l).2.2
 have h2:=bl_len l
 omega
theorem digN_sz (h:Int):(digN' h).sz≤1000:=by
 have h1:=lT h
 have h2:=fh (oidH h)
 simp only [digN',Nd.sz,Nd.szL,bh];omega
theorem flds_sz {l:List Fe}(h:l.length≤16) (hB:∀ f∈l,FeS f):Nd.szL (l.map fieldN)≤17600000:=by
 have h1:=oz fieldN 1100000 l (fun f hf=>i_ (hB f hf))
 have h2:l.length*1100000≤16*1100000:=bz _ h
 omega
theorem fz (s:Sg) (hw:SgW s):FnD Tryz.prog 7 [.st s.enc] (.tup [.nd (sgN s),.i (sgE s)]):=by
 have hr0:=l_ s hw
 cases hr:rightSg s with
 |false =>
  rw [hr] at hr0
  refine aB Tryz.func7 rfl Tryz.ntmps7 rfl (fun e=>?_)
  refine W ?_
  refine Rt rfl rfl ?_
  simp only [resD,sgN,sgE,hr];rfl
 |true =>
  rw [hr] at hr0
  obtain⟨b1,b2,b3,b4,b5,b6,b7⟩:=hw
  have hrr:=hr
  simp only [rightSg,Bool.and_eq_true,aj] at hrr
  obtain⟨⟨⟨⟨⟨r1,r2⟩,r3⟩,r4⟩,r5⟩,r6⟩:=hrr
  have bk:s.ski.length≤64:=by
   unfold whoOk at r1
   split at r1
   ·simp only [Bool.and_eq_true,Bool.not_eq_true',decide_eq_false_iff_not] at r1;omega
   ·omega
  have g1:=nameN_sz b2
  have g2:=natN_sz s.serial b3
  have g3:=digN_sz s.hash
  have g4:=flds_sz (jG r3) b5
  have g5:=flds_sz (jG r4) b7
  have c1:=qE s.issuer b1 b2
  have c2:=mn s.serial b3
  have c3:=rg [nameN s.issuer,natN s.serial] (by simp only [Nd.szL];omega)
  have c4:=eA s.signed b4 b5
  have c5:=@nO 2 0 (s.signed.map fieldN) z2_
  have c6:=eA s.unsigned b6 b7
  have c7:=@nO 2 1 (s.unsigned.map fieldN) z2_
  have i3:(intB 3).length≤8:=(hJ 3 bJ bJ).2.2.1
  have i1:(intB 1).length≤8:=(hJ 1 bJ bJ).2.2.1
  have res:∀ L,sgK s=L→resD [.nd (.mk 0 16 true [] L),.i 0]=.tup [.nd (sgN s),.i (sgE s)]:=fun L hL=>by
   simp only [resD,sgN,sgE,hr,if_true,hL]
  have u0:∀ {l:List Fe},¬ 0<(l.length:Int)→l=[]:=fun h=>List.eq_nil_of_length_eq_zero z2_
  refine aB Tryz.func7 rfl Tryz.ntmps7 rfl (fun e=>?_)
  refine W ?_
  refine Ci rfl (fun h2=>?_) (fun h2=>?_)
  ·have h2:¬ 0<(s.ski.length:Int):=by omega
   refine W ?_
   refine Xco (K:=kN) rfl rfl (rf [.mk 0 2 false (intB 1) [],(.mk 0 16 true [] [nameN s.issuer,natN s.serial]),digN' s.hash] (by simp only [Nd.szL,Nd.sz,bh];omega)) rfl ?_
   refine RX1 rfl rfl ?_
   refine dI rfl ?_
   refine W ?_
   refine Ci rfl (fun h3=>?_) (fun h3=>?_)
   ·refine W ?_
    refine Xap kN rfl rfl rfl rfl rfl rfl rfl (by simp) rfl rfl rfl ?_
    refine RX1 rfl rfl ?_
    refine dI rfl ?_
    refine Nvk 4 rfl rfl rfl rfl rfl ?_
    refine W ?_
    refine Xap kN rfl rfl rfl rfl rfl rfl rfl (by simp) rfl rfl rfl ?_
    refine RX1 rfl rfl ?_
    refine dI rfl ?_
    refine Nvk 4 rfl rfl rfl rfl rfl ?_
    refine W ?_
    refine Ci rfl (fun h4=>?_) (fun h4=>?_)
    ·refine W ?_
     refine Xap kN rfl rfl rfl rfl rfl rfl rfl (by simp) rfl rfl rfl ?_
     refine RX1 rfl rfl ?_
     refine dI rfl ?_
     refine Nvk 4 rfl rfl rfl rfl rfl ?_
     refine W ?_
     refine Pl 4 rfl ?_
     refine W ?_
     refine Rt rfl rfl (res _ ?_)
     unfold sgK whoN verN
     rw [if_neg (show ¬ 0<(s.ski.length:Int) by omega),if_neg (show ¬ 0<(s.ski.length:Int) by omega)]
     rw [cH (dJ h3),cH (dJ h4)];rfl
    ·refine W ?_
     refine Pl 4 rfl ?_
     refine W ?_
     refine Rt rfl rfl (res _ ?_)
     unfold sgK whoN verN
     rw [if_neg (show ¬ 0<(s.ski.length:Int) by omega),if_neg (show ¬ 0<(s.ski.length:Int) by omega)]
     rw [cH (dJ h3),u0 h4,cB];rfl
   ·refine W ?_
    refine Xap kN rfl rfl rfl rfl rfl rfl rfl (by simp) rfl rfl rfl ?_
    refine RX1 rfl rfl ?_
    refine dI rfl ?_
    refine Nvk 4 rfl rfl rfl rfl rfl ?_
    refine W ?_
    refine Ci rfl (fun h4=>?_) (fun h4=>?_)
    ·refine W ?_
     refine Xap kN rfl rfl rfl rfl rfl rfl rfl (by simp) rfl rfl rfl ?_
     refine RX1 rfl rfl ?_
     refine dI rfl ?_
     refine Nvk 4 rfl rfl rfl rfl rfl ?_
     refine W ?_
     refine Pl 4 rfl ?_
     refine W ?_
     refine Rt rfl rfl (res _ ?_)
     unfold sgK whoN verN
     rw [if_neg (show ¬ 0<(s.ski.length:Int) by omega),if_neg (show ¬ 0<(s.ski.length:Int) by omega)]
     rw [u0 h3,cB,cH (dJ h4)];rfl
    ·refine W ?_
     refine Pl 4 rfl ?_
     refine W ?_
     refine Rt rfl rfl (res _ ?_)
     unfold sgK whoN verN
     rw [if_neg (show ¬ 0<(s.ski.length:Int) by omega),if_neg (show ¬ 0<(s.ski.length:Int) by omega)]
     rw [u0 h3,cB,u0 h4,cB];rfl
  ·have h2:0<(s.ski.length:Int):=by omega
   refine W ?_
   refine Xco (K:=kN) rfl rfl (rf [.mk 0 2 false (intB 3) [],(.mk 2 0 false s.ski []),digN' s.hash] (by simp only [Nd.szL,Nd.sz,bh];omega)) rfl ?_
   refine RX1 rfl rfl ?_
   refine dI rfl ?_
   refine W ?_
   refine Ci rfl (fun h3=>?_) (fun h3=>?_)
   ·refine W ?_
    refine Xap kN rfl rfl rfl rfl rfl rfl rfl (by simp) rfl rfl rfl ?_
    refine RX1 rfl rfl ?_
    refine dI rfl ?_
    refine Nvk 3 rfl rfl rfl rfl rfl ?_
    refine W ?_
    refine Xap kN rfl rfl rfl rfl rfl rfl rfl (by simp) rfl rfl rfl ?_
    refine RX1 rfl rfl ?_
    refine dI rfl ?_
    refine Nvk 3 rfl rfl rfl rfl rfl ?_
    refine W ?_
    refine Ci rfl (fun h4=>?_) (fun h4=>?_)
    ·refine W ?_
     refine Xap kN rfl rfl rfl rfl rfl rfl rfl (by simp) rfl rfl rfl ?_
     refine RX1 rfl rfl ?_
     refine dI rfl ?_
     refine Nvk 3 rfl rfl rfl rfl rfl ?_
     refine W ?_
     refine Pl 3 rfl ?_
     refine W ?_
     refine Rt rfl rfl (res _ ?_)
     unfold sgK whoN verN
     rw [if_pos (show 0<(s.ski.length:Int) by omega),if_pos (show 0<(s.ski.length:Int) by omega)]
     rw [cH (dJ h3),cH (dJ h4)];rfl
    ·refine W ?_
     refine Pl 3 rfl ?_
     refine W ?_
     refine Rt rfl rfl (res _ ?_)
     unfold sgK whoN verN
     rw [if_pos (show 0<(s.ski.length:Int) by omega),if_pos (show 0<(s.ski.length:Int) by omega)]
     rw [cH (dJ h3),u0 h4,cB];rfl
   ·refine W ?_
    refine Xap kN rfl rfl rfl rfl rfl rfl rfl (by simp) rfl rfl rfl ?_
    refine RX1 rfl rfl ?_
    refine dI rfl ?_
    refine Nvk 3 rfl rfl rfl rfl rfl ?_
    refine W ?_
    refine Ci rfl (fun h4=>?_) (fun h4=>?_)
    ·refine W ?_
     refine Xap kN rfl rfl rfl rfl rfl rfl rfl (by simp) rfl rfl rfl ?_
     refine RX1 rfl rfl ?_
     refine dI rfl ?_
     refine Nvk 3 rfl rfl rfl rfl rfl ?_
     refine W ?_
     refine Pl 3 rfl ?_
     refine W ?_
     refine Rt rfl rfl (res _ ?_)
     unfold sgK whoN verN
     rw [if_pos (show 0<(s.ski.length:Int) by omega),if_pos (show 0<(s.ski.length:Int) by omega)]
     rw [u0 h3,cB,cH (dJ h4)];rfl
    ·refine W ?_
     refine Pl 3 rfl ?_
     refine W ?_
     refine Rt rfl rfl (res _ ?_)
     unfold sgK whoN verN
     rw [if_pos (show 0<(s.ski.length:Int) by omega),if_pos (show 0<(s.ski.length:Int) by omega)]
     rw [u0 h3,cB,u0 h4,cB];rfl
instance:Cn Tryz.prog 7 (type_of% @fz):=⟨@fz⟩
end
section
set_option maxRecDepth 100000
set_option maxHeartbeats 4000000
theorem ey (s:Sg) (hw:SgW s):FnD Tryz.prog 8 [.st s.enc] (.tup [.nd (sgN s),.i (sgE s)]):=by
 have hr0:=rM s hw
 cases hr:rightSg s with
 |false =>
  rw [hr] at hr0
  refine aB Tryz.func8 rfl Tryz.ntmps8 rfl (fun e=>?_)
  refine W ?_
  refine Rt rfl rfl ?_
  simp only [resD,sgN,sgE,hr];rfl
 |true =>
  rw [hr] at hr0
  have c4:=ja s.signed hw.sgd hw.sgdB
  have c6:=ja s.unsigned hw.uns hw.unsB
  have c1:Tg (FnD Tryz.prog 33 [.sl 3 At.enc s.issuer] (.tup [.nd (nameN s.issuer),.i (nameE s.issuer)])):=⟨by
   have h:=jD s.issuer hw.isu hw.isuB
   rw [← lZ] at h;exact h⟩
  have res:∀ L,sgK s=L→resD [.nd (.mk 0 16 true [] L),.i 0]=.tup [.nd (sgN s),.i (sgE s)]:=fun L hL=>by
   simp only [resD,sgN,sgE,hr,if_true,hL]
  have u0:∀ {l:List Fe},¬ 0<(l.length:Int)→l=[]:=fun h=>List.eq_nil_of_length_eq_zero z2_
  have hrr:=hr
  simp only [rightSg,Bool.and_eq_true,aj] at hrr
  obtain⟨⟨⟨⟨⟨r1,r2⟩,r3⟩,r4⟩,r5⟩,r6⟩:=hrr
  have l4:(s.signed.map fieldN).length≤16:=by rw [aK];exact jG r3
  have l6:(s.unsigned.map fieldN).length≤16:=by rw [aK];exact jG r4
  have hw':Tg (SgW s):=⟨hw⟩
  have hr1:=Tg.mk hr0
  clear hw hr hr0
  refine aB Tryz.func8 rfl Tryz.ntmps8 rfl (fun e=>?_)
  refine W ?_
  refine Ca rfl rfl hr1.k ?_
  refine R3 rfl rfl ?_
  refine JLD.nil ?_
  repeat (first|refine JD.seq ?_|refine JD.skip ?_|refine Cqf rfl ?_|refine Cf rfl ?_)
  refine JD.region ?_
  refine R3 rfl rfl ?_
  refine Ca rfl rfl c1.k ?_
  refine R3 rfl rfl ?_
  refine JLD.nil ?_
  repeat (first|refine JD.seq ?_|refine JD.skip ?_)
  refine Xg mixd_ rfl rfl rfl ?_
  refine Cx rfl rfl (qk 1 bJ bJ) ?_
  refine RX1 rfl rfl ?_
  refine Cx rfl rfl (rnat_d s.serial hw'.k.ser) ?_
  refine Cx rfl rfl (seq2_d (nameN s.issuer) (natN s.serial)) ?_
  refine Xlt kN (l:=[.mk 0 2 false (intB 1) [],.mk 0 16 true [] [nameN s.issuer,natN s.serial]]) rfl rfl rfl rfl rfl rfl rfl rfl rfl rfl ?_
  refine RX1 rfl rfl ?_
  refine dI rfl ?_
  refine W ?_
  refine Ci rfl (fun h2=>?_) (fun h2=>?_)
  ·repeat (first|refine JD.seq ?_|refine JD.skip ?_)
   refine Xg mixd_ rfl rfl rfl ?_
   refine Cx rfl rfl (qk 3 bJ bJ) ?_
   refine cF rfl (St1.val2 rfl rfl rfl) ?_
   refine JX.s2r rfl rfl rfl rfl rfl rfl ?_
   refine cF rfl (St1.val2 rfl rfl rfl) ?_
   refine Xlt kN (l:=[.mk 0 2 false (intB 3) [],.mk 2 0 false s.ski []]) rfl rfl rfl rfl rfl rfl rfl rfl rfl rfl ?_
   refine RX1 rfl rfl ?_
   refine dI rfl ?_
   refine W ?_
   refine Ci rfl (fun h3=>?_) (fun h3=>?_)
   ·refine W ?_
    refine Ci rfl (fun h4=>?_) (fun h4=>?_)
    ·refine W ?_
     refine Rt rfl rfl (res _ ?_)
     unfold sgK whoN verN
     rw [if_pos h2,if_pos h2]
     rw [cH (dJ h3),cH (dJ h4)];rfl
    ·refine W ?_
     refine Rt rfl rfl (res _ ?_)
     unfold sgK whoN verN
     rw [if_pos h2,if_pos h2]
     rw [cH (dJ h3),u0 h4,cB];rfl
   ·refine W ?_
    refine Ci rfl (fun h4=>?_) (fun h4=>?_)
    ·refine W ?_
     refine Rt rfl rfl (res _ ?_)
     unfold sgK whoN verN
     rw [if_pos h2,if_pos h2]
     rw [u0 h3,cB,cH (dJ h4)];rfl
    ·refine W ?_
     refine Rt rfl rfl (res _ ?_)
     unfold sgK whoN verN
     rw [if_pos h2,if_pos h2]
     rw [u0 h3,cB,u0 h4,cB];rfl
  ·refine W ?_
   refine Ci rfl (fun h3=>?_) (fun h3=>?_)
   ·refine W ?_
    refine Ci rfl (fun h4=>?_) (fun h4=>?_)
    ·refine W ?_
     refine Rt rfl rfl (res _ ?_)
     unfold sgK whoN verN
     rw [if_neg h2,if_neg h2]
     rw [cH (dJ h3),cH (dJ h4)];rfl
    ·refine W ?_
     refine Rt rfl rfl (res _ ?_)
     unfold sgK whoN verN
     rw [if_neg h2,if_neg h2]
     rw [cH (dJ h3),u0 h4,cB];rfl
   ·refine W ?_
    refine Ci rfl (fun h4=>?_) (fun h4=>?_)
    ·refine W ?_
     refine Rt rfl rfl (res _ ?_)
     unfold sgK whoN verN
     rw [if_neg h2,if_neg h2]
     rw [u0 h3,cB,cH (dJ h4)];rfl
    ·refine W ?_
     refine Rt rfl rfl (res _ ?_)
     unfold sgK whoN verN
     rw [if_neg h2,if_neg h2]
     rw [u0 h3,cB,u0 h4,cB];rfl
instance:Cn Tryz.prog 8 (type_of% @ey):=⟨@ey⟩
end
section
set_option maxRecDepth 100000
set_option maxHeartbeats 4000000
def CvE (y x:OE):Prop:=∀ ρ h k z,DenE ρ h k y z→DenE ρ h k x z
theorem CvE.r {y:OE}:CvE y y:=fun _ _ _ _ h=>h
def CvL:List A→List A→Prop
 |[],[]=>True
 |x::r,y::r'=>CvA x y∧CvL r r'
 |_,_=>False
theorem cvL_ok {ρ:Rho}{h:Part}:∀ {l l':List A}{vs:List Value},CvL l l'→DenAL ρ h l vs→DenAL ρ h l' vs
 |[],[],_,_,k=>k
 |x::r,y::r',_,⟨h1,h2⟩,⟨v,t,e,o1,k1,k2⟩=>⟨v,t,e,o1,h1 _ _ _ k1,cvL_ok h2 k2⟩
 |[],_::_,_,h,_=>h.elim
 |_::_,[],_,h,_=>h.elim
theorem CvE.v {t:TypeId}{l l':List A}(h:CvL l l'):CvE (.var t l) (.var t l'):=fun _ _ _ _ ⟨vs,e,k⟩=>⟨vs,e,cvL_ok h k⟩
theorem CvA.z {α:Type}{sz:Nat}{enc:α→List D}:CvA (.d (.v (.slice none 0 0))) (.d (.sl sz enc [])):=fun _ _ _ k=>pA k
theorem CvA.zb:CvA (.d (.v (.slice none 0 0))) (.d (.bs [])):=fun _ _ _ k=>qZ k
def WkF:List (Nat×OE)→List (Nat×OE)→Prop
 |[],_=>True
 |(k,e)::r,o=>(∃ e1,lkO o k=some e1∧CvE e1 e)∧WkF r (delO o k)
theorem WkF.den {ρ:Rho}{h:Part}:∀ {o' o:List (Nat×OE)}{L:List Ent},WkF o' o→DenO ρ h o L→∃ L' Lr,Parts L' L Lr∧DenO ρ h o' L'
 |[],o,L,_,_=>⟨[],L,.nil,rfl⟩
 |(k,e)::r,o,L,⟨⟨e1,h0,hc⟩,hw⟩,hd=>by
  obtain⟨x,L1,h1,h2,h3⟩:=hd.get h0
  obtain⟨L',Lr,h4,h5⟩:=WkF.den hw h3
  exact⟨x::L',Lr,.cons h1 h4,x,L',rfl,hc _ _ _ _ h2,h5⟩
section
variable {P:Program} [Tb P] {F:Fd}{n:PostD}{x x':Nat→PostD}{a:List (Nat×A)}{o:List (Nat×OE)}{c d:Code}
theorem JD.wf {a':List (Nat×A)}{o':List (Nat×OE)}(hA:WkD a' a) (hO:WkF o' o) (k:JD P F c n x a' o'):JD P F c n x a o:=.mk fun ρ h S L cz=>by
 obtain⟨L',Lr,h1,h2⟩:=hO.den cz.o
 exact J.ents L' h1 (k.k ρ h S L' ⟨cz.t,fun t y hy=>hA.lk cz.s hy,h2⟩)
theorem Jf {γ:Type}(aa:γ→List (Nat×A)) (oo:γ→List (Nat×OE)) (I:γ→Prop) (k1:JD P F c (fun a1 o1=>∃ g,I g∧WkD (aa g) a1∧WkF (oo g) o1) x a o) (k2:∀ g,I g→JD P F d n x' (aa g) (oo g)):JD P F c (JD P F d n x') x a o :=
 JD.cut k1 (fun a1 o1 ⟨g,hI,hA,hO⟩=>(k2 g hI).wf hA hO) (fun _ _ _ h=>h)
end
theorem kdI_kd (n:Nd) (i:Nat) (j:Int) (h:j=(i:Int)):kdI n j=kd n i:=by rw [h,dT]
theorem gt (n:Nd) (hz:n.sz≤8000):FnD Tryz.prog 10 [.nd n] (.tup [.st (sgOfR n).1.enc,.b (sgOfR n).2]):=by
 have hI:sgI n=3∨sgI n=4:=by unfold sgI;split<;>simp
 have i1:kdI n ((sgI n:Int)+1)=kd n (sgI n+1):=kdI_kd n (sgI n+1) _ z2_
 have i2:kdI n ((sgI n:Int)+2)=kd n (sgI n+2):=kdI_kd n (sgI n+2) _ z2_
 have hcr:FnD Tryz.prog 8 [.st (Sg.enc ⟨isuR (kd n 1),serR (kd n 1),skiR (kd n 1),shaOf ((oidT (kd (kd n 2) 0).bytes).getD []),(sgR n).signed,(kdI n ((sgI n:Int)+1)).bytes,(flR (kdI n ((sgI n:Int)+2)).kids).1⟩)] (.tup [.nd (sgN (sgR n)),.i (sgE (sgR n))]):=by
  rw [i1,i2];exact ey (sgR n) (sgw_R hz)
 have bad:sgOkR n=false→resD [.st sg0.enc,.b false]=.tup [.st (sgOfR n).1.enc,.b (sgOfR n).2]:=fun hb=>by
  unfold sgOfR;rw [hb];rfl
 have e1:kdI n 1=kd n 1:=dT n 1
 have e2:kdI n 2=kd n 2:=dT n 2
 have e3:kdI n 3=kd n 3:=dT n 3
 have e10:kdI (kd n 1) 0=kd (kd n 1) 0:=dT _ 0
 have e11:kdI (kd n 1) 1=kd (kd n 1) 1:=dT _ 1
 have e20:kdI (kd n 2) 0=kd (kd n 2) 0:=dT _ 0
 have k1:=fC n 1
 have k2:=fC n 2
 have k3:=fC n 3
 have k10:=fC (kdI n 1) 0
 have k11:=fC (kdI n 1) 1
 have k20:=fC (kdI n 2) 0
 have kb1:=c_ (kdI n 1)
 refine aB Tryz.func10 rfl Tryz.ntmps10 rfl (fun e=>?_)
 have m1:=fC n ((sgI n:Int)+1)
 have m2:=fC n ((sgI n:Int)+2)
 have mb:=c_ (kdI n ((sgI n:Int)+1))
 refine W ?_
 refine Jf (γ:=Unit) (fun _=>[(1,.own 0 0),(2,.own 1 0),(4,.own 2 0)])
  (fun _=>[(2,.var 28 [.d (.sl 3 At.enc (isuR (kd n 1))),.d (.ws (serR (kd n 1))),.d (.bs (skiR (kd n 1))),.d (.i 0),.d nilK,.d nilK,.d nilK]),(1,.var 28 [.d nilK,.d nilK,.d nilK,.d (.i 0),.d nilK,.d nilK,.d nilK]),(0,.whl 31 (.nd n))]) (fun _=>True) ?_ ?_
 ·refine Ci rfl (fun g1=>?_) (fun g1=>?_)
  ·rw [e1] at g1
   have q1:isuR (kd n 1)=[]:=by unfold isuR;rw [if_pos g1]
   have q2:serR (kd n 1)=[]:=by unfold serR;rw [if_pos g1]
   have q3:skiR (kd n 1)=(kdI n 1).bytes:=by unfold skiR;rw [if_pos g1,e1]
   refine W ?_
   rw [q1,q2,q3]
   exact⟨(),trivial,⟨⟨_,rfl,bW⟩,⟨_,rfl,bW⟩,⟨_,rfl,bW⟩,trivial⟩,⟨_,rfl,CvE.v ⟨CvA.z,CvA.z,bW,bW,bW,bW,bW,trivial⟩⟩,⟨_,rfl,CvE.r⟩,⟨_,rfl,CvE.r⟩,trivial⟩
  ·rw [e1] at g1
   have q1:isuR (kd n 1)=(nameOf (kdI (kdI n 1) 0)).1:=by unfold isuR;rw [if_neg g1,e1,e10]
   have q2:serR (kd n 1)=(kdI (kdI n 1) 1).natL:=by unfold serR;rw [if_neg g1,e1,e11]
   have q3:skiR (kd n 1)=[]:=by unfold skiR;rw [if_neg g1]
   refine W ?_
   rw [q1,q2,q3]
   exact⟨(),trivial,⟨⟨_,rfl,bW⟩,⟨_,rfl,bW⟩,⟨_,rfl,bW⟩,trivial⟩,⟨_,rfl,CvE.v ⟨bW,bW,CvA.zb,bW,bW,bW,bW,trivial⟩⟩,⟨_,rfl,CvE.r⟩,⟨_,rfl,CvE.r⟩,trivial⟩
 rintro _ _
 refine W ?_
 refine Jf (γ:=List Fe×Int) (fun g=>[(1,.own 0 0),(2,.own 1 0),(4,.own 2 0),(10,.d (.i g.2))])
  (fun g=>[(2,.var 28 [.d (.sl 3 At.enc (isuR (kd n 1))),.d (.ws (serR (kd n 1))),.d (.bs (skiR (kd n 1))),.d (.i (shaOf ((oidT (kdI (kdI n 2) 0).bytes).getD []))),.d (.sl 2 Fe.enc g.1),.d nilK,.d nilK]),(1,.var 28 [.d nilK,.d nilK,.d nilK,.d (.i 0),.d nilK,.d nilK,.d nilK]),(0,.whl 31 (.nd n))])
  (fun g=>g.1=(sgR n).signed∧g.2=(sgI n:Int)∧(!sgHR n||(flR (kd n 3).kids).2)=true) ?_ ?_
 ·refine Ci rfl (fun g2=>?_) (fun g2=>?_)
  ·rw [e3] at g2
   have hH:sgHR n=true:=an g2
   have q1:(sgR n).signed=(flR (kdI n 3).kids).1:=by show(if sgHR n=true then _ else _)=_;rw [if_pos hH,e3]
   have q2:(sgI n:Int)=4:=by unfold sgI;rw [if_pos hH];rfl
   refine W ?_
   refine Ci rfl (fun g3=>?_) (fun g3=>?_)
   ·have g3':(flR (kd n 3).kids).2=false:=by rw [← e3];simpa using g3
    refine W ?_
    exact Rt rfl rfl (bad (by unfold sgOkR;rw [hH,g3'];rfl))
   ·have g3':(flR (kd n 3).kids).2=true:=by rw [← e3];simpa using g3
    refine W ?_
    exact⟨((flR (kdI n 3).kids).1,4),⟨q1.symm,q2.symm,by rw [g3',Bool.or_true]⟩,⟨⟨_,rfl,bW⟩,⟨_,rfl,bW⟩,⟨_,rfl,bW⟩,⟨_,rfl,bW⟩,trivial⟩,⟨_,rfl,CvE.r⟩,⟨_,rfl,CvE.r⟩,⟨_,rfl,CvE.r⟩,trivial⟩
  ·rw [e3] at g2
   have hH:sgHR n=false:=am g2
   have q1:(sgR n).signed=[]:=by show(if sgHR n=true then _ else _)=_;rw [if_neg (by rw [hH];simp)]
   have q2:(sgI n:Int)=3:=by unfold sgI;rw [if_neg (by rw [hH];simp)];rfl
   refine W ?_
   exact⟨([],3),⟨q1.symm,q2.symm,by rw [hH];rfl⟩,⟨⟨_,rfl,bW⟩,⟨_,rfl,bW⟩,⟨_,rfl,bW⟩,⟨_,rfl,bW⟩,trivial⟩,⟨_,rfl,CvE.v ⟨bW,bW,bW,bW,CvA.z,bW,bW,trivial⟩⟩,⟨_,rfl,CvE.r⟩,⟨_,rfl,CvE.r⟩,trivial⟩
 rintro⟨sgd,kk⟩ ⟨j1,j2,j3⟩
 dsimp only at j1 j2 j3
 subst j1 j2
 rw [e2,e20]
 show JD _ _ _ _ _ [(1,.own 0 0),(2,.own 1 0),(4,.own 2 0),(10,.d (.i (sgI n:Int)))] [(2,.var 28 [.d (.sl 3 At.enc (isuR (kd n 1))),.d (.ws (serR (kd n 1))),.d (.bs (skiR (kd n 1))),.d (.i (shaOf ((oidT (kd (kd n 2) 0).bytes).getD []))),.d (.sl 2 Fe.enc (sgR n).signed),.d nilK,.d nilK]),(1,.var 28 [.d nilK,.d nilK,.d nilK,.d (.i 0),.d nilK,.d nilK,.d nilK]),(0,.whl 31 (.nd n))]
 refine W ?_
 refine JX.s1 [71] rfl (St1.fld rfl rfl cY rfl rfl rfl rfl) ?_
 refine W ?_
 have eU:(flR (kdI n ((sgI n:Int)+2)).kids).2=(flR (kd n (sgI n+2)).kids).2:=by rw [i2]
 have hE:sgE (sgR n)=0↔rightSg (sgR n)=true:=by unfold sgE;cases rightSg (sgR n)<;>simp
 refine Bg rfl rfl (fun p1=>?_) (fun p1=>?_)
 ·have p1':(flR (kd n (sgI n+2)).kids).2=false:=by rw [← eU];simpa using p1
  refine W ?_
  exact Rt rfl rfl (bad (by unfold sgOkR;rw [p1'];simp))
 have p1':(flR (kd n (sgI n+2)).kids).2=true:=by rw [← eU];simpa using p1
 refine W ?_
 refine Bg rfl rfl (fun p2=>?_) (fun p2=>?_)
 ·have p2':rightSg (sgR n)=false:=by
   cases hb:rightSg (sgR n) with
   |false=>rfl
   |true=>exact absurd (hE.2 hb) p2
  refine W ?_
  exact Rt rfl rfl (bad (by unfold sgOkR;rw [p2'];simp))
 have p2':rightSg (sgR n)=true:=hE.1 (by first|exact p2|exact Decidable.not_not.1 p2)
 refine W ?_
 refine Ci rfl (fun p3=>?_) (fun p3=>?_)
 ·have p3':(sgN (sgR n)).beq n=false:=by simpa using p3
  refine W ?_
  exact Rt rfl rfl (bad (by unfold sgOkR;rw [p3'];simp))
 have p3':(sgN (sgR n)).beq n=true:=by simpa using p3
 refine W ?_
 refine Rt rfl rfl ?_
 have hok:sgOkR n=true:=by unfold sgOkR;rw [j3,p1',p2',p3'];rfl
 unfold sgOfR
 rw [hok,i1,i2];rfl
instance:Cn Tryz.prog 10 (type_of% @gt):=⟨@gt⟩
end
section
set_option maxRecDepth 100000
set_option maxHeartbeats 4000000
instance:Cn Tryz.prog 6 (type_of% @jh):=⟨@jh⟩
theorem mK (s:Sg) (h:SgW s):FnD Tryz.prog 12 [.st s.enc,.st s.enc] (.b true):=by
 obtain⟨b1,b2,b3,b4,b5,b6,b7⟩:=h
 have c1:=gq s.issuer z2_
 have c2:=rcmp_d s.serial s.serial z2_ z2_
 have e2:cmpI3 (vL s.serial) (vL s.serial)=0:=by unfold cmpI3;simp
 rw [e2] at c2
 have c3:=eR s.signed s.signed z2_ (fun f hf=>Nat.le_trans (b5 f hf).2.1 z2_)
 have c4:=eR s.unsigned s.unsigned z2_ (fun f hf=>Nat.le_trans (b7 f hf).2.1 z2_)
 rw [an rfl] at c3 c4
 refine aB Tryz.func12 rfl Tryz.ntmps12 rfl (fun e=>?_)
 refine W ?_
 refine Bg rfl rfl (fun _=>?_) (fun h=>absurd rfl h)
 refine W ?_
 refine Bg rfl rfl (fun _=>?_) (fun h=>absurd rfl h)
 refine W ?_
 refine Bg rfl rfl (fun _=>?_) (fun h=>absurd rfl h)
 refine W ?_
 exact Rt rfl rfl rfl
theorem sgw_of {s:Sg}(h:SgS s):SgW s:=by
 obtain⟨a1,a2⟩:=fes_of h.sgd
 obtain⟨a3,a4⟩:=fes_of h.uns
 exact⟨Nat.le_trans h.isu z2_,fun a ha=>⟨Nat.le_trans (h.isuB a ha).1 z2_,Nat.le_trans (h.isuB a ha).2 z2_⟩,Nat.le_trans h.ser z2_,by omega,a2,by omega,a4⟩
theorem sgw_P {n:Nd}(hz:n.sz≤8000):SgW (sgOf n).1:=by
 unfold sgOf
 split
 ·exact sgw_S hz
 ·exact⟨Nat.zero_le _,(fun a ha=>by cases ha),Nat.zero_le _,Nat.zero_le _,(fun a ha=>by cases ha),Nat.zero_le _,(fun a ha=>by cases ha)⟩
theorem cmssigners_d (s:Sg) (n:Nd) (hB:SgBd s) (hb:n.okB):FnD Tryz.prog 3 [.st s.enc,.nd n] (.b true):=by
 have hheavy:=pg s hB
 have hwide:=wide_d n hb
 refine aB Tryz.func3 rfl Tryz.ntmps3 rfl (fun e=>?_)
 refine W ?_
 refine bi (St1.litS (enc:=Sg.enc) [s] rfl rfl rfl rfl (fun _ _=>rfl) rfl rfl rfl rfl rfl) ?_
 refine W ?_
 refine Bg rfl rfl (fun h1=>Z) (fun h1=>?_)
 refine W ?_
 refine Ci rfl (fun h2=>Z) (fun h2=>?_)
 have hz:=wide_sz hb (by simp only [wideB,Bool.or_eq_false_iff,decide_eq_false_iff_not] at h2;exact h2.1)
 have hw:=sgw_of (sgs_of hB h1)
 have c1:=fz s hw
 have c2:=ey s hw
 have c3:=gL n hz
 have c4:=gt n hz
 rw [← sg_same] at c4
 have c5:=@oG (sgN s) (sgN s)
 rw [(Nd.beq_eq _ (sgN s) (sgN s) (aD _)).2 rfl] at c5
 have c6:=mK (sgOf n).1 (sgw_P hz)
 generalize (sgOf n).1=G at *
 generalize (sgOf n).2=B at *
 generalize sgN s=N at *
 generalize sgE s=E at *
 refine W ?_
 refine Bg rfl rfl (fun _=>?_) (fun h=>absurd rfl h)
 refine W ?_
 cases B
 all_goals
  refine W ?_
  exact Rt rfl rfl rfl
end
end Go.Proofs.YtcnacdlfmbigaaaGreatDoor
