/- Walks: the reference's values and bytes of nodes; Walks: numbers of many digits: sizes, bits; Walks: numbers as nodes; the law DerNumbers; Plain: the value of digits of 2 to the 32, and of bytes; Walks: numbers out of bytes; integers and numbers out of nodes; Walks: the program's arithmetic: comparison, product, shift, division by one digit; Walks: the program's division: a digit of a quotient, the quotient, the power; Walks: the program's division and power; Walks: the program's power; Walks: the laws DerWrites and DerAsked; Walks: the reference's arithmetic: product, small numbers; its kept keys; Walks: the reference's division: by one digit; whether digits are above; digits taken away; Walks: the reference's rest of a product, and its division; Walks: the reference's power and comparison; Walks: which keys are right, and how great they are, by the program and by the reference; Walks: the reference's primes and private exponents, and its kept keys; Walks: a byte repeated, by the library; Walks: small functions of keys, by the program, the reference and the law; Walks: the digests there are: how long they are, by the program; Walks: the digests there are, by the reference; Walks: a digest's bytes and its form, by the reference; Walks: a digest's form for a key, signatures, by the reference; Plain: the fixed numbers that every law from 05 on asks for; Walks: a digest's bytes and its form, by the program; Walks: a digest's form, by the program; Numbers there and back: the law DerNumbersBack; Walks: keys' bytes, by the reference; Walks: signatures and keys' bytes, by the program; Walks: keys out of bytes, by the program; Walks: nodes out of bytes, by the reference; Walks: the reference reads a node; Walks: the laws of layer 5: the fixed calls; RsaForms, RsaSigns, RsaProves; Walks: keys out of bytes by the reference, and the law RsaBytes; Contracts over data: bytes and nodes, written and read, by the program and by the reference; The join over data: contracts over data as a law's end; fields as arguments; Plain laws: fields and their nodes; Arrays written out, and their places; Callees that take a row of the caller's own and hand one back. -/
import Derived.Test.YtcnacdlfmbigaaaGreatDoorQ3
set_option linter.unusedSimpArgs false
set_option linter.unusedVariables false
set_option linter.constructorNameAsVariable false
namespace Go.Proofs.YtcnacdlfmbigaaaGreatDoor
open Go Go.RowKit
section
theorem z0_ {p:Prop}(u:p:=by first|(rw [pS (by omega),← e0 (by omega)];(congr 1;first|exact(an (by omega)).symm|exact(am (by omega)).symm|exact decide_eq_decide.2 (by omega)|(rw [← decide_not];exact decide_eq_decide.2 (by omega))))|(rw [pS (by omega)];(congr 1;first|exact(an (by omega)).symm|exact(am (by omega)).symm|exact decide_eq_decide.2 (by omega)|(rw [← decide_not];exact decide_eq_decide.2 (by omega))))|(rw [mE (by omega),leastB];(repeat' split)<;>first|(congr 1;first|exact(an (by omega)).symm|exact(am (by omega)).symm|exact decide_eq_decide.2 (by omega)|(rw [← decide_not];exact decide_eq_decide.2 (by omega)))|(congr 1;first|exact an (by omega)|exact am (by omega))|(exfalso;omega))|(rw [jr (by omega),bits_f (by first|omega|(rw [← e0 (by omega)];omega))];done)|(rw [jr (by omega),bits_1 (by omega) (by omega)];done)|(rw [jr (by omega),bits_n (by omega) (by omega) (by omega),← e1];done)|(rw [valB_5 (by omega)];(congr 1;first|exact(an (by omega)).symm|exact(am (by omega)).symm|exact decide_eq_decide.2 (by omega)|(rw [← decide_not];exact decide_eq_decide.2 (by omega))))|(rw [valB_6 (by omega)];cases (oidT l).isSome<;>rfl)|rw [oq (by omega)]|rw [om (by omega)]|rw [oj (by omega)]|(rw [valB_23 (by omega)];cases psOk l<;>rfl)|(rw [valB_24 (by omega)];cases plOk l<;>rfl)|rw [valB_0 (by omega)]):p:=u
theorem z39_ {p:Prop}(u:p:=by repeat (first|exact trivial|refine⟨rfl,?_⟩|refine⟨(by exact cy (by cases k<;>simp_all<;>omega)),?_⟩)):p:=u
theorem z46_ {p:Prop}(u:p:=by repeat (first|exact trivial|refine⟨rfl,?_⟩|refine⟨(by exact cy (by rw [hBB];simp_all)),?_⟩)):p:=u
end
section
set_option maxRecDepth 100000
theorem ca_110:callT Tryz.prog 110=true:=by kernel_rfl
theorem ca_154:callT Tryz.prog 154=true:=by kernel_rfl
theorem ca_168:callT Tryz.prog 168=true:=by kernel_rfl
theorem ca_194:callT Tryz.prog 194=true:=by kernel_rfl
theorem ca_195:callT Tryz.prog 195=true:=by kernel_rfl
theorem ca_196:callT Tryz.prog 196=true:=by kernel_rfl
theorem ca_197:callT Tryz.prog 197=true:=by kernel_rfl
theorem ca_198:callT Tryz.prog 198=true:=by kernel_rfl
theorem ca_207:callT Tryz.prog 207=true:=by kernel_rfl
theorem ca_208:callT Tryz.prog 208=true:=by kernel_rfl
theorem ca_209:callT Tryz.prog 209=true:=by kernel_rfl
theorem bits_f {b:List UInt8}(h:b.length=0∨7<byteAt b 0):bitsB b=false:=am (fun hh=>hh.1 z2_)
theorem bits_1 {b:List UInt8}(h:b.length=1) (h7:byteAt b 0≤7):bitsB b=decide (((2 ^ byteAt b 0:Nat):Int)=1):=by
 unfold bitsB
 refine decide_eq_decide.2 ?_
 rcases Nat.eq_zero_or_pos (byteAt b 0) with h0|h0
 ·exact⟨fun _=>by rw [h0];rfl,fun _=>⟨by omega,.inl h0⟩⟩
 ·have:2≤2 ^ byteAt b 0:=Nat.pow_le_pow_right (n:=2) bJ h0
  constructor
  ·rintro⟨h1,_⟩;omega
  ·intro h1;omega
theorem bits_n {b:List UInt8}(h0:b.length≠0) (h1:b.length≠1) (h7:byteAt b 0≤7):bitsB b=decide ((byteAt b (b.length-1):Int) % ((2 ^ byteAt b 0:Nat):Int)=0):=by
 unfold bitsB
 refine decide_eq_decide.2 ?_
 constructor
 ·rintro⟨_,h2|h2⟩
  ·rw [h2];simp
  ·rw [← Int.natCast_emod,h2];rfl
 ·intro h2
  rw [← Int.natCast_emod] at h2
  exact⟨by omega,.inr z2_⟩
theorem pow7 (n:Nat) (h:n≤7):1≤2 ^ n∧2 ^ n≤128:=⟨Nat.one_le_two_pow,Nat.pow_le_pow_right (n:=2) bJ h⟩
theorem mL {t:Int}{a:Option Addr}{c:Nat}{l:List UInt8}{h:Part}(hl:SlR u8R 1 h a c l) (hb:l.length≤10000000):Pure Tryz.prog 154 [.int .i64 t,.slice a l.length c] h (.bool (valB t l)):=by
 have e0:=fun hh=>bv l 0 hh
 refine aG Tryz.func154 rfl Tryz.ntmps154 rfl (fun e he=>?_)
 refine aU [(0,_),(1,_)] ⟨rfl,rfl,trivial⟩ ?_
 refine Sr (Ru 1 rfl (a_ (Sr (Ru 3 rfl (a_ ?_)))))
 refine aw (Sr (Ru 1 rfl (a_ (aE (Sr (Ru 2 rfl (a_ (Cs rfl (fun hc1=>?_) fun hc1=>?_))))))))
 ·refine Sr (Ru 3 rfl (Bs 23 rfl (fun hc2=>?_) fun hc2=>?_))
  ·refine Ru 1 rfl (cr rfl rfl  (aC cA rfl rfl (show _=((0:Nat):Int) from rfl) z5_ rfl z2_) rfl ?_)
   rintro _ ⟨b3,o3,hi3,rfl,hE3⟩
   refine aH rfl rfl  (aZ eu rfl z5_) rfl ?_
   refine Ru 2 rfl (Bs 28 rfl (fun hc5=>?_) fun hc5=>?_)
   ·exact Ru 7 rfl (Nk [4] rfl (az (au rfl rfl) z0_ rfl))
   refine Ru 1 rfl (cr rfl rfl  (aC cA rfl rfl (show _=((0:Nat):Int) from rfl) z5_ rfl z2_) rfl ?_)
   rintro _ ⟨b6,o6,hi6,rfl,hE6⟩
   refine aH rfl rfl  (aZ eu rfl z5_) rfl ?_
   exact Ru 4 rfl (Nk [4] rfl (az (au rfl rfl) z0_ rfl))
  exact Ru 12 rfl (Nk [4] rfl (az (au rfl rfl) z0_ rfl))
 refine aw (Sr (Ru 2 rfl (Nk [35,18,5,4,1] rfl (Cs rfl (fun hc8=>?_) fun hc8=>?_))))
 ·refine ax (aM rfl (aw (Sr (Ru 2 rfl (a_ (Cs rfl (fun hc9=>?_) fun hc9=>?_))))))
  ·exact Sr (Ru 3 rfl (Nk [4,1] rfl (az (au rfl rfl) z0_ rfl)))
  refine ax (Kp [4,1] rfl (aw (cT cK cY ?_)))
  have e0:=bv l 0 z2_;have e1:=bv l 1 z2_;have b0:=bK l 0;have b1:=bK l 1
  refine Rq 1 rfl ?_
  refine dE (aC cA rfl rfl (show _=((0:Nat):Int) from rfl) z5_ rfl z2_) rfl ?_
  rintro _ ⟨b10,o10,hi10,rfl,hE10⟩
  refine bR (aZ eu rfl z5_) rfl ?_
  refine bR j8 rfl ?_
  refine bR im rfl ?_
  refine Rq 1 rfl ?_
  refine dE (aC cA rfl rfl (show _=((1:Nat):Int) from rfl) z5_ rfl z2_) rfl ?_
  rintro _ ⟨b12,o12,hi12,rfl,hE12⟩
  refine bR (aZ eu rfl z5_) rfl ?_
  refine bR j8 rfl ?_
  refine bR ky rfl ?_
  refine bR ai_ rfl ?_
  refine Rq 1 rfl ?_
  refine Nq [6,4] rfl ?_
  refine Sr (Ru 3 rfl (Bs 55 rfl (fun hc14=>?_) fun hc14=>?_))
  ·exact Ru 4 rfl (Nk [4] rfl (az (au rfl rfl) z0_ rfl))
  exact Ru 4 rfl (Nk [4] rfl (az (au rfl rfl) z0_ rfl))
 refine Rg (Ru 2 rfl (a_ (Cs rfl (fun hc15=>?_) fun hc15=>?_)))
 ·refine aw (Sr (Ru 2 rfl (Nk [39,5,4,1] rfl (Cs rfl (fun hc16=>?_) fun hc16=>?_))))
  ·exact Sr (Ru 3 rfl (Nk [4,1] rfl (az (au rfl rfl) z0_ rfl)))
  refine ax (aw (cT cK cY ?_))
  have e0:=bv l 0 z2_;have e1:=bv l 1 z2_;have b0:=bK l 0;have b1:=bK l 1
  refine Rq 1 rfl ?_
  refine dE (aC cA rfl rfl (show _=((0:Nat):Int) from rfl) z5_ rfl z2_) rfl ?_
  rintro _ ⟨b17,o17,hi17,rfl,hE17⟩
  refine bR (aZ eu rfl z5_) rfl ?_
  refine bR j8 rfl ?_
  refine bR im rfl ?_
  refine Rq 1 rfl ?_
  refine dE (aC cA rfl rfl (show _=((1:Nat):Int) from rfl) z5_ rfl z2_) rfl ?_
  rintro _ ⟨b19,o19,hi19,rfl,hE19⟩
  refine bR (aZ eu rfl z5_) rfl ?_
  refine bR j8 rfl ?_
  refine bR ky rfl ?_
  refine bR ai_ rfl ?_
  refine Rq 1 rfl ?_
  refine Nq [6,4] rfl ?_
  refine Sr (Ru 3 rfl (Bs 55 rfl (fun hc21=>?_) fun hc21=>?_))
  ·exact Ru 4 rfl (Nk [4] rfl (az (au rfl rfl) z0_ rfl))
  exact Ru 4 rfl (Nk [4] rfl (az (au rfl rfl) z0_ rfl))
 refine Sr (Ru 2 rfl (Nk [59,18,5,4,1] rfl (Cs rfl (fun hc22=>?_) fun hc22=>?_)))
 ·refine aw (Sr (Ru 3 rfl (Bs 63 rfl (fun hc23=>?_) fun hc23=>?_)))
  ·exact Ru 5 rfl (Nk [68,5,4,1] rfl (aM rfl (Sr (Ru 1 rfl (a_ (az (au rfl rfl) z0_ rfl))))))
  refine Ru 1 rfl (cr rfl rfl  (aC cA rfl rfl (show _=((0:Nat):Int) from rfl) z5_ rfl z2_) rfl ?_)
  rintro _ ⟨b24,o24,hi24,rfl,hE24⟩
  refine aH rfl rfl  (aZ eu rfl z5_) rfl ?_
  refine Ru 2 rfl (Nk [68,5,4,1] rfl (Cs rfl (fun hc26=>?_) fun hc26=>?_))
  ·exact Sr (Ru 1 rfl (a_ (az (au rfl rfl) z0_ rfl)))
  have e0:=bv l 0 z2_;have e1:=bv l (l.length-1) z2_;have hp7:=pow7 (byteAt l 0) z2_
  refine ax ?_
  refine Sr (Ru 1 rfl (a_ (aw (Sr (Ru 1 rfl (a_ (aE (bC (fun t_ S_ h_ L_=>∃ (i:Nat),t_=9-i∧S_=[(1,.slice a l.length c),(5,.int .i64 l.length),(7,.int .i64 (2 ^ i:Nat)),(8,.int .i64 i)]∧h=h_∧L_=[]∧(i≤byteAt l 0)) ⟨_,_,?_,⟨0,rfl,rfl,rfl,rfl,by omega⟩⟩ ?_))))))))
  ·repeat (first|exact trivial|refine⟨rfl,?_⟩|refine⟨(by exact cm (by first|rfl|(rw [Nat.pow_succ];omega))),?_⟩)
  rintro _ _ _ _ ⟨i,rfl,rfl,rfl,rfl,hi⟩
  have hpi:=pow7 i z2_
  refine aw (Sr (Ru 2 rfl (cg (aC cA rfl rfl (show _=((0:Nat):Int) from rfl) z5_ rfl z2_) rfl ?_)))
  rintro _ ⟨b27,o27,hi27,rfl,hE27⟩
  refine ae (aZ eu rfl z5_) rfl ?_
  refine ae j8 rfl ?_
  refine Ru 1 rfl (a_ (Cs rfl (fun hc29=>?_) fun hc29=>?_))
  ·refine ax (aw (aE (Rg (Ru 1 rfl (ae im rfl ?_)))))
   refine Ru 1 rfl (a_ (Rg (Ru 1 rfl (ae ai_ rfl ?_))))
   refine Ru 1 rfl (a_ (⟨_,?_,_,?_,⟨i+1,rfl,rfl,rfl,rfl,by omega⟩⟩))
   ·omega
   repeat (first|exact trivial|refine⟨rfl,?_⟩|refine⟨(by exact cm (by first|rfl|(rw [Nat.pow_succ];omega))),?_⟩)
  have hib:i=byteAt l 0:=z2_;rw [hib]
  refine bx (Kp [1,5,7] rfl (aw (Sr (Ru 2 rfl (a_ (Cs rfl (fun hc30=>?_) fun hc30=>?_))))))
  ·exact Sr (Ru 3 rfl (Nk [4,1,5,7] rfl (az (au rfl rfl) z0_ rfl)))
  refine ax (Sr (Ru 2 rfl (ae si_ rfl ?_)))
  refine cg (aC (m:=l.length-1) cA rfl rfl z2_ hl rfl z2_) rfl ?_
  rintro _ ⟨b31,o31,hi31,rfl,hE31⟩
  refine ae (aZ eu rfl z5_) rfl ?_
  refine ae j8 rfl ?_
  refine Ru 1 rfl (ae oe rfl ?_)
  exact Ru 2 rfl (Nk [4] rfl (az (au rfl rfl) z0_ rfl))
 refine Sr (Ru 2 rfl (a_ (Cs rfl (fun hc33=>?_) fun hc33=>?_)))
 ·exact Sr (Ru 3 rfl (Nk [4] rfl (az (au rfl rfl) z0_ rfl)))
 refine Sr (Ru 2 rfl (Nk [96,18,4,1] rfl (Cs rfl (fun hc34=>?_) fun hc34=>?_)))
 ·refine Sr (Ru 1 rfl (aV ca_110 rfl (jC z5_ z2_) rfl ?_))
  exact Ru 5 rfl (Nk [10,4] rfl (Sr (Ru 3 rfl (a_ (az (au rfl rfl) z0_ rfl)))))
 refine Sr (Ru 2 rfl (a_ (Cs rfl (fun hc36=>?_) fun hc36=>?_)))
 ·refine Sr (Ru 1 rfl (ae (cG dq rfl z5_ rfl) rfl ?_))
  refine aV ca_194 rfl (rutf8_fn _ _ z2_) rfl ?_
  exact Ru 1 rfl (Nk [4] rfl (az (au rfl rfl) z0_ rfl))
 refine Sr (Ru 2 rfl (Nk [110,18,4,1] rfl (Cs rfl (fun hc38=>?_) fun hc38=>?_)))
 ·refine Sr (Ru 1 rfl (ae (cG dq rfl z5_ rfl) rfl ?_))
  refine aV ca_195 rfl (rprint_fn _ _ z2_) rfl ?_
  exact Ru 1 rfl (Nk [4] rfl (az (au rfl rfl) z0_ rfl))
 refine Sr (Ru 2 rfl (a_ (Cs rfl (fun hc40=>?_) fun hc40=>?_)))
 ·refine Sr (Ru 1 rfl (ae (cG dq rfl z5_ rfl) rfl ?_))
  refine aV ca_196 rfl (ria5_fn _ _ z2_) rfl ?_
  exact Ru 1 rfl (Nk [4] rfl (az (au rfl rfl) z0_ rfl))
 refine Sr (Ru 2 rfl (Nk [120,18,4,1] rfl (Cs rfl (fun hc42=>?_) fun hc42=>?_)))
 ·refine Sr (Ru 1 rfl (ae (cG dq rfl z5_ rfl) rfl ?_))
  refine aV ca_197 rfl (rN _ _ z2_) rfl ?_
  exact Ru 5 rfl (Nk [12,4] rfl (Sr (Ru 3 rfl (a_ (az (au rfl rfl) z0_ rfl)))))
 refine Sr (Ru 2 rfl (a_ (Cs rfl (fun hc44=>?_) fun hc44=>?_)))
 ·refine Sr (Ru 1 rfl (ae (cG dq rfl z5_ rfl) rfl ?_))
  refine aV ca_198 rfl (rplong_fn _ _ z2_) rfl ?_
  exact Ru 7 rfl (Nk [15,4] rfl (Sr (Ru 3 rfl (a_ (az (au rfl rfl) z0_ rfl)))))
 exact ax (Kp [4] rfl (Sr (Ru 1 rfl (a_ (az (au rfl rfl) z0_ rfl)))))
theorem ij:∀ (l r:List UInt8),belowB l r=decide (0<Go.Lib.compareBytes r l)
 |[],[]=>rfl
 |[],_::_=>rfl
 |_::_,[]=>rfl
 |a::l,b::r=>by
  have ih:=ij l r
  show(if a=b then belowB l r else decide (a<b))=decide (0<(if b<a then(-1:Int) else if a<b then 1 else Go.Lib.compareBytes r l))
  by_cases h:a=b
  ·subst h
   rw [if_pos rfl,if_neg (by simp [UInt8.lt_iff_toNat_lt]),if_neg (by simp [UInt8.lt_iff_toNat_lt]),ih]
  ·rw [if_neg h]
   have hn:a.toNat≠b.toNat:=fun e=>h (UInt8.toNat_inj.1 e)
   by_cases h2:b<a
   ·rw [if_pos h2]
    rw [UInt8.lt_iff_toNat_lt] at h2
    exact decide_eq_decide.2 ⟨fun h3=>by rw [UInt8.lt_iff_toNat_lt] at h3;omega,fun h3=>by omega⟩
   ·have h3:a<b:=by rw [UInt8.lt_iff_toNat_lt] at h2 ⊢;omega
    rw [if_neg h2,if_pos h3,an h3];rfl
theorem qp {c t:Int}{bs:List UInt8}{ks:List Nd}(h:mayB c t true=true) (hb:bs.length=0):(Nd.mk c t true bs ks).put=(Nd.putL (decide (c=0)&&decide (t=17)) ks none []).map (fun b=>headB c t true b.length++b):=by
 have hn:bs=[]:=List.eq_nil_of_length_eq_zero hb
 subst hn
 have hok:okN c t true [] ks=true:=by unfold okN;rw [h];simp
 simp only [Nd.put]
 rw [if_pos hok]
theorem qo {c t:Int}{bs:List UInt8}{ks:List Nd}(h:mayB c t false=true) (hk:ks.length=0):(Nd.mk c t false bs ks).put=if decide (c=0)&&!valB t bs then none else some (headB c t false bs.length++bs):=by
 have hn:ks=[]:=List.eq_nil_of_length_eq_zero hk
 subst hn
 have hok:okN c t false bs []=!(decide (c=0)&&!valB t bs):=by unfold okN;rw [h];simp
 simp only [Nd.put]
 rw [hok]
 cases decide (c=0)&&!valB t bs<;>rfl
theorem put_bad {c t:Int}{k:Bool}{bs:List UInt8}{ks:List Nd}(h:¬ (mayB c t k=true∧(k=true→bs.length=0)∧(k=false→ks.length=0))):(Nd.mk c t k bs ks).put=none:=by
 simp only [Nd.put]
 rw [if_neg]
 intro hok
 refine h ?_
 unfold okN at hok
 rw [Bool.and_eq_true,Bool.and_eq_true,Bool.and_eq_true] at hok
 obtain⟨h1,h2,h3,_⟩:=hok
 refine⟨h1,?_,?_⟩
 ·rintro rfl
  simp at h2
  exact List.length_eq_zero_iff.2 h2
 ·rintro rfl
  simp at h3
  exact List.length_eq_zero_iff.2 h3
theorem may_rng {c t:Int}{k:Bool}(h:mayB c t k=true):(c=0∨c=2)∧0≤t∧t≤30:=by
 unfold mayB at h
 simp only [Bool.and_eq_true,Bool.or_eq_true,aj] at h
 obtain⟨h1,h2⟩:=h
 exact⟨by rcases h2 with h2|h2;exact .inr h2;exact .inl h2.1,h1⟩
theorem rbytes_fn:∀ (n:Nat) (x:Nd) (cs:List Value) (h:Part),x.rk≤n→NdR h cs x→x.sz≤10000000 →
 FnR Tryz.prog 168 [.agg cs.toArray] h (fun v h'=>∃ a c,v=.tuple #[.slice a (x.put.getD []).length c,.bool x.put.isSome]∧SlR u8R 1 h' a c (x.put.getD [])):=by
 intro n
 induction n with
 |zero=>intro x cs h hx;cases x;simp [Nd.rk] at hx
 |succ n ih =>
 intro x cs h hx r hsz
 cases x with
 |mk c t k bs ks =>
 obtain⟨a,ca,b,cb,rfl,ha,hb⟩:=r.inv
 have hl:=hb.big
 have hl2:=ha.big
 simp only [Nd.rk] at hx
 simp only [Nd.sz] at hsz
 have hkr:∀ i (hi:i<ks.length),ks[i].rk≤n∧ks[i].sz≤Nd.szL ks:=fun i hi=>⟨by have:=Nd.rk_lt (aL hi);omega,dh (aL hi)⟩
 refine aG Tryz.func168 rfl Tryz.ntmps168 rfl (fun e he=>?_)
 refine aU [(0,_)] ⟨rfl,trivial⟩ ?_
 have hh0:=aO h
 refine Sr (d8 rfl rfl rfl (fun b1=>?_))
 refine Ru 2 rfl (a_ (aw (aw (cj [(39,.bool (decide (¬ (mayB c t k=true∧(k=true→bs.length=0)∧(k=false→ks.length=0)))))] [(3,_),(2,_),(1,_)] ⟨rfl,rfl,rfl,trivial⟩ ?_ ?_))))
 ·refine Rg (Ru 1 rfl (ae (aq cZ rfl mm_ rfl) rfl ?_))
  refine Ru 1 rfl (ae (aq cZ rfl mm_ rfl) rfl ?_)
  refine Ru 1 rfl (ae (aq j7 rfl mm_ rfl) rfl ?_)
  refine aV ca_207 rfl (rmay_fn _ _ _ _) rfl ?_
  refine Ru 2 rfl (Bs 19 rfl (fun hc3=>?_) fun hc3=>?_)
  ·refine Ru 20 rfl (a_ (⟨rfl,rfl,?_⟩))
   exact z39_
  refine Ru 1 rfl (aH rfl rfl  (aq j7 rfl mm_ rfl) rfl ?_)
  refine Ru 1 rfl (Bs 22 rfl (fun hc4=>?_) fun hc4=>?_)
  ·refine Ru 1 rfl (aH rfl rfl  (aq cU rfl mm_ rfl) rfl ?_)
   refine Ru 5 rfl (Bs 29 rfl (fun hc5=>?_) fun hc5=>?_)
   ·refine Ru 10 rfl (a_ (⟨rfl,rfl,?_⟩))
    exact z39_
   refine Ru 1 rfl (aH rfl rfl  (aq j7 rfl mm_ rfl) rfl ?_)
   refine Ru 2 rfl (Bs 33 rfl (fun hc6=>?_) fun hc6=>?_)
   ·refine Ru 1 rfl (aH rfl rfl  (aq dB rfl mm_ rfl) rfl ?_)
    refine Ru 4 rfl (a_ (⟨rfl,rfl,?_⟩))
    exact z39_
   refine Ru 6 rfl (a_ (⟨rfl,rfl,?_⟩))
   exact z39_
  refine Ru 8 rfl (aH rfl rfl  (aq j7 rfl mm_ rfl) rfl ?_)
  refine Ru 2 rfl (Bs 33 rfl (fun hc7=>?_) fun hc7=>?_)
  ·refine Ru 1 rfl (aH rfl rfl  (aq dB rfl mm_ rfl) rfl ?_)
   refine Ru 4 rfl (a_ (⟨rfl,rfl,?_⟩))
   exact z39_
  refine Ru 6 rfl (a_ (⟨rfl,rfl,?_⟩))
  exact z39_
 refine Cs rfl (fun hc8=>?_) fun hc8=>?_
 ·have hz:=put_bad hc8
  refine Sr (Ru 2 rfl (a_ ?_))
  rw [hz];exact b_ (aS rfl rfl rfl) ⟨none,0,rfl,bc⟩
 obtain⟨hm,hkb,hkk⟩:mayB c t k=true∧(k=true→bs.length=0)∧(k=false→ks.length=0):=(by first|exact hc8|exact Classical.not_not.1 hc8);have hrg:=may_rng hm
 refine ax (Sr (Ru 1 rfl (ae (aq cZ rfl mm_ rfl) rfl ?_)))
 refine ae im rfl ?_
 refine Ru 1 rfl (ae (aq cZ rfl mm_ rfl) rfl ?_)
 refine ae ai_ rfl ?_
 refine Ru 1 rfl (Nk [4,3,2,1] rfl (Sr (Ru 1 rfl (ae (aq cU rfl mm_ rfl) rfl ?_))))
 refine Ru 1 rfl (a_ (aw (Sr (Ru 1 rfl (ae (aq j7 rfl mm_ rfl) rfl ?_)))))
 refine a_ (Cs rfl (fun hc9=>?_) fun hc9=>?_)
 ·subst hc9;have hbz:=hkb rfl;have hpc:=qp (bs:=bs) (ks:=ks) hm hbz
  refine Sr (Ru 1 rfl (ae ai_ rfl ?_))
  refine Ru 1 rfl (Nk [4,5,3,2,1] rfl (Sr (Ru 1 rfl (a_ (Sr (bZ 5 1 ?_))))))
  refine Ru 1 rfl (a_ (Sr (Ru 1 rfl (a_ (aE (bC (fun t_ S_ h_ L_=>∃ (g:Part) (i:Nat) (inB lb:List UInt8) (ai la:Option Addr) (ci lc:Nat),t_=ks.length-i∧S_=[(1,.pointer (some ⟨b1,0,none⟩)),(4,.int .i64 (64*c+t+32)),(5,.slice ai inB.length ci),(6,.slice la lb.length lc),(7,.int .i64 i)]∧g=h_∧L_=[.row ai ci 5 1 inB.length (u8s inB),.blk b1 31 [.int .i64 c,.int .i64 t,.bool true,.slice a bs.length ca,.slice b ks.length cb]]∧(h.le g∧i≤ks.length∧SlR u8R 1 g la lc lb∧inB.length≤8*Nd.szL (ks.take i)∧Nd.putL (decide (c=0)&&decide (t=17)) ks none []=Nd.putL (decide (c=0)&&decide (t=17)) (ks.drop i) (if i=0 then none else some lb) inB)) ⟨_,_,?_,⟨_,0,[],[],_,_,_,_,rfl,rfl,rfl,rfl,⟨by assumption,by omega,bc,by simp,rfl⟩⟩⟩ ?_))))))
  ·exact z7_
  rintro _ _ _ _ ⟨g,i,inB,lb,ai,la,ci,lc,rfl,rfl,rfl,rfl,hhg,hi,hla,hil,hp⟩
  have r:=r.mono hhg;have ha:=ha.mono hhg;have hb:=hb.mono hhg;have hst:=Nd.szL_take_le ks i
  refine aw (Sr (Ru 2 rfl (ae (aq dB rfl mm_ rfl) rfl ?_)))
  refine Ru 2 rfl (a_ (Cs rfl (fun hc10=>?_) fun hc10=>?_))
  ·have hi':i<ks.length:=z2_;have hzt:=Nd.szL_take ks i hi';have hst2:=Nd.szL_take_le ks (i+1);have hki:=hkr i hi';have hps:=Nd.putL_step (decide (c=0)&&decide (t=17)) ks i (if i=0 then none else some lb) inB hi'
   refine ax (aw (aE (Sr (Ru 1 rfl (ae (aq dB rfl mm_ rfl) rfl ?_)))))
   refine Ru 1 rfl (cg (aC mI rfl rfl eD z5_ rfl z2_) rfl ?_)
   rintro _ ⟨b11,o11,hi11,rfl,hE11⟩
   refine cg (RunE.loadA bD rfl z5_) rfl ?_
   rintro _ ⟨_,rfl,hNd12⟩
   refine bI ca_168 rfl (ih (ks[i]'z2_) _ _ hki.1 z5_ z2_) rfl ?_
   rintro _ h13 hle13 ⟨ka,kc,rfl,hkS⟩
   replace r:=r.mono hle13
   replace ha:=ha.mono hle13
   replace hb:=hb.mono hle13
   replace hhg:=hhg.mono hle13
   replace hla:=hla.mono hle13
   replace hNd12:=hNd12.mono hle13
   obtain⟨kp,hkp⟩:∃ kp,kp=(ks[i]'z2_).put:=⟨_,rfl⟩;rw [← hkp] at hkS hps ⊢;obtain⟨BB,hBB⟩:∃ BB,BB=(!kp.isSome||((decide (c=0)&&decide (t=17))&&(decide ((0:Int)<i)&&belowB (kp.getD []) lb))):=⟨_,rfl⟩
   refine Ru 5 rfl (a_ (aw (aw (cj [(88,.bool BB)] [(9,_),(8,_),(67,_),(66,_),(59,_),(65,_),(64,_),(63,_),(62,_),(61,_),(60,_),(56,_),(55,_),(54,_),(53,_),(52,_),(1,_),(4,_),(5,_),(6,_),(7,_)] ⟨rfl,rfl,rfl,rfl,rfl,rfl,rfl,rfl,rfl,rfl,rfl,rfl,rfl,rfl,rfl,rfl,rfl,rfl,rfl,rfl,rfl,trivial⟩ ?_ ?_))))
   ·refine Rg (Ru 3 rfl (Bs 70 rfl (fun hc14=>?_) fun hc14=>?_))
    ·refine Ru 18 rfl (a_ (⟨rfl,rfl,?_⟩))
     exact z46_
    refine Ru 1 rfl (aH rfl rfl  (aq cZ rfl mm_ rfl) rfl ?_)
    refine Ru 2 rfl (Bs 74 rfl (fun hc15=>?_) fun hc15=>?_)
    ·refine Ru 1 rfl (aH rfl rfl  (aq cZ rfl mm_ rfl) rfl ?_)
     refine Ru 3 rfl (Bs 79 rfl (fun hc16=>?_) fun hc16=>?_)
     ·refine Ru 4 rfl (Bs 83 rfl (fun hc17=>?_) fun hc17=>?_)
      ·refine Ru 2 rfl (cE rfl rfl  ca_208 rfl (below_fn z5_ z5_) rfl ?_)
       refine Ru 2 rfl (a_ (⟨rfl,rfl,?_⟩))
       exact z46_
      refine Ru 5 rfl (a_ (⟨rfl,rfl,?_⟩))
      exact z46_
     refine Ru 9 rfl (a_ (⟨rfl,rfl,?_⟩))
     exact z46_
    refine Ru 14 rfl (a_ (⟨rfl,rfl,?_⟩))
    exact z46_
   refine Cs rfl (fun hc19=>?_) fun hc19=>?_
   ·have hz:(Nd.mk c t true bs ks).put=none:=(by rw [hpc,hp,hps];rw [hc19] at hBB;cases kp with
     |none=>rfl
     |some kb=>show Option.map _ (if _ then _ else _)=_;rw [if_pos (by rw [jn,← ij];simpa using hBB.symm)];rfl)
    refine Sr (Ru 2 rfl (a_ ?_))
    rw [hz];exact b_ (aS rfl rfl rfl) ⟨none,0,rfl,bc⟩
   rw [hc19] at hBB;obtain⟨kb,hkb2⟩:∃ kb,kp=some kb:=(by cases kp with
    |none=>simp at hBB
    |some kb=>exact⟨kb,rfl⟩)
   subst hkb2;simp only [Option.getD_some] at hkS ⊢;have hcz:((decide (c=0)&&decide (t=17))&&(decide ((0:Int)<i)&&belowB kb lb))=false:=(by rw [Option.isSome_some,Bool.not_true,Bool.false_or] at hBB;exact hBB.symm);have hkl:=Nd.put_len _ _ kb (aD _) hkp.symm
   refine ax (Sr (Ru 2 rfl (cw cP rfl rfl aW rfl z5_ rfl dl_ z4_ rfl rfl (fun a20 c20 xs20 hC20 hN20=>?_))))
   obtain rfl:=hC20.u8
   refine Ru 1 rfl (a_ (Rg (Ru 2 rfl (a_ (Rg (Ru 1 rfl (ae ai_ rfl ?_)))))))
   refine Ru 1 rfl (a_ (⟨_,?_,_,?_,⟨_,i+1,inB++kb,kb,_,_,_,_,rfl,rfl,rfl,rfl,⟨by assumption,by omega,by assumption,by rw [aX,hzt];omega,by rw [hp,hps];show(if _ then _ else _)=_;rw [if_neg (by rw [jn,← ij,hcz];decide),if_neg z2_]⟩⟩⟩))
   ·omega
   exact z7_
  refine J.pub (R:=u8R) (l:=inB) dl_ aW rfl z2_ (fun h9 hle9 hP9=>?_);replace hhg:=hhg.mono hle9;replace r:=r.mono hle9;replace hb:=hb.mono hle9;replace hla:=hla.mono hle9;clear ha;have ha:=hP9;obtain⟨TG,htg,hz⟩:∃ TG:Nat,64*c+t+32=TG∧(Nd.mk c t true bs ks).put=some ((UInt8.ofNat TG::lenB inB.length)++inB):=⟨tagN c t true,by unfold tagN;rw [if_pos rfl];omega,by rw [hpc,hp,List.drop_of_length_le z2_];rfl⟩;have hinl:inB.length≤100000000:=z2_
  refine bx (Kp [4,5] rfl (Sr (Ru 1 rfl (ae (cx TG ib rfl htg) rfl ?_))))
  refine ct cP mC rfl rfl rfl rfl rfl (fun b21=>?_)
  refine Ru 1 rfl (a_ (Sr (Ru 3 rfl (bI ca_209 rfl (jW z2_) rfl ?_))))
  rintro _ h22 hle22 ⟨a22,c22,rfl,hS22⟩
  replace r:=r.mono hle22
  replace ha:=ha.mono hle22
  replace hb:=hb.mono hle22
  replace hhg:=hhg.mono hle22
  replace hla:=hla.mono hle22
  have hlb9:(lenB inB.length).length≤8:=(by have:=fL 0 0 false inB.length;unfold headB at this;simp only [aA] at this;omega)
  refine JL.rowL (l:=[UInt8.ofNat TG]) (b:=b21) dl_ (by first|rfl|kernel_rfl) (by first|decide|(simp;done)) ?_
  refine cw cP rfl rfl aW rfl z5_ rfl dl_ z4_ rfl rfl (fun a23 c23 xs23 hC23 hN23=>?_)
  obtain rfl:=hC23.u8
  refine Ru 1 rfl (Nk [10,5] rfl (Sr (Ru 2 rfl (cw cP rfl rfl aW rfl z5_ rfl dl_ z4_ rfl rfl (fun a24 c24 xs24 hC24 hN24=>?_)))))
  obtain rfl:=hC24.u8
  refine cM (R:=u8R) (l:=(UInt8.ofNat TG::lenB inB.length)++inB) dl_ aW rfl z4_ (fun h25 hle25 hP25=>?_)
  replace r:=r.mono hle25
  replace ha:=ha.mono hle25
  replace hb:=hb.mono hle25
  replace hhg:=hhg.mono hle25
  replace hla:=hla.mono hle25
  replace hS22:=hS22.mono hle25
  refine Ru 2 rfl (Nk [3,2] rfl ?_)
  rw [hz];exact b_ (aS rfl rfl rfl) ⟨_,_,rfl,by assumption⟩
 subst hc9;have hkz:=hkk rfl;have hpp:=qo (bs:=bs) (ks:=ks) hm hkz;have hhg:=hh0
 refine aw (cj [(103,.bool (decide (c=0)&&!valB t bs))] [(5,_),(4,_),(3,_),(2,_)] ⟨rfl,rfl,rfl,rfl,trivial⟩ ?_ ?_)
 ·refine Rg (Ru 1 rfl (ae (aq cZ rfl mm_ rfl) rfl ?_))
  refine Ru 2 rfl (Bs 96 rfl (fun hc26=>?_) fun hc26=>?_)
  ·refine Ru 1 rfl (aH rfl rfl  (aq cZ rfl mm_ rfl) rfl ?_)
   refine Ru 1 rfl (aH rfl rfl  (aq cU rfl mm_ rfl) rfl ?_)
   refine cE rfl rfl  ca_154 rfl (mL z5_ z2_) rfl ?_
   refine Ru 2 rfl (a_ (⟨rfl,rfl,?_⟩))
   repeat (first|exact trivial|refine⟨rfl,?_⟩|refine⟨(by exact cy (by simp_all)),?_⟩)
  refine Ru 7 rfl (a_ (⟨rfl,rfl,?_⟩))
  repeat (first|exact trivial|refine⟨rfl,?_⟩|refine⟨(by exact cy (by simp_all)),?_⟩)
 refine Cs rfl (fun hc28=>?_) fun hc28=>?_
 ·have hz:(Nd.mk c t false bs ks).put=none:=(by rw [hpp,if_pos (by simpa using hc28)])
  refine Sr (Ru 2 rfl (a_ ?_))
  rw [hz];exact b_ (aS rfl rfl rfl) ⟨none,0,rfl,bc⟩
 obtain⟨inB,hinB⟩:∃ inB,inB=bs:=⟨_,rfl⟩;rw [← hinB];rw [← hinB] at ha;obtain⟨TG,htg,hz⟩:∃ TG:Nat,64*c+t=TG∧(Nd.mk c t false inB ks).put=some ((UInt8.ofNat TG::lenB inB.length)++inB):=⟨tagN c t false,by unfold tagN;rw [if_neg bJ];omega,by rw [hinB,hpp,if_neg (by rw [Bool.not_eq_true];first|exact hc28|(simpa using hc28)|(cases hv:(decide (c=0)&&!valB t bs);rfl;exfalso;simp_all))];rfl⟩;have hinl:inB.length≤100000000:=(by rw [hinB];omega)
 refine ax (Sr (Ru 1 rfl (ae (cx TG ib rfl htg) rfl ?_)))
 refine ct cP mC rfl rfl rfl rfl rfl (fun b29=>?_)
 refine Ru 1 rfl (Nk [10,5,3,2] rfl (Sr (Ru 3 rfl (bI ca_209 rfl (jW z2_) rfl ?_))))
 rintro _ h30 hle30 ⟨a30,c30,rfl,hS30⟩
 replace r:=r.mono hle30
 replace ha:=ha.mono hle30
 replace hb:=hb.mono hle30
 have hlb9:(lenB inB.length).length≤8:=(by have:=fL 0 0 false inB.length;unfold headB at this;simp only [aA] at this;omega)
 refine JL.rowL (l:=[UInt8.ofNat TG]) (b:=b29) dl_ (by first|rfl|kernel_rfl) (by first|decide|(simp;done)) ?_
 refine cw cP rfl rfl aW rfl z5_ rfl dl_ z4_ rfl rfl (fun a31 c31 xs31 hC31 hN31=>?_)
 obtain rfl:=hC31.u8
 refine Ru 1 rfl (Nk [10,5,3,2] rfl (Sr (Ru 2 rfl (cw cP rfl rfl aW rfl z5_ rfl dl_ z4_ rfl rfl (fun a32 c32 xs32 hC32 hN32=>?_)))))
 obtain rfl:=hC32.u8
 refine cM (R:=u8R) (l:=(UInt8.ofNat TG::lenB inB.length)++inB) dl_ aW rfl z4_ (fun h33 hle33 hP33=>?_)
 replace r:=r.mono hle33
 replace ha:=ha.mono hle33
 replace hb:=hb.mono hle33
 replace hS30:=hS30.mono hle33
 refine Ru 2 rfl (Nk [3,2] rfl ?_)
 rw [hz];exact b_ (aS rfl rfl rfl) ⟨_,_,rfl,by assumption⟩
theorem kM {x:Nd}{cs:List Value}{h:Part}(r:NdR h cs x) (hs:x.sz≤10000000):FnR Tryz.prog 168 [.agg cs.toArray] h (fun v h'=>∃ a c,v=.tuple #[.slice a (x.put.getD []).length c,.bool x.put.isSome]∧SlR u8R 1 h' a c (x.put.getD [])):=rbytes_fn _ x cs h (aD _) r hs
theorem jB {x:Nd}{cs:List Value}{h:Part}(r:NdR h cs x) (hs:x.sz≤10000000):Pure Tryz.prog 165 [.agg cs.toArray] h (.bool x.put.isSome):=by
 refine Pure.ofV ?_
 refine aG Tryz.func165 rfl Tryz.ntmps165 rfl (fun e he=>?_)
 refine aU [(0,_)] ⟨rfl,trivial⟩ ?_
 refine Sr (d8 rfl rfl rfl (fun b1=>?_))
 refine Ru 1 rfl (a_ (Sr (ae (bp bD rfl mm_ z9_) rfl ?_)))
 refine bI ca_168 rfl (kM z5_ z2_) rfl ?_
 rintro _ h2 hle2 ⟨a2,c2,rfl,hS2⟩
 replace r:=r.mono hle2
 exact Ru 5 rfl (Nk [4,2] rfl (Sr (Ru 2 rfl (a_ (J.retV (au rfl rfl) rfl)))))
end
section
abbrev dv:=@Int.natCast_add
theorem z41_ {p:Prop}(u:p:=by repeat (first|exact trivial|refine⟨rfl,?_⟩|refine⟨(by exact cy (by first|(rw [decide_eq_decide];omega)|exact(am z2_).symm|exact am z2_)),?_⟩)):p:=u
end
section
set_option maxRecDepth 100000
theorem km:aggT Tryz.prog 180=some none:=by kernel_rfl
theorem rj:callT Tryz.prog 113=true:=by kernel_rfl
theorem ca_138:callT Tryz.prog 138=true:=by kernel_rfl
theorem ca_139:callT Tryz.prog 139=true:=by kernel_rfl
theorem ca_156:callT Tryz.prog 156=true:=by kernel_rfl
theorem ca_169:callT Tryz.prog 169=true:=by kernel_rfl
theorem ca_77:callT Tryz.prog 77=true:=by kernel_rfl
theorem ca_90:callT Tryz.prog 90=true:=by kernel_rfl
theorem iL:convI Tryz.prog 180 194=some .u64:=by kernel_rfl
theorem mw:convI Tryz.prog 180 5=some .u8:=by kernel_rfl
theorem mk_25:mkT Tryz.prog 25=some (5,.int .u8 0,1):=by kernel_rfl
theorem oC:slT Tryz.prog 24=some (180,1):=by kernel_rfl
def d32 (l:List UInt32) (i:Nat):Nat:=(l.getD i 0).toNat
def d64 (l:List UInt64) (i:Nat):Nat:=(l.getD i 0).toNat
theorem d32_at (l:List UInt32) (i:Nat) (h:i<l.length):((l[i]'h).toNat:Int)=d32 l i:=by simp [d32,h]
theorem nL (l:List UInt64) (i:Nat) (h:i<l.length):((l[i]'h).toNat:Int)=d64 l i:=by simp [d64,h]
theorem l9 (l:List UInt32) (i:Nat):d32 l i<4294967296:=UInt32.toNat_lt _
theorem d32_out (l:List UInt32) (i:Nat) (h:l.length≤i):d32 l i=0:=by
 unfold d32;rw [bg,bL h];rfl
theorem mv (l:List UInt64) (i:Nat) (h:l.length≤i):d64 l i=0:=by
 unfold d64;rw [bg,bL h];rfl
def tsz (f:Nat→Nat):Nat→Nat
 |0=>0
 |n+1=>if f n=0 then tsz f n else n+1
theorem gR (f:Nat→Nat):∀ n,tsz f n≤n
 |0=>aD _
 |n+1=>by unfold tsz;split;(have:=gR f n;omega);exact aD _
theorem tsz_top (f:Nat→Nat):∀ n,tsz f n≠0→f (tsz f n-1)≠0
 |0,h=>absurd rfl h
 |n+1,h=>by
  unfold tsz at h ⊢
  by_cases hf:f n=0
  ·rw [if_pos hf] at h ⊢;exact tsz_top f n h
  ·rw [if_neg hf];exact hf
theorem j_ (f:Nat→Nat):∀ n i,tsz f n≤i→i<n→f i=0
 |0,i,_,h=>by omega
 |n+1,i,h,h2=>by
  unfold tsz at h
  by_cases hf:f n=0
  ·rw [if_pos hf] at h
   by_cases hi:i=n
   ·subst hi;exact hf
   ·exact j_ f n i h z2_
  ·rw [if_neg hf] at h;omega
theorem pU (f:Nat→Nat) (n:Nat) (h:¬ (0<n∧f (n-1)=0)):tsz f n=n:=by
 cases n with
 |zero=>rfl
 |succ n=>unfold tsz;exact if_neg (fun hf=>h ⟨by omega,hf⟩)
theorem tsz_go (f:Nat→Nat) (n:Nat) (h:0<n∧f (n-1)=0):tsz f n=tsz f (n-1):=by
 obtain⟨m,rfl⟩:∃ m,n=m+1:=⟨n-1,by omega⟩
 conv=>lhs;unfold tsz
 exact if_pos h.2
def bl (n:Nat):Nat:=if n=0 then 0 else n.log2+1
theorem bl_half (n:Nat) (h:0<n):bl n=bl (n / 2)+1:=by
 unfold bl
 rw [if_neg z2_,Nat.log2_def]
 split
 ·rw [if_neg z2_]
 ·rw [if_pos z2_]
theorem rn (k n:Nat):2 ^ k≤n→bl n=k+bl (n / 2 ^ k):=by
 induction k generalizing n with
 |zero=>intro _;simp
 |succ k ih =>
  intro h
  rw [Nat.pow_succ] at h
  have hp:0<2 ^ k:=Nat.two_pow_pos k
  rw [bl_half n z2_,ih (n / 2) z2_,Nat.div_div_eq_div_mul,Nat.pow_succ,Nat.mul_comm 2]
  omega
theorem my (k n:Nat) (h:n<2 ^ k):bl n≤k:=by
 unfold bl
 split
 ·omega
 ·have:=(Nat.log2_lt z5_).2 h;omega
theorem pM (l:List UInt32) (i:Nat):bl (d32 l i)≤32:=my 32 _ (l9 l i)
def tab8:List UInt8:=[0,1]++List.replicate 2 2++List.replicate 4 3++List.replicate 8 4++List.replicate 16 5++List.replicate 32 6++List.replicate 64 7++List.replicate 128 8
theorem tab8_len:tab8.length=256:=by decide +kernel
theorem tab8_at (n:Nat) (h:n<256):byteAt tab8 n=bl n:=by
 have:∀ i:Fin 256,byteAt tab8 i.val=bl i.val:=by decide +kernel
 exact this ⟨n,h⟩
theorem kW {a:Option Addr}{c:Nat}{l:List UInt32}{h:Part}(hl:SlR u32R 1 h a c l):Pure Tryz.prog 138 [.slice a l.length c] h (.int .i64 (tsz (d32 l) l.length:Nat)):=by
 have hll:=hl.big
 refine aG Tryz.func138 rfl Tryz.ntmps138 rfl (fun e he=>?_)
 refine aU [(0,_)] ⟨rfl,trivial⟩ ?_
 refine Sr (Ru 1 rfl (a_ (Sr (Ru 3 rfl (a_ (aw (aE (bC (fun t_ S_ h_ L_=>∃ (n:Nat),t_=n+1∧S_=[(0,.slice a l.length c),(3,.int .i64 n)]∧h=h_∧L_=[]∧(n≤l.length∧tsz (d32 l) l.length=tsz (d32 l) n)) ⟨_,_,?_,⟨l.length,rfl,rfl,rfl,rfl,⟨aD _,rfl⟩⟩⟩ ?_))))))))
 ·exact gp
 rintro _ _ _ _ ⟨n,rfl,rfl,rfl,rfl,hn,he⟩
 refine aw (aw (cj [(15,.bool (decide (0<n∧d32 l (n-1)=0)))] [(0,_),(3,_)] ⟨rfl,rfl,trivial⟩ ?_ ?_))
 ·refine Rg (Ru 3 rfl (Bs 8 rfl (fun hc1=>?_) fun hc1=>?_))
  ·refine Ru 2 rfl (aH rfl rfl  si_ rfl ?_)
   refine cr rfl rfl  (aC oC rfl rfl eD z5_ rfl z2_) rfl ?_
   rintro _ ⟨b2,o2,hi2,rfl,hE2⟩
   refine aH rfl rfl  (RunV.ld_u32 km rfl z5_) rfl ?_
   rw [d32_at,show((n:Int)-1).toNat=n-1 by omega]
   refine Ru 2 rfl (a_ (⟨rfl,rfl,?_⟩))
   exact z41_
  refine Ru 7 rfl (a_ (⟨rfl,rfl,?_⟩))
  exact z41_
 refine Cs rfl (fun hc4=>?_) fun hc4=>?_
 ·refine ax (aE (Rg (Ru 1 rfl (ae si_ rfl ?_))))
  refine Ru 1 rfl (a_ (⟨_,?_,_,?_,⟨n-1,rfl,rfl,rfl,rfl,⟨by omega,by rw [he,tsz_go _ _ z2_]⟩⟩⟩))
  ·omega
  exact gp
 exact bx (Sr (Ru 2 rfl (Nk [2] rfl (az (au rfl rfl) (by rw [he,pU _ _ z2_]) rfl))))
def hiQ (D n:Nat):Nat:=if D≤n then n / D else n
def hiA (D k n:Nat):Nat:=if D≤n then k else 0
theorem hi_bl (k n:Nat):bl n=hiA (2 ^ k) k n+bl (hiQ (2 ^ k) n):=by
 unfold hiA hiQ
 split
 ·exact rn k n z5_
 ·simp
theorem hi_pos {D n:Nat}(k:Nat) (h:D≤n):hiQ D n=n / D∧hiA D k n=k:=⟨if_pos h,if_pos h⟩
theorem hi_neg {D n:Nat}(k:Nat) (h:¬ D≤n):hiQ D n=n∧hiA D k n=0:=⟨if_neg h,if_neg h⟩
theorem hiA_le (D k n:Nat):hiA D k n≤k:=by unfold hiA;split<;>omega
theorem len32_fn {n:Nat}{h:Part}(hn:n<4294967296):Pure Tryz.prog 139 [.int .u32 n] h (.int .i64 (bl n:Nat)):=by
 have htl:=tab8_len
 have h1:hiQ 65536 n<65536:=by unfold hiQ;split<;>omega
 have h2:hiQ 256 (hiQ 65536 n)<256:=(show ∀ m,m<65536→hiQ 256 m<256 from fun m hm=>by unfold hiQ;split<;>omega) _ h1
 have e1:bl n=hiA 65536 16 n+bl (hiQ 65536 n):=hi_bl 16 n
 have e2:bl (hiQ 65536 n)=hiA 256 8 (hiQ 65536 n)+bl (hiQ 256 (hiQ 65536 n)):=hi_bl 8 _
 have l1:=hiA_le 65536 16 n
 have l2:=hiA_le 256 8 (hiQ 65536 n)
 have l3:=tab8_at _ h2
 have l4:=my 8 _ h2
 refine aG Tryz.func139 rfl Tryz.ntmps139 rfl (fun e he=>?_)
 refine aU [(0,_)] ⟨rfl,trivial⟩ ?_
 refine Sr (Ru 1 rfl (a_ (aw (Sr (Ru 2 rfl (a_ (cj [(0,.int .u32 (hiQ 65536 n:Nat)),(2,.int .i64 (hiA 65536 16 n:Nat))] [] trivial ?_ ?_)))))))
 ·refine Cs rfl (fun hc1=>?_) fun hc1=>?_
  ·have q:=hi_pos (D:=65536) (n:=n) 16 z2_
   refine Sr (Ru 1 rfl (ae (RunV.shr_u32 65536 rfl rfl bJ bJ bJ) rfl ?_))
   refine Ru 1 rfl (Nk [0,2] rfl (Rg (Ru 1 rfl (a_ (⟨rfl,rfl,?_⟩)))))
   exact gp
  have q:=hi_neg (D:=65536) (n:=n) 16 z2_
  refine ax (⟨rfl,rfl,?_⟩)
  exact gp
 refine aw (Sr (Ru 2 rfl (a_ (cj [(0,.int .u32 (hiQ 256 (hiQ 65536 n):Nat)),(2,.int .i64 (hiA 65536 16 n+hiA 256 8 (hiQ 65536 n):Nat))] [] trivial ?_ ?_))))
 ·refine Cs rfl (fun hc2=>?_) fun hc2=>?_
  ·have q:=hi_pos (D:=256) (n:=hiQ 65536 n) 8 z2_
   refine Sr (Ru 1 rfl (ae (RunV.shr_u32 256 rfl rfl bJ bJ bJ) rfl ?_))
   refine Ru 1 rfl (Nk [0,2] rfl (Rg (Ru 1 rfl (ae ai_ rfl ?_))))
   refine Ru 1 rfl (a_ (⟨rfl,rfl,?_⟩))
   exact gp
  have q:=hi_neg (D:=256) (n:=hiQ 65536 n) 8 z2_
  refine ax (⟨rfl,rfl,?_⟩)
  exact gp
 refine Sr (Ru 2 rfl (ae (by first|exact RunV.conv_u8 mw rfl z2_ z2_|exact cD mw rfl) rfl ?_))
 refine ae (bj (p:=tab8) (m:=hiQ 256 (hiQ 65536 n)) d_ cY rfl rfl z2_) rfl ?_
 rw [l3]
 refine ae j8 rfl ?_
 refine ae ai_ rfl ?_
 exact Ru 1 rfl (Nk [2] rfl (az (au rfl rfl) (by rw [e1,e2,dv,dv,dv,Int.add_assoc]) rfl))
def nbits (f:Nat→Nat) (n:Nat):Nat:=if tsz f n=0 then 0 else 32*(tsz f n-1)+bl (f (tsz f n-1))
theorem gc {a:Option Addr}{c:Nat}{l:List UInt32}{h:Part}(hl:SlR u32R 1 h a c l):Pure Tryz.prog 77 [.slice a l.length c] h (.int .i64 (nbits (d32 l) l.length:Nat)):=by
 have hll:=hl.big
 have ht:=gR (d32 l) l.length
 have hb:=pM l (tsz (d32 l) l.length-1)
 refine aG Tryz.func77 rfl Tryz.ntmps77 rfl (fun e he=>?_)
 refine aU [(0,_)] ⟨rfl,trivial⟩ ?_
 refine Sr (Ru 1 rfl (a_ (Sr (Ru 1 rfl (aV ca_138 rfl (kW z5_) rfl ?_)))))
 refine Ru 1 rfl (a_ (aw (Sr (Ru 2 rfl (a_ (Cs rfl (fun hc2=>?_) fun hc2=>?_))))))
 ·have hz:nbits (d32 l) l.length=0:=if_pos z2_
  exact Sr (Ru 1 rfl (Nk [2,3,0] rfl (az (au rfl rfl) (by rw [hz];rfl) rfl)))
 have hz:nbits (d32 l) l.length=32*(tsz (d32 l) l.length-1)+bl (d32 l (tsz (d32 l) l.length-1)):=if_neg z2_
 refine ax (Kp [3,2,0] rfl (Sr (Ru 1 rfl (ae si_ rfl ?_))))
 refine ae im rfl ?_
 refine Ru 2 rfl (ae si_ rfl ?_)
 refine cg (aC oC rfl rfl eD z5_ rfl z2_) rfl ?_
 rintro _ ⟨b3,o3,hi3,rfl,hE3⟩
 refine ae (RunV.ld_u32 km rfl z5_) rfl ?_
 rw [d32_at,show((tsz (d32 l) l.length:Int)-1).toNat=tsz (d32 l) l.length-1 by omega]
 refine aV ca_139 rfl (len32_fn (l9 _ _)) rfl ?_
 refine ae ai_ rfl ?_
 exact Ru 1 rfl (Nk [2] rfl (az (au rfl rfl) (by rw [hz];exact congrArg (Value.int .i64) z2_) rfl))
def wB (f:Nat→Nat) (i:Nat):UInt8:=UInt8.ofNat (f (i / 4) / 256 ^ (i % 4))
def natW (f:Nat→Nat):Nat→List UInt8
 |0=>[]
 |k+1=>wB f k::natW f k
theorem gY (f:Nat→Nat):∀ k,(natW f k).length=k
 |0=>rfl
 |k+1=>by simp [natW,gY f k]
theorem shr_d (i:Nat):(2:Int) ^ (8*((i:Int) % 4)).toNat=256 ^ (i % 4):=by
 have:(8*((i:Int) % 4)).toNat=8*(i % 4):=by omega
 rw [this,Int.pow_mul];rfl
theorem set_rep (m:Nat) (t:List UInt8) (x:UInt8):(List.replicate (m+1) 0++t).set m x=List.replicate m 0++x::t:=by
 rw [List.replicate_succ',List.append_assoc,List.set_append_right _ _ (by simp)]
 simp
theorem rep_one (m:Nat) (t:List UInt8):(List.replicate (m+1) 0++t:List UInt8)=List.replicate m 0++0::t:=by
 rw [List.replicate_succ',List.append_assoc];rfl
theorem oZ {a:Option Addr}{c k:Nat}{l:List UInt32}{h:Part}(hl:SlR u32R 1 h a c l) (hk:k≤65536) (hb:(nbits (d32 l) l.length+7) / 8≤k) :
 FnR Tryz.prog 84 [.slice a l.length c,.int .i64 k] h (fun v h'=>∃ a' c',v=.tuple #[.slice a' (natW (d32 l) k).length c',.int .i64 0]∧SlR u8R 1 h' a' c' (natW (d32 l) k)):=by
 have hll:=hl.big
 refine aG Tryz.func84 rfl Tryz.ntmps84 rfl (fun e he=>?_)
 refine aU [(0,_),(1,_)] ⟨rfl,rfl,trivial⟩ ?_
 have hh0:=aO h
 refine Sr (Ru 2 rfl (a_ (aw (Sr (Ru 3 rfl ?_)))))
 apply On 10 13 3 [5,4,0,1] rfl rfl
 rotate_left
 ·intro hb1 hc1
  exact Ru 3 rfl (Ae (om_f hb1 rfl) rfl)
 rotate_right
 ·exact fun hb1 _=>Ru 3 rfl (Ae (om_t hb1 rfl) rfl)
 refine a_ (Cs rfl (fun hc2=>?_) fun hc2=>?_)
 ·exfalso;omega
 refine ax (aw (Sr (Ru 1 rfl (aV ca_77 rfl (gc z5_) rfl ?_))))
 refine ae ai_ rfl ?_
 refine ae ky rfl ?_
 refine Ru 2 rfl (Nk [19,5,4,0,1] rfl (Cs rfl (fun hc4=>?_) fun hc4=>?_))
 ·exfalso;omega
 refine ax (Sr (Ru 1 rfl ?_))
 refine JL.make1 mk_25 rfl rfl (m:=k) rfl rfl z2_ rfl rfl (fun b1=>?_);rw [iV]
 refine Ru 1 rfl (a_ (aw (Sr (Ru 2 rfl (a_ (aE (bC (fun t_ S_ h_ L_=>∃ (i:Nat) (out:List UInt8),t_=k-i∧S_=[(0,.slice a l.length c),(1,.int .i64 k),(6,.slice (some ⟨b1,0,none⟩) k k),(22,.int .i64 k),(23,.int .i64 i)]∧h=h_∧L_=[.row (some ⟨b1,0,none⟩) k 5 1 k (u8s out)]∧(i≤k∧out=List.replicate (k-i) 0++natW (d32 l) i)) ⟨_,_,?_,⟨0,_,rfl,rfl,rfl,rfl,⟨by omega,by simp [natW]⟩⟩⟩ ?_)))))))
 ·exact z7_
 rintro _ _ _ _ ⟨i,out,rfl,rfl,rfl,rfl,hi,ho⟩
 refine Sr (Ru 1 rfl (a_ (aw (Cs rfl (fun hc6=>?_) fun hc6=>?_))))
 ·have hol:out.length=k:=(by rw [ho,aX,List.length_replicate,gY];omega);have hdl:=l9 l (i / 4)
  refine ax (aw (aE (Sr (Ru 2 rfl (a_ (Sr (Ru 1 rfl (ae ky rfl ?_))))))))
  refine Ru 3 rfl (a_ (Cs rfl (fun hc7=>?_) fun hc7=>?_))
  ·obtain⟨m,hm⟩:∃ m,k-i=m+1:=⟨k-i-1,by omega⟩;have hset:out.set (k-1-i) (wB (d32 l) i)=List.replicate (k-(i+1)) 0++natW (d32 l) (i+1):=(by rw [ho,hm,show k-1-i=m by omega,set_rep,show k-(i+1)=m by omega];rfl)
   refine Rg (Ru 2 rfl (ae si_ rfl ?_))
   refine Ru 1 rfl (ae si_ rfl ?_)
   refine Ru 2 rfl (ae ky rfl ?_)
   refine cg (aC oC rfl rfl eD z5_ rfl z2_) rfl ?_
   rintro _ ⟨b8,o8,hi8,rfl,hE8⟩
   refine ae (RunV.ld_u32 km rfl z5_) rfl ?_
   rw [d32_at,show((i:Int) / 4).toNat=i / 4 by omega]
   refine Ru 1 rfl (ae oe rfl ?_)
   refine ae im rfl ?_
   refine ae (RunV.shr_u32 (256 ^ (i % 4)) rfl rfl z2_ z2_ (shr_d i)) rfl ?_
   refine ae (cx (d32 l (i / 4) / 256 ^ (i % 4)) mw rfl (by rw [Int.natCast_ediv,Int.natCast_pow];rfl)) rfl ?_
   refine ae (RunV.index_at cA (m:=k-1-i) rfl rfl z2_ z2_) rfl ?_
   refine JL.storeRow eu rfl rfl rfl dl_ (show k-1-i<(u8s out).length by rw [iq];omega) ?_;rw [ou]
   refine a_ (Rg (ae ai_ rfl ?_))
   refine Ru 1 rfl (a_ (⟨_,?_,_,?_,⟨i+1,_,rfl,rfl,rfl,rfl,⟨by omega,hset⟩⟩⟩))
   ·omega
   exact z7_
  obtain⟨m,hm⟩:∃ m,k-i=m+1:=⟨k-i-1,by omega⟩;have hset:out=List.replicate (k-(i+1)) 0++natW (d32 l) (i+1):=(by rw [ho,hm,rep_one,show k-(i+1)=m by omega,natW,wB,d32_out l (i / 4) z2_,Nat.zero_div];rfl)
  refine ax (Rg (ae ai_ rfl ?_))
  refine Ru 1 rfl (a_ (⟨_,?_,_,?_,⟨i+1,_,rfl,rfl,rfl,rfl,⟨by omega,hset⟩⟩⟩))
  ·omega
  exact z7_
 refine bx (Kp [6] rfl (Sr ?_))
 have hik:i=k:=z2_;have ho2:out=natW (d32 l) k:=(by rw [ho,hik,Nat.sub_self];rfl);have hkl:=gY (d32 l) k;subst ho2;refine cM (R:=u8R) (l:=natW (d32 l) k) dl_ aW z2_ z2_ (fun h9 hle9 hS9=>?_)
 exact Ru 3 rfl (a_ (b_ (aS rfl rfl rfl) ⟨_,_,by rw [hkl],hS9⟩))
def cutZ (l:List UInt64):List UInt64:=l.take (tsz (d64 l) l.length)
def m64 (x:UInt32):UInt64:=UInt64.ofNat x.toNat
theorem m9 (x:UInt32):(m64 x).toNat=x.toNat:=by
 have:=UInt32.toNat_lt x
 unfold m64;rw [UInt64.toNat_ofNat'];omega
theorem jZ (l:List UInt32) (i:Nat):d64 (l.map m64) i=d32 l i:=by
 unfold d64 d32
 by_cases h:i<l.length
 ·simp [h,m9]
 ·simp [h]
theorem mG {f g:Nat→Nat}(h:∀ i,f i=g i) (n:Nat):tsz f n=tsz g n:=by rw [show f=g from funext h]
theorem r8 (l:List UInt64) (k i:Nat) (h:∀ i,k≤i→i<l.length→d64 l i=0):d64 (l.take k) i=d64 l i:=by
 by_cases hi:i<k
 ·unfold d64;simp [List.getElem?_take,hi]
 ·by_cases hl:i<l.length
  ·rw [h i z2_ hl,mv _ _ (by rw [bH];omega)]
  ·rw [mv l _ z2_,mv _ _ (by rw [bH];omega)]
def digsB (l:List UInt32):List UInt64:=cutZ (l.map m64)
theorem digsB_len (l:List UInt32):(digsB l).length=tsz (d32 l) l.length:=by
 unfold digsB cutZ
 have:=gR (d64 (l.map m64)) (l.map m64).length
 rw [bH,Nat.min_eq_left this,mG (jZ l),aK]
theorem qY (l:List UInt32) (i:Nat):d64 (digsB l) i=d32 l i:=by
 unfold digsB cutZ
 rw [r8 _ _ _ (fun i h1 h2=>j_ _ _ i h1 h2),jZ]
theorem cut_fn {a:Option Addr}{c:Nat}{l:List UInt64}{h:Part}(hl:SlR u64R 1 h a c l):FnR Tryz.prog 169 [.slice a l.length c] h (fun v h'=>∃ a' c',v=.slice a' (cutZ l).length c'∧SlR u64R 1 h' a' c' (cutZ l)):=by
 have hll:=hl.big
 have hh0:=aO h
 refine aG Tryz.func169 rfl Tryz.ntmps169 rfl (fun e he=>?_)
 refine aU [(0,_)] ⟨rfl,trivial⟩ ?_
 refine Sr (Ru 1 rfl (a_ (Sr (Ru 3 rfl (a_ (aw (aE (bC (fun t_ S_ h_ L_=>∃ (n:Nat),t_=n+1∧S_=[(0,.slice a l.length c),(3,.int .i64 n)]∧h=h_∧L_=[]∧(n≤l.length∧tsz (d64 l) l.length=tsz (d64 l) n)) ⟨_,_,?_,⟨l.length,rfl,rfl,rfl,rfl,⟨aD _,rfl⟩⟩⟩ ?_))))))))
 ·exact gp
 rintro _ _ _ _ ⟨n,rfl,rfl,rfl,rfl,hn,he⟩
 refine aw (aw (cj [(15,.bool (decide (0<n∧d64 l (n-1)=0)))] [(0,_),(3,_)] ⟨rfl,rfl,trivial⟩ ?_ ?_))
 ·refine Rg (Ru 3 rfl (Bs 8 rfl (fun hc1=>?_) fun hc1=>?_))
  ·refine Ru 2 rfl (aH rfl rfl  si_ rfl ?_)
   refine cr rfl rfl  (aC cJ rfl rfl eD z5_ rfl z2_) rfl ?_
   rintro _ ⟨b2,o2,hi2,rfl,hE2⟩
   refine aH rfl rfl  (bA cQ rfl z5_) rfl ?_
   rw [nL,show((n:Int)-1).toNat=n-1 by omega]
   refine Ru 2 rfl (a_ (⟨rfl,rfl,?_⟩))
   exact z41_
  refine Ru 7 rfl (a_ (⟨rfl,rfl,?_⟩))
  exact z41_
 refine Cs rfl (fun hc4=>?_) fun hc4=>?_
 ·refine ax (aE (Rg (Ru 1 rfl (ae si_ rfl ?_))))
  refine Ru 1 rfl (a_ (⟨_,?_,_,?_,⟨n-1,rfl,rfl,rfl,rfl,⟨by omega,by rw [he,tsz_go _ _ z2_]⟩⟩⟩))
  ·omega
  exact gp
 have hcz:l.take n=cutZ l:=(by unfold cutZ;rw [he,pU _ _ z2_])
 refine bx (Sr (Ru 2 rfl (cg (RunE.cut_h cJ (m:=n) rfl rfl rfl z5_ rfl z2_) rfl ?_)))
 rintro _ ⟨a9,c9,rfl,hS9⟩
 rw [hcz] at hS9 ⊢
 exact Ru 1 rfl (Nk [2] rfl (b_ (au rfl rfl) ⟨_,_,rfl,hS9⟩))
theorem gH {a:Option Addr}{c:Nat}{l:List UInt32}{h:Part}(hl:SlR u32R 1 h a c l) (hlen:l.length≤1000000):FnR Tryz.prog 113 [.slice a l.length c] h (fun v h'=>∃ a' c',v=.slice a' (digsB l).length c'∧SlR u64R 1 h' a' c' (digsB l)):=by
 have hll:=hl.big
 refine aG Tryz.func113 rfl Tryz.ntmps113 rfl (fun e he=>?_)
 refine aU [(0,_)] ⟨rfl,trivial⟩ ?_
 refine Sr (Ru 1 rfl (a_ (Sr (Ru 1 rfl (a_ (aw (Sr (bZ 194 1 ?_))))))))
 refine Ru 1 rfl (a_ (aE (bC (fun t_ S_ h_ L_=>∃ (g:Part) (i:Nat) (ao:Option Addr) (co:Nat) (xs:List Value),t_=l.length-i∧S_=[(0,.slice a l.length c),(3,.slice ao ((l.map m64).take i).length co),(4,.int .i64 i)]∧g=h_∧L_=[.row ao co 194 1 ((l.map m64).take i).length xs]∧(h.le g∧i≤l.length∧CellsR u64R 1 g xs ((l.map m64).take i))) ⟨_,_,?_,⟨_,0,_,_,_,rfl,rfl,rfl,rfl,⟨aO _,by omega,bQ⟩⟩⟩ ?_)))
 ·exact z7_
 rintro _ _ _ _ ⟨g,i,ao,co,xs,rfl,rfl,rfl,rfl,hhg,hi,hC⟩
 have hl:=hl.mono hhg
 refine aw (Sr (Ru 4 rfl (a_ (Cs rfl (fun hc1=>?_) fun hc1=>?_))))
 ·have hi2:i<l.length:=z2_;have hi':i<(l.map m64).length:=(by rw [aK];omega);have htl:((l.map m64).take i).length=i:=(by rw [bH,aK];omega);have hke:(l.map m64).take i++[m64 (l[i]'hi2)]=(l.map m64).take (i+1):=(by rw [av hi',List.getElem_map])
  refine ax (aw (aE (Rg (Ru 3 rfl (cg (aC oC rfl rfl eD z5_ rfl z2_) rfl ?_)))))
  rintro _ ⟨b2,o2,hi2,rfl,hE2⟩
  refine ae (RunV.ld_u32 km rfl z5_) rfl ?_
  refine ae (by first|exact cX iL rfl z2_ z2_|exact RunV.convw_u64 iL rfl|exact cD iL rfl) rfl ?_
  refine ct fX kw rfl rfl rfl rfl rfl (fun b4=>?_)
  refine bV fX rfl rfl z5_ rfl dl_ dl_ rfl ((by show _=_;rw [m9]:u64R _ [.int .u64 (l[i].toNat:Int)] (m64 l[i]))) z4_ rfl rfl (fun a5 c5 xs5 hC5 hN5=>?_)
  rw [hke] at *
  refine Ru 1 rfl (a_ (Rg (Ru 1 rfl (ae ai_ rfl ?_))))
  refine Ru 1 rfl (a_ (⟨_,?_,_,?_,⟨_,i+1,_,_,_,rfl,rfl,rfl,rfl,⟨by assumption,by omega,by assumption⟩⟩⟩))
  ·omega
  exact z7_
 refine bx (Kp [3] rfl (Sr (Ru 1 rfl ?_)))
 have hke:(l.map m64).take i=l.map m64:=aJ (by rw [aK];omega);have hml:(l.map m64).length=l.length:=aK ..;rw [hke] at hC ⊢;refine cM (R:=u64R) dl_ z5_ rfl z2_ (fun h9 hle9 hS9=>?_);replace hl:=hl.mono hle9;replace hC:=hC.mono hle9;replace hhg:=hhg.mono hle9
 refine bI ca_169 rfl (cut_fn z5_) rfl ?_
 rintro _ h6 hle6 ⟨a6,c6,rfl,hS6⟩
 replace hl:=hl.mono hle6
 replace hhg:=hhg.mono hle6
 replace hC:=hC.mono hle6
 exact Ru 1 rfl (a_ (b_ (au rfl rfl) ⟨_,_,rfl,by assumption⟩))
theorem digit_fn {a:Option Addr}{c i:Nat}{l:List UInt64}{h:Part}(hl:SlR u64R 1 h a c l):Pure Tryz.prog 156 [.slice a l.length c,.int .i64 i] h (.int .u64 (d64 l i:Nat)):=by
 have hll:=hl.big
 refine aG Tryz.func156 rfl Tryz.ntmps156 rfl (fun e he=>?_)
 refine aU [(0,_),(1,_)] ⟨rfl,rfl,trivial⟩ ?_
 refine Sr (Ru 1 rfl (a_ (aw (Sr (Ru 4 rfl (a_ (Cs rfl (fun hc1=>?_) fun hc1=>?_)))))))
 ·refine Sr (Ru 2 rfl (cg (aC cJ rfl rfl eD z5_ rfl z2_) rfl ?_))
  rintro _ ⟨b2,o2,hi2,rfl,hE2⟩
  refine ae (bA cQ rfl z5_) rfl ?_
  rw [nL]
  exact Ru 1 rfl (Nk [4] rfl (az (au rfl rfl) rfl rfl))
 exact ax (Kp [4] rfl (Sr (Ru 1 rfl (a_ (az (au rfl rfl) (by rw [mv l i z2_];rfl) rfl)))))
theorem digit_fn' {a:Option Addr}{c i:Nat}{q:Int}{l:List UInt64}{h:Part}(hl:SlR u64R 1 h a c l) (hq:q=(i:Int)):Pure Tryz.prog 156 [.slice a l.length c,.int .i64 q] h (.int .u64 (d64 l i:Nat)):=by
 subst hq;exact digit_fn hl
theorem jb {a:Option Addr}{c:Nat}{l:List UInt32}{h:Part}(hl:SlR u32R 1 h a c l) (hlen:l.length≤1000000):FnR Tryz.prog 90 [.slice a l.length c] h (fun v _=>v=.int .i64 (nbits (d32 l) l.length:Nat)):=by
 have hll:=hl.big
 have ht:=gR (d32 l) l.length
 have hdl:=digsB_len l
 refine aG Tryz.func90 rfl Tryz.ntmps90 rfl (fun e he=>?_)
 refine aU [(0,_)] ⟨rfl,trivial⟩ ?_
 have hh0:=aO h
 refine Sr (Ru 1 rfl (a_ (Sr (Ru 1 rfl (bI rj rfl (gH z5_ z2_) rfl ?_)))))
 rintro _ h1 hle1 ⟨a1,c1,rfl,hS1⟩
 replace hl:=hl.mono hle1
 replace hh0:=hh0.mono hle1
 refine Ru 1 rfl (a_ (aw (Sr (Ru 3 rfl (Nk [10,3,2] rfl (Cs rfl (fun hc2=>?_) fun hc2=>?_))))))
 ·have hz:nbits (d32 l) l.length=0:=if_pos z2_
  exact Sr (Ru 1 rfl (a_ (b_ (au rfl rfl) (by rw [hz];rfl))))
 have hz:nbits (d32 l) l.length=32*(tsz (d32 l) l.length-1)+bl (d32 l (tsz (d32 l) l.length-1)):=if_neg z2_;have hb:=pM l (tsz (d32 l) l.length-1)
 refine ax (Sr (Ru 2 rfl (ae si_ rfl ?_)))
 refine ae im rfl ?_
 refine Ru 1 rfl (Nk [4,3,2] rfl (aw (Sr (Ru 3 rfl (ae si_ rfl ?_)))))
 refine cg (aC cJ rfl rfl eD z5_ rfl z2_) rfl ?_
 rintro _ ⟨b3,o3,hi3,rfl,hE3⟩
 refine ae (bA cQ rfl z5_) rfl ?_
 rw [nL,show(((digsB l).length:Int)-1).toNat=tsz (d32 l) l.length-1 by omega,qY]
 refine Ru 1 rfl (Nk [5,4,2] rfl (aE (bC (fun t_ S_ h_ L_=>∃ (m:Nat),t_=m+1∧S_=[(4,.int .i64 ((32*(tsz (d32 l) l.length-1)+bl (d32 l (tsz (d32 l) l.length-1)):Nat)-(bl m:Nat):Int)),(5,.int .u64 m)]∧h1=h_∧L_=[]∧(m<4294967296)) ⟨_,_,?_,⟨d32 l (tsz (d32 l) l.length-1),rfl,rfl,rfl,rfl,l9 _ _⟩⟩ ?_)))
 ·exact gp
 rintro _ _ _ _ ⟨m,rfl,rfl,rfl,rfl,hm⟩
 have hbm:=my 32 m hm
 refine aw (Sr (Ru 2 rfl (a_ (Cs rfl (fun hc5=>?_) fun hc5=>?_))))
 ·have hbh:=bl_half m z2_
  refine ax (aw (aE (Rg (Ru 1 rfl (ae ai_ rfl ?_)))))
  refine Ru 1 rfl (a_ (Rg (Ru 1 rfl (ae z37_ rfl ?_))))
  refine Ru 1 rfl (a_ (⟨_,?_,_,?_,⟨m / 2,rfl,rfl,rfl,rfl,by omega⟩⟩))
  ·omega
  exact gp
 have hm0:m=0:=z2_;subst hm0
 exact bx (Sr (Ru 2 rfl (Nk [2] rfl (b_ (au rfl rfl) (by rw [hz];exact congrArg (Value.int .i64) (by show _-((0:Nat):Int)=_;omega))))))
theorem rX (n:Nat):UInt8.ofNat (n % 256)=UInt8.ofNat n:=by
 apply UInt8.toNat_inj.1
 simp
theorem rwrite_fn {a:Option Addr}{c k:Nat}{l:List UInt32}{h:Part}(hl:SlR u32R 1 h a c l) (hlen:l.length≤1000000) (hk:k≤65536) (hb:nbits (d32 l) l.length≤8*k) :
 FnR Tryz.prog 95 [.slice a l.length c,.int .i64 k] h (fun v h'=>∃ a' c',v=.tuple #[.slice a' (natW (d32 l) k).length c',.int .i64 0]∧SlR u8R 1 h' a' c' (natW (d32 l) k)):=by
 have hll:=hl.big
 refine aG Tryz.func95 rfl Tryz.ntmps95 rfl (fun e he=>?_)
 refine aU [(0,_),(1,_)] ⟨rfl,rfl,trivial⟩ ?_
 have hh0:=aO h
 refine Sr (Ru 2 rfl (a_ (aw (Sr (Ru 3 rfl ?_)))))
 apply On 13 16 3 [5,4,0,1] rfl rfl
 rotate_left
 ·intro hb1 hc1
  exact Ru 3 rfl (Ae (om_f hb1 rfl) rfl)
 rotate_right
 ·exact fun hb1 _=>Ru 3 rfl (Ae (om_t hb1 rfl) rfl)
 refine a_ (Cs rfl (fun hc2=>?_) fun hc2=>?_)
 ·exfalso;omega
 refine ax (Sr (Ru 1 rfl (bI rj rfl (gH z5_ z2_) rfl ?_)))
 rintro _ h3 hle3 ⟨da,dc,rfl,hD⟩
 replace hl:=hl.mono hle3
 replace hh0:=hh0.mono hle3
 refine Ru 1 rfl (a_ (aw (Sr (Ru 1 rfl (bI ca_90 rfl (jb z5_ z2_) rfl ?_)))))
 rintro _ h4 hle4 rfl
 replace hl:=hl.mono hle4
 replace hh0:=hh0.mono hle4
 replace hD:=hD.mono hle4
 refine Ru 1 rfl (ae im rfl ?_)
 refine Ru 1 rfl (Nk [23,6,5,4,1] rfl (Cs rfl (fun hc5=>?_) fun hc5=>?_))
 ·exfalso;omega
 refine ax (Sr (Ru 1 rfl ?_))
 refine JL.make1 mk_25 rfl rfl (m:=k) rfl rfl z2_ rfl rfl (fun b1=>?_);rw [iV]
 refine Ru 1 rfl (a_ (aw (Sr (Ru 1 rfl (a_ (aE (bC (fun t_ S_ h_ L_=>∃ (i:Nat) (out:List UInt8),t_=k-i∧S_=[(1,.int .i64 k),(6,.slice da (digsB l).length dc),(7,.slice (some ⟨b1,0,none⟩) k k),(8,.int .i64 i)]∧h4=h_∧L_=[.row (some ⟨b1,0,none⟩) k 5 1 k (u8s out)]∧(i≤k∧out=List.replicate (k-i) 0++natW (d32 l) i)) ⟨_,_,?_,⟨0,_,rfl,rfl,rfl,rfl,⟨by omega,by simp [natW]⟩⟩⟩ ?_)))))))
 ·exact z7_
 rintro _ _ _ _ ⟨i,out,rfl,rfl,rfl,rfl,hi,ho⟩
 refine aw (Sr (Ru 3 rfl (a_ (Cs rfl (fun hc7=>?_) fun hc7=>?_))))
 ·have hol:out.length=k:=(by rw [ho,aX,List.length_replicate,gY];omega);have hdl:=l9 l (i / 4);obtain⟨m,hm⟩:∃ m,k-i=m+1:=⟨k-i-1,by omega⟩;have hset:out.set (k-1-i) (wB (d32 l) i)=List.replicate (k-(i+1)) 0++natW (d32 l) (i+1):=(by rw [ho,hm,show k-1-i=m by omega,set_rep,show k-(i+1)=m by omega];rfl)
  refine ax (aw (aE (Sr (Ru 2 rfl (ae ky rfl ?_)))))
  refine aV ca_156 rfl (digit_fn' (i:=i / 4) hD z2_) rfl ?_
  rw [qY]
  refine Ru 1 rfl (a_ (aw (Sr (Ru 1 rfl (a_ (aE (bC (fun t_ S_ h_ L_=>∃ (j y:Nat),t_=i % 4-j∧S_=[(1,.int .i64 k),(6,.slice da (digsB l).length dc),(7,.slice (some ⟨b1,0,none⟩) k k),(8,.int .i64 i),(9,.int .u64 (y:Nat)),(10,.int .i64 j)]∧h4=h_∧L_=[.row (some ⟨b1,0,none⟩) k 5 1 k (u8s out)]∧(j≤i % 4∧y=d32 l (i / 4) / 256 ^ j∧y<4294967296)) ⟨_,_,?_,⟨0,d32 l (i / 4),rfl,rfl,rfl,rfl,⟨by omega,by simp,hdl⟩⟩⟩ ?_)))))))
  ·exact z7_
  rintro _ _ _ _ ⟨j,y,rfl,rfl,rfl,rfl,hj,hy,hy2⟩
  refine aw (Sr (Ru 2 rfl (ae oe rfl ?_)))
  refine Ru 1 rfl (a_ (Cs rfl (fun hc9=>?_) fun hc9=>?_))
  ·refine ax (aw (aE (Rg (Ru 1 rfl (ae z37_ rfl ?_)))))
   refine Ru 1 rfl (a_ (Rg (Ru 1 rfl (ae ai_ rfl ?_))))
   refine Ru 1 rfl (a_ (⟨_,?_,_,?_,⟨j+1,y / 256,rfl,rfl,rfl,rfl,⟨by omega,by rw [hy,Nat.pow_succ,← Nat.div_div_eq_div_mul],by omega⟩⟩⟩))
   ·omega
   exact z7_
  have hj4:j=i % 4:=z2_;subst hj4
  refine bx (Rg (Ru 2 rfl (ae si_ rfl ?_)))
  refine Ru 1 rfl (ae si_ rfl ?_)
  refine Ru 1 rfl (ae (by first|exact RunV.rem_u64 rfl rfl z2_ z2_|exact RunV.rem rfl rfl z2_) rfl ?_)
  refine ae (cx (y % 256) eZ rfl z2_) rfl ?_
  rw [rX,hy]
  refine ae (RunV.index_at cA (m:=k-1-i) rfl rfl z2_ z2_) rfl ?_
  refine JL.storeRow eu rfl rfl rfl dl_ (show k-1-i<(u8s out).length by rw [iq];omega) ?_;rw [ou]
  refine a_ (Rg (Ru 1 rfl (ae ai_ rfl ?_)))
  refine Ru 1 rfl (a_ (⟨_,?_,_,?_,⟨i+1,_,rfl,rfl,rfl,rfl,⟨by omega,hset⟩⟩⟩))
  ·omega
  exact z7_
 refine bx (Kp [7] rfl (Sr ?_))
 have hik:i=k:=z2_;have ho2:out=natW (d32 l) k:=(by rw [ho,hik,Nat.sub_self];rfl);have hkl:=gY (d32 l) k;subst ho2;refine cM (R:=u8R) (l:=natW (d32 l) k) dl_ aW z2_ z2_ (fun h9 hle9 hS9=>?_)
 exact Ru 3 rfl (a_ (b_ (aS rfl rfl rfl) ⟨_,_,by rw [hkl],hS9⟩))
end
section
set_option maxRecDepth 100000
theorem ap_24:apT Tryz.prog 24=some (180,1,4):=by kernel_rfl
theorem ca_43:callT Tryz.prog 43=true:=by kernel_rfl
theorem ca_84:callT Tryz.prog 84=true:=by kernel_rfl
theorem ca_95:callT Tryz.prog 95=true:=by kernel_rfl
theorem iK:convI Tryz.prog 194 180=some .u32:=by kernel_rfl
theorem zr_180:zeroT Tryz.prog 180=some [.int .u32 0]:=by kernel_rfl
theorem qC (l:List UInt32):nbits (d32 l) l.length≤32*l.length:=by
 have h:=gR (d32 l) l.length
 have hb:=pM l (tsz (d32 l) l.length-1)
 unfold nbits;split<;>omega
def natN (l:List UInt32):Nd:=.mk 0 2 false (natW (d32 l) (nbits (d32 l) l.length / 8+1)) []
theorem nc {a:Option Addr}{c k:Nat}{q:Int}{l:List UInt32}{h:Part}(hl:SlR u32R 1 h a c l) (hq:q=(k:Int)) (hk:k≤65536) (hb:(nbits (d32 l) l.length+7) / 8≤k) :
 FnR Tryz.prog 84 [.slice a l.length c,.int .i64 q] h (fun v h'=>∃ a' c',v=.tuple #[.slice a' (natW (d32 l) k).length c',.int .i64 0]∧SlR u8R 1 h' a' c' (natW (d32 l) k)):=by
 subst hq;exact oZ hl hk hb
theorem rK {a:Option Addr}{c k:Nat}{q:Int}{l:List UInt32}{h:Part}(hl:SlR u32R 1 h a c l) (hlen:l.length≤1000000) (hq:q=(k:Int)) (hk:k≤65536) (hb:nbits (d32 l) l.length≤8*k) :
 FnR Tryz.prog 95 [.slice a l.length c,.int .i64 q] h (fun v h'=>∃ a' c',v=.tuple #[.slice a' (natW (d32 l) k).length c',.int .i64 0]∧SlR u8R 1 h' a' c' (natW (d32 l) k)):=by
 subst hq;exact rwrite_fn hl hlen hk hb
theorem dernat_fn {a:Option Addr}{c:Nat}{l:List UInt32}{h:Part}(hl:SlR u32R 1 h a c l) (hlen:l.length≤4096):FnR Tryz.prog 25 [.slice a l.length c] h (fun v h'=>∃ cs,v=.agg (List.toArray cs)∧NdR h' cs (natN l)):=by
 have hnb:=qC l
 refine aG Tryz.func25 rfl Tryz.ntmps25 rfl (fun e he=>?_)
 refine aU [(0,_)] ⟨rfl,trivial⟩ ?_
 have hh0:=aO h
 refine Sr (bu ew rfl (fun b1=>?_))
 refine a_ (aw (Sr (Ru 1 rfl (aV ca_77 rfl (gc z5_) rfl ?_))))
 refine Ru 1 rfl (a_ (Cs rfl (fun hc3=>?_) fun hc3=>?_))
 ·exfalso;omega
 refine ax (Sr (Ru 2 rfl (aV ca_77 rfl (gc z5_) rfl ?_)))
 refine ae ky rfl ?_
 refine ae ai_ rfl ?_
 refine bI ca_84 rfl (nc (k:=nbits (d32 l) l.length / 8+1) z5_ z2_ z2_ z2_) rfl ?_
 rintro _ h5 hle5 ⟨wa,wc,rfl,hW⟩
 replace hl:=hl.mono hle5
 replace hh0:=hh0.mono hle5
 refine Ru 5 rfl (Nk [3,2] rfl (Sr (Ru 1 rfl (bI ca_31 rfl (oN z5_) rfl ?_))))
 rintro _ h6 hle6 ⟨w6,rfl,hNd6⟩
 replace hl:=hl.mono hle6
 replace hh0:=hh0.mono hle6
 replace hW:=hW.mono hle6
 refine aQ bD rfl rfl dl_ f6 f8 z9_ ?_
 exact a_ (b_ (bS rfl rfl bD mm_ z9_) ⟨_,rfl,by assumption⟩)
theorem rnat_fn {a:Option Addr}{c:Nat}{l:List UInt32}{h:Part}(hl:SlR u32R 1 h a c l) (hlen:l.length≤4096):FnR Tryz.prog 36 [.slice a l.length c] h (fun v h'=>∃ cs,v=.agg (List.toArray cs)∧NdR h' cs (natN l)):=by
 have hnb:=qC l
 refine aG Tryz.func36 rfl Tryz.ntmps36 rfl (fun e he=>?_)
 refine aU [(0,_)] ⟨rfl,trivial⟩ ?_
 have hh0:=aO h
 refine Sr (bu ew rfl (fun b1=>?_))
 refine a_ (aw (Sr (Ru 1 rfl (bI ca_90 rfl (jb z5_ z2_) rfl ?_))))
 rintro _ h2 hle2 rfl
 replace hl:=hl.mono hle2
 replace hh0:=hh0.mono hle2
 refine Ru 1 rfl (a_ (Cs rfl (fun hc3=>?_) fun hc3=>?_))
 ·exfalso;omega
 refine ax (Sr (Ru 2 rfl (bI ca_90 rfl (jb z5_ z2_) rfl ?_)))
 rintro _ h4 hle4 rfl
 replace hl:=hl.mono hle4
 replace hh0:=hh0.mono hle4
 refine ae ky rfl ?_
 refine ae ai_ rfl ?_
 refine bI ca_95 rfl (rK (k:=nbits (d32 l) l.length / 8+1) z5_ z2_ z2_ z2_ z2_) rfl ?_
 rintro _ h5 hle5 ⟨wa,wc,rfl,hW⟩
 replace hl:=hl.mono hle5
 replace hh0:=hh0.mono hle5
 refine Ru 5 rfl (Nk [3,2] rfl (Sr (Ru 1 rfl (ae (aY (cs:=[.int .i64 0,_,.bool false,_,.slice none 0 0]) ez rfl rfl) rfl ?_))))
 refine aQ bD rfl rfl dl_ f6 f8 z9_ ?_
 exact a_ (b_ (bS rfl rfl bD mm_ z9_) ⟨_,rfl,cR hW bc⟩)
def fitI (n:Int) (j:Nat):Prop:=-128≤n / 256 ^ (j-1)∧n / 256 ^ (j-1)<128
instance (n:Int) (j:Nat):Decidable (fitI n j):=by unfold fitI;infer_instance
theorem ib_top (n:Int) (j:Nat):byteAt (ibytes n (j+1)) 0=(n / 256 ^ j % 256).toNat:=by
 show(UInt8.ofNat _).toNat=_
 rw [UInt8.toNat_ofNat'];omega
theorem ib_next (n:Int) (j:Nat):byteAt (ibytes n (j+2)) 1=(n / 256 ^ j % 256).toNat:=by
 show(UInt8.ofNat _).toNat=_
 rw [UInt8.toNat_ofNat'];omega
theorem mm (n:Int) (j:Nat):n / 256 ^ (j+1)=n / 256 ^ j / 256:=by
 rw [Int.pow_succ,Int.ediv_ediv_of_nonneg (Int.le_of_lt (Int.pow_pos bJ))]
theorem m_ (n:Int) (j:Nat) (h:fitI n (j+2)):leastB (ibytes n (j+2))=decide (¬ fitI n (j+1)):=by
 have e0:byteAt (ibytes n (j+2)) 0=_:=ib_top n (j+1);have e1:=ib_next n j;have ed:=mm n j
 have hl:=dn n (j+2)
 unfold leastB
 rw [if_neg z2_,if_neg z2_,decide_eq_decide]
 unfold fitI at h ⊢
 rw [show j+2-1=j+1 from rfl] at h
 rw [show j+1-1=j from rfl]
 generalize n / 256 ^ j=q at *
 generalize n / 256 ^ (j+1)=q' at *
 omega
theorem pZ (n:Int) (j:Nat) (hj:j=0∨¬ fitI n j):∀ k,j+1≤k→(∀ i,j+1≤i→i≤k→fitI n i)→stripB (ibytes n k)=ibytes n (j+1)
 |0,h,_=>by omega
 |1,h,_=>by
  have:j=0:=by omega
  subst this
  exact fG (by unfold leastB;rw [if_neg (by rw [dn];decide),if_pos (dn n 1)])
 |k+2,h,hf=>by
  have hlb:=m_ n k (hf (k+2) h (aD _))
  by_cases hk:k+1=j
  ·subst hk
   exact fG (by rw [hlb];exact an (hj.resolve_left z2_))
  ·rw [jw (by rw [hlb];exact am (fun hn=>hn (hf (k+1) z2_ z2_)))]
   exact pZ n j hj (k+1) z2_ (fun i h1 h2=>hf i h1 z2_)
theorem fit_up (n:Int) (i:Nat) (h:fitI n (i+1)):fitI n (i+2):=by
 have ed:=mm n i
 unfold fitI at *
 rw [show i+2-1=i+1 from rfl]
 rw [show i+1-1=i from rfl] at h
 generalize n / 256 ^ i=q at *
 generalize n / 256 ^ (i+1)=q' at *
 omega
theorem fit_le (n:Int) (j:Nat) (h:fitI n (j+1)):∀ i,j+1≤i→fitI n i
 |0,h1=>by omega
 |1,h1=>by
  have:j=0:=by omega
  subst this;exact h
 |i+2,h1=>by
  by_cases he:j+1=i+2
  ·rw [← he];exact h
  ·exact fit_up n i (fit_le n j h (i+1) z2_)
theorem i6 (n:Int) (j:Nat) (hj7:j≤7) (hj:j=0∨¬ fitI n j) (h:fitI n (j+1)):intB n=ibytes n (j+1) :=
 pZ n j hj 8 z2_ (fun i h1 _=>fit_le n j h i h1)
theorem fit8 (n:Int) (h0:-9223372036854775808≤n) (h1:n≤9223372036854775807):fitI n 8:=by
 unfold fitI
 rw [show(256:Int) ^ (8-1)=72057594037927936 by decide]
 omega
theorem tmod256 (q:Int):(q.tmod 256=q % 256∧0≤q.tmod 256)∨(q.tmod 256=q % 256-256∧q.tmod 256<0):=by
 have h1:=Int.tmod_eq_emod (a:=q) (b:=256)
 have h2:=Int.emod_nonneg q (b:=256) bJ
 have h3:=Int.emod_lt_of_pos q (b:=256) bJ
 split at h1
 ·left;omega
 ·right;rw [show((256:Int).natAbs:Int)=256 from rfl] at h1;omega
theorem RunV.quo256 {f:Fr}{S:Sig}{h:Part}{L:List Ent}{ty T yt:TypeId}{x y:Operand}{q:Int}(hx:ev S x=some (.int .i64 (q-q % 256))) (hy:ev S y=some (.int .i64 256)) (h0:-9223372036854775808≤q) (h1:q≤9223372036854775807):RunV f S h L (.binOp .quo T x y yt) ty (.int .i64 (q / 256)):=by
 have:=RunV.quo (f:=f) (h:=h) (L:=L) (ty:=ty) (T:=T) (yt:=yt) hx hy bJ
 have e:(q-q % 256).tdiv 256=q / 256:=by
  have:q-q % 256=256*(q / 256):=by omega
  rw [this,Int.mul_tdiv_cancel_left _ bJ]
 rwa [e,eQ _ z2_ z2_] at this
theorem rint_fn {n:Int}{h:Part}(h0:-9223372036854775808≤n) (h1:n≤9223372036854775807):FnR Tryz.prog 34 [.int .i64 n] h (fun v h'=>∃ cs,v=.agg (List.toArray cs)∧NdR h' cs (.mk 0 2 false (intB n) [])):=by
 refine aG Tryz.func34 rfl Tryz.ntmps34 rfl (fun e he=>?_)
 refine aU [(0,_)] ⟨rfl,trivial⟩ ?_
 have hh0:=aO h
 refine Sr (bu ew rfl (fun b1=>?_))
 refine a_ (Sr (Ru 1 rfl (a_ (aE (bC (fun t_ S_ h_ L_=>∃ (g:Part) (j:Nat) (q:Int) (la:Option Addr) (lc:Nat),t_=8-j∧S_=[(0,.int .i64 q),(2,.pointer (some ⟨b1,0,none⟩)),(3,.slice la (ibytes n j).length lc)]∧g=h_∧L_=[.blk b1 31 [.int .i64 0,.int .i64 0,.bool false,.slice none 0 0,.slice none 0 0]]∧(h.le g∧SlR u8R 1 g la lc (ibytes n j)∧q=n / 256 ^ j∧-9223372036854775808≤q∧q≤9223372036854775807∧j≤7∧(j=0∨¬ fitI n j))) ⟨_,_,?_,⟨_,0,n,none,0,rfl,rfl,rfl,rfl,⟨by assumption,bc,by simp,by omega,by omega,by omega,.inl rfl⟩⟩⟩ ?_)))))
 ·exact z7_
 rintro _ _ _ _ ⟨g,j,q,la,lc,rfl,rfl,rfl,rfl,hhg,hL,hq,hq0,hq1,hj,hfj⟩
 have htm:=tmod256 q;have hil:=dn n j;have hil1:=dn n (j+1);have hbt:=ib_top n j;have hb0:((ibytes n (j+1))[0]'z2_).toNat=(q % 256).toNat:=(by rw [bv,hbt,hq]);have hib:ibytes n (j+1)=UInt8.ofNat (q % 256).toNat::ibytes n j:=(by rw [hq];rfl);have hds:=mm n j;have hfd:fitI n (j+1)↔-128≤q∧q<128:=(by rw [hq];exact Iff.rfl)
 refine aE (Sr (Ru 1 rfl (ae (RunV.rem rfl rfl bJ) rfl ?_)))
 refine Ru 1 rfl (a_ (aw (Sr (Ru 2 rfl (a_ (cj [(4,.int .i64 (q % 256))] [(8,_),(7,_),(6,_),(0,_),(2,_),(3,_)] ⟨rfl,rfl,rfl,rfl,rfl,rfl,trivial⟩ ?_ ?_))))))
 ·refine Cs rfl (fun hc2=>?_) fun hc2=>?_
  ·refine Rg (Ru 1 rfl (ae ai_ rfl ?_))
   refine Ru 1 rfl (a_ (⟨rfl,rfl,?_⟩))
   exact gp
  refine ax (⟨rfl,rfl,?_⟩)
  exact gp
 refine Sr (Ru 1 rfl (a_ (Sr (Ru 2 rfl (ae (cx (q % 256).toNat cv_2_5 rfl z2_) rfl ?_)))))
 refine ct cP mC rfl rfl rfl rfl rfl (fun b3=>?_)
 refine bZ 5 1 ?_
 refine bV cP rfl rfl (bQ (R:=u8R)) rfl dl_ dl_ rfl (rfl) z4_ rfl rfl (fun a4 c4 xs4 hC4 hN4=>?_)
 obtain rfl:=hC4.u8
 refine Ru 1 rfl (a_ (Sr (Ru 2 rfl (cw cP rfl rfl aW rfl z5_ rfl dl_ z4_ rfl rfl (fun a5 c5 xs5 hC5 hN5=>?_)))))
 obtain rfl:=hC5.u8
 refine cM (R:=u8R) (l:=UInt8.ofNat (q % 256).toNat::ibytes n j) dl_ aW rfl z4_ (fun h6 hle6 hP6=>?_)
 replace hhg:=hhg.mono hle6
 replace hL:=hL.mono hle6
 rw [← hib] at hP6;rw [show([]++[UInt8.ofNat (q % 256).toNat]++ibytes n j:List UInt8)=ibytes n (j+1) from hib.symm]
 refine ae (RunV.assign rfl) rfl ?_
 refine a_ (Sr (Ru 2 rfl (ae si_ rfl ?_)))
 refine ae (RunV.quo256 rfl rfl z2_ z2_) rfl ?_
 refine Ru 1 rfl (a_ (Sr (Ru 3 rfl (Bs 26 rfl (fun hc7=>?_) fun hc7=>?_))))
 ·refine Ru 1 rfl (cr rfl rfl  (aC cA rfl rfl (show _=((0:Nat):Int) from rfl) z5_ rfl z2_) rfl ?_)
  rintro _ ⟨b8,o8,hi8,rfl,hE8⟩
  refine aH rfl rfl  (aZ eu rfl z5_) rfl ?_
  refine Ru 3 rfl (Bs 32 rfl (fun hc10=>?_) fun hc10=>?_)
  ·refine Ru 9 rfl (Nk [41,40,39,38,37,36,35,34,33,32,31,30,29,28,27,26,25,24,0,23,22,21,20,3,19,18,17,5,16,15,14,13,12,4,8,7,6,2] rfl (aM rfl (Sr (Ru 1 rfl (ae (aY (cs:=[.int .i64 0,_,.bool false,_,.slice none 0 0]) ez rfl rfl) rfl ?_)))))
   refine aQ bD rfl rfl dl_ f6 f8 z9_ ?_
   refine a_ ?_
   first|(exfalso;omega)|(have hit:intB n=ibytes n (j+1):=i6 n j hj hfj (hfd.2 z2_);rw [hit];exact b_ (bS rfl rfl bD mm_ z9_) ⟨_,rfl,cR z5_ bc⟩)
  refine Ru 3 rfl (Bs 35 rfl (fun hc11=>?_) fun hc11=>?_)
  ·refine Ru 1 rfl (cr rfl rfl  (aC cA rfl rfl (show _=((0:Nat):Int) from rfl) z5_ rfl z2_) rfl ?_)
   rintro _ ⟨b12,o12,hi12,rfl,hE12⟩
   refine aH rfl rfl  (aZ eu rfl z5_) rfl ?_
   refine Ru 3 rfl (Nk [41,40,39,38,37,36,35,34,33,32,31,30,29,28,27,26,25,24,0,23,22,21,20,3,19,18,17,5,16,15,14,13,12,4,8,7,6,2] rfl (Cs rfl (fun hc14=>?_) fun hc14=>?_))
   ·refine Sr (Ru 1 rfl (ae (aY (cs:=[.int .i64 0,_,.bool false,_,.slice none 0 0]) ez rfl rfl) rfl ?_))
    refine aQ bD rfl rfl dl_ f6 f8 z9_ ?_
    refine a_ ?_
    first|(exfalso;omega)|(have hit:intB n=ibytes n (j+1):=i6 n j hj hfj (hfd.2 z2_);rw [hit];exact b_ (bS rfl rfl bD mm_ z9_) ⟨_,rfl,cR z5_ bc⟩)
   refine ax (⟨_,?_,_,?_,⟨_,j+1,q / 256,_,_,rfl,rfl,rfl,rfl,⟨by assumption,by assumption,by rw [hds,hq],by omega,by omega,(by have h8:=fit8 n h0 h1;by_cases hj8:j=7;(exfalso;subst hj8;have:=hfd.1 h8;omega);omega),.inr (fun hf=>by have:=hfd.1 hf;omega)⟩⟩⟩)
   ·omega
   exact z7_
  refine Ru 6 rfl (Nk [41,40,39,38,37,36,35,34,33,32,31,30,29,28,27,26,25,24,0,23,22,21,20,3,19,18,17,5,16,15,14,13,12,4,8,7,6,2] rfl (dy rfl ?_))
  refine ax (⟨_,?_,_,?_,⟨_,j+1,q / 256,_,_,rfl,rfl,rfl,rfl,⟨by assumption,by assumption,by rw [hds,hq],by omega,by omega,(by have h8:=fit8 n h0 h1;by_cases hj8:j=7;(exfalso;subst hj8;have:=hfd.1 h8;omega);omega),.inr (fun hf=>by have:=hfd.1 hf;omega)⟩⟩⟩)
  ·omega
  exact z7_
 refine Ru 9 rfl (Bs 35 rfl (fun hc15=>?_) fun hc15=>?_)
 ·refine Ru 1 rfl (cr rfl rfl  (aC cA rfl rfl (show _=((0:Nat):Int) from rfl) z5_ rfl z2_) rfl ?_)
  rintro _ ⟨b16,o16,hi16,rfl,hE16⟩
  refine aH rfl rfl  (aZ eu rfl z5_) rfl ?_
  refine Ru 3 rfl (Nk [41,40,39,38,37,36,35,34,33,32,31,30,29,28,27,26,25,24,0,23,22,21,20,3,19,18,17,5,16,15,14,13,12,4,8,7,6,2] rfl (Cs rfl (fun hc18=>?_) fun hc18=>?_))
  ·refine Sr (Ru 1 rfl (ae (aY (cs:=[.int .i64 0,_,.bool false,_,.slice none 0 0]) ez rfl rfl) rfl ?_))
   refine aQ bD rfl rfl dl_ f6 f8 z9_ ?_
   refine a_ ?_
   first|(exfalso;omega)|(have hit:intB n=ibytes n (j+1):=i6 n j hj hfj (hfd.2 z2_);rw [hit];exact b_ (bS rfl rfl bD mm_ z9_) ⟨_,rfl,cR z5_ bc⟩)
  refine ax (⟨_,?_,_,?_,⟨_,j+1,q / 256,_,_,rfl,rfl,rfl,rfl,⟨by assumption,by assumption,by rw [hds,hq],by omega,by omega,(by have h8:=fit8 n h0 h1;by_cases hj8:j=7;(exfalso;subst hj8;have:=hfd.1 h8;omega);omega),.inr (fun hf=>by have:=hfd.1 hf;omega)⟩⟩⟩)
  ·omega
  exact z7_
 refine Ru 6 rfl (Nk [41,40,39,38,37,36,35,34,33,32,31,30,29,28,27,26,25,24,0,23,22,21,20,3,19,18,17,5,16,15,14,13,12,4,8,7,6,2] rfl (dy rfl ?_))
 refine ax (⟨_,?_,_,?_,⟨_,j+1,q / 256,_,_,rfl,rfl,rfl,rfl,⟨by assumption,by assumption,by rw [hds,hq],by omega,by omega,(by have h8:=fit8 n h0 h1;by_cases hj8:j=7;(exfalso;subst hj8;have:=hfd.1 h8;omega);omega),.inr (fun hf=>by have:=hfd.1 hf;omega)⟩⟩⟩)
 ·omega
 exact z7_
def trimL (l:List UInt32):List UInt32:=l.take (tsz (d32 l) l.length)
def n32 (x:UInt64):UInt32:=UInt32.ofNat x.toNat
theorem n32_m64 (x:UInt32):n32 (m64 x)=x:=by
 unfold n32;rw [m9];simp
theorem n32_nat (x:UInt64) (h:x.toNat<4294967296):(n32 x).toNat=x.toNat:=by
 unfold n32;rw [UInt32.toNat_ofNat'];omega
theorem cutZ_len (l:List UInt64):(cutZ l).length≤l.length:=by unfold cutZ;rw [bH];omega
theorem cutZ_at (l:List UInt64) (i:Nat):d64 (cutZ l) i=d64 l i:=r8 _ _ _ (fun i h1 h2=>j_ _ _ i h1 h2)
theorem number_fn {a:Option Addr}{c:Nat}{L:List UInt64}{h:Part}(hl:SlR u64R 1 h a c L) (hd:∀ i,d64 L i<4294967296) (hlen:L.length≤1000000):FnR Tryz.prog 166 [.slice a L.length c] h (fun v h'=>∃ a' c',v=.slice a' ((cutZ L).map n32).length c'∧SlR u32R 1 h' a' c' ((cutZ L).map n32)):=by
 have hcl:=cutZ_len L
 obtain⟨K,hK⟩:∃ K,K=cutZ L:=⟨_,rfl⟩
 have hdK:∀ i,d64 K i<4294967296:=fun i=>by rw [hK,cutZ_at];exact hd i
 rw [← hK] at hcl ⊢
 have hml:(K.map n32).length=K.length:=aK ..
 refine aG Tryz.func166 rfl Tryz.ntmps166 rfl (fun e he=>?_)
 refine aU [(0,_)] ⟨rfl,trivial⟩ ?_
 refine Sr (Ru 1 rfl (a_ (Sr (Ru 1 rfl (bI ca_169 rfl ((hK ▸ cut_fn z5_:FnR _ _ _ _ (fun v h'=>∃ a' c',v=.slice a' K.length c'∧SlR u64R 1 h' a' c' K))) rfl ?_)))))
 rintro _ h1 hle1 ⟨da,dc,rfl,hD⟩
 replace hl:=hl.mono hle1
 refine Ru 1 rfl (a_ (Sr (Ru 1 rfl (a_ (aw (Sr (bZ 180 1 ?_)))))))
 refine Ru 1 rfl (a_ (aE (bC (fun t_ S_ h_ L_=>∃ (g:Part) (i:Nat) (ao:Option Addr) (co:Nat) (xs:List Value),t_=K.length-i∧S_=[(0,.slice da K.length dc),(3,.slice ao ((K.map n32).take i).length co),(4,.int .i64 i)]∧g=h_∧L_=[.row ao co 180 1 ((K.map n32).take i).length xs]∧(h1.le g∧i≤K.length∧CellsR u32R 1 g xs ((K.map n32).take i))) ⟨_,_,?_,⟨_,0,_,_,_,rfl,rfl,rfl,rfl,⟨aO _,by omega,bQ⟩⟩⟩ ?_)))
 ·exact z7_
 rintro _ _ _ _ ⟨g,i,ao,co,xs,rfl,rfl,rfl,rfl,hhg,hi,hC⟩
 have hD:=hD.mono hhg
 refine aw (Sr (Ru 4 rfl (a_ (Cs rfl (fun hc2=>?_) fun hc2=>?_))))
 ·have hi2:i<K.length:=z2_;have hi':i<(K.map n32).length:=z2_;have htl:((K.map n32).take i).length=i:=(by rw [bH];omega);have hke:(K.map n32).take i++[n32 (K[i]'hi2)]=(K.map n32).take (i+1):=(by rw [av hi',List.getElem_map]);have hki:(K[i]'hi2).toNat<4294967296:=(by have:=hdK i;have e:=nL K i hi2;omega)
  refine ax (aw (aE (Rg (Ru 3 rfl (cg (aC cJ rfl rfl eD z5_ rfl z2_) rfl ?_)))))
  rintro _ ⟨b3,o3,hi3,rfl,hE3⟩
  refine ae (bA cQ rfl z5_) rfl ?_
  refine ae (by first|exact RunV.conv_u32 iK rfl z2_ z2_|exact cD iK rfl) rfl ?_
  refine ct ap_24 zr_180 rfl rfl rfl rfl rfl (fun b5=>?_)
  refine bV ap_24 rfl rfl z5_ rfl dl_ dl_ rfl ((by show _=_;rw [n32_nat _ hki]:u32R _ [.int .u32 (K[i].toNat:Int)] (n32 K[i]))) z4_ rfl rfl (fun a6 c6 xs6 hC6 hN6=>?_)
  rw [hke] at *
  refine Ru 1 rfl (a_ (Rg (Ru 1 rfl (ae ai_ rfl ?_))))
  refine Ru 1 rfl (a_ (⟨_,?_,_,?_,⟨_,i+1,_,_,_,rfl,rfl,rfl,rfl,⟨by assumption,by omega,by assumption⟩⟩⟩))
  ·omega
  exact z7_
 refine bx (Kp [3] rfl (Sr (Ru 1 rfl ?_)))
 have hke:(K.map n32).take i=K.map n32:=aJ z2_;rw [hke] at hC ⊢;refine cM (R:=u32R) dl_ z5_ rfl z2_ (fun h9 hle9 hS9=>?_)
 exact Ru 1 rfl (a_ (b_ (au rfl rfl) ⟨_,_,rfl,by assumption⟩))
theorem whole_fn {c t:Int}{k:Bool}{bs:List UInt8}{ks:List Nd}{cs:List Value}{h:Part}(r:NdR h cs (.mk c t k bs ks)) (hT:Tabs h) (hsz:(Nd.mk c t k bs ks).sz≤1073741824) :
 Pure Tryz.prog 162 [.agg cs.toArray] h (.bool ((decide (c=0)&&(decide (t=2)||decide (t=10)))&&(Nd.mk c t k bs ks).put.isSome)):=by
 obtain⟨ka,kca,kb,kcb,rfl,hka,hkb⟩:=r.inv
 refine Pure.ofV ?_
 refine aG Tryz.func162 rfl Tryz.ntmps162 rfl (fun e he=>?_)
 refine aU [(0,_)] ⟨rfl,trivial⟩ ?_
 refine Sr (d8 rfl rfl rfl (fun b1=>?_))
 refine Ru 1 rfl (a_ (Sr (Ru 1 rfl (ae (aq cZ rfl mm_ rfl) rfl ?_))))
 refine Ru 2 rfl ?_
 apply An 6 15 9 [2,1] rfl rfl
 ·intro hb2 hc2
  refine Ru 1 rfl (aH rfl rfl  (aq cZ rfl mm_ rfl) rfl ?_)
  refine Ru 2 rfl ?_
  apply On 10 14 4 [6,2,1] rfl rfl
  rotate_left
  ·intro hb3 hc3
   refine Ru 1 rfl (aH rfl rfl  (aq cZ rfl mm_ rfl) rfl ?_)
   exact Ru 2 rfl (Ae (om_f hb3 rfl) rfl)
  rotate_right
  ·exact fun hb3 _=>Ru 4 rfl (Ae (om_t hb3 rfl) rfl)
  exact Ru 1 rfl (Ae (am_t hb2 rfl) rfl)
 ·exact fun hb2 _=>Ru 9 rfl (Ae (am_f hb2 rfl) rfl)
 refine Ru 1 rfl ?_
 apply An 16 19 3 [2] rfl rfl
 ·intro hb4 hc4
  refine aH rfl rfl  (bp bD rfl mm_ z9_) rfl ?_
  refine cE rfl rfl  ca_43 rfl (ql r hT hsz) rfl ?_
  exact Ru 1 rfl (Ae (am_t hb4 rfl) rfl)
 ·exact fun hb4 _=>Ru 3 rfl (Ae (am_f hb4 rfl) rfl)
 exact Ru 1 rfl (a_ (J.retV (au rfl rfl) rfl))
theorem nZ (x y:Int) (hx:x % 256=0) (hx0:-9223372036854775808≤x) (hx1:x≤9223372036854775807) (hy0:0≤y) (hy1:y<256):bits .or .i64 x y=x+y:=by
 have e1:(BitVec.ofInt 64 x).toNat=(x % 18446744073709551616).toNat:=by rw [BitVec.toNat_ofInt];rfl
 have e2:(BitVec.ofInt 64 y).toNat=y.toNat:=by rw [BitVec.toNat_ofInt,show(((2 ^ 64:Nat):Int))=18446744073709551616 from rfl];omega
 show IntKind.i64.wrap (((BitVec.ofInt 64 x) ||| (BitVec.ofInt 64 y)).toNat:Nat)=x+y
 rw [BitVec.toNat_or,e1,e2]
 obtain⟨q,hq⟩:∃ q:Nat,(x % 18446744073709551616).toNat=2 ^ 8*q:=⟨(x % 18446744073709551616).toNat / 256,by omega⟩
 rw [hq,← Nat.two_pow_add_eq_or_of_lt (show y.toNat<2 ^ 8 by omega) q,IntKind.wrap_i64]
 omega
theorem RunV.join256 {f:Fr}{S:Sig}{h:Part}{L:List Ent}{ty T yt:TypeId}{x y:Operand}{p q:Int}(hx:ev S x=some (.int .i64 p)) (hy:ev S y=some (.int .i64 q)) (hp:p % 256=0) (h0:-9223372036854775808≤p) (h1:p≤9223372036854775807) (hq0:0≤q) (hq:q<256):RunV f S h L (.binOp .or T x y yt) ty (.int .i64 (p+q)):=by
 have:=RunV.or_ (f:=f) (h:=h) (L:=L) (ty:=ty) (T:=T) (yt:=yt) hx hy
 rwa [nZ p q hp h0 h1 hq0 hq] at this
end
section
set_option maxRecDepth 100000
def vL:List UInt32→Nat
 |[]=>0
 |x::r=>x.toNat+4294967296*vL r
theorem vL_append (l r:List UInt32):vL (l++r)=vL l+4294967296 ^ l.length*vL r:=by
 induction l with
 |nil=>simp [vL]
 |cons x t ih =>
  simp only [List.cons_append,vL,ih,aA,Nat.pow_succ]
  rw [Nat.mul_add,← Nat.mul_assoc,Nat.mul_comm (4294967296 ^ t.length),Nat.add_assoc]
theorem vL_lt (l:List UInt32):vL l<4294967296 ^ l.length:=by
 induction l with
 |nil=>simp [vL]
 |cons x t ih =>
  have hx:=UInt32.toNat_lt x
  simp only [vL,aA,Nat.pow_succ]
  omega
theorem vL_set (l:List UInt32) (i:Nat) (x:UInt32) (h:i<l.length):vL (l.set i x)+d32 l i*4294967296 ^ i=vL l+x.toNat*4294967296 ^ i:=by
 induction l generalizing i with
 |nil=>simp at h
 |cons y t ih =>
  cases i with
  |zero=>simp [vL,d32];omega
  |succ i =>
   have:=ih i (by simpa using h)
   simp only [List.set_cons_succ,vL,Nat.pow_succ]
   have e:d32 (y::t) (i+1)=d32 t i:=rfl
   rw [e,← Nat.mul_assoc,← Nat.mul_assoc]
   omega
theorem fZ (l:List UInt32) (i:Nat):vL l / 4294967296 ^ i % 4294967296=d32 l i:=by
 induction l generalizing i with
 |nil=>simp [vL,d32]
 |cons y t ih =>
  have hy:=UInt32.toNat_lt y
  cases i with
  |zero=>simp only [vL,Nat.pow_zero,Nat.div_one];show _=y.toNat;omega
  |succ i =>
   have e:d32 (y::t) (i+1)=d32 t i:=rfl
   rw [e,← ih i,Nat.pow_succ,Nat.mul_comm (4294967296 ^ i),← Nat.div_div_eq_div_mul]
   congr 2
   simp only [vL]
   omega
theorem mF (l:List UInt32) (k:Nat) (h:k≤l.length):vL l=vL (l.take k)+4294967296 ^ k*vL (l.drop k):=by
 have:=vL_append (l.take k) (l.drop k)
 rw [List.take_append_drop,bH,Nat.min_eq_left h] at this
 exact this
theorem vL_zero (l:List UInt32) (h:∀ i,i<l.length→d32 l i=0):vL l=0:=by
 induction l with
 |nil=>rfl
 |cons x t ih =>
  have h0:x.toNat=0:=h 0 (by simp)
  have:=ih (fun i hi=>h (i+1) (by simpa using hi))
  simp only [vL];omega
theorem d32_drop (l:List UInt32) (k i:Nat):d32 (l.drop k) i=d32 l (k+i):=by
 unfold d32;simp
def digN:Nat→Nat→List UInt32
 |0,_=>[]
 |m+1,v=>UInt32.ofNat v::digN m (v / 4294967296)
theorem db (m v:Nat):(digN m v).length=m:=by induction m generalizing v with
 |zero=>rfl
 |succ m ih=>simp [digN,ih]
theorem ip (m v:Nat):vL (digN m v)=v % 4294967296 ^ m:=by
 induction m generalizing v with
 |zero=>simp [vL,digN,Nat.mod_one]
 |succ m ih =>
  simp only [digN,vL,ih,UInt32.toNat_ofNat']
  rw [show(4294967296:Nat) ^ (m+1)=4294967296*4294967296 ^ m by rw [Nat.pow_succ,Nat.mul_comm],Nat.mod_mul]
theorem pq (l:List UInt32):digN l.length (vL l)=l:=by
 induction l with
 |nil=>rfl
 |cons x t ih =>
  have hx:=UInt32.toNat_lt x
  simp only [aA,digN,vL]
  rw [show(x.toNat+4294967296*vL t) / 4294967296=vL t by omega,ih]
  congr 1
  apply UInt32.toNat_inj.1
  rw [UInt32.toNat_ofNat']
  omega
theorem vL_inj {l r:List UInt32}(h:l.length=r.length) (e:vL l=vL r):l=r:=by
 rw [← pq l,← pq r,h,e]
theorem pt (m v i:Nat) (h:i<m):d32 (digN m v) i=v / 4294967296 ^ i % 4294967296:=by
 rw [← fZ,ip]
 obtain⟨k,rfl⟩:∃ k,m=i+(k+1):=⟨m-i-1,by omega⟩
 rw [Nat.pow_add,Nat.mod_mul_right_div_self,Nat.pow_succ,Nat.mod_mul_left_mod]
theorem lt_bl (n:Nat):n<2 ^ bl n:=by
 unfold bl
 split
 ·rename_i h;subst h;decide
 ·exact Nat.lt_log2_self
theorem bl_ge (n k:Nat) (h:2 ^ k≤n):k+1≤bl n:=by
 rcases Nat.lt_or_ge k (bl n) with h1|h1
 ·exact h1
 ·have h2:=lt_bl n
  have:=Nat.pow_le_pow_right (show 0<2 by decide) h1
  omega
theorem bl_pos (n:Nat) (h:0<n):2 ^ (bl n-1)≤n∧1≤bl n:=by
 unfold bl
 rw [if_neg z2_]
 exact⟨Nat.log2_self_le z2_,by omega⟩
def nd (n:Nat):Nat:=(bl n+31) / 32
def toL (n:Nat):List UInt32:=digN (nd n) n
theorem oO (k:Nat):(4294967296:Nat) ^ k=2 ^ (32*k):=by rw [Nat.pow_mul]
theorem lt_nd (n:Nat):n<4294967296 ^ nd n:=by
 rw [oO]
 exact Nat.lt_of_lt_of_le (lt_bl n) (Nat.pow_le_pow_right bJ (by unfold nd;omega))
theorem vL_toL (n:Nat):vL (toL n)=n:=by
 unfold toL
 rw [ip,Nat.mod_eq_of_lt (lt_nd n)]
theorem nd_eq (n t:Nat) (h:n<4294967296 ^ (t+1)) (h0:4294967296 ^ t≤n):nd n=t+1:=by
 rw [oO] at h h0
 have h1:=my _ _ h
 have h2:=bl_ge _ _ h0
 unfold nd;omega
theorem nd_le (n t:Nat) (h:n<4294967296 ^ t):nd n≤t:=by
 rw [oO] at h
 have h1:=my _ _ h
 unfold nd;omega
theorem jt (n:Nat):(toL n).length=nd n:=db _ _
theorem nd_zero:nd 0=0:=rfl
theorem nd_pos (n:Nat) (h:0<n):4294967296 ^ (nd n-1)≤n∧1≤nd n:=by
 have h1:=bl_pos n h
 rw [oO]
 exact⟨Nat.le_trans (Nat.pow_le_pow_right bJ (by unfold nd;omega)) h1.1,by unfold nd;omega⟩
theorem vL_tsz (l:List UInt32):vL l=vL (trimL l):=by
 have ht:=gR (d32 l) l.length
 have hz:vL (l.drop (tsz (d32 l) l.length))=0:=vL_zero _ (fun i hi=>by
  rw [d32_drop]
  rw [bm] at hi
  exact j_ (d32 l) l.length _ z2_ z2_)
 rw [mF l _ ht,hz]
 rfl
theorem d32_take (l:List UInt32) (k i:Nat) (h:i<k):d32 (l.take k) i=d32 l i:=by
 unfold d32;simp [h]
theorem tsz_nd (l:List UInt32):tsz (d32 l) l.length=nd (vL l):=by
 have ht:=gR (d32 l) l.length
 have htop:=tsz_top (d32 l) l.length
 have hlt:=vL_lt (trimL l)
 have hlen:(trimL l).length=tsz (d32 l) l.length:=by unfold trimL;rw [bH];omega
 rw [vL_tsz l]
 cases hk:tsz (d32 l) l.length with
 |zero =>
  have:trimL l=[]:=List.eq_nil_of_length_eq_zero z2_
  rw [this];rfl
 |succ t =>
  rw [hk] at htop hlen
  have h0:=htop z2_
  rw [show t+1-1=t from rfl] at h0
  have h1:vL (trimL l) / 4294967296 ^ t % 4294967296≠0:=by
   rw [fZ];unfold trimL;rw [hk,d32_take _ _ _ z2_];exact h0
  rw [hlen] at hlt
  refine(nd_eq _ _ hlt ?_).symm
  rcases Nat.lt_or_ge (vL (trimL l)) (4294967296 ^ t) with h2|h2
  ·rw [Nat.div_eq_of_lt h2] at h1;simp at h1
  ·exact h2
theorem lx (l:List UInt32):trimL l=toL (vL l):=by
 have ht:=gR (d32 l) l.length
 have hlen:(trimL l).length=nd (vL l):=by unfold trimL;rw [bH,← tsz_nd];omega
 unfold toL
 rw [← hlen,vL_tsz l,pq]
theorem qB (l:List UInt32):nbits (d32 l) l.length=bl (vL l):=by
 unfold nbits
 rw [tsz_nd]
 split
 ·rename_i h
  rcases Nat.eq_zero_or_pos (vL l) with h0|h0
  ·rw [h0];rfl
  ·have:=nd_pos _ h0;omega
 ·rename_i h
  have h0:0<vL l:=by
   rcases Nat.eq_zero_or_pos (vL l) with h0|h0
   ·rw [h0] at h;exact absurd rfl h
   ·exact h0
  have h1:=nd_pos _ h0
  rw [oO] at h1
  rw [rn _ _ h1.1]
  congr 2
  rw [← oO,← fZ]
  refine Nat.mod_eq_of_lt ?_
  have h2:=lt_nd (vL l)
  obtain⟨t,e⟩:∃ t,nd (vL l)=t+1:=⟨nd (vL l)-1,by omega⟩
  rw [e] at h2 ⊢
  rw [Nat.pow_succ] at h2
  exact Nat.div_lt_of_lt_mul h2
def beV (b:List UInt8):Nat:=b.foldl (fun v c=>v*256+c.toNat) 0
theorem rp (b:List UInt8) (v:Nat):b.foldl (fun v c=>v*256+c.toNat) v=v*256 ^ b.length+beV b:=by
 induction b generalizing v with
 |nil=>simp [beV]
 |cons x t ih =>
  unfold beV
  simp only [List.foldl_cons,aA,Nat.zero_mul,Nat.zero_add]
  rw [ih,ih x.toNat,Nat.pow_succ,Nat.add_mul,Nat.mul_assoc,Nat.mul_comm 256,Nat.add_assoc]
theorem eC (x:UInt8) (t:List UInt8):beV (x::t)=x.toNat*256 ^ t.length+beV t:=by
 show t.foldl _ _=_
 rw [rp];simp
theorem ss (l r:List UInt8):beV (l++r)=beV l*256 ^ r.length+beV r:=by
 unfold beV
 rw [List.foldl_append,rp];rfl
theorem go (b:List UInt8):beV b<256 ^ b.length:=by
 induction b with
 |nil=>simp [beV]
 |cons x t ih =>
  have hx:=UInt8.toNat_lt x
  rw [eC,aA,Nat.pow_succ]
  have:x.toNat*256 ^ t.length≤255*256 ^ t.length:=bz _ z2_
  omega
theorem beV_be (k n:Nat):beV (be k n)=n % 256 ^ k:=by
 induction k with
 |zero=>simp [be,beV,Nat.mod_one]
 |succ k ih =>
  simp only [be]
  rw [eC,ih,ik,UInt8.toNat_ofNat',show(256:Nat) ^ (k+1)=256 ^ k*256 from Nat.pow_succ ..,Nat.mod_mul,Nat.mul_comm,Nat.add_comm]
theorem be_mod (k n:Nat):be k (n % 256 ^ k)=be k n:=by
 have key:∀ j,j≤k→be j (n % 256 ^ k)=be j n:=by
  intro j
  induction j with
  |zero=>intro _;rfl
  |succ j ih =>
   intro hj
   simp only [be]
   rw [ih z2_]
   congr 1
   apply UInt8.toNat_inj.1
   rw [UInt8.toNat_ofNat',UInt8.toNat_ofNat']
   obtain⟨i,rfl⟩:∃ i,k=j+(i+1):=⟨k-j-1,by omega⟩
   rw [Nat.pow_add,Nat.mod_mul_right_div_self,Nat.pow_succ]
   exact Nat.mod_mul_left_mod _ _ _
 exact key k (aD _)
theorem be_beV (b:List UInt8):be b.length (beV b)=b:=by
 induction b with
 |nil=>rfl
 |cons x t ih =>
  have hx:=UInt8.toNat_lt x
  have ht:=go t
  simp only [aA,be]
  rw [eC]
  congr 1
  ·apply UInt8.toNat_inj.1
   rw [UInt8.toNat_ofNat',Nat.mul_comm,Nat.mul_add_div (Nat.pow_pos bJ),Nat.div_eq_of_lt ht]
   omega
  ·rw [← be_mod,Nat.mul_comm,Nat.mul_add_mod,Nat.mod_eq_of_lt ht,ih]
theorem wB_vL (l:List UInt32) (i:Nat):wB (d32 l) i=UInt8.ofNat (vL l / 256 ^ i):=by
 apply UInt8.toNat_inj.1
 unfold wB
 rw [UInt8.toNat_ofNat',UInt8.toNat_ofNat',← fZ]
 obtain⟨q,r,hr,rfl⟩:∃ q r,r<4∧i=4*q+r:=⟨i / 4,i % 4,by omega,by omega⟩
 rw [show(4*q+r) / 4=q by omega,show(4*q+r) % 4=r by omega,Nat.pow_add,Nat.pow_mul,← Nat.div_div_eq_div_mul]
 rw [show(256:Nat) ^ 4=4294967296 from rfl]
 generalize vL l / 4294967296 ^ q=v
 have:r=0∨r=1∨r=2∨r=3:=by omega
 rcases this with rfl|rfl|rfl|rfl<;>simp only [Nat.reducePow]<;>omega
theorem natW_be (l:List UInt32) (k:Nat):natW (d32 l) k=be k (vL l):=by
 induction k with
 |zero=>rfl
 |succ k ih=>simp only [natW,be,ih,wB_vL]
theorem rq (b:List UInt8) (i:Nat) (h:i<b.length):beV (b.drop (b.length-(i+1)))=byteAt b (b.length-1-i)*256 ^ i+beV (b.drop (b.length-i)):=by
 have e:b.drop (b.length-(i+1))=b[b.length-1-i]::b.drop (b.length-i):=by
  rw [show b.length-(i+1)=b.length-1-i by omega,aT z2_]
  congr 2;omega
 rw [e,eC,bm,show b.length-(b.length-i)=i by omega]
 unfold byteAt
 rw [bg,aP z2_]
 rfl
theorem kj (b:List UInt8) (i:Nat) (h:i≤b.length):beV (b.drop (b.length-i))<256 ^ i:=by
 have:=go (b.drop (b.length-i))
 rwa [bm,show b.length-(b.length-i)=i by omega] at this
theorem nJ (m v c i:Nat) (hv:v<256 ^ i) (hc:c<256) (hm:i / 4<m):digN m (v+c*256 ^ i)=(digN m v).set (i / 4) (UInt32.ofNat (v / 4294967296 ^ (i / 4)+c*256 ^ (i % 4)))∧v / 4294967296 ^ (i / 4)<256 ^ (i % 4):=by
 obtain⟨q,r,hr,rfl⟩:∃ q r,r<4∧i=4*q+r:=⟨i / 4,i % 4,by omega,by omega⟩
 have e1:(4*q+r) / 4=q:=by omega
 have e2:(4*q+r) % 4=r:=by omega
 have e3:(256:Nat) ^ (4*q+r)=4294967296 ^ q*256 ^ r:=by rw [Nat.pow_add,Nat.pow_mul]
 rw [e1] at hm
 rw [e1,e2]
 rw [e3] at hv ⊢
 have hB:0<4294967296 ^ q:=Nat.pow_pos bJ
 have hlow:v / 4294967296 ^ q<256 ^ r:=Nat.div_lt_of_lt_mul hv
 refine⟨?_,hlow⟩
 have hr4:(256:Nat) ^ r*256≤4294967296:=by
  have:r=0∨r=1∨r=2∨r=3:=by omega
  rcases this with rfl|rfl|rfl|rfl<;>decide
 have hcr:c*256 ^ r≤255*256 ^ r:=bz _ z2_
 have hsum:v / 4294967296 ^ q+c*256 ^ r<4294967296:=by omega
 refine vL_inj (by simp [db]) ?_
 have hs:=vL_set (digN m v) q (UInt32.ofNat (v / 4294967296 ^ q+c*256 ^ r)) (by rw [db];exact hm)
 rw [pt m v q hm,ip,UInt32.toNat_ofNat',Nat.mod_eq_of_lt (show v / 4294967296 ^ q<4294967296 by omega)] at hs
 have hsz:(2:Nat) ^ 32=4294967296:=rfl
 rw [hsz,Nat.mod_eq_of_lt hsum] at hs
 have hpm:4294967296 ^ q*4294967296≤4294967296 ^ m:=by
  rw [← Nat.pow_succ];exact Nat.pow_le_pow_right bJ hm
 have hbig:v+c*(4294967296 ^ q*256 ^ r)<4294967296 ^ m:=by
  have h1:c*(4294967296 ^ q*256 ^ r)≤4294967296 ^ q*(255*256 ^ r):=by
   rw [Nat.mul_left_comm];exact Nat.mul_le_mul_left _ hcr
  have h2:4294967296 ^ q*(256 ^ r*256)≤4294967296 ^ q*4294967296:=Nat.mul_le_mul_left _ hr4
  have h3:4294967296 ^ q*(256 ^ r*256)=4294967296 ^ q*(255*256 ^ r)+4294967296 ^ q*256 ^ r:=by
   rw [← Nat.mul_add];congr 1;omega
  omega
 have hvm:v<4294967296 ^ m:=by omega
 rw [ip,Nat.mod_eq_of_lt hbig]
 rw [Nat.mod_eq_of_lt hvm,Nat.add_mul] at hs
 have:c*256 ^ r*4294967296 ^ q=c*(4294967296 ^ q*256 ^ r):=by rw [Nat.mul_assoc,Nat.mul_comm (256 ^ r)]
 omega
theorem pW (v:Nat):v / 256 ^ (bl v / 8)<128:=by
 refine Nat.div_lt_of_lt_mul ?_
 rw [show(256:Nat) ^ (bl v / 8)=2 ^ (8*(bl v / 8)) by rw [Nat.pow_mul],show(128:Nat)=2 ^ 7 from rfl,← Nat.pow_add]
 exact Nat.lt_of_lt_of_le (lt_bl v) (Nat.pow_le_pow_right bJ z2_)
theorem be_full (v:Nat):beV (be (bl v / 8+1) v)=v:=by
 rw [beV_be]
 refine Nat.mod_eq_of_lt ?_
 have:=pW v
 rw [Nat.pow_succ]
 have h0:0<256 ^ (bl v / 8):=Nat.pow_pos bJ
 have:=(Nat.div_lt_iff_lt_mul h0).1 this
 rw [Nat.mul_comm] at this
 omega
theorem oF (v k:Nat) (hk:bl v / 8=k+1) (h0:v / 256 ^ (k+1)=0):128≤v / 256 ^ k:=by
 have hv:0<v:=by
  rcases Nat.eq_zero_or_pos v with rfl|h
  ·simp [bl] at hk
  ·exact h
 have h1:=(bl_pos v hv).1
 have h2:2 ^ (8*(k+1)-1)≤v:=Nat.le_trans (Nat.pow_le_pow_right bJ z2_) h1
 refine(Nat.le_div_iff_mul_le (Nat.pow_pos bJ)).2 ?_
 rw [show(256:Nat) ^ k=2 ^ (8*k) by rw [Nat.pow_mul],show(128:Nat)=2 ^ 7 from rfl,← Nat.pow_add]
 exact Nat.le_trans (Nat.pow_le_pow_right bJ z2_) h2
def ws (k:IntKind) (l:List UInt32):List Value:=l.map fun x=>.int k (x.toNat:Int)
theorem ws_len (k:IntKind) (l:List UInt32):(ws k l).length=l.length:=by simp [ws]
theorem ws_set (k:IntKind) (l:List UInt32) (i:Nat) (x:UInt32):(ws k l).set i (.int k (x.toNat:Int))=ws k (l.set i x):=by simp [ws,List.map_set]
theorem d32_get (l:List UInt32) (i:Nat) (h:i<l.length):d32 l i=l[i].toNat:=by unfold d32;simp [h]
theorem ws_at (k:IntKind) (l:List UInt32) (i:Nat) (h:i<l.length):(ws k l)[i]?=some (.int k (d32 l i:Nat)):=by
 rw [d32_get l i h];simp [ws,h]
theorem nI:∀ m,digN m 0=List.replicate m 0
 |0=>rfl
 |m+1=>by rw [digN,Nat.zero_div,nI m];rfl
theorem ws_zero (k:IntKind) (m:Nat):List.replicate m (Value.int k 0)=ws k (digN m 0):=by rw [nI];simp [ws]
theorem CellsR.of_ws32 {h:Part}{l:List UInt32}:CellsR u32R 1 h (ws .u32 l) l:=⟨by simp [ws],fun i x hx=>by
 unfold u32R
 rw [Nat.mul_one,List.take_one,List.head?_drop]
 simp [ws,hx]⟩
theorem CellsR.of_ws64 {h:Part}{l:List UInt32}:CellsR u64R 1 h (ws .u64 l) (l.map m64):=⟨by simp [ws],fun i x hx=>by
 unfold u64R
 rw [List.getElem?_map,Option.map_eq_some_iff] at hx
 obtain⟨y,hy,rfl⟩:=hx
 rw [Nat.mul_one,List.take_one,List.head?_drop,m9]
 simp [ws,hy]⟩
theorem r9 (l:List UInt32):cutZ (l.map m64)=(toL (vL l)).map m64:=by
 rw [← lx]
 unfold cutZ trimL
 rw [mG (jZ l),aK,List.map_take]
theorem map_n32 (l:List UInt32):(l.map m64).map n32=l:=by
 rw [List.map_map]
 conv=>rhs;rw [← List.map_id l]
 exact List.map_congr_left (fun x _=>n32_m64 x)
section
variable {f:Fr}{n:Post}{x:Nat→Post}{S:Sig}{h:Part}{L L':List Ent}{ops:Array Oper}{rest:List Oper}
variable {ty:TypeId}{pos:String}{af:Array Edge}{d:Nat}{v:Value}{T:TypeId}{xo yo:Operand}
theorem RunV.wload {g c t m i:Nat}{k:IntKind}{l:List UInt32}(hT:aggT f.P T=some none) (hx:ev S xo=some (.pointer (some ⟨g,i,none⟩))) (hm:Ent.row (some ⟨g,0,none⟩) c t 1 m (ws k l)∈L) (hi:i<l.length):RunV f S h L (.load T xo) ty (.int k (d32 l i:Nat)) :=
 RunV.rowload hT hx hm (ws_at k l i hi)
theorem JL.storeW (t0:Nat) {g c t m i:Nat}{k:IntKind}{p:Int}{l:List UInt32}(hT:aggT f.P T=some none) (hx:ev S xo=some (.pointer (some ⟨g,i,none⟩))) (hy:ev S yo=some (.int k p)) (hp:p=((t0 % 4294967296:Nat):Int)) (u:Del (.row (some ⟨g,0,none⟩) c t 1 m (ws k l)) L L') (hi:i<l.length)
 (kk:JL f ops n x rest S h (.row (some ⟨g,0,none⟩) c t 1 m (ws k (l.set i (UInt32.ofNat t0)))::L')):JL f ops n x (⟨none,.store T xo yo,ty,pos,af,none⟩::rest) S h L:=by
 refine JL.storeRow hT hx hy rfl u (by rw [ws_len];exact hi) ?_
 have e:p=((UInt32.ofNat t0).toNat:Int):=by rw [hp,UInt32.toNat_ofNat']
 rw [e,ws_set]
 exact kk
theorem JL.pub32 {a:Option Addr}{c t m:Nat}{l:List UInt32}{l0:List Oper}(u:Del (.row a c t 1 m (ws .u32 l)) L L') (hn:m=l.length) (hb:l.length≤140737488355328) (k:∀ h',h.le h'→SlR u32R 1 h' a c l→JL f ops n x l0 S h' L'):JL f ops n x l0 S h L :=
 cM u CellsR.of_ws32 hn hb k
theorem JL.pub64 {a:Option Addr}{c t m:Nat}{l:List UInt32}{l0:List Oper}(u:Del (.row a c t 1 m (ws .u64 l)) L L') (hn:m=l.length) (hb:l.length≤140737488355328) (k:∀ h',h.le h'→SlR u64R 1 h' a c (l.map m64)→JL f ops n x l0 S h' L'):JL f ops n x l0 S h L :=
 cM u CellsR.of_ws64 (by rw [hn,aK]) (by rw [aK];exact hb) k
end
end
section
set_option maxRecDepth 100000
theorem ca_162:callT Tryz.prog 162=true:=by kernel_rfl
theorem ca_163:callT Tryz.prog 163=true:=by kernel_rfl
theorem ca_205:callT Tryz.prog 205=true:=by kernel_rfl
theorem cv_202_2:convI Tryz.prog 202 2=some .i64:=by kernel_rfl
theorem cv_5_180:convI Tryz.prog 5 180=some .u32:=by kernel_rfl
theorem cv_5_2:convI Tryz.prog 5 2=some .i64:=by kernel_rfl
theorem cv_5_202:convI Tryz.prog 5 202=some .i8:=by kernel_rfl
theorem mk_24:mkT Tryz.prog 24=some (180,.int .u32 0,4):=by kernel_rfl
theorem rY {a:Option Addr}{c:Nat}{l:List UInt32}{h:Part}(hl:SlR u32R 1 h a c l) (hlb:l.length≤1073741824):FnR Tryz.prog 205 [.slice a l.length c] h (fun v h'=>∃ a' c',v=.slice a' (toL (vL l)).length c'∧SlR u32R 1 h' a' c' (toL (vL l))):=by
 have hll:=hl.big
 have ht:=gR (d32 l) l.length
 have htr:l.take (tsz (d32 l) l.length)=toL (vL l):=lx l
 have hlen:(toL (vL l)).length=tsz (d32 l) l.length:=by rw [jt,tsz_nd]
 refine aG Tryz.func205 rfl Tryz.ntmps205 rfl (fun e he=>?_)
 refine aU [(0,_)] ⟨rfl,trivial⟩ ?_
 have hh0:=aO h
 refine Sr (Ru 1 rfl (a_ (Sr (Ru 1 rfl (aV ca_138 rfl (kW z5_) rfl ?_)))))
 refine Ru 1 rfl (a_ (aw (Sr (Ru 2 rfl (a_ (Cs rfl (fun hc2=>?_) fun hc2=>?_))))))
 ·have h0:toL (vL l)=[]:=List.eq_nil_of_length_eq_zero z2_
  refine Sr (Ru 1 rfl (Nk [2,3,0] rfl ?_))
  rw [h0];exact b_ (au rfl rfl) ⟨none,0,rfl,bc⟩
 refine ax (Kp [3,2,0] rfl (Sr (Ru 2 rfl (cg (RunE.cut_h oC (m:=tsz (d32 l) l.length) rfl rfl rfl hl rfl z2_) rfl ?_))))
 rintro _ ⟨a9,c9,rfl,hS9⟩
 rw [htr] at hS9 ⊢;refine bZ 180 1 ?_
 refine cw (R:=u32R) ap_24 rfl rfl bQ rfl hS9 rfl dl_ (by simp only [bh];omega) rfl rfl (fun a8 c8 xs8 hC8 hN8=>?_)
 simp only [List.nil_append] at hC8 ⊢;refine cM (R:=u32R) dl_ hC8 rfl z2_ (fun h9 hle9 hP9=>?_)
 exact Ru 1 rfl (Nk [2] rfl (b_ (au rfl rfl) ⟨_,_,rfl,hP9⟩))
theorem p7 {a:Option Addr}{c n:Nat}{l:List UInt32}{h:Part}(hl:SlR u32R 1 h a c l) (hn:n=l.length) (hlb:n≤1073741824):FnR Tryz.prog 205 [.slice a n c] h (fun v h'=>∃ a' c',v=.slice a' (toL (vL l)).length c'∧SlR u32R 1 h' a' c' (toL (vL l))):=by
 subst hn;exact rY hl hlb
theorem shl8 (i:Nat):(2:Int) ^ (8*((i:Int) % 4)).toNat=((256 ^ (i % 4):Nat):Int):=by
 have:(8*((i:Int) % 4)).toNat=8*(i % 4):=by omega
 rw [this,Int.natCast_pow,Int.pow_mul];rfl
theorem two8 (j:Nat):(2:Int) ^ (8*j)=((256 ^ j:Nat):Int):=by rw [Int.natCast_pow,Int.pow_mul];rfl
theorem nY (k:IntKind) (p q:Int):bits .or k p q=bits .or k q p:=by
 show k.wrap _=k.wrap _
 rw [BitVec.or_comm]
theorem RunV.joinr_u32 {f:Fr}{S:Sig}{h:Part}{L:List Ent}{ty T yt:TypeId}{x y:Operand}{p q:Int}(i:Nat) (D:Int) (hx:ev S x=some (.int .u32 p)) (hy:ev S y=some (.int .u32 q)) (hD:(2:Int) ^ i=D) (h0:0≤q) (hp:q % D=0) (h1:q≤4294967295) (hq0:0≤p) (hq:p<D) (hq1:p≤4294967295):RunV f S h L (.binOp .or T x y yt) ty (.int .u32 (p+q)):=by
 have:=RunV.or_ (f:=f) (h:=h) (L:=L) (ty:=ty) (T:=T) (yt:=yt) hx hy
 rwa [nY,bits_join .u32 32 bJ rD i q p h0 (by rw [hD];exact hp) z2_ hq0 (by rw [hD];exact hq) z2_,Int.add_comm] at this
theorem pow4 (r:Nat) (h:r<4):256 ^ r=1∨256 ^ r=256∨256 ^ r=65536∨256 ^ r=16777216:=by
 have:r=0∨r=1∨r=2∨r=3:=by omega
 rcases this with rfl|rfl|rfl|rfl<;>simp
theorem rZ {a:Option Addr}{c:Nat}{l:List UInt8}{h:Part}(hl:SlR u8R 1 h a c l) (hlen:l.length≤1073741824):FnR Tryz.prog 163 [.slice a l.length c] h (fun v h'=>∃ a' c',v=.slice a' (toL (beV l)).length c'∧SlR u32R 1 h' a' c' (toL (beV l))):=by
 refine aG Tryz.func163 rfl Tryz.ntmps163 rfl (fun e he=>?_)
 refine aU [(0,_)] ⟨rfl,trivial⟩ ?_
 have hh0:=aO h
 refine Sr (Ru 1 rfl (a_ (Sr (Ru 2 rfl (ae ai_ rfl ?_)))))
 refine ae ky rfl ?_
 refine JL.make1 mk_24 rfl rfl (m:=(l.length+3) / 4) z2_ z2_ z2_ rfl rfl (fun b1=>?_);rw [ws_zero]
 refine Ru 1 rfl (Nk [3,2,0] rfl (aw (Sr (Ru 3 rfl (a_ (aE (bC (fun t_ S_ h_ L_=>∃ (i v:Nat),t_=l.length-i∧S_=[(0,.slice a l.length c),(3,.slice (some ⟨b1,0,none⟩) ((l.length+3) / 4) ((l.length+3) / 4)),(12,.int .i64 l.length),(13,.int .i64 i)]∧h=h_∧L_=[.row (some ⟨b1,0,none⟩) ((l.length+3) / 4) 180 1 ((l.length+3) / 4) (ws .u32 (digN ((l.length+3) / 4) v))]∧(i≤l.length∧v=beV (l.drop (l.length-i)))) ⟨_,_,?_,⟨0,0,rfl,rfl,rfl,rfl,⟨by omega,by simp [beV]⟩⟩⟩ ?_)))))))
 ·exact z7_
 rintro _ _ _ _ ⟨i,v,rfl,rfl,rfl,rfl,hi,hv⟩
 refine Sr (Ru 1 rfl (a_ (aw (Cs rfl (fun hc2=>?_) fun hc2=>?_))))
 ·have hi':i<l.length:=z2_;have hvl:=kj l i z2_;have hbl:=bK l (l.length-1-i);have hdb:=nJ ((l.length+3) / 4) _ _ i hvl hbl z2_;have hst:=rq l i hi';have hd0:=pt ((l.length+3) / 4) (beV (l.drop (l.length-i))) (i / 4) z2_;have hr4:=pow4 (i % 4) z2_;have hbe:=bv l (l.length-1-i) z2_;rw [← hv] at hvl hdb hst hd0;have hsb:byteAt l (l.length-1-i)*256 ^ (i % 4)≤4278190080:=(by rcases hr4 with e|e|e|e<;>rw [e]<;>omega);have hsum:v / 4294967296 ^ (i / 4)+byteAt l (l.length-1-i)*256 ^ (i % 4)<4294967296:=(by have:=hdb.2;rcases hr4 with e|e|e|e<;>rw [e] at this ⊢<;>omega);have hdd:d32 (digN ((l.length+3) / 4) v) (i / 4)=v / 4294967296 ^ (i / 4):=(by rw [hd0];exact Nat.mod_eq_of_lt z2_)
  refine ax (aw (aE (Sr (Ru 2 rfl (a_ (Sr (Ru 2 rfl (ae si_ rfl ?_))))))))
  refine Ru 1 rfl (ae si_ rfl ?_)
  refine Ru 1 rfl (a_ (J.held ([]) 17 cK rfl (fun h00=>?_)))
  refine Tk 0 rfl (bG rfl) ?_
  refine Tk 1 rfl (bG rfl) ?_
  refine Tk 2 rfl ky ?_
  refine Tk 3 rfl (RunV.index_at oC (m:=i / 4) rfl rfl z2_ z2_) ?_
  refine Tk 5 rfl (bG rfl) ?_
  refine Tk 6 rfl (bG rfl) ?_
  refine Te 7 rfl (aC (m:=l.length-1-i) cA rfl rfl z2_ hl rfl z2_) ?_
  rintro _ ⟨b8,o8,hi8,rfl,hE8⟩
  refine Tk 8 rfl ((hbe ▸ aZ eu rfl hE8:RunV _ _ _ _ _ _ (.int .u8 (byteAt l (l.length-1-i):Nat)))) ?_
  refine Tk 9 rfl (RunV.conv_u32 cv_5_180 rfl z2_ z2_) ?_
  refine Tk 10 rfl (bG rfl) ?_
  refine Tk 11 rfl oe ?_
  refine Tk 12 rfl im ?_
  refine Tk 13 rfl (RunV.shl_u32 ((256 ^ (i % 4):Nat):Int) rfl rfl z2_ z2_ (shl8 i) (by rw [← bT];omega) (by rw [← bT];omega)) ?_
  refine Ta 4 rfl ?_
  unfold One
  refine ae (RunV.wload km rfl mm_ (by rw [db];omega)) rfl ?_
  refine a_ ⟨(br_ h00),?_⟩
  refine Tk 14 rfl (RunV.joinr_u32 (8*(i % 4)) ((256 ^ (i % 4):Nat):Int) rfl rfl (two8 (i % 4)) (by rw [← bT];omega) (Int.mul_emod_left _ _) (by rw [← bT];omega) z2_ (by have:=hdb.2;omega) z2_) ?_
  refine Tk 15 rfl (RunV.index_at oC (m:=i / 4) rfl rfl z2_ z2_) ?_
  refine Ta 16 rfl ?_
  unfold One
  refine JL.storeW (v / 4294967296 ^ (i / 4)+byteAt l (l.length-1-i)*256 ^ (i % 4)) km rfl rfl (by rw [Nat.mod_eq_of_lt hsum,hdd,← bT,← dv]) dl_ (by rw [db];omega) ?_
  rw [← hdb.1]
  refine a_ ⟨(br_ h00),?_⟩
  refine JH.done cY ?_
  refine Rg (ae ai_ rfl ?_)
  refine Ru 1 rfl (a_ (⟨_,?_,_,?_,⟨i+1,v+byteAt l (l.length-1-i)*256 ^ i,rfl,rfl,rfl,rfl,⟨by omega,by rw [hst,Nat.add_comm]⟩⟩⟩))
  ·omega
  exact z7_
 refine bx (Kp [3] rfl (Sr (Ru 1 rfl ?_)))
 refine JL.pub32 dl_ (by rw [db]) (by rw [db];omega) (fun h9 hle9 hP9=>?_);replace hl:=hl.mono hle9;replace hh0:=hh0.mono hle9;have hve:vL (digN ((l.length+3) / 4) v)=beV l:=(by rw [ip,hv,show l.length-i=0 by omega,List.drop_zero];refine Nat.mod_eq_of_lt (Nat.lt_of_lt_of_le (go l) ?_);rw [show(4294967296:Nat)=256 ^ 4 from rfl,← Nat.pow_mul];exact Nat.pow_le_pow_right bJ z2_)
 refine bI ca_205 rfl (p7 hP9 (by rw [db]) z2_) rfl ?_
 rintro _ h5 hle5 ⟨ra,rc,rfl,hR⟩
 replace hl:=hl.mono hle5
 replace hh0:=hh0.mono hle5
 refine Ru 1 rfl (a_ ?_)
 rw [hve] at hR ⊢;exact b_ (au rfl rfl) ⟨_,_,rfl,hR⟩
def Nd.whole (x:Nd):Bool:=(decide (x.cls=0)&&(decide (x.tag=2)||decide (x.tag=10)))&&x.put.isSome
theorem mD {x:Nd}{cs:List Value}{h:Part}(r:NdR h cs x) (hT:Tabs h) (hsz:x.sz≤1073741824):Pure Tryz.prog 162 [.agg cs.toArray] h (.bool x.whole):=by
 cases x;exact whole_fn r hT hsz
theorem qS {t:Int}(h:t=2∨t=10):form t=1:=by rcases h with rfl|rfl<;>rfl
theorem eF {c t:Int}{k:Bool}{bs:List UInt8}{ks:List Nd}:(Nd.mk c t k bs ks).whole=true↔c=0∧(t=2∨t=10)∧k=false∧ks=[]∧leastB bs=true:=by
 show((decide (c=0)&&(decide (t=2)||decide (t=10)))&&(Nd.mk c t k bs ks).put.isSome)=true↔_
 simp only [Bool.and_eq_true,Bool.or_eq_true,aj]
 constructor
 ·rintro⟨⟨rfl,ht⟩,hp⟩
  simp only [Nd.put] at hp
  split at hp
  ·rename_i hok
   have hf:=qS ht
   have hr:0≤t∧t≤30:=by omega
   unfold okN mayB at hok
   rw [hf,mE ht] at hok
   cases k with
   |true=>simp at hok
   |false =>
    have hn:ks=[]:=by
     cases ks with
     |nil=>rfl
     |cons y r=>simp at hok
    subst hn
    simp at hok
    exact⟨rfl,ht,rfl,rfl,hok.2⟩
  ·cases hp
 ·rintro⟨rfl,ht,rfl,rfl,hb⟩
  refine⟨⟨rfl,ht⟩,?_⟩
  have hf:=qS ht
  have hr:0≤t∧t≤30:=by omega
  have hok:okN 0 t false bs []=true:=by
   unfold okN mayB
   rw [hf,mE ht,hb]
   simp [hr]
  simp only [Nd.put]
  rw [hok]
  rfl
theorem iE {b:List UInt8}(h:leastB b=true):0<b.length:=by
 unfold leastB at h
 split at h
 ·cases h
 ·omega
theorem Nd.bytes_sz (c t:Int) (k:Bool) (bs:List UInt8) (ks:List Nd):bs.length≤(Nd.mk c t k bs ks).sz:=by simp only [Nd.sz];omega
def Nd.natOk (x:Nd):Bool:=x.whole&&decide (byteAt x.bytes 0<128)
def Nd.natL (x:Nd):List UInt32:=if x.natOk then toL (beV x.bytes) else []
theorem lX {c t:Int}{k:Bool}{bs:List UInt8}{ks:List Nd}(h:(Nd.mk c t k bs ks).whole=false∨¬ byteAt bs 0<128):(Nd.mk c t k bs ks).natOk=false:=by
 show((Nd.mk c t k bs ks).whole&&decide (byteAt bs 0<128))=false
 rcases h with h|h
 ·rw [h];rfl
 ·rw [am h,Bool.and_false]
theorem p9 {c t:Int}{k:Bool}{bs:List UInt8}{ks:List Nd}(h:(Nd.mk c t k bs ks).whole=true) (h2:byteAt bs 0<128):(Nd.mk c t k bs ks).natOk=true:=by
 show((Nd.mk c t k bs ks).whole&&decide (byteAt bs 0<128))=true
 rw [h,an h2];rfl
theorem natof_fn {x:Nd}{cs:List Value}{h:Part}(r:NdR h cs x) (hT:Tabs h) (hsz:x.sz≤1073741824) :
 FnR Tryz.prog 101 [.agg cs.toArray] h (fun v h'=>∃ a c,v=.tuple #[.slice a x.natL.length c,.bool x.natOk]∧SlR u32R 1 h' a c x.natL):=by
 cases x with
 |mk c t k bs ks =>
 have hbs:=Nd.bytes_sz c t k bs ks
 have hpos:(Nd.mk c t k bs ks).whole=true→0<bs.length:=fun hw=>iE (eF.1 hw).2.2.2.2
 obtain⟨ka,kca,kb,kcb,rfl,hka,hkb⟩:=r.inv
 refine aG Tryz.func101 rfl Tryz.ntmps101 rfl (fun e he=>?_)
 refine aU [(0,_)] ⟨rfl,trivial⟩ ?_
 have hh0:=aO h
 refine Sr (d8 rfl rfl rfl (fun b1=>?_))
 refine Ru 2 rfl (a_ (aw (Sr (ae (bp bD rfl mm_ z9_) rfl ?_))))
 refine aV ca_162 rfl (mD z5_ z5_ z2_) rfl ?_
 refine Ru 2 rfl (Bs 7 rfl (fun hc3=>?_) fun hc3=>?_)
 ·refine Ru 6 rfl (Nk [13,3,2,1] rfl (aM rfl (Sr (Ru 2 rfl (a_ ?_)))))
  have hff:=lX (show(Nd.mk c t k bs ks).whole=false∨¬ byteAt bs 0<128 by first|exact .inl hc3|(right;omega));have hfl:(Nd.mk c t k bs ks).natL=[]:=if_neg (by rw [hff];decide);rw [hff,hfl];exact b_ (aS rfl rfl rfl) ⟨_,_,rfl,bc⟩
 have hps:=hpos (by simpa using hc3);have e0:=bv bs 0 hps;have hwz:=hc3
 refine Ru 1 rfl (aH rfl rfl  (aq cU rfl mm_ rfl) rfl ?_)
 refine cr rfl rfl  (aC cA rfl rfl (show _=((0:Nat):Int) from rfl) z5_ rfl z2_) rfl ?_
 rintro _ ⟨b4,o4,hi4,rfl,hE4⟩
 refine aH rfl rfl  (aZ eu rfl z5_) rfl ?_
 refine Ru 2 rfl (Nk [13,3,2,1] rfl (Cs rfl (fun hc6=>?_) fun hc6=>?_))
 ·refine Sr (Ru 2 rfl (a_ ?_))
  have hff:=lX (show(Nd.mk c t k bs ks).whole=false∨¬ byteAt bs 0<128 by first|exact .inl hc6|(right;omega));have hfl:(Nd.mk c t k bs ks).natL=[]:=if_neg (by rw [hff];decide);rw [hff,hfl];exact b_ (aS rfl rfl rfl) ⟨_,_,rfl,bc⟩
 refine ax (Sr (Ru 1 rfl (ae (aq cU rfl mm_ rfl) rfl ?_)))
 refine bI ca_163 rfl (rZ z5_ z2_) rfl ?_
 rintro _ h7 hle7 ⟨a7,c7,rfl,hS7⟩
 replace r:=r.mono hle7
 replace hT:=hT.mono hle7
 replace hka:=hka.mono hle7
 replace hh0:=hh0.mono hle7
 refine Ru 2 rfl (Nk [3,2] rfl ?_)
 have hff:=p9 hwz (show byteAt bs 0<128 by omega);have hfl:(Nd.mk c t k bs ks).natL=toL (beV bs):=if_pos hff;rw [hff,hfl];exact b_ (aS rfl rfl rfl) ⟨_,_,rfl,by assumption⟩
def s8 (b:Nat):Int:=if b<128 then b else b-256
theorem wrap_s8 (b:Nat) (h:b<256):IntKind.i8.wrap (b:Int)=s8 b:=by
 unfold IntKind.wrap s8;simp [IntKind.signed,IntKind.bits];split<;>omega
theorem RunV.toI8 {f:Fr}{S:Sig}{h:Part}{L:List Ent}{ty src dst:TypeId}{x:Operand}{k:IntKind}{b:UInt8}(hc:convI f.P src dst=some .i8) (hx:ev S x=some (.int k (b.toNat:Int))):RunV f S h L (.convert src dst x) ty (.int .i8 (s8 b.toNat)):=by
 have:=cD (f:=f) (h:=h) (L:=L) (ty:=ty) hc hx
 rwa [wrap_s8 _ (UInt8.toNat_lt b)] at this
theorem s8_bd (b:Nat) (h:b<256):-128≤s8 b∧s8 b≤127:=by unfold s8;split<;>omega
def sV (b:List UInt8):Int:=s8 (byteAt b 0)*256 ^ (b.length-1)+beV (b.drop 1)
theorem sV_bd {s:Int}{w i:Nat}(hs:-128≤s∧s≤127) (hw:w<256 ^ i):-128*256 ^ i≤s*256 ^ i+w∧s*256 ^ i+w≤128*256 ^ i-1:=by
 have hp:(0:Int)≤256 ^ i:=Int.le_of_lt (Int.pow_pos bJ)
 have h1:-128*(256:Int) ^ i≤s*256 ^ i:=Int.mul_le_mul_of_nonneg_right hs.1 hp
 have h2:s*(256:Int) ^ i≤127*256 ^ i:=Int.mul_le_mul_of_nonneg_right hs.2 hp
 have h3:(w:Int)<256 ^ i:=by exact_mod_cast hw
 omega
theorem mz (b:List UInt8) (i:Nat) (h:i<b.length):beV (b.take (i+1))=beV (b.take i)*256+b[i].toNat:=by
 rw [av h,ss]
 simp [eC,beV]
theorem pow8_le (i:Nat) (h:i≤6):(256:Int) ^ i≤281474976710656:=by
 have:i=0∨i=1∨i=2∨i=3∨i=4∨i=5∨i=6:=by omega
 rcases this with rfl|rfl|rfl|rfl|rfl|rfl|rfl<;>decide
def Nd.intOk (x:Nd):Bool:=x.whole&&decide (x.bytes.length≤8)
def Nd.intV (x:Nd):Int:=if x.intOk then sV x.bytes else 0
theorem hY {c t:Int}{k:Bool}{bs:List UInt8}{ks:List Nd}:(Nd.mk c t k bs ks).intOk=((Nd.mk c t k bs ks).whole&&decide (bs.length≤8)):=rfl
theorem intV_t {c t:Int}{k:Bool}{bs:List UInt8}{ks:List Nd}(h:(Nd.mk c t k bs ks).intOk=true):(Nd.mk c t k bs ks).intV=sV bs:=if_pos h
theorem intV_f {c t:Int}{k:Bool}{bs:List UInt8}{ks:List Nd}(h:(Nd.mk c t k bs ks).intOk=false):(Nd.mk c t k bs ks).intV=0:=if_neg (by rw [h];decide)
theorem intof_fn {x:Nd}{cs:List Value}{h:Part}(r:NdR h cs x) (hT:Tabs h) (hsz:x.sz≤1073741824) :
 Pure Tryz.prog 99 [.agg cs.toArray] h (.tuple #[.int .i64 x.intV,.bool x.intOk]):=by
 cases x with
 |mk c t k bs ks =>
 have hbs:=Nd.bytes_sz c t k bs ks
 have hpos:(Nd.mk c t k bs ks).whole=true→0<bs.length:=fun hw=>iE (eF.1 hw).2.2.2.2
 obtain⟨ka,kca,kb,kcb,rfl,hka,hkb⟩:=r.inv
 refine Pure.ofV ?_
 refine aG Tryz.func99 rfl Tryz.ntmps99 rfl (fun e he=>?_)
 refine aU [(0,_)] ⟨rfl,trivial⟩ ?_
 refine Sr (d8 rfl rfl rfl (fun b1=>?_))
 refine Ru 2 rfl (a_ (aw (Sr (ae (bp bD rfl mm_ z9_) rfl ?_))))
 refine aV ca_162 rfl (mD z5_ z5_ z2_) rfl ?_
 refine Ru 2 rfl ?_
 apply On 10 15 5 [3,2,1] rfl rfl
 rotate_left
 ·intro hb3 hc3
  refine Ru 1 rfl (aH rfl rfl  (aq cU rfl mm_ rfl) rfl ?_)
  exact Ru 3 rfl (Ae (om_f hb3 rfl) rfl)
 rotate_right
 ·exact fun hb3 _=>Ru 5 rfl (Ae (om_t hb3 rfl) rfl)
 refine a_ (Cs rfl (fun hc4=>?_) fun hc4=>?_)
 ·have hff:(Nd.mk c t k bs ks).intOk=false:=(by rw [hY];revert hc4;cases (Nd.mk c t k bs ks).whole<;>simp<;>omega)
  exact Sr (Ru 2 rfl (a_ (J.retV (aS rfl rfl rfl) (by rw [hff,intV_f hff]))))
 obtain⟨hww,hb8⟩:(Nd.mk c t k bs ks).whole=true∧bs.length≤8:=(by revert hc4;cases (Nd.mk c t k bs ks).whole<;>simp<;>omega)
 have hps:=hpos hww;have hff:(Nd.mk c t k bs ks).intOk=true:=(by rw [hY,hww,an hb8];rfl);have e0:=bv bs 0 hps;have hb0:=bK bs 0;have hsb:=s8_bd (byteAt bs 0) hb0;have hdl:(bs.drop 1).length=bs.length-1:=bm
 refine ax (Sr (Ru 1 rfl (ae (aq cU rfl mm_ rfl) rfl ?_)))
 refine cg (aC cA rfl rfl (show _=((0:Nat):Int) from rfl) z5_ rfl z2_) rfl ?_
 rintro _ ⟨b5,o5,hi5,rfl,hE5⟩
 refine ae (aZ eu rfl z5_) rfl ?_
 refine ae (RunV.toI8 cv_5_202 rfl) rfl ?_
 rw [e0]
 refine ae (RunV.conv_i64 cv_202_2 rfl z2_ z2_) rfl ?_
 refine Ru 1 rfl (Nk [4,3,2,1] rfl (aw (Sr (Ru 1 rfl (ae (aq cU rfl mm_ rfl) rfl ?_)))))
 refine cg (RunE.cut_l cA rfl rfl (m:=1) rfl hka rfl z2_) rfl ?_
 rintro _ ⟨a9,c9,rfl,hS9⟩
 refine Ru 2 rfl (a_ (aE (bC (fun t_ S_ h_ L_=>∃ (i:Nat) (w:Int),t_=bs.length-i∧S_=[(4,.int .i64 w),(24,.slice a9 (bs.drop 1).length c9),(25,.int .i64 (bs.drop 1).length),(26,.int .i64 i)]∧h=h_∧L_=[.blk b1 31 [.int .i64 c,.int .i64 t,.bool k,.slice ka bs.length kca,.slice kb ks.length kcb]]∧(i≤(bs.drop 1).length∧w=s8 (byteAt bs 0)*256 ^ i+beV ((bs.drop 1).take i))) ⟨_,_,?_,⟨0,s8 (byteAt bs 0),rfl,rfl,rfl,rfl,⟨by omega,by simp [beV]⟩⟩⟩ ?_)))
 ·exact z7_
 rintro _ _ _ _ ⟨i,w,rfl,rfl,rfl,rfl,hi,hw⟩
 refine Sr (Ru 1 rfl (a_ (aw (Cs rfl (fun hc8=>?_) fun hc8=>?_))))
 ·have hi':i<(bs.drop 1).length:=z2_;have hbv:=go ((bs.drop 1).take i);rw [bH,Nat.min_eq_left z2_] at hbv;have hwb:=sV_bd hsb hbv;rw [← hw] at hwb;have hp8:=pow8_le i z2_;have hns:=mz (bs.drop 1) i hi';have hcb:=UInt8.toNat_lt ((bs.drop 1)[i]'hi')
  refine ax (aw (aE (Sr (cg (aC cA rfl rfl eD z5_ rfl z2_) rfl ?_))))
  rintro _ ⟨b9,o9,hi9,rfl,hE9⟩
  refine ae (aZ eu rfl z5_) rfl ?_
  refine Ru 1 rfl (a_ (Rg (Ru 1 rfl (ae (by first|exact RunV.shl_i64 256 rfl rfl bJ bJ bJ z2_ z2_|exact RunV.shl rfl rfl bJ bJ) rfl ?_))))
  refine Ru 1 rfl (ae (by first|exact RunV.convb_i64 cv_5_2 rfl|exact RunV.conv_i64 cv_5_2 rfl z2_ z2_|exact cD cv_5_2 rfl) rfl ?_)
  refine ae (RunV.join256 rfl rfl z2_ z2_ z2_ z2_ z2_) rfl ?_
  refine Ru 1 rfl (a_ (Rg (ae ai_ rfl ?_)))
  refine Ru 1 rfl (a_ (⟨_,?_,_,?_,⟨i+1,w*256+((bs.drop 1)[i]'hi').toNat,rfl,rfl,rfl,rfl,⟨by omega,by rw [hns,hw,Int.pow_succ,dv,bT,Int.add_mul,Int.mul_assoc,Int.add_assoc];rfl⟩⟩⟩))
  ·omega
  exact z7_
 have hie:i=(bs.drop 1).length:=z2_;have hsv:(Nd.mk c t k bs ks).intV=w:=(by rw [intV_t hff,hw,hie,List.take_length,sV,hdl])
 exact bx (Kp [4] rfl (Sr (Ru 3 rfl (a_ (J.retV (aS rfl rfl rfl) (by rw [hff,hsv]))))))
end
section
set_option maxRecDepth 100000
def cmpI3 (m n:Nat):Int:=if m<n then -1 else if n<m then 1 else 0
theorem nd_lt {m n:Nat}(h:nd m<nd n):m<n:=by
 have h0:0<n:=by
  rcases Nat.eq_zero_or_pos n with rfl|h0
  ·rw [nd_zero] at h;omega
  ·exact h0
 have h1:=(nd_pos n h0).1
 exact Nat.lt_of_lt_of_le (lt_nd m) (Nat.le_trans (Nat.pow_le_pow_right bJ z2_) h1)
theorem div_low (x j:Nat):x / 4294967296 ^ j=x / 4294967296 ^ (j+1)*4294967296+x / 4294967296 ^ j % 4294967296:=by
 rw [Nat.pow_succ,← Nat.div_div_eq_div_mul]
 omega
theorem nh {x y d:Nat}(h:x / d<y / d):x<y:=by
 rcases Nat.lt_or_ge x y with h1|h1
 ·exact h1
 ·have:=Nat.div_le_div_right (c:=d) h1;omega
section
variable {f:Fr}{S:Sig}{h:Part}{L:List Ent}{ty src dst:TypeId}{x:Operand}{k:IntKind}{p:Int}
theorem RunV.toW (t:Nat) (hc:convI f.P src dst=some .u32) (hx:ev S x=some (.int k p)) (hp:p=(t:Int)):RunV f S h L (.convert src dst x) ty (.int .u32 ((t % 4294967296:Nat):Int)):=by
 have:=cD (f:=f) (h:=h) (L:=L) (ty:=ty) hc hx
 rwa [hp,IntKind.wrap_u32,show((t:Int) % 4294967296)=((t % 4294967296:Nat):Int) from rfl] at this
end
end
section
set_option maxRecDepth 100000
end
section
set_option maxRecDepth 100000
def dr (X Y:Nat):Nat:=if Y=0 then 0 else X % Y
end
section
set_option maxRecDepth 100000
end
section
set_option maxRecDepth 100000
theorem ca_108:callT Tryz.prog 108=true:=by kernel_rfl
theorem ca_109:callT Tryz.prog 109=true:=by kernel_rfl
theorem ca_165:callT Tryz.prog 165=true:=by kernel_rfl
theorem ca_166:callT Tryz.prog 166=true:=by kernel_rfl
theorem mk_152:mkT Tryz.prog 152=some (194,.int .u64 0,8):=by kernel_rfl
theorem oV {a:Option Addr}{c n:Nat}{l:List UInt32}{h:Part}(hl:SlR u64R 1 h a c (l.map m64)) (hn:n=l.length) (hlen:l.length≤1000000):FnR Tryz.prog 166 [.slice a n c] h (fun v h'=>∃ a' c',v=.slice a' (toL (vL l)).length c'∧SlR u32R 1 h' a' c' (toL (vL l))):=by
 have hml:(l.map m64).length=l.length:=aK ..
 have:=number_fn hl (fun i=>by rw [jZ];exact l9 l i) z2_
 rw [hml,← hn,r9,map_n32] at this
 exact this
def pw (i:Nat):Nat:=if i=0 then 1 else 256 ^ ((i-1) % 4+1)
theorem pw_next (i:Nat):pw (i+1)=256 ^ (i % 4)*256:=by unfold pw;rw [if_neg z2_,Nat.add_sub_cancel,Nat.pow_succ]
theorem pw_keep (i:Nat) (h:i % 4≠0):pw i=256 ^ (i % 4):=by
 unfold pw;rw [if_neg z2_];congr 1;omega
theorem rread_fn {a:Option Addr}{c:Nat}{l:List UInt8}{h:Part}(hl:SlR u8R 1 h a c l) (hlen:l.length≤3000000):FnR Tryz.prog 109 [.slice a l.length c] h (fun v h'=>∃ a' c',v=.slice a' (toL (beV l)).length c'∧SlR u32R 1 h' a' c' (toL (beV l))):=by
 refine aG Tryz.func109 rfl Tryz.ntmps109 rfl (fun e he=>?_)
 refine aU [(0,_)] ⟨rfl,trivial⟩ ?_
 have hh0:=aO h
 refine Sr (Ru 1 rfl (a_ (Sr (Ru 2 rfl (ae ky rfl ?_)))))
 refine ae ai_ rfl ?_
 refine JL.make1 mk_152 rfl rfl (m:=l.length / 4+1) z2_ z2_ z2_ rfl rfl (fun b1=>?_);rw [ws_zero]
 refine Ru 1 rfl (Nk [3,2,0] rfl ?_)
 refine Sr (Ru 1 rfl (a_ (aw (Sr (Ru 1 rfl (a_ (aE (bC (fun t_ S_ h_ L_=>∃ (i v:Nat),t_=l.length-i∧S_=[(0,.slice a l.length c),(3,.slice (some ⟨b1,0,none⟩) (l.length / 4+1) (l.length / 4+1)),(4,.int .u64 (pw i:Nat)),(5,.int .i64 i)]∧h=h_∧L_=[.row (some ⟨b1,0,none⟩) (l.length / 4+1) 194 1 (l.length / 4+1) (ws .u64 (digN (l.length / 4+1) v))]∧(i≤l.length∧v=beV (l.drop (l.length-i)))) ⟨_,_,?_,⟨0,0,rfl,rfl,rfl,rfl,⟨by omega,by simp [beV]⟩⟩⟩ ?_))))))))
 ·repeat (first|exact trivial|refine⟨rfl,?_⟩|refine⟨(by exact cm (by rw [pw_next,bT];rfl)),?_⟩)
 rintro _ _ _ _ ⟨i,v,rfl,rfl,rfl,rfl,hi,hv⟩
 refine aw (Sr (Ru 4 rfl (a_ (Cs rfl (fun hc2=>?_) fun hc2=>?_))))
 ·have hi':i<l.length:=z2_;have hvl:=kj l i z2_;have hbl:=bK l (l.length-1-i);have hdb:=nJ (l.length / 4+1) _ _ i hvl hbl z2_;have hst:=rq l i hi';have hd0:=pt (l.length / 4+1) (beV (l.drop (l.length-i))) (i / 4) z2_;have hr4:=pow4 (i % 4) z2_;have hbe:=bv l (l.length-1-i) z2_;rw [← hv] at hvl hdb hst hd0;have hsb:256 ^ (i % 4)*byteAt l (l.length-1-i)≤4278190080:=(by rcases hr4 with e|e|e|e<;>rw [e]<;>omega);have hsum:v / 4294967296 ^ (i / 4)+byteAt l (l.length-1-i)*256 ^ (i % 4)<4294967296:=(by have:=hdb.2;rcases hr4 with e|e|e|e<;>rw [e] at this ⊢<;>omega);have hdd:d32 (digN (l.length / 4+1) v) (i / 4)=v / 4294967296 ^ (i / 4):=(by rw [hd0];exact Nat.mod_eq_of_lt z2_);have hp16:256 ^ (i % 4)≤16777216:=(by rcases hr4 with e|e|e|e<;>rw [e]<;>omega)
  refine ax (aw (aE (aw (Sr (Ru 1 rfl (ae oe rfl ?_))))))
  refine Ru 1 rfl (a_ (cj [(4,.int .u64 (256 ^ (i % 4):Nat))] [(18,_),(17,_),(14,_),(13,_),(12,_),(11,_),(0,_),(3,_),(5,_)] ⟨rfl,rfl,rfl,rfl,rfl,rfl,rfl,rfl,rfl,trivial⟩ ?_ ?_))
  ·refine Cs rfl (fun hc3=>?_) fun hc3=>?_
   ·refine Rg (Ru 1 rfl (a_ (⟨rfl,rfl,?_⟩)))
    repeat (first|exact trivial|refine⟨rfl,?_⟩|refine⟨(by exact cm (by first|(rw [pw_keep i z2_];done)|(rw [show i % 4=0 by omega];rfl))),?_⟩)
   refine ax (⟨rfl,rfl,?_⟩)
   repeat (first|exact trivial|refine⟨rfl,?_⟩|refine⟨(by exact cm (by first|(rw [pw_keep i z2_];done)|(rw [show i % 4=0 by omega];rfl))),?_⟩)
  refine aw (J.held ([]) 22 cK rfl (fun h00=>?_))
  refine Tk 0 rfl (bG rfl) ?_
  refine Tk 1 rfl (bG rfl) ?_
  refine Tk 2 rfl ky ?_
  refine Tk 3 rfl (bG rfl) ?_
  refine Tk 4 rfl (bG rfl) ?_
  refine Tk 5 rfl ky ?_
  refine Tk 6 rfl (RunV.index_at cJ (m:=i / 4) rfl rfl z2_ z2_) ?_
  refine Tk 8 rfl (bG rfl) ?_
  refine Tk 9 rfl (bG rfl) ?_
  refine Tk 10 rfl (bG rfl) ?_
  refine Tk 11 rfl (RunV.len cA rfl) ?_
  refine Tk 12 rfl si_ ?_
  refine Tk 13 rfl (bG rfl) ?_
  refine Tk 14 rfl si_ ?_
  refine Te 15 rfl (aC (m:=l.length-1-i) cA rfl rfl z2_ hl rfl z2_) ?_
  rintro _ ⟨b8,o8,hi8,rfl,hE8⟩
  refine Tk 16 rfl ((hbe ▸ aZ eu rfl hE8:RunV _ _ _ _ _ _ (.int .u8 (byteAt l (l.length-1-i):Nat)))) ?_
  refine Tk 17 rfl (cX e9 rfl z2_ z2_) ?_
  refine Tk 18 rfl (RunV.mul_u64 rfl rfl (by rw [← bT];omega) (by rw [← bT];omega)) ?_
  refine Ta 7 rfl ?_
  unfold One
  refine ae (RunV.wload cQ rfl mm_ (by rw [db];omega)) rfl ?_
  refine a_ ⟨(br_ h00),?_⟩
  refine Tk 19 rfl (RunV.add_u64 rfl rfl (by rw [← bT];omega) (by rw [← bT];omega)) ?_
  refine Tk 20 rfl (RunV.index_at cJ (m:=i / 4) rfl rfl z2_ z2_) ?_
  refine Ta 21 rfl ?_
  unfold One
  refine JL.storeW (v / 4294967296 ^ (i / 4)+byteAt l (l.length-1-i)*256 ^ (i % 4)) cQ rfl rfl (by rw [Nat.mod_eq_of_lt hsum,hdd,← bT,← dv,Nat.mul_comm]) dl_ (by rw [db];omega) ?_
  rw [← hdb.1]
  refine a_ ⟨(br_ h00),?_⟩
  refine JH.done cY ?_
  refine Rg (Ru 1 rfl (ae (RunV.mul_u64 rfl rfl z2_ z2_) rfl ?_))
  refine Ru 1 rfl (a_ (Rg (Ru 1 rfl (ae ai_ rfl ?_))))
  refine Ru 1 rfl (a_ (⟨_,?_,_,?_,⟨i+1,v+byteAt l (l.length-1-i)*256 ^ i,rfl,rfl,rfl,rfl,⟨by omega,by rw [hst,Nat.add_comm]⟩⟩⟩))
  ·omega
  repeat (first|exact trivial|refine⟨rfl,?_⟩|refine⟨(by exact cm (by rw [pw_next,bT];rfl)),?_⟩)
 refine bx (Kp [3] rfl (Sr (Ru 1 rfl ?_)))
 refine JL.pub64 dl_ (by rw [db]) (by rw [db];omega) (fun h9 hle9 hP9=>?_);replace hl:=hl.mono hle9;replace hh0:=hh0.mono hle9;have hve:vL (digN (l.length / 4+1) v)=beV l:=(by rw [ip,hv,show l.length-i=0 by omega,List.drop_zero];refine Nat.mod_eq_of_lt (Nat.lt_of_lt_of_le (go l) ?_);rw [show(4294967296:Nat)=256 ^ 4 from rfl,← Nat.pow_mul];exact Nat.pow_le_pow_right bJ z2_)
 refine bI ca_166 rfl (oV hP9 (by rw [db]) (by rw [db];omega)) rfl ?_
 rintro _ h6 hle6 ⟨ra,rc,rfl,hR⟩
 replace hl:=hl.mono hle6
 replace hh0:=hh0.mono hle6
 refine Ru 1 rfl (a_ ?_)
 rw [hve] at hR ⊢;exact b_ (au rfl rfl) ⟨_,_,rfl,hR⟩
theorem rwhole_fn {x:Nd}{cs:List Value}{h:Part}(r:NdR h cs x) (hsz:x.sz≤10000000):Pure Tryz.prog 108 [.agg cs.toArray] h (.bool x.whole):=by
 cases x with
 |mk c t k bs ks =>
 obtain⟨ka,kca,kb,kcb,rfl,hka,hkb⟩:=r.inv
 refine Pure.ofV ?_
 refine aG Tryz.func108 rfl Tryz.ntmps108 rfl (fun e he=>?_)
 refine aU [(0,_)] ⟨rfl,trivial⟩ ?_
 refine Sr (d8 rfl rfl rfl (fun b1=>?_))
 refine Ru 1 rfl (a_ (Sr (Ru 1 rfl (ae (aq cZ rfl mm_ rfl) rfl ?_))))
 refine Ru 2 rfl ?_
 apply An 6 15 9 [2,1] rfl rfl
 ·intro hb2 hc2
  refine Ru 1 rfl (aH rfl rfl  (aq cZ rfl mm_ rfl) rfl ?_)
  refine Ru 2 rfl ?_
  apply On 10 14 4 [6,2,1] rfl rfl
  rotate_left
  ·intro hb3 hc3
   refine Ru 1 rfl (aH rfl rfl  (aq cZ rfl mm_ rfl) rfl ?_)
   exact Ru 2 rfl (Ae (om_f hb3 rfl) rfl)
  rotate_right
  ·exact fun hb3 _=>Ru 4 rfl (Ae (om_t hb3 rfl) rfl)
  exact Ru 1 rfl (Ae (am_t hb2 rfl) rfl)
 ·exact fun hb2 _=>Ru 9 rfl (Ae (am_f hb2 rfl) rfl)
 refine Ru 1 rfl ?_
 apply An 16 19 3 [2] rfl rfl
 ·intro hb4 hc4
  refine aH rfl rfl  (bp bD rfl mm_ z9_) rfl ?_
  refine cE rfl rfl  ca_165 rfl (jB z5_ z2_) rfl ?_
  exact Ru 1 rfl (Ae (am_t hb4 rfl) rfl)
 ·exact fun hb4 _=>Ru 3 rfl (Ae (am_f hb4 rfl) rfl)
 exact Ru 1 rfl (a_ (J.retV (au rfl rfl) rfl))
theorem rnatof_fn {x:Nd}{cs:List Value}{h:Part}(r:NdR h cs x) (hsz:x.sz≤3000000) :
 FnR Tryz.prog 52 [.agg cs.toArray] h (fun v h'=>∃ a c,v=.tuple #[.slice a x.natL.length c,.bool x.natOk]∧SlR u32R 1 h' a c x.natL):=by
 cases x with
 |mk c t k bs ks =>
 have hbs:=Nd.bytes_sz c t k bs ks
 have hpos:(Nd.mk c t k bs ks).whole=true→0<bs.length:=fun hw=>iE (eF.1 hw).2.2.2.2
 obtain⟨ka,kca,kb,kcb,rfl,hka,hkb⟩:=r.inv
 refine aG Tryz.func52 rfl Tryz.ntmps52 rfl (fun e he=>?_)
 refine aU [(0,_)] ⟨rfl,trivial⟩ ?_
 have hh0:=aO h
 refine Sr (d8 rfl rfl rfl (fun b1=>?_))
 refine Ru 2 rfl (a_ (aw (Sr (ae (bp bD rfl mm_ z9_) rfl ?_))))
 refine aV ca_108 rfl (rwhole_fn z5_ z2_) rfl ?_
 refine Ru 2 rfl (Bs 7 rfl (fun hc3=>?_) fun hc3=>?_)
 ·refine Ru 6 rfl (Nk [13,3,2,1] rfl (aM rfl (Sr (Ru 2 rfl (a_ ?_)))))
  have hff:=lX (show(Nd.mk c t k bs ks).whole=false∨¬ byteAt bs 0<128 by first|exact .inl hc3|(right;omega));have hfl:(Nd.mk c t k bs ks).natL=[]:=if_neg (by rw [hff];decide);rw [hff,hfl];exact b_ (aS rfl rfl rfl) ⟨_,_,rfl,bc⟩
 have hps:=hpos (by simpa using hc3);have e0:=bv bs 0 hps;have hwz:=hc3
 refine Ru 1 rfl (aH rfl rfl  (aq cU rfl mm_ rfl) rfl ?_)
 refine cr rfl rfl  (aC cA rfl rfl (show _=((0:Nat):Int) from rfl) z5_ rfl z2_) rfl ?_
 rintro _ ⟨b4,o4,hi4,rfl,hE4⟩
 refine aH rfl rfl  (aZ eu rfl z5_) rfl ?_
 refine Ru 2 rfl (Nk [13,3,2,1] rfl (Cs rfl (fun hc6=>?_) fun hc6=>?_))
 ·refine Sr (Ru 2 rfl (a_ ?_))
  have hff:=lX (show(Nd.mk c t k bs ks).whole=false∨¬ byteAt bs 0<128 by first|exact .inl hc6|(right;omega));have hfl:(Nd.mk c t k bs ks).natL=[]:=if_neg (by rw [hff];decide);rw [hff,hfl];exact b_ (aS rfl rfl rfl) ⟨_,_,rfl,bc⟩
 refine ax (Sr (Ru 1 rfl (ae (aq cU rfl mm_ rfl) rfl ?_)))
 refine bI ca_109 rfl (rread_fn z5_ z2_) rfl ?_
 rintro _ h7 hle7 ⟨a7,c7,rfl,hS7⟩
 replace r:=r.mono hle7
 replace hka:=hka.mono hle7
 replace hh0:=hh0.mono hle7
 refine Ru 2 rfl (Nk [3,2] rfl ?_)
 have hff:=p9 hwz (show byteAt bs 0<128 by omega);have hfl:(Nd.mk c t k bs ks).natL=toL (beV bs):=if_pos hff;rw [hff,hfl];exact b_ (aS rfl rfl rfl) ⟨_,_,rfl,by assumption⟩
end
section
set_option maxRecDepth 100000
theorem digs_eq (l:List UInt32):digsB l=(toL (vL l)).map m64:=r9 l
theorem qm {a:Option Addr}{c:Nat}{l:List UInt32}{h:Part}(hl:SlR u32R 1 h a c l) (hlen:l.length≤1000000):FnR Tryz.prog 113 [.slice a l.length c] h (fun v h'=>∃ a' c',v=.slice a' (toL (vL l)).length c'∧SlR u64R 1 h' a' c' ((toL (vL l)).map m64)):=by
 have:=gH hl hlen
 rw [digs_eq,aK] at this
 exact this
theorem d64_mat (l:List UInt32) (i:Nat) (h:i<(l.map m64).length):(((l.map m64)[i]'h).toNat:Int)=d32 l i:=by rw [nL,jZ]
end
section
set_option maxRecDepth 100000
end
section
set_option maxRecDepth 100000
end
section
set_option maxRecDepth 100000
theorem ca_112:callT Tryz.prog 112=true:=by kernel_rfl
theorem oK {a b:Option Addr}{ca cb X Y:Nat}{h:Part}(hA:SlR u64R 1 h a ca ((toL X).map m64)) (hB:SlR u64R 1 h b cb ((toL Y).map m64)) (hlA:(toL X).length≤1000000):Pure Tryz.prog 112 [.slice a (toL X).length ca,.slice b (toL Y).length cb] h (.int .i64 (cmpI3 X Y)):=by
 have hAl:((toL X).map m64).length=(toL X).length:=aK ..
 have hBl:((toL Y).map m64).length=(toL Y).length:=aK ..
 have e1:=jt X
 have e2:=jt Y
 refine aG Tryz.func112 rfl Tryz.ntmps112 rfl (fun e he=>?_)
 refine aU [(0,_),(1,_)] ⟨rfl,rfl,trivial⟩ ?_
 refine Sr (Ru 1 rfl (a_ (aw (Sr (Ru 5 rfl (a_ (Cs rfl (fun hc1=>?_) fun hc1=>?_)))))))
 ·refine aw (Sr (Ru 5 rfl (Nk [15,4,0,1] rfl (Cs rfl (fun hc2=>?_) fun hc2=>?_))))
  ·have hlt:=nd_lt (m:=X) (n:=Y) z2_
   exact Sr (Ru 1 rfl (a_ (az (au rfl rfl) (by unfold cmpI3;rw [if_pos hlt]) rfl)))
  have hlt:=nd_lt (m:=Y) (n:=X) z2_
  exact ax (Sr (Ru 1 rfl (a_ (az (au rfl rfl) (by unfold cmpI3;rw [if_neg z2_,if_pos hlt]) rfl))))
 refine ax (Kp [4,0,1] rfl (aw (Sr (Ru 2 rfl (ae si_ rfl ?_)))))
 refine Ru 1 rfl (a_ (aE (bC (fun t_ S_ h_ L_=>∃ (j:Nat),t_=j+1∧S_=[(0,.slice a (toL X).length ca),(1,.slice b (toL Y).length cb),(5,.int .i64 ((j:Int)-1))]∧h=h_∧L_=[]∧(j≤(toL X).length∧X / 4294967296 ^ j=Y / 4294967296 ^ j)) ⟨_,_,?_,⟨(toL X).length,rfl,rfl,rfl,rfl,⟨aD _,by rw [e1,Nat.div_eq_of_lt (lt_nd _),show nd X=nd Y by omega,Nat.div_eq_of_lt (lt_nd _)]⟩⟩⟩ ?_)))
 ·exact gp
 rintro _ _ _ _ ⟨j,rfl,rfl,rfl,rfl,hj,he⟩
 refine aw (Sr (Ru 2 rfl (a_ (Cs rfl (fun hc3=>?_) fun hc3=>?_))))
 ·obtain⟨i,rfl⟩:∃ i,j=i+1:=⟨j-1,by omega⟩;have dl:=div_low X i;have dr:=div_low Y i;have gl:=fZ (toL X) i;have gr:=fZ (toL Y) i;rw [vL_toL] at gl gr;rw [gl] at dl;rw [gr] at dr;rw [he] at dl;have al:=d64_mat (toL X) i z2_;have ar:=d64_mat (toL Y) i z2_
  refine ax (aw (aE (aw (aw (cT cK cY ?_)))))
  refine Rq 2 rfl ?_
  refine dE (aC (m:=i) cJ rfl rfl z2_ hA hAl.symm z2_) rfl ?_
  rintro _ ⟨b4,o4,hi4,rfl,hE4⟩
  refine bR (bA cQ rfl z5_) rfl ?_
  rw [al]
  refine Rq 2 rfl ?_
  refine dE (aC (m:=i) cJ rfl rfl z2_ hB hBl.symm z2_) rfl ?_
  rintro _ ⟨b6,o6,hi6,rfl,hE6⟩
  refine bR (bA cQ rfl z5_) rfl ?_
  rw [ar]
  refine Rq 1 rfl ?_
  refine JQ.nil ?_
  refine Cs rfl (fun hc8=>?_) fun hc8=>?_
  ·have hlt:=nh (x:=X) (y:=Y) (d:=4294967296 ^ i) z2_
   exact Sr (Ru 1 rfl (a_ (az (au rfl rfl) (by unfold cmpI3;rw [if_pos hlt]) rfl)))
  refine ax (aw (cT cK cY ?_))
  refine Rq 2 rfl ?_
  refine dE (aC (m:=i) cJ rfl rfl z2_ hA hAl.symm z2_) rfl ?_
  rintro _ ⟨b9,o9,hi9,rfl,hE9⟩
  refine bR (bA cQ rfl z5_) rfl ?_
  rw [al]
  refine Rq 2 rfl ?_
  refine dE (aC (m:=i) cJ rfl rfl z2_ hB hBl.symm z2_) rfl ?_
  rintro _ ⟨b11,o11,hi11,rfl,hE11⟩
  refine bR (bA cQ rfl z5_) rfl ?_
  rw [ar]
  refine Rq 1 rfl ?_
  refine JQ.nil ?_
  refine Cs rfl (fun hc13=>?_) fun hc13=>?_
  ·have hlt:=nh (x:=Y) (y:=X) (d:=4294967296 ^ i) z2_
   exact Sr (Ru 1 rfl (a_ (az (au rfl rfl) (by unfold cmpI3;rw [if_neg z2_,if_pos hlt]) rfl)))
  refine ax (Rg (Ru 1 rfl (ae si_ rfl ?_)))
  refine Ru 1 rfl (a_ (⟨_,?_,_,?_,⟨i,rfl,rfl,rfl,rfl,⟨by omega,by omega⟩⟩⟩))
  ·omega
  exact gp
 have hj0:j=0:=z2_;rw [hj0,Nat.pow_zero,Nat.div_one,Nat.div_one] at he
 exact bx (Kp [] rfl (Sr (Ru 1 rfl (a_ (az (au rfl rfl) (by unfold cmpI3;rw [if_neg z2_,if_neg z2_]) rfl)))))
theorem rcmp_fn {a b:Option Addr}{ca cb:Nat}{l r:List UInt32}{h:Part}(hl:SlR u32R 1 h a ca l) (hr:SlR u32R 1 h b cb r) (hlb:l.length≤1000000) (hrb:r.length≤1000000):FnR Tryz.prog 57 [.slice a l.length ca,.slice b r.length cb] h (fun v _=>v=.int .i64 (cmpI3 (vL l) (vL r))):=by
 have n1:(toL (vL l)).length≤l.length:=by rw [jt];exact nd_le _ _ (vL_lt l)
 refine aG Tryz.func57 rfl Tryz.ntmps57 rfl (fun e he=>?_)
 refine aU [(0,_),(1,_)] ⟨rfl,rfl,trivial⟩ ?_
 have hh0:=aO h
 refine Sr (Ru 1 rfl (a_ (Sr (Ru 1 rfl (bI rj rfl (qm hl hlb) rfl ?_)))))
 rintro _ h1 hle1 ⟨da,dc,rfl,hD⟩
 replace hl:=hl.mono hle1
 replace hr:=hr.mono hle1
 replace hh0:=hh0.mono hle1
 refine Ru 1 rfl (bI rj rfl (qm hr hrb) rfl ?_)
 rintro _ h2 hle2 ⟨ea,ec,rfl,hE⟩
 replace hl:=hl.mono hle2
 replace hr:=hr.mono hle2
 replace hh0:=hh0.mono hle2
 replace hD:=hD.mono hle2
 refine aV ca_112 rfl (oK hD hE z2_) rfl ?_
 exact Ru 1 rfl (Nk [4] rfl (b_ (au rfl rfl) rfl))
end
section
set_option maxRecDepth 100000
end
section
set_option maxRecDepth 100000
def belowL (n k:Nat):List UInt32:=(List.replicate (n / 32) 4294967295++(if 0<n % 32 then [UInt32.ofNat (2 ^ (n % 32)-1)] else [])).set 0 (UInt32.ofNat (4294967296-k))
def primeL:Nat→List UInt32
 |0=>belowL 256 189
 |1=>belowL 255 19
 |2=>belowL 256 357
 |3=>belowL 255 31
 |4=>belowL 257 93
 |_=>belowL 521 1
def expL:Nat→List UInt32
 |0=>[0xb9c9afc1,0xb9c94636,0xb9c94636,0xb9c94636,0xb9c94636,0xb9c94636,0xb9c94636,0xb9c94636,0x65af9976,0x65af9a50,0x65af9a50,0x65af9a50,0x65af9a50,0x65af9a50,0x65af9a50,0x65af9a50]
 |1=>[0xa813656d,0xa81357ec,0xa81357ec,0xa81357ec,0xa81357ec,0xa81357ec,0xa81357ec,0xa81357ec,0x63159c8e,0x63159cea,0x63159cea,0x63159cea,0x63159cea,0x63159cea,0x63159cea,0x63159cea]
 |2=>[0x197912ed,0x1978e687,0x1978e687,0x1978e687,0x1978e687,0x1978e687,0x1978e687,0x1978e687,0xaced5201,0xaced5312,0xaced5312,0xaced5312,0xaced5312,0xaced5312,0xaced5312,0xaced5312]
 |3=>[0xc45a3f41,0xc45a3ba5,0xc45a3ba5,0xc45a3ba5,0xc45a3ba5,0xc45a3ba5,0xc45a3ba5,0xc45a3ba5,0x7db7821d,0x7db78248,0x7db78248,0x7db78248,0x7db78248,0x7db78248,0x7db78248,0x7db78248]
 |4=>[0x4623bbc1,0x4623b9dc,0x4623b9dc,0x4623b9dc,0x4623b9dc,0x4623b9dc,0x4623b9dc,0x4623b9dc,0x2940d6ad,0x2940d6bf,0x2940d6bf,0x2940d6bf,0x2940d6bf,0x2940d6bf,0x2940d6bf,0x2940d6bf]
 |5=>[0xa87558e9,0xa875578a,0xa875578a,0xa875578a,0xa875578a,0xa875578a,0xa875578a,0xa875578a,0x807f7f7e,0x807f7f80,0x807f7f80,0x807f7f80,0x807f7f80,0x807f7f80,0x807f7f80,0x807f7f80,0xa269780,0xa27f5d8,0xa27f5d8,0xa27f5d8,0xa27f5d8,0xa27f5d8,0xa27f5d8,0xa27f5d8,0x1d8]
 |6=>[0xa4b65c7d,0xa4b65b49,0xa4b65b49,0xa4b65b49,0xa4b65b49,0xa4b65b49,0xa4b65b49,0xa4b65b49,0x807f7f7f,0x807f7f80,0x807f7f80,0x807f7f80,0x807f7f80,0x807f7f80,0x807f7f80,0x807f7f80,0xc9230380,0xc92436db,0xc92436db,0xc92436db,0xc92436db,0xc92436db,0xc92436db,0xc92436db,0xdb]
 |7=>[0xb84e47d1,0xb84e47b1,0xb84e47b1,0xb84e47b1,0xb84e47b1,0xb84e47b1,0xb84e47b1,0xb84e47b1,0x807f7f7f,0x807f7f80,0x807f7f80,0x807f7f80,0x807f7f80,0x807f7f80,0x807f7f80,0x807f7f80,0x3137af80,0x3137cec8,0x3137cec8,0x3137cec8,0x3137cec8,0x3137cec8,0x3137cec8,0x3137cec8,0xc8]
 |8=>[0xf86107c1,0xf861079e,0xf861079e,0xf861079e,0xf861079e,0xf861079e,0xf861079e,0xf861079e,0x807f7f7f,0x807f7f80,0x807f7f80,0x807f7f80,0x807f7f80,0x807f7f80,0x807f7f80,0x807f7f80,0x1e77bf80,0x1e77e188,0x1e77e188,0x1e77e188,0x1e77e188,0x1e77e188,0x1e77e188,0x1e77e188,0x88]
 |9=>[0x72988d99,0x72988d67,0x72988d67,0x72988d67,0x72988d67,0x72988d67,0x72988d67,0x72988d67,0x807f7f7f,0x807f7f80,0x807f7f80,0x807f7f80,0x807f7f80,0x807f7f80,0x807f7f80,0x807f7f80,0xe6f1e780,0xe6f2190d,0xe6f2190d,0xe6f2190d,0xe6f2190d,0xe6f2190d,0xe6f2190d,0xe6f2190d,0x10d]
 |10=>[0x956b39cd,0x956a956a,0x956a956a,0x956a956a,0x956a956a,0x956a956a,0x956a956a,0x956a956a,0x9e619d0e,0x9e619e61,0x9e619e61,0x9e619e61,0x9e619e61,0x9e619e61,0x9e619e61,0x9e619e61]
 |11=>[0x11ee43e1,0x11ee11ee,0x11ee11ee,0x11ee11ee,0x11ee11ee,0x11ee11ee,0x11ee11ee,0x11ee11ee,0x6e916d3e,0x6e916e91,0x6e916e91,0x6e916e91,0x6e916e91,0x6e916e91,0x6e916e91,0x6e916e91,0x1]
 |_=>[]
def pairR:Rep (Int×Int):=fun _ cs p=>cs=[.int .i64 p.1,.int .i64 p.2]
instance:Mono pairR:=⟨fun _ r=>r,fun r u hu=>by unfold pairR at r;subst r;simp only [List.mem_cons,List.not_mem_nil,or_false] at hu;rcases hu with rfl|rfl<;>rfl⟩
def pairsL:List (Int×Int):=[(0,2),(0,4),(2,4),(4,1),(4,3),(0,5),(2,5),(1,5),(3,5),(4,5),(0,2),(0,4)]
def keyN (i:Nat):Nat:=vL (primeL (amongI (pairsL.getD i (0,0)).1 6).toNat)*vL (primeL (amongI (pairsL.getD i (0,0)).2 6).toNat)
def keyE (i:Nat):Nat:=if 10≤i then 257 else 65537
end
section
set_option maxRecDepth 100000
end
section
set_option maxRecDepth 100000
end
section
set_option maxRecDepth 100000
theorem ry:aggT Tryz.prog 236=some (some 8):=by kernel_rfl
theorem ar_238:arT Tryz.prog 238=some (8,1):=by kernel_rfl
theorem az_236:arZ Tryz.prog 236=some ([.int .u64 0,.int .u64 0,.int .u64 0,.int .u64 0,.int .u64 0,.int .u64 0,.int .u64 0,.int .u64 0],1):=by kernel_rfl
theorem ca_140:callT Tryz.prog 140=true:=by kernel_rfl
theorem ni_237:niT Tryz.prog 237=true:=by kernel_rfl
theorem ni_241:niT Tryz.prog 241=true:=by kernel_rfl
theorem pl_240:plT Tryz.prog 240=some ([.int .u32 0,.int .u32 0,.int .u32 0,.int .u32 0,.int .u32 0,.int .u32 0,.int .u32 0,.int .u32 0],[(0,8)]):=by kernel_rfl
theorem pl_243:plT Tryz.prog 243=some ([.int .u64 0,.int .u64 0,.int .u64 0,.int .u64 0,.int .u64 0,.int .u64 0,.int .u64 0,.int .u64 0],[(0,8)]):=by kernel_rfl
theorem zr_236:zeroT Tryz.prog 236=some [.int .u64 0,.int .u64 0,.int .u64 0,.int .u64 0,.int .u64 0,.int .u64 0,.int .u64 0,.int .u64 0]:=by kernel_rfl
section
variable {f:Fr}{S:Sig}{h:Part}{L:List Ent}{ty T yt:TypeId}{xo yo:Operand}
theorem RunV.eql_nil_nil (hT:ifT f.P T=true) (hx:ev S xo=some .nilIface):RunV f S h L (.binOp .eql T xo (.const .nilIface) yt) ty (.bool true):=cv (y:=.const .nilIface) hx rfl fun w=>by
 unfold ifT at hT
 split at hT<;>try cases hT
 rename_i ms hu
 have key:∀ m:Nat,(Op.equalIn (m+1) T .nilIface .nilIface).run f.P w=.ok true w:=fun m=>by simp [Op.equalIn,run_underlying hu]
 simp only [go_sem,binOp,Op.equal,Op.maxDepth]
 simp [eqGuard,key 9999]
theorem RunV.eql_iface_nil {t:TypeId}{v:Value}(hT:ifT f.P T=true) (hx:ev S xo=some (.iface t v)):RunV f S h L (.binOp .eql T xo (.const .nilIface) yt) ty (.bool false):=cv (y:=.const .nilIface) hx rfl fun w=>by
 unfold ifT at hT
 split at hT<;>try cases hT
 rename_i ms hu
 have key:∀ m:Nat,(Op.equalIn (m+1) T (.iface t v) .nilIface).run f.P w=.ok false w:=fun m=>by simp [Op.equalIn,run_underlying hu]
 simp only [go_sem,binOp,Op.equal,Op.maxDepth]
 simp [eqGuard,key 9999]
def arE (P:Program) (T:Nat):Option (Nat×Bool) :=
 match P.underlying T with
 |some (.array n e)=>some (n,aggT P e == some none)
 |_=>none
theorem RunV.indexAgg {len m:Nat}{k:IntKind}{i:Int}{cs:List Value}{v:Value}(hT:arE f.P T=some (len,true)) (hx:ev S xo=some (.agg cs.toArray)) (hy:ev S yo=some (.int k i)) (hi:i=(m:Int)) (h1:m<len) (hv:cs[m]?=some v) :
 RunV f S h L (.index T xo yo) ty v:=fun a w s _ _ _ _=>by
 subst hi
 have h0:(0:Int)≤m:=by omega
 unfold arE at hT
 split at hT<;>try cases hT
 rename_i n e hu
 simp only [ay,Prod.mk.injEq,beq_iff_eq] at hT
 obtain⟨rfl,he⟩:=hT
 have ⟨e1,e2⟩:=ee he w
 simp [execOp,s.eval hx,s.eval hy,Instr.index,asIntOf,run_underlying hu,h0,h1,e2,part,e1,hv]
end
def c64 (l:List UInt64):List Value:=l.map fun x=>.int .u64 (x.toNat:Int)
theorem c64_at (l:List UInt64) (i:Nat) (h:i<l.length):(c64 l)[i]?=some (.int .u64 ((l[i]'h).toNat:Int)):=by simp [c64,h]
def sqL:List UInt64:=[7640891576956012808,13503953896175478587,4354685564936845355,11912009170470909681,5840696475078001361,11170449401992604703,2270897969802886507,6620516959819538809]
theorem shaoid_fn {n:Int}{h:Part}:Pure Tryz.prog 86 [.int .i64 n] h (.string ⟨(if n=256 then [50,46,49,54,46,56,52,48,46,49,46,49,48,49,46,51,46,52,46,50,46,49] else if n=384 then [50,46,49,54,46,56,52,48,46,49,46,49,48,49,46,51,46,52,46,50,46,50] else if n=512 then [50,46,49,54,46,56,52,48,46,49,46,49,48,49,46,51,46,52,46,50,46,51] else []:List UInt8).toArray⟩):=by
 refine aG Tryz.func86 rfl Tryz.ntmps86 rfl (fun e he=>?_)
 refine aU [(0,_)] ⟨rfl,trivial⟩ ?_
 refine Sr (Ru 1 rfl (a_ ?_))
 refine aw (Sr (Ru 1 rfl (a_ (aE (Sr (Ru 2 rfl (a_ (Cs rfl (fun hc1=>?_) fun hc1=>?_))))))))
 ·refine Sr (Ru 1 rfl (Nk [2] rfl ?_))
  rw [if_pos hc1];exact az (au rfl rfl) rfl rfl
 refine Sr (Ru 2 rfl (Nk [6,3,2] rfl (Cs rfl (fun hc2=>?_) fun hc2=>?_)))
 ·refine Sr (Ru 1 rfl (a_ ?_))
  rw [if_neg z2_,if_pos hc2];exact az (au rfl rfl) rfl rfl
 refine Sr (Ru 2 rfl (a_ (Cs rfl (fun hc3=>?_) fun hc3=>?_)))
 ·refine Sr (Ru 1 rfl (Nk [2] rfl ?_))
  rw [if_neg z2_,if_neg z2_,if_pos hc3];exact az (au rfl rfl) rfl rfl
 refine ax (Kp [2] rfl (Sr (Ru 1 rfl (a_ ?_))))
 rw [if_neg z2_,if_neg z2_,if_neg z2_];exact az (au rfl rfl) rfl rfl
def someH (n:Int):Prop:=n=256∨n=384∨n=512
instance (n:Int):Decidable (someH n):=inferInstanceAs (Decidable (_∨_∨_))
theorem sd {n:Int}{h:Part}(hn:¬ someH n):FnR Tryz.prog 140 [.int .i64 n] h (fun v _=>v=.nilIface):=by
 unfold someH at hn
 refine aG Tryz.func140 rfl Tryz.ntmps140 rfl (fun e he=>?_)
 refine aU [(0,_)] ⟨rfl,trivial⟩ ?_
 have hh0:=aO h
 refine Sr (Ru 1 rfl (a_ (Sr (ae (RunV.buildArr az_236 rfl rfl rfl) rfl ?_))))
 refine bu zr_236 rfl (fun b1=>?_)
 refine aQ ry rfl rfl dl_ cS gO cS ?_
 refine a_ ?_
 refine aw (Sr (Ru 1 rfl (a_ (aE (Sr (Ru 2 rfl (a_ (Cs rfl (fun hc2=>?_) fun hc2=>?_))))))))
 ·exfalso;omega
 refine Sr (Ru 2 rfl (Nk [29,8,3,2] rfl (Cs rfl (fun hc3=>?_) fun hc3=>?_)))
 ·exfalso;omega
 refine Sr (Ru 2 rfl (a_ (Cs rfl (fun hc4=>?_) fun hc4=>?_)))
 ·exfalso;omega
 exact ax (Kp [2] rfl (Sr (Ru 1 rfl (a_ (b_ (au rfl rfl) rfl)))))
theorem sb {n:Int}{h:Part}(hn:someH n):FnR Tryz.prog 140 [.int .i64 n] h (fun v _=>∃ t u,v=.iface t u):=by
 unfold someH at hn
 have hsl:sqL.length=8:=rfl
 refine aG Tryz.func140 rfl Tryz.ntmps140 rfl (fun e he=>?_)
 refine aU [(0,_)] ⟨rfl,trivial⟩ ?_
 have hh0:=aO h
 refine Sr (Ru 1 rfl (a_ (Sr (ae (RunV.buildArr az_236 rfl rfl rfl) rfl ?_))))
 refine bu zr_236 rfl (fun b1=>?_)
 refine aQ ry rfl rfl dl_ cS gO cS ?_
 refine a_ ?_
 refine aw (Sr (Ru 1 rfl (a_ (aE (Sr (Ru 2 rfl (a_ (Cs rfl (fun hc2=>?_) fun hc2=>?_))))))))
 ·refine Sr (ae (aY (cs:=[.int .u32 0,.int .u32 0,.int .u32 0,.int .u32 0,.int .u32 0,.int .u32 0,.int .u32 0,.int .u32 0]) pl_240 rfl rfl) rfl ?_)
  refine d8 rfl rfl rfl (fun b3=>?_)
  refine Ru 1 rfl (Nk [4,3,2] rfl (aw (Sr (ae (bp ry rfl mm_ cS) rfl ?_))))
  refine Ru 1 rfl (a_ (aE (bC (fun t_ S_ h_ L_=>∃ (i:Nat) (cs:List Value),t_=8-i∧S_=[(4,.pointer (some ⟨b3,0,none⟩)),(13,.agg (c64 sqL).toArray),(14,.int .i64 i)]∧h=h_∧L_=[.blk b3 240 cs,.blk b1 236 (c64 sqL)]∧(i≤8∧cs.length=8)) ⟨_,_,?_,⟨0,[.int .u32 0,.int .u32 0,.int .u32 0,.int .u32 0,.int .u32 0,.int .u32 0,.int .u32 0,.int .u32 0],rfl,rfl,rfl,rfl,⟨by omega,rfl⟩⟩⟩ ?_)))
  ·exact gp
  rintro _ _ _ _ ⟨i,cs,rfl,rfl,rfl,rfl,hi,hcl⟩
  refine Sr (Ru 1 rfl (a_ (aw (Cs rfl (fun hc4=>?_) fun hc4=>?_))))
  ·have hi':i<8:=z2_;have hx64:=(sqL[i]'z2_).toNat_lt
   refine ax (aw (aE (Sr (Ru 1 rfl (ae (RunV.indexAgg (len:=8) (m:=i) cY rfl rfl rfl hi' (c64_at sqL i z2_)) rfl ?_)))))
   refine Ru 2 rfl (a_ (Rg (Ru 3 rfl (ae (RunV.shr_u64 4294967296 rfl rfl bJ bJ bJ) rfl ?_))))
   refine ae (RunV.toW ((sqL[i]'z2_).toNat / 4294967296) iK rfl (by rw [Int.natCast_ediv];rfl)) rfl ?_
   refine Ru 2 rfl (ae (RunV.indexArr ar_238 rfl rfl eD z2_) rfl ?_)
   refine bn km rfl rfl rfl dl_ fc ?_
   refine a_ (Rg (ae ai_ rfl ?_))
   refine Ru 1 rfl (a_ (⟨_,?_,_,?_,⟨i+1,_,rfl,rfl,rfl,rfl,⟨by omega,by rw [List.length_set];exact hcl⟩⟩⟩))
   ·omega
   exact gp
  refine bx (Sr (Ru 1 rfl (ae (RunV.makeInterface ni_237 rfl) rfl ?_)))
  exact Ru 1 rfl (Nk [2] rfl (b_ (au rfl rfl) ⟨_,_,rfl⟩))
 refine Sr (Ru 2 rfl (Nk [29,8,3,2] rfl (Cs rfl (fun hc5=>?_) fun hc5=>?_)))
 ·refine Sr (ae (RunV.buildArr az_236 rfl rfl rfl) rfl ?_)
  refine ae (aY (cs:=[_,_,_,_,_,_,_,_]) pl_243 rfl rfl) rfl ?_
  refine d8 rfl rfl rfl (fun b6=>?_)
  refine ae (RunV.makeInterface ni_241 rfl) rfl ?_
  exact Ru 1 rfl (Nk [2] rfl (b_ (au rfl rfl) ⟨_,_,rfl⟩))
 refine Sr (Ru 2 rfl (a_ (Cs rfl (fun hc7=>?_) fun hc7=>?_)))
 ·refine Sr (ae (bp ry rfl mm_ cS) rfl ?_)
  refine ae (aY (cs:=[_,_,_,_,_,_,_,_]) pl_243 rfl rfl) rfl ?_
  refine d8 rfl rfl rfl (fun b8=>?_)
  refine ae (RunV.makeInterface ni_241 rfl) rfl ?_
  exact Ru 1 rfl (Nk [2] rfl (b_ (au rfl rfl) ⟨_,_,rfl⟩))
 refine ax (Kp [2] rfl (Sr (Ru 1 rfl (a_ ?_))))
 exfalso;omega
def shaSize (n:Int):Int:=if someH n then n / 8 else 0
theorem rH {n:Int}{h:Part}:FnR Tryz.prog 78 [.int .i64 n] h (fun v _=>v=.int .i64 (shaSize n)):=by
 by_cases hn:someH n
 ·have hs:shaSize n=n / 8:=if_pos hn
  rw [hs]
  have hn2:=hn
  unfold someH at hn2
  refine aG Tryz.func78 rfl Tryz.ntmps78 rfl (fun e he=>?_)
  refine aU [(0,_)] ⟨rfl,trivial⟩ ?_
  have hh0:=aO h
  refine Sr (Ru 1 rfl (a_ (aw (Sr (Ru 1 rfl (bI ca_140 rfl (sb hn) rfl ?_))))))
  rintro _ h1 hle1 ⟨t,u,rfl⟩
  replace hh0:=hh0.mono hle1
  refine ae (RunV.eql_iface_nil cY rfl) rfl ?_
  refine a_ (dy rfl ?_)
  refine ax (Sr (Ru 1 rfl (ae ky rfl ?_)))
  exact Ru 1 rfl (Nk [2] rfl (b_ (au rfl rfl) rfl))
 ·have hs:shaSize n=0:=if_neg hn
  rw [hs]
  refine aG Tryz.func78 rfl Tryz.ntmps78 rfl (fun e he=>?_)
  refine aU [(0,_)] ⟨rfl,trivial⟩ ?_
  have hh0:=aO h
  refine Sr (Ru 1 rfl (a_ (aw (Sr (Ru 1 rfl (bI ca_140 rfl (sd hn) rfl ?_))))))
  rintro _ h1 hle1 rfl
  replace hh0:=hh0.mono hle1
  refine ae (RunV.eql_nil_nil cY rfl) rfl ?_
  exact a_ (aM rfl (Sr (Ru 1 rfl (a_ (b_ (au rfl rfl) rfl)))))
end
section
set_option maxRecDepth 100000
theorem dz:aggT Tryz.prog 198=some (some 8):=by kernel_rfl
theorem j6:apT Tryz.prog 196=some (195,1,8):=by kernel_rfl
theorem ca_150:callT Tryz.prog 150=true:=by kernel_rfl
theorem ca_192:callT Tryz.prog 192=true:=by kernel_rfl
theorem ca_91:callT Tryz.prog 91=true:=by kernel_rfl
theorem ge:fieldOff Tryz.prog 198 2=some 2:=by kernel_rfl
theorem pl_198:plT Tryz.prog 198=some ([.int .u64 0,.int .i64 0,.slice none 0 0,.slice none 0 0,.slice none 0 0,.slice none 0 0,.slice none 0 0,.int .i64 0],[(0,1),(1,1),(2,1),(3,1),(4,1),(5,1),(6,1),(7,1)]):=by kernel_rfl
theorem iQ:zeroT Tryz.prog 195=some [.int .u64 0]:=by kernel_rfl
theorem pO:zeroT Tryz.prog 198=some [.int .u64 0,.int .i64 0,.slice none 0 0,.slice none 0 0,.slice none 0 0,.slice none 0 0,.slice none 0 0,.int .i64 0]:=by kernel_rfl
def waySize (n:Int):Int:=if n=256 then 32 else if n=384 then 48 else if n=512 then 64 else 0
theorem way_sha (n:Int):waySize n=shaSize n:=by
 by_cases h1:n=256
 ·subst h1;rfl
 ·by_cases h2:n=384
  ·subst h2;rfl
  ·by_cases h3:n=512
   ·subst h3;rfl
   ·have h4:¬ someH n:=(by unfold someH;omega)
    show(if n=256 then 32 else if n=384 then 48 else if n=512 then 64 else 0:Int)=shaSize n
    rw [if_neg h1,if_neg h2,if_neg h3,show shaSize n=0 from if_neg h4]
def sq16:List UInt64:=[0x6a09e667f3bcc908,0xbb67ae8584caa73b,0x3c6ef372fe94f82b,0xa54ff53a5f1d36f1,0x510e527fade682d1,0x9b05688c2b3e6c1f,0x1f83d9abfb41bd6b,0x5be0cd19137e2179,0xcbbb9d5dc1059ed8,0x629a292a367cd507,0x9159015a3070dd17,0x152fecd8f70e5939,0x67332667ffc00b31,0x8eb44a8768581511,0xdb0c2e0d64f98fa7,0x47b5481dbefa4fa4]
theorem pJ {h:Part}{xs:List Value}{l:List UInt64}(e:c64 l=xs):CellsR u64R 1 h xs l:=by
 subst e
 refine⟨by simp [c64],fun i x hx=>?_⟩
 obtain⟨hi,rfl⟩:=List.getElem?_eq_some_iff.1 hx
 unfold u64R
 rw [Nat.mul_one,List.take_one,List.head?_drop,c64_at l i hi]
 rfl
theorem kC {h:Part}:FnR Tryz.prog 192 [] h (fun v h'=>∃ a c,v=.slice a sq16.length c∧SlR u64R 1 h' a c sq16):=by
 refine aG Tryz.func192 rfl Tryz.ntmps192 rfl (fun e he=>?_)
 have hh0:=aO h
 refine Sr (Ru 1 rfl (a_ (Sr (ct fX kw rfl rfl rfl rfl rfl (fun b1=>?_)))))
 refine JL.pubB (R:=u64R) (sz:=1) (l:=sq16) dl_ ((pJ cY)) (by first|decide|omega|(rw [db];decide)|(simp;done)|(simp [db];done)) (fun h2 hle2 hQ=>?_)
 replace hh0:=hh0.mono hle2
 exact Ru 1 rfl (a_ (b_ (au rfl rfl) ⟨_,_,rfl,hQ⟩))
theorem ways_some {n:Int}{h:Part}(hn:n=256):FnR Tryz.prog 150 [.int .i64 n] h (fun v _=>∃ c0 c1 c2 c3 c4 c5 c6,v=.agg #[c0,c1,c2,c3,c4,c5,c6,.int .i64 (waySize n)]):=by
 have hw:waySize n=32:=if_pos hn
 have hsl:sq16.length=16:=rfl
 rw [hw]
 refine aG Tryz.func150 rfl Tryz.ntmps150 rfl (fun e he=>?_)
 refine aU [(0,_)] ⟨rfl,trivial⟩ ?_
 have hh0:=aO h
 refine Sr (bu pO rfl (fun b1=>?_))
 refine a_ (Sr (bI ca_192 rfl (kC) rfl ?_))
 rintro _ h2 hle2 ⟨sa,sc,rfl,hQ⟩
 replace hh0:=hh0.mono hle2
 refine Ru 1 rfl (a_ (aw (Sr (Ru 2 rfl (a_ (Cs rfl (fun hc3=>?_) fun hc3=>?_))))))
 rotate_left
 ·exfalso;omega
 refine Sr (ct j6 iQ rfl rfl rfl rfl rfl (fun b4=>?_))
 refine ct j6 iQ rfl rfl rfl rfl rfl (fun b5=>?_)
 refine ct j6 iQ rfl rfl rfl rfl rfl (fun b6=>?_)
 refine ct j6 iQ rfl rfl rfl rfl rfl (fun b7=>?_)
 refine ae (aY (cs:=[_,_,.slice none 0 0,_,_,_,_,_]) pl_198 rfl rfl) rfl ?_
 refine bu pO rfl (fun b8=>?_)
 refine aQ dz rfl rfl dl_ cS gO cS ?_
 refine Nk [4,3,2,0] rfl (aw (Sr ?_))
 refine JL.own (L':=[.blk b8 198 _,.blk b1 198 _]) (fun w hk=>hk.drop (by repeat (first|exact List.nil_sublist _|apply List.Sublist.cons_cons|apply List.Sublist.cons))) ?_;refine bZ 194 1 ?_;refine JL.own (fun w hk=>hk.perm (.swap ..)) ?_
 refine Ru 1 rfl (a_ (aE (bC (fun t_ S_ h_ L_=>∃ (i:Nat) (l:List UInt64) (ao:Option Addr) (co:Nat) (xs:List Value),t_=8-i∧S_=[(2,.pointer (some ⟨b1,0,none⟩)),(3,.slice sa sq16.length sc),(4,.pointer (some ⟨b8,0,none⟩)),(5,.int .i64 i)]∧h2=h_∧L_=[.blk b8 198 [.int .u64 32,.int .i64 64,.slice ao l.length co,(.slice (some ⟨b4,0,none⟩) 3 3),(.slice (some ⟨b5,0,none⟩) 3 3),(.slice (some ⟨b6,0,none⟩) 3 3),(.slice (some ⟨b7,0,none⟩) 3 3),.int .i64 32],.row ao co 194 1 l.length xs,.blk b1 198 [.int .u64 0,.int .i64 0,.slice none 0 0,.slice none 0 0,.slice none 0 0,.slice none 0 0,.slice none 0 0,.int .i64 0]]∧(i≤8∧l.length=i∧CellsR u64R 1 h2 xs l)) ⟨_,_,?_,⟨0,[],none,0,[],rfl,rfl,rfl,rfl,⟨by omega,rfl,bQ⟩⟩⟩ ?_)))
 ·exact gp
 rintro _ _ _ _ ⟨i,l,ao,co,xs,rfl,rfl,rfl,rfl,hi,hll,hC⟩
 refine aw (Sr (Ru 2 rfl (a_ (Cs rfl (fun hc9=>?_) fun hc9=>?_))))
 ·have hi':i<8:=z2_;have hi16:i<sq16.length:=z2_;have hx64:=(sq16[i]'hi16).toNat_lt
  refine ax (aw (aE (J.held ([]) 11 cK rfl (fun h00=>?_))))
  refine Tk 0 rfl (by first|exact cq ge rfl|exact bX ge rfl) ?_
  refine Tk 2 rfl (bG rfl) ?_
  refine Tk 3 rfl (bG rfl) ?_
  refine Te 4 rfl (aC cJ rfl rfl eD z5_ rfl z2_) ?_
  rintro _ ⟨b10,o10,hi10,rfl,hE10⟩
  refine Tk 5 rfl (bA cQ rfl z5_) ?_
  refine Tk 6 rfl z37_ ?_
  refine JH.all2 1 7 cY rfl rfl ?_ ?_
  ·unfold One
   refine ae (aq dG rfl mm_ rfl) rfl ?_
   refine a_ ⟨(br_ h00),?_⟩
   refine Ta 7 rfl ?_
   unfold One
   refine ct fX kw rfl rfl rfl rfl rfl (fun b12=>?_)
   refine a_ ⟨(br_ h00),?_⟩
   refine Ta 8 rfl ?_
   unfold One
   refine bV fX rfl rfl z5_ rfl dl_ dl_ rfl ((by show _=_;rw [UInt64.toNat_div];rfl:u64R _ [.int .u64 (((sq16[i]'hi16).toNat:Int) / 4294967296)] (sq16[i]'hi16 / 4294967296))) z4_ rfl rfl (fun a13 c13 xs13 hC13 hN13=>?_)
   refine a_ ⟨(br_ h00),?_⟩
   refine Tk 9 rfl (by first|exact cq ge rfl|exact bX ge rfl) ?_
   refine Ta 10 rfl ?_
   unfold One
   refine bn dG rfl rfl rfl dl_ fc ?_
   refine a_ ⟨(br_ h00),?_⟩
   refine JH.done cY ?_
   refine Rg (Ru 1 rfl (ae ai_ rfl ?_))
   refine Ru 1 rfl (a_ (⟨_,?_,_,?_,⟨i+1,_,_,_,_,rfl,rfl,rfl,rfl,⟨by omega,by simp [hll],by assumption⟩⟩⟩))
   ·omega
   exact gp
  unfold One
  refine ct fX kw rfl rfl rfl rfl rfl (fun b14=>?_)
  refine a_ ⟨(br_ h00),?_⟩
  refine Ta 1 rfl ?_
  unfold One
  refine ae (aq dG rfl mm_ rfl) rfl ?_
  refine a_ ⟨(br_ h00),?_⟩
  refine Ta 8 rfl ?_
  unfold One
  refine bV fX rfl rfl z5_ rfl dl_ dl_ rfl ((by show _=_;rw [UInt64.toNat_div];rfl:u64R _ [.int .u64 (((sq16[i]'hi16).toNat:Int) / 4294967296)] (sq16[i]'hi16 / 4294967296))) z4_ rfl rfl (fun a15 c15 xs15 hC15 hN15=>?_)
  refine a_ ⟨(br_ h00),?_⟩
  refine Tk 9 rfl (by first|exact cq ge rfl|exact bX ge rfl) ?_
  refine Ta 10 rfl ?_
  unfold One
  refine bn dG rfl rfl rfl dl_ fc ?_
  refine a_ ⟨(br_ h00),?_⟩
  refine JH.done cY ?_
  refine Rg (Ru 1 rfl (ae ai_ rfl ?_))
  refine Ru 1 rfl (a_ (⟨_,?_,_,?_,⟨i+1,_,_,_,_,rfl,rfl,rfl,rfl,⟨by omega,by simp [hll],by assumption⟩⟩⟩))
  ·omega
  exact gp
 refine bx (Sr (ae (bp dz rfl mm_ cS) rfl ?_))
 refine aQ dz rfl rfl dl_ cS gO cS ?_
 exact Nk [2,3] rfl (b_ (bS rfl rfl dz mm_ cS) ⟨_,_,_,_,_,_,_,rfl⟩)
theorem rF {n:Int}{h:Part}(hn:n≠256):FnR Tryz.prog 150 [.int .i64 n] h (fun v _=>∃ c0 c1 c2 c3 c4 c5 c6,v=.agg #[c0,c1,c2,c3,c4,c5,c6,.int .i64 (waySize n)]):=by
 have hw:waySize n=if n=384 then 48 else if n=512 then 64 else 0:=if_neg hn
 have hsl:sq16.length=16:=rfl
 rw [hw]
 refine aG Tryz.func150 rfl Tryz.ntmps150 rfl (fun e he=>?_)
 refine aU [(0,_)] ⟨rfl,trivial⟩ ?_
 have hh0:=aO h
 refine Sr (bu pO rfl (fun b1=>?_))
 refine a_ (Sr (bI ca_192 rfl (kC) rfl ?_))
 rintro _ h2 hle2 ⟨sa,sc,rfl,hQ⟩
 replace hh0:=hh0.mono hle2
 refine Ru 1 rfl (a_ (aw (Sr (Ru 2 rfl (a_ (Cs rfl (fun hc3=>?_) fun hc3=>?_))))))
 ·exfalso;omega
 refine ax (Sr (ct j6 iQ rfl rfl rfl rfl rfl (fun b4=>?_)))
 refine ct j6 iQ rfl rfl rfl rfl rfl (fun b5=>?_)
 refine ct j6 iQ rfl rfl rfl rfl rfl (fun b6=>?_)
 refine ct j6 iQ rfl rfl rfl rfl rfl (fun b7=>?_)
 refine ae (aY (cs:=[_,_,.slice none 0 0,_,_,_,_,.int .i64 0]) pl_198 rfl rfl) rfl ?_
 refine bu pO rfl (fun b8=>?_)
 refine aQ dz rfl rfl dl_ cS gO cS ?_
 refine Nk [6,3,2,0] rfl (aw (Sr (Ru 2 rfl (a_ (Cs rfl (fun hc9=>?_) fun hc9=>?_)))))
 ·refine Sr (Ru 1 rfl (bn cZ rfl rfl rfl dl_ fc ?_))
  refine a_ (Rg (Ru 1 rfl (cg (RunE.cut_l cJ rfl rfl (show _=((8:Nat):Int) from rfl) z5_ rfl z2_) rfl ?_)))
  rintro _ ⟨a10,c10,rfl,hS10⟩
  refine Ru 1 rfl (bn dG rfl rfl rfl dl_ fc ?_)
  refine Nk [6,3,2,0] rfl (aw (Sr (Ru 2 rfl (a_ (Cs rfl (fun hc11=>?_) fun hc11=>?_)))))
  ·refine Sr (Ru 1 rfl (bn cZ rfl rfl rfl dl_ fc ?_))
   refine Nk [6,3,2] rfl (Rg (Ru 1 rfl (cg (RunE.cut_h cJ rfl rfl (show _=((8:Nat):Int) from rfl) z5_ rfl z2_) rfl ?_)))
   rintro _ ⟨a12,c12,rfl,hS12⟩
   refine Ru 1 rfl (bn dG rfl rfl rfl dl_ fc ?_)
   refine a_ (Sr (ae (bp dz rfl mm_ cS) rfl ?_))
   refine aQ dz rfl rfl dl_ cS gO cS ?_
   refine Nk [2] rfl ?_
   exfalso;omega
  refine ax (Kp [6,2] rfl (Sr (ae (bp dz rfl mm_ cS) rfl ?_)))
  refine aQ dz rfl rfl dl_ cS gO cS ?_
  refine a_ ?_
  first|(exfalso;omega)|(rw [if_pos (show n=384 by omega)];exact b_ (bS rfl rfl dz mm_ cS) ⟨_,_,_,_,_,_,_,rfl⟩)|(rw [if_neg (show ¬ n=384 by omega),if_pos (show n=512 by omega)];exact b_ (bS rfl rfl dz mm_ cS) ⟨_,_,_,_,_,_,_,rfl⟩)|(rw [if_neg (show ¬ n=384 by omega),if_neg (show ¬ n=512 by omega)];exact b_ (bS rfl rfl dz mm_ cS) ⟨_,_,_,_,_,_,_,rfl⟩)
 refine ax (aw (Sr (Ru 2 rfl (Nk [42,6,3,2] rfl (Cs rfl (fun hc13=>?_) fun hc13=>?_)))))
 ·refine Sr (Ru 1 rfl (bn cZ rfl rfl rfl dl_ fc ?_))
  refine a_ (Rg (Ru 1 rfl (cg (RunE.cut_h cJ rfl rfl (show _=((8:Nat):Int) from rfl) z5_ rfl z2_) rfl ?_)))
  rintro _ ⟨a14,c14,rfl,hS14⟩
  refine Ru 1 rfl (bn dG rfl rfl rfl dl_ fc ?_)
  refine Nk [6,2] rfl (Sr (ae (bp dz rfl mm_ cS) rfl ?_))
  refine aQ dz rfl rfl dl_ cS gO cS ?_
  refine a_ ?_
  first|(exfalso;omega)|(rw [if_pos (show n=384 by omega)];exact b_ (bS rfl rfl dz mm_ cS) ⟨_,_,_,_,_,_,_,rfl⟩)|(rw [if_neg (show ¬ n=384 by omega),if_pos (show n=512 by omega)];exact b_ (bS rfl rfl dz mm_ cS) ⟨_,_,_,_,_,_,_,rfl⟩)|(rw [if_neg (show ¬ n=384 by omega),if_neg (show ¬ n=512 by omega)];exact b_ (bS rfl rfl dz mm_ cS) ⟨_,_,_,_,_,_,_,rfl⟩)
 refine ax (Sr (ae (bp dz rfl mm_ cS) rfl ?_))
 refine aQ dz rfl rfl dl_ cS gO cS ?_
 refine Nk [2] rfl ?_
 first|(exfalso;omega)|(rw [if_pos (show n=384 by omega)];exact b_ (bS rfl rfl dz mm_ cS) ⟨_,_,_,_,_,_,_,rfl⟩)|(rw [if_neg (show ¬ n=384 by omega),if_pos (show n=512 by omega)];exact b_ (bS rfl rfl dz mm_ cS) ⟨_,_,_,_,_,_,_,rfl⟩)|(rw [if_neg (show ¬ n=384 by omega),if_neg (show ¬ n=512 by omega)];exact b_ (bS rfl rfl dz mm_ cS) ⟨_,_,_,_,_,_,_,rfl⟩)
theorem ways_fn {n:Int}{h:Part}:FnR Tryz.prog 150 [.int .i64 n] h (fun v _=>∃ c0 c1 c2 c3 c4 c5 c6,v=.agg #[c0,c1,c2,c3,c4,c5,c6,.int .i64 (waySize n)]):=by
 by_cases hn:n=256
 ·exact ways_some hn
 ·exact rF hn
theorem jA {n:Int}{h:Part}:FnR Tryz.prog 91 [.int .i64 n] h (fun v _=>v=.int .i64 (shaSize n)):=by
 rw [← way_sha]
 refine aG Tryz.func91 rfl Tryz.ntmps91 rfl (fun e he=>?_)
 refine aU [(0,_)] ⟨rfl,trivial⟩ ?_
 have hh0:=aO h
 refine Sr (Ru 1 rfl (a_ (Sr (Ru 1 rfl (bI ca_150 rfl (ways_fn) rfl ?_)))))
 rintro _ h1 hle1 ⟨c0,c1,c2,c3,c4,c5,c6,rfl⟩
 replace hh0:=hh0.mono hle1
 refine ae (RunV.field1 (o:=7) (cs:=[c0,c1,c2,c3,c4,c5,c6,.int .i64 (waySize n)]) cY rfl rfl) rfl ?_
 exact Ru 1 rfl (Nk [2] rfl (b_ (au rfl rfl) rfl))
def oidH (n:Int):List UInt8:=if n=256 then [50,46,49,54,46,56,52,48,46,49,46,49,48,49,46,51,46,52,46,50,46,49] else if n=384 then [50,46,49,54,46,56,52,48,46,49,46,49,48,49,46,51,46,52,46,50,46,50] else if n=512 then [50,46,49,54,46,56,52,48,46,49,46,49,48,49,46,51,46,52,46,50,46,51] else []
theorem rI {n:Int}{h:Part}:Pure Tryz.prog 86 [.int .i64 n] h (.string ⟨(oidH n).toArray⟩):=shaoid_fn
theorem rL {n:Int}{h:Part}:FnR Tryz.prog 96 [.int .i64 n] h (fun v _=>v=.string ⟨(oidH n).toArray⟩):=by
 have h0:shaSize n=0↔¬ someH n:=by
  unfold shaSize
  by_cases hn:someH n
  ·rw [if_pos hn];unfold someH at hn ⊢;omega
  ·rw [if_neg hn];exact⟨fun _=>hn,fun _=>rfl⟩
 unfold someH at h0
 unfold oidH
 refine aG Tryz.func96 rfl Tryz.ntmps96 rfl (fun e he=>?_)
 refine aU [(0,_)] ⟨rfl,trivial⟩ ?_
 have hh0:=aO h
 refine Sr (Ru 1 rfl (a_ (aw (Sr (Ru 1 rfl (bI ca_91 rfl (jA) rfl ?_))))))
 rintro _ h1 hle1 rfl
 replace hh0:=hh0.mono hle1
 refine Ru 1 rfl (a_ (Cs rfl (fun hc2=>?_) fun hc2=>?_))
 ·refine Sr (Ru 1 rfl (Nk [2,0] rfl ?_))
  rw [if_neg z2_,if_neg z2_,if_neg z2_];exact b_ (au rfl rfl) rfl
 refine ax (Sr (Ru 1 rfl (a_ (aw (Sr (Ru 2 rfl (Nk [8,3,2,0] rfl (Cs rfl (fun hc3=>?_) fun hc3=>?_))))))))
 ·refine Rg (Ru 1 rfl (a_ (aw (Sr (Ru 2 rfl (Nk [10,3,2] rfl (Cs rfl (fun hc4=>?_) fun hc4=>?_)))))))
  ·refine Rg (Ru 1 rfl (a_ (Sr (Ru 1 rfl (ae (RunV.addS rfl rfl z4_) rfl ?_)))))
   refine Ru 1 rfl (Nk [2] rfl ?_)
   first|(exfalso;omega)|(rw [if_pos (show n=256 by omega)];exact b_ (au rfl rfl) rfl)|(rw [if_neg (show ¬ n=256 by omega),if_pos (show n=384 by omega)];exact b_ (au rfl rfl) rfl)|(rw [if_neg (show ¬ n=256 by omega),if_neg (show ¬ n=384 by omega),if_pos (show n=512 by omega)];exact b_ (au rfl rfl) rfl)
  refine ax (Sr (Ru 1 rfl (ae (RunV.addS rfl rfl z4_) rfl ?_)))
  refine Ru 1 rfl (Nk [2] rfl ?_)
  first|(exfalso;omega)|(rw [if_pos (show n=256 by omega)];exact b_ (au rfl rfl) rfl)|(rw [if_neg (show ¬ n=256 by omega),if_pos (show n=384 by omega)];exact b_ (au rfl rfl) rfl)|(rw [if_neg (show ¬ n=256 by omega),if_neg (show ¬ n=384 by omega),if_pos (show n=512 by omega)];exact b_ (au rfl rfl) rfl)
 refine ax (aw (Sr (Ru 2 rfl (a_ (Cs rfl (fun hc5=>?_) fun hc5=>?_)))))
 ·refine Rg (Ru 1 rfl (Nk [3,2] rfl (Sr (Ru 1 rfl (ae (RunV.addS rfl rfl z4_) rfl ?_)))))
  refine Ru 1 rfl (a_ ?_)
  first|(exfalso;omega)|(rw [if_pos (show n=256 by omega)];exact b_ (au rfl rfl) rfl)|(rw [if_neg (show ¬ n=256 by omega),if_pos (show n=384 by omega)];exact b_ (au rfl rfl) rfl)|(rw [if_neg (show ¬ n=256 by omega),if_neg (show ¬ n=384 by omega),if_pos (show n=512 by omega)];exact b_ (au rfl rfl) rfl)
 refine ax (Kp [3,2] rfl (Sr (Ru 1 rfl (ae (RunV.addS rfl rfl z4_) rfl ?_))))
 refine Ru 1 rfl (a_ ?_)
 first|(exfalso;omega)|(rw [if_pos (show n=256 by omega)];exact b_ (au rfl rfl) rfl)|(rw [if_neg (show ¬ n=256 by omega),if_pos (show n=384 by omega)];exact b_ (au rfl rfl) rfl)|(rw [if_neg (show ¬ n=256 by omega),if_neg (show ¬ n=384 by omega),if_pos (show n=512 by omega)];exact b_ (au rfl rfl) rfl)
end
section
set_option maxRecDepth 100000
theorem rseq_fn {b:Option Addr}{cb m:Nat}{h:Part}:FnR Tryz.prog 42 [.slice b m cb] h (fun v _=>v=.agg #[.int .i64 0,.int .i64 16,.bool true,.slice none 0 0,.slice b m cb]):=by
 refine aG Tryz.func42 rfl Tryz.ntmps42 rfl (fun e he=>?_)
 refine aU [(0,_)] ⟨rfl,trivial⟩ ?_
 have hh0:=aO h
 refine Sr (bu ew rfl (fun b1=>?_))
 refine a_ (Sr (Ru 1 rfl (ae (aY (cs:=[.int .i64 0,_,_,.slice none 0 0,_]) ez rfl rfl) rfl ?_)))
 refine aQ bD rfl rfl dl_ f6 f8 z9_ ?_
 exact a_ (b_ (bS rfl rfl bD mm_ z9_) rfl)
theorem roid_fn {s:List UInt8}{h:Part}(hs:s.length≤1000000):FnR Tryz.prog 94 [.string ⟨s.toArray⟩] h (fun v h'=>∃ a c,v=.agg #[.int .i64 0,.int .i64 6,.bool false,.slice a ((oidB s).getD []).length c,.slice none 0 0]∧SlR u8R 1 h' a c ((oidB s).getD [])):=by
 refine aG Tryz.func94 rfl Tryz.ntmps94 rfl (fun e he=>?_)
 refine aU [(0,_)] ⟨rfl,trivial⟩ ?_
 have hh0:=aO h
 refine Sr (bu ew rfl (fun b1=>?_))
 refine a_ (Sr (Ru 1 rfl (bI ca_155 rfl (fI s _ z2_) rfl ?_)))
 rintro _ h2 hle2 ⟨oa,oc,rfl,hO⟩
 replace hh0:=hh0.mono hle2
 refine Ru 5 rfl (Nk [3,2] rfl (Sr (Ru 1 rfl (ae (aY (cs:=[.int .i64 0,_,.bool false,_,.slice none 0 0]) ez rfl rfl) rfl ?_))))
 refine aQ bD rfl rfl dl_ f6 f8 z9_ ?_
 exact a_ (b_ (bS rfl rfl bD mm_ z9_) ⟨_,_,rfl,hO⟩)
def oidN (n:Int):Nd:=.mk 0 6 false ((oidB (oidH n)).getD []) []
def infoN (n:Int) (d:List UInt8):Nd:=.mk 0 16 true [] [.mk 0 16 true [] [oidN n,.mk 0 5 false [] []],.mk 0 4 false d []]
theorem lT (n:Int):(oidH n).length≤30:=by
 unfold oidH;split
 ·decide
 ·split
  ·decide
  ·split<;>decide
def infoL (n:Int) (d:List UInt8):List UInt8:=(infoN n d).put.getD []
def formE (n:Int) (d:List UInt8) (k:Int):Int:=if shaSize n=0∨(d.length:Int)≠shaSize n then 40 else if k<(infoL n d).length+11∨512<k then 50 else 0
def formL (n:Int) (d:List UInt8) (k:Int):List UInt8:=if formE n d k=0 then [0,1]++List.replicate (k.toNat-(infoL n d).length-3) 255++[0]++infoL n d else []
end
section
set_option maxRecDepth 100000
end
section
set_option maxRecDepth 100000
def mp:Nat→Nat→Nat→Nat→Nat
 |0,_,_,N=>1 % N
 |f+1,X,E,N=>if E % 2=1 then X*mp f (X*X % N) (E / 2) N % N else mp f (X*X % N) (E / 2) N
def d0:List UInt8:=List.replicate 32 1
def n0:Nat:=keyN 0
def x0:Nat:=keyE 0
def p0:Nat:=vL (expL 0)
def m0:Nat:=beV (formL 256 d0 64)
def s0:Nat:=mp 512 m0 p0 n0
end
section
set_option maxRecDepth 100000
end
section
set_option maxRecDepth 100000
end
section
set_option maxRecDepth 100000
theorem nu (n:Int):∀ k,fitI n (k+1)→∃ j,j≤k∧fitI n (j+1)∧(j=0∨¬ fitI n j)
 |0,h=>⟨0,aD _,h,.inl rfl⟩
 |k+1,h=>by
  by_cases hk:fitI n (k+1)
  ·obtain⟨j,h1,h2⟩:=nu n k hk
   exact⟨j,by omega,h2⟩
  ·exact⟨k+1,aD _,h,.inr hk⟩
theorem beV_ib (n:Int):∀ k,(beV (ibytes n k):Int)=n % 256 ^ k
 |0=>by simp [ibytes,beV,Int.emod_one]
 |k+1=>by
  have h1:0≤n / 256 ^ k % 256:=Int.emod_nonneg _ bJ
  have h2:n / 256 ^ k % 256<256:=Int.emod_lt_of_pos _ bJ
  have e:((UInt8.ofNat (n / 256 ^ k % 256).toNat).toNat:Int)=n / 256 ^ k % 256:=by rw [UInt8.toNat_ofNat'];omega
  rw [ibytes,eC,dn,dv,bT,e,beV_ib n k,Int.pow_succ,Int.natCast_pow]
  have:=Int.emod_add_mul_ediv n (256 ^ k)
  have h3:=Int.emod_add_mul_ediv (n / 256 ^ k) 256
  have hd:n / (256 ^ k*256)=n / 256 ^ k / 256:=by rw [Int.ediv_ediv_of_nonneg (Int.le_of_lt (Int.pow_pos bJ))]
  have h4:=Int.emod_add_mul_ediv n (256 ^ k*256)
  rw [hd] at h4
  show _*(256:Int) ^ k+_=_
  have h5:(n / 256 ^ k % 256+256*(n / 256 ^ k / 256))*256 ^ k=n / 256 ^ k*256 ^ k:=by rw [h3]
  grind
theorem sV_ib (n:Int) (j:Nat) (h:fitI n (j+1)):sV (ibytes n (j+1))=n:=by
 have h0:=ib_top n j
 unfold sV
 rw [h0,dn,show(ibytes n (j+1)).drop 1=ibytes n j from rfl,beV_ib,Nat.add_sub_cancel]
 unfold fitI at h
 rw [show j+1-1=j from rfl] at h
 have e:s8 (n / 256 ^ j % 256).toNat=n / 256 ^ j:=by
  generalize n / 256 ^ j=q at *
  unfold s8;split<;>omega
 rw [e]
 have:=Int.emod_add_mul_ediv n (256 ^ j)
 rw [Int.mul_comm]
 omega
theorem least_int (n:Int) (j:Nat) (h:fitI n (j+1)) (hj:j=0∨¬ fitI n j):leastB (ibytes n (j+1))=true:=by
 cases j with
 |zero=>unfold leastB;rw [if_neg (by rw [dn];decide),if_pos (dn n 1)]
 |succ i=>rw [m_ n i h];exact an (hj.resolve_left z2_)
theorem hJ (n:Int) (h0:-9223372036854775808≤n) (h1:n≤9223372036854775807) :
 (Nd.mk 0 2 false (intB n) []).intOk=true∧(Nd.mk 0 2 false (intB n) []).intV=n∧(intB n).length≤8∧1≤(intB n).length∧∃ b,(Nd.mk 0 2 false (intB n) []).wr=(b,0)∧b.length≤10:=by
 obtain⟨j,hj7,hf,hj⟩:=nu n 7 (fit8 n h0 h1)
 rw [i6 n j hj7 hj hf]
 have hl:=dn n (j+1)
 have hlb:=least_int n j hf hj
 have hw:(Nd.mk 0 2 false (ibytes n (j+1)) []).whole=true:=eF.2 ⟨rfl,.inl rfl,rfl,rfl,hlb⟩
 have hok:(Nd.mk 0 2 false (ibytes n (j+1)) []).intOk=true:=by rw [hY,hw,an z2_];rfl
 refine⟨hok,by rw [intV_t hok,sV_ib n j hf],by omega,by omega,headB 0 2 false (j+1)++ibytes n (j+1),?_,?_⟩
 ·have hp:(Nd.mk 0 2 false (ibytes n (j+1)) []).put=some (headB 0 2 false (j+1)++ibytes n (j+1)):=by
   have hokN:okN 0 2 false (ibytes n (j+1)) []=true:=by
    unfold okN mayB
    rw [mE (.inl rfl),hlb]
    rfl
   simp only [Nd.put]
   rw [hokN,if_pos rfl,Nd.putL,Option.map_some,hl]
  have hh:=gB (c:=0) (t:=2) (k:=false) (n:=j+1) z2_
  unfold Nd.wr
  rw [hp]
  simp only
  rw [if_neg (by simp [Nd.rk,Nd.rkL]),if_neg (by rw [hh];simp [hl];omega)]
 ·have hh:=gB (c:=0) (t:=2) (k:=false) (n:=j+1) z2_
  rw [hh];simp [hl];omega
theorem lW (l:List UInt32):(natN l).natOk=true∧(natN l).natL=trimL l∧(natN l).sz=1+(bl (vL l) / 8+1):=by
 have hn:natN l=.mk 0 2 false (be (bl (vL l) / 8+1) (vL l)) []:=by unfold natN;rw [natW_be,qB]
 have hlen:=ik (bl (vL l) / 8+1) (vL l)
 have htop:=pW (vL l)
 have hb0:byteAt (be (bl (vL l) / 8+1) (vL l)) 0=vL l / 256 ^ (bl (vL l) / 8):=by
  show(UInt8.ofNat _).toNat=_
  rw [UInt8.toNat_ofNat'];exact Nat.mod_eq_of_lt (Nat.lt_trans htop bJ)
 have hlb:leastB (be (bl (vL l) / 8+1) (vL l))=true:=by
  unfold leastB
  rw [if_neg z2_]
  split
  ·rfl
  ·rename_i h1
   obtain⟨k,hk⟩:∃ k,bl (vL l) / 8=k+1:=⟨bl (vL l) / 8-1,by omega⟩
   refine an ?_
   rw [hb0]
   rw [hk] at htop ⊢
   have hb1:byteAt (be (k+1+1) (vL l)) 1=vL l / 256 ^ k % 256:=by
    show(UInt8.ofNat _).toNat=_
    rw [UInt8.toNat_ofNat']
   have h2:=oF (vL l) k hk
   rw [hb1]
   rintro(⟨e1,e2⟩|⟨e1,e2⟩)
   ·have:=h2 e1
    rw [Nat.pow_succ,← Nat.div_div_eq_div_mul] at e1
    omega
   ·omega
 have hw:(Nd.mk 0 2 false (be (bl (vL l) / 8+1) (vL l)) []).whole=true:=eF.2 ⟨rfl,.inl rfl,rfl,rfl,hlb⟩
 have hok:=p9 hw (by rw [hb0];exact htop)
 rw [hn]
 refine⟨hok,?_,by simp [Nd.sz,Nd.szL,hlen]⟩
 have:(Nd.mk 0 2 false (be (bl (vL l) / 8+1) (vL l)) []).natL=toL (beV (be (bl (vL l) / 8+1) (vL l))):=if_pos hok
 rw [this,be_full,lx]
theorem bl_len (l:List UInt32):bl (vL l)≤32*l.length:=by
 have:=vL_lt l
 rw [oO] at this
 exact my _ _ this
end
section
set_option maxRecDepth 100000
end
section
set_option maxRecDepth 100000
theorem natN_put (n:List UInt32):∃ t,(natN n).put=some t:=by
 have h:=(lW n).1
 unfold Nd.natOk Nd.whole at h
 simp only [Bool.and_eq_true] at h
 exact Option.isSome_iff_exists.1 h.1.2
end
section
set_option maxRecDepth 100000
end
section
set_option maxRecDepth 100000
def hdN:Except Int (Nat×Nat)→Nat|.ok (n,_)=>n|.error _=>0
def hdQ:Except Int (Nat×Nat)→Nat|.ok (_,q)=>q|.error _=>0
def hdC:Except Int (Nat×Nat)→Int|.ok _=>0|.error c=>c
theorem lenB_lenI {n:Nat}(h:¬ n<128):(lenB n).length=1+nby n:=by unfold lenB;rw [if_neg h];simp [ik];omega
theorem nby_le {n k:Nat}(h1:1≤k) (h2:k≤4) (h:n<256 ^ k):nby n≤k:=by
 have:k=1∨k=2∨k=3∨k=4:=by omega
 have e1:(256:Nat) ^ 1=256:=rfl
 have e2:(256:Nat) ^ 2=65536:=rfl
 have e3:(256:Nat) ^ 3=16777216:=rfl
 have e4:(256:Nat) ^ 4=4294967296:=rfl
 unfold nby
 rcases this with rfl|rfl|rfl|rfl<;>simp only [e1,e2,e3,e4] at h<;>(repeat' split)<;>omega
theorem hd_len {n k:Nat}(h1:1≤k) (h2:k≤4) (h:n<256 ^ k) (h3:¬ n<128):(lenB n).length=k+1↔0<n / 256 ^ (k-1):=by
 have hn:n≤140737488355328:=by
  have:(256:Nat) ^ k≤256 ^ 4:=Nat.pow_le_pow_right bJ h2
  have e4:(256:Nat) ^ 4=4294967296:=rfl
  omega
 have a:=jT n
 have b:=nby_le h1 h2 h
 rw [lenB_lenI h3]
 by_cases hk:k-1≤nby n
 ·rw [oY n (k-1) hn z2_ hk];omega
 ·constructor
  ·omega
  ·intro h5
   exfalso
   have:=(oY n (nby n) hn z2_ (aD _)).1 (Nat.lt_of_lt_of_le h5 (Nat.div_le_div_left (Nat.pow_le_pow_right bJ z2_) (Nat.pow_pos bJ)))
   omega
theorem rP {l:List UInt8}{p en:Nat}{ab:Option Addr}{cb:Nat}{h:Part}(hl:SlR u8R 1 h ab cb l) (he:en≤l.length) (hp:p≤l.length) :
 FnR Tryz.prog 242 [.slice ab l.length cb,.int .i64 p,.int .i64 en] h (fun v _=>v=.tuple #[.int .i64 (hdN (rdS l (p+1) en)),.int .i64 (hdQ (rdS l (p+1) en)),.int .i64 (hdC (rdS l (p+1) en))]):=by
 have hb:=hl.big
 have hen:=he
 refine aG Tryz.func242 rfl Tryz.ntmps242 rfl (fun e he=>?_)
 refine aU [(0,_),(1,_),(2,_)] ⟨rfl,rfl,rfl,trivial⟩ ?_
 have hh0:=aO h
 refine Sr (Ru 3 rfl (a_ (aw (Sr (Ru 1 rfl (ae ai_ rfl ?_))))))
 refine Ru 2 rfl (a_ (Cs rfl (fun hc1=>?_) fun hc1=>?_))
 ·exact Sr (Ru 3 rfl (Nk [8,7,6,0,1,2] rfl (b_ (bM rfl rfl rfl rfl) (by unfold rdS;rw [if_pos z2_];rfl))))
 refine ax (Kp [8,7,6,0,1,2] rfl (Sr ?_))
 have hpl:p+1<l.length:=z2_;have hbt:=bv l (p+1) hpl;have hlt:=bK l (p+1)
 refine Ru 2 rfl (ae ai_ rfl ?_)
 refine cg (aC (m:=p+1) cA rfl rfl rfl hl rfl z2_) rfl ?_
 rintro _ ⟨b2,o2,hi2,rfl,hE2⟩
 refine ae (aZ eu rfl z5_) rfl ?_
 refine ae j8 rfl ?_
 refine Ru 1 rfl (Nk [9,8,7,6,0,1,2] rfl (aw (Sr (Ru 2 rfl (a_ (Cs rfl (fun hc4=>?_) fun hc4=>?_))))))
 ·refine Sr (Ru 2 rfl (ae ai_ rfl ?_))
  exact Ru 3 rfl (Nk [8,7,6,9,0,1,2] rfl (b_ (bM rfl rfl rfl rfl) (by unfold rdS;rw [if_neg z2_,if_pos z2_];rw [hbt];unfold hdN hdQ hdC;simp only;rw [show((p:Int)+2)=((p+1+1:Nat):Int) by omega])))
 refine ax (Sr (Ru 1 rfl (ae si_ rfl ?_)))
 refine Ru 1 rfl (Nk [10,8,7,6,0,1,2] rfl (aw (Sr (Ru 3 rfl (Bs 32 rfl (fun hc5=>?_) fun hc5=>?_)))))
 ·exact Ru 3 rfl (Nk [35,10,8,7,6,0,1,2] rfl (aM rfl (Sr (Ru 3 rfl (a_ (b_ (bM rfl rfl rfl rfl) (by unfold rdS;rw [if_neg z2_,if_neg z2_,if_pos z2_];rfl)))))))
 refine Ru 3 rfl (Nk [35,10,8,7,6,0,1,2] rfl (Cs rfl (fun hc6=>?_) fun hc6=>?_))
 ·exact Sr (Ru 3 rfl (Nk [8,7,6,10,0,1,2] rfl (b_ (bM rfl rfl rfl rfl) (by unfold rdS;rw [if_neg z2_,if_neg z2_,if_pos z2_];rfl))))
 refine ax (aw (Sr (Ru 1 rfl (ae ai_ rfl ?_))))
 refine Ru 1 rfl (ae ai_ rfl ?_)
 refine Ru 2 rfl (Nk [41,10,8,7,6,0,1] rfl (Cs rfl (fun hc7=>?_) fun hc7=>?_))
 ·exact Sr (Ru 3 rfl (Nk [8,7,6,10,0,1] rfl (b_ (bM rfl rfl rfl rfl) (by unfold rdS;rw [if_neg z2_,if_neg z2_,if_neg z2_,if_pos z2_];rfl))))
 refine ax (Sr ?_)
 obtain⟨kk,hkk⟩:∃ kk:Nat,byteAt l (p+1)=128+kk:=⟨byteAt l (p+1)-128,by omega⟩;obtain⟨sub,hsub⟩:∃ sub,sub=(l.drop (p+2)).take kk:=⟨_,rfl⟩;have hsl:sub.length=kk:=(by rw [hsub];simp;omega);have hsi:∀ (i:Nat) (hi:i<sub.length) (hj:p+2+i<l.length),l[p+2+i]=sub[i]:=(by subst hsub;intro i hi hj;simp)
 refine Ru 1 rfl (a_ (aw (Sr (Ru 1 rfl (a_ (aE (bC (fun t_ S_ h_ L_=>∃ (g:Part) (i:Nat),t_=kk-i∧S_=[(0,.slice ab l.length cb),(1,.int .i64 p),(10,.int .i64 kk),(11,.int .i64 (beval (sub.take i))),(12,.int .i64 i)]∧g=h_∧L_=[]∧(h.le g∧SlR u8R 1 g ab cb l∧i≤kk)) ⟨_,_,?_,⟨_,0,rfl,rfl,rfl,rfl,⟨by assumption,by assumption,by omega⟩⟩⟩ ?_)))))))
 ·repeat (first|exact trivial|refine⟨rfl,?_⟩|refine⟨(by exact cm (by first|rfl|omega)),?_⟩)
 rintro _ _ _ _ ⟨g,i,rfl,rfl,rfl,rfl,hhg,hl,hi⟩
 have hbl:=jm sub i
 refine aw (Sr (Ru 3 rfl (a_ (Cs rfl (fun hc8=>?_) fun hc8=>?_))))
 ·refine ax (aw (aE (Rg ?_)))
  have h256:=qs i z2_;have hst:=iP sub i z2_;have hsb:=(sub[i]'z2_).toNat_lt;have hsie:=hsi i z2_ z2_;rw [← hsie] at hst hsb
  refine Ru 1 rfl (ae im rfl ?_)
  refine Ru 2 rfl (ae ai_ rfl ?_)
  refine Ru 1 rfl (ae ai_ rfl ?_)
  refine cg (aC (m:=p+2+i) cA rfl rfl rfl hl rfl z2_) rfl ?_
  rintro _ ⟨b9,o9,hi9,rfl,hE9⟩
  refine ae (aZ eu rfl z5_) rfl ?_
  refine ae j8 rfl ?_
  refine ae ai_ rfl ?_
  refine Ru 1 rfl (a_ (Rg (Ru 1 rfl (ae ai_ rfl ?_))))
  refine Ru 1 rfl (a_ (⟨_,?_,_,?_,⟨_,i+1,rfl,rfl,rfl,rfl,⟨by assumption,by assumption,by omega⟩⟩⟩))
  ·omega
  repeat (first|exact trivial|refine⟨rfl,?_⟩|refine⟨(by exact cm (by first|rfl|omega)),?_⟩)
 refine bx (Kp [1,10,11] rfl (aw (Sr ?_)))
 have hik:i=kk:=z2_;have hv:beval ((l.drop (p+1+1)).take (byteAt l (p+1)-128))=beval (sub.take i):=(by rw [hkk,show 128+kk-128=kk by omega,show p+1+1=p+2 by omega,← hsub,aJ z2_]);have hbl:=jm sub i;rw [hik] at hbl hv;subst hik;have hHL:=@hd_len (beval (sub.take i)) i z2_ z2_ hbl;have h25:=Nat.pow_le_pow_right (n:=256) bJ (show i≤4 by omega);have hw:256 ^ (byteAt l (p+1)-128-1)=256 ^ (i-1):=(by rw [hkk,show 128+i-128=i by omega])
 refine Ru 3 rfl (Bs 60 rfl (fun hc11=>?_) fun hc11=>?_)
 ·exact Ru 7 rfl (Nk [67,1,10,11] rfl (aM rfl (Sr (Ru 3 rfl (a_ (b_ (bM rfl rfl rfl rfl) (by unfold rdS;rw [if_neg z2_,if_neg z2_,if_neg z2_,if_neg z2_,if_pos (by rw [hv,hw];omega)];rfl)))))))
 refine Ru 1 rfl (JL.callRg rfl rfl  ca_209 rfl (jW z2_) rfl ?_)
 rintro _ h12 hle12 ⟨a12,c12,rfl,hS12⟩
 replace hhg:=hhg.mono hle12
 replace hl:=hl.mono hle12
 refine Ru 2 rfl (aH rfl rfl  ai_ rfl ?_)
 refine Ru 2 rfl (Nk [67,1,10,11] rfl (Cs rfl (fun hc13=>?_) fun hc13=>?_))
 ·refine Sr (Ru 3 rfl (a_ ?_))
  have hhl:=hHL z2_;exact b_ (bM rfl rfl rfl rfl) (by unfold rdS;rw [if_neg z2_,if_neg z2_,if_neg z2_,if_neg z2_,if_pos (by rw [hv,hw];omega)];rfl)
 refine ax (Sr (Ru 2 rfl (ae ai_ rfl ?_)))
 refine Ru 1 rfl (ae ai_ rfl ?_)
 refine Ru 3 rfl (Nk [8,7,6] rfl ?_)
 have hhl:=hHL z2_;exact b_ (bM rfl rfl rfl rfl) (by unfold rdS;rw [if_neg z2_,if_neg z2_,if_neg z2_,if_neg z2_,if_neg (by rw [hv,hw];omega),hv,hkk];unfold hdN hdQ hdC;simp only;rw [show((p+1+1+(128+i-128):Nat):Int)=(p:Int)+2+i by omega])
def hdE (s:Except Int (Nat×Nat)) (en:Nat):Int:=if hdC s=0∧(en:Int)-hdQ s<hdN s then 30 else hdC s
def hdF (s:Except Int (Nat×Nat)) (en d:Nat):Int:=if hdE s en=0∧d=0 then 33 else hdE s en
theorem lJ {l:List UInt8}{p en:Nat}{c:Int}(h:rdS l p en=.error c):c≠0:=by
 unfold rdS at h
 (repeat' split at h)<;>first|(cases h;decide)|cases h
theorem hdQ_le (l:List UInt8) (p en:Nat):hdQ (rdS l p en)≤en:=by
 cases h:rdS l p en with
 |error c=>exact Nat.zero_le _
 |ok x=>exact(jH h).2
theorem hdF_err {c:Int}{en d:Nat}(hc:c≠0):hdF (.error c) en d=c:=by
 have e:hdE (.error c) en=c:=if_neg (fun hh=>hc hh.1)
 unfold hdF
 rw [e]
 exact if_neg (fun hh=>hc hh.1)
theorem hdF_okv {n q en d:Nat}:hdF (.ok (n,q)) en d=if(en:Int)-q<n then 30 else if d=0 then 33 else 0:=by
 have e:hdE (.ok (n,q)) en=if(en:Int)-q<n then 30 else 0:=by
  by_cases h1:(en:Int)-q<n
  ·rw [if_pos h1];exact if_pos ⟨rfl,h1⟩
  ·rw [if_neg h1];exact if_neg (fun hh=>h1 hh.2)
 unfold hdF
 rw [e]
 by_cases h1:(en:Int)-q<n
 ·simp only [if_pos h1];simp
 ·simp only [if_neg h1]
  by_cases h2:d=0
  ·simp [h2]
  ·simp [h2]
theorem hdF_bad {l:List UInt8}{p en d:Nat}{s:Except Int (Nat×Nat)}(hp:p<en) (hm:mayB (byteAt l p / 64:Nat) (byteAt l p % 32:Nat) (decide (byteAt l p / 32 % 2=1))=true) (hs:rdS l (p+1) en=s) (hF:hdF s en d≠0):rdN d l p en=.error (p,hdF s en d):=by
 have key:∀ ok,(ok=false↔d=0)→rdH l p en ok=.error (p,hdF s en d):=fun ok hok=>by
  unfold rdH
  rw [if_neg z2_,if_neg (by rw [hm];decide),hs]
  cases s with
  |error c=>simp only;rw [hdF_err (lJ hs)]
  |ok x =>
   obtain⟨n,q⟩:=x
   have hq:=(jH hs).2
   rw [hdF_okv] at hF ⊢
   simp only
   by_cases h1:n≤en-q
   ·have h3:¬ (en:Int)-q<n:=by omega
    rw [if_neg h3] at hF
    rw [if_neg (show ¬ ¬ n≤en-q from fun hh=>hh h1),if_neg h3]
    by_cases h2:d=0
    ·rw [if_pos (hok.2 h2),if_pos h2]
    ·rw [if_neg h2] at hF;exact absurd rfl hF
   ·rw [if_pos (show ¬ n≤en-q from h1),if_pos (show(en:Int)-q<n by omega)]
 cases d with
 |zero=>exact eV (key false (by simp))
 |succ d=>exact gw (key true (by simp))
theorem hdF_ok {l:List UInt8}{p en d:Nat}{s:Except Int (Nat×Nat)}(hp:p<en) (hm:mayB (byteAt l p / 64:Nat) (byteAt l p % 32:Nat) (decide (byteAt l p / 32 % 2=1))=true) (hs:rdS l (p+1) en=s) (hF:hdF s en d=0) :
 ∃ n q d',hdN s=n∧hdQ s=q∧d=d'+1∧rdH l p en true=.ok (byteAt l p / 64,byteAt l p % 32,decide (byteAt l p / 32 % 2=1),n,q):=by
 cases s with
 |error c=>rw [hdF_err (lJ hs)] at hF;exact absurd hF (lJ hs)
 |ok x =>
  obtain⟨n,q⟩:=x
  have hq:=(jH hs).2
  rw [hdF_okv] at hF
  by_cases h1:(en:Int)-q<n
  ·rw [if_pos h1] at hF;exact absurd hF bJ
  ·rw [if_neg h1] at hF
   by_cases h2:d=0
   ·rw [if_pos h2] at hF;exact absurd hF bJ
   ·refine⟨n,q,d-1,rfl,rfl,by omega,?_⟩
    unfold rdH
    rw [if_neg z2_,if_neg (by rw [hm];decide),hs]
    simp only
    rw [if_neg z2_,if_neg bJ]
theorem kO:∀ (ks:List Nd) (set:Bool) (lo lo':Option (List UInt8)) (ab b:List UInt8),Nd.putL set ks lo ab=some b→Nd.putL false ks lo' ab=some b
 |[],set,lo,lo',ab,b,h=>by simpa [Nd.putL] using h
 |x::r,set,lo,lo',ab,b,h=>by
  simp only [Nd.putL] at h ⊢
  cases hx:x.put with
  |none=>simp [hx] at h
  |some z =>
   simp only [hx] at h ⊢
   split at h
   ·cases h
   ·simp only [Bool.false_and,bO,if_false]
    exact kO r set _ _ _ _ h
theorem rdK_put {d:Nat}{l:List UInt8}{stop:Nat}(hst:stop≤l.length):∀ (f q1:Nat) (acc:List Nd) (rr:Bool) (last:Nat) (ks:List Nd) (r':Bool) (q2:Nat),q1≤stop→stop≤q1+f→rdK (rdN d l) l stop f q1 acc rr last=.ok (ks,r',q2) →
 ∃ r,ks=acc++r∧Nd.rkL r≤d∧q2=stop∧∀ ab lo,Nd.putL false r lo ab=some (ab++cutL l q1 stop):=by
 intro f
 induction f with
 |zero =>
  intro q1 acc rr last ks r' q2 h1 h2 h3
  simp only [rdK] at h3
  injection h3 with h3;injection h3 with h7 h8;injection h8 with h8 h9
  have hq:q1=stop:=by omega
  exact⟨[],by simp [h7],by simp [Nd.rkL],by omega,fun ab lo=>by simp [Nd.putL,cutL,hq]⟩
 |succ f ih =>
  intro q1 acc rr last ks r' q2 h1 h2 h3
  by_cases hlt:q1<stop
  ·cases hx:rdN d l q1 stop with
   |error e=>rw [lL hlt hx] at h3;cases h3
   |ok y =>
    obtain⟨x,p'⟩:=y
    rw [jI hlt hx] at h3
    have hle:=fB d l q1 stop x p' hx
    obtain⟨hp,hr⟩:=lK d l q1 stop x p' hst hx
    obtain⟨r,e1,e2,e3,e4⟩:=ih p' _ _ _ _ _ _ hle.2 z2_ h3
    refine⟨x::r,by simp [e1],by simp only [Nd.rkL];omega,e3,fun ab lo=>?_⟩
    simp only [Nd.putL,hp,Bool.false_and,bO,if_false]
    rw [e4,List.append_assoc,gK z2_ z2_]
  ·rw [fu hlt] at h3
   injection h3 with h3;injection h3 with h7 h8;injection h8 with h8 h9
   have hq:q1=stop:=by omega
   exact⟨[],by simp [h7],by simp [Nd.rkL],by omega,fun ab lo=>by simp [Nd.putL,cutL,hq]⟩
theorem rk_right {d:Nat}{l:List UInt8}{p en c t n q p':Nat}{ks:List Nd}{r:Bool}(he:en≤l.length) (hen:en<4294967296) (hH:rdH l p en true=.ok (c,t,true,n,q)) (hK:rdK (rdN d l) l (q+n) n q [] true q=.ok (ks,r,p')) :
 (Nd.mk c t true [] ks).put.isSome=(r||(decide (c≠0)||decide (t≠17))):=by
 have h0:=kJ hH
 obtain⟨hm,hcut,hn⟩:=oJ hH he
 have hN:rdN (d+1) l p en=if r||(decide (c≠0)||decide (t≠17)) then .ok (.mk c t true [] ks,p') else .error (p,34):=by rw [dW hH,hK]
 cases hr:(r||(decide (c≠0)||decide (t≠17))) with
 |true =>
  rw [hr,if_pos rfl] at hN
  rw [(lK _ _ _ _ _ _ he hN).1];rfl
 |false =>
  rw [hr,if_neg bJ] at hN
  cases hp:(Nd.mk c t true [] ks).put with
  |none=>rfl
  |some b =>
   exfalso
   obtain⟨r2,e1,e2,e3,e4⟩:=rdK_put (d:=d) (l:=l) (stop:=q+n) z2_ n q [] true q ks r p' z2_ z2_ hK
   rw [List.nil_append] at e1
   subst e1
   have hb:=hp
   rw [qp hm rfl] at hb
   cases hpl:Nd.putL (decide ((c:Int)=0)&&decide ((t:Int)=17)) ks none [] with
   |none=>rw [hpl] at hb;simp at hb
   |some z =>
    rw [hpl] at hb
    simp only [Option.map_some,ay] at hb
    have hz:=kO _ _ _ none _ _ hpl
    rw [e4 [] none,List.nil_append] at hz
    injection hz with hz
    subst hz
    have hbc:b=cutL l p (q+n):=by
     rw [← hb,k7 z2_ z2_,show q+n-q=n by omega,← hcut,gK z2_ z2_]
    have hbl:b.length=q+n-p:=by rw [hbc,k7 z2_ z2_]
    have:=rdN_put (d+1) _ b l p en hp (by simp only [Nd.rk];omega) z2_ (by rw [hbc];unfold cutL;exact List.take_prefix _ _) z2_
    rw [this] at hN
    cases hN
theorem rp_right {l:List UInt8}{p en c t n q:Nat}{bs:List UInt8}(he:en≤l.length) (hH:rdH l p en true=.ok (c,t,false,n,q)):(Nd.mk c t false bs []).put.isSome=(decide (c=2)||valB t bs):=by
 obtain⟨hm,_,_⟩:=oJ hH he
 have hr:=(may_rng hm).1
 rw [qo hm rfl]
 by_cases h2:c=2
 ·subst h2;simp
 ·have h0:(c:Int)=0:=by omega
  rw [am h2,an h0]
  cases valB t bs<;>rfl
theorem rdN_sz {d:Nat}{l:List UInt8}{p e:Nat}{x:Nd}{q:Nat}(he:e≤l.length) (h:rdN d l p e=.ok (x,q)):x.sz+p≤q:=by
 have h1:=(lK d l p e x q he h).1
 have h2:=fB d l p e x q h
 have:=Nd.put_sz _ x _ (aD _) h1
 rw [k7 z2_ z2_] at this
 omega
end
section
theorem z42_ {p:Prop}(u:p:=by repeat (first|exact trivial|refine⟨rfl,?_⟩|refine⟨(by exact cy (by first|exact and_t z5_ z2_|exact and_f z5_|exact and_f (by simp_all))),?_⟩)):p:=u
theorem z45_ {p:Prop}(u:p:=by repeat (first|exact trivial|refine⟨rfl,?_⟩|refine⟨(by exact cm (by first|exact(if_pos z5_).symm|exact(if_neg z5_).symm)),?_⟩)):p:=u
end
section
set_option maxRecDepth 100000
theorem ca_201:callT Tryz.prog 201=true:=by kernel_rfl
theorem ca_242:callT Tryz.prog 242=true:=by kernel_rfl
def rrX:RdE (Nd×Nat)→Nd|.ok (x,_)=>x|.error _=>ndZ
def rrQ:RdE (Nd×Nat)→Nat|.ok (_,q)=>q|.error _=>0
def rrA:RdE (Nd×Nat)→Int|.ok _=>0|.error (a,_)=>a
def rrC:RdE (Nd×Nat)→Int|.ok _=>0|.error (_,c)=>c
def rrR (s:RdE (Nd×Nat)):Value→Part→Prop:=fun v h'=>∃ cs,v=.tuple #[.agg (List.toArray cs),.int .i64 (rrQ s),.agg #[.int .i64 (rrA s),.int .i64 (rrC s)]]∧NdR h' cs (rrX s)
theorem gu {s:RdE (Nd×Nat)}{a c:Int}{h:Part}(hs:s=.error (a,c)):rrR s (.tuple #[.agg #[.int .i64 0,.int .i64 0,.bool false,.slice none 0 0,.slice none 0 0],.int .i64 0,.agg #[.int .i64 a,.int .i64 c]]) h:=by
 subst hs;exact⟨_,rfl,cR bc bc⟩
theorem rrR_ok {s:RdE (Nd×Nat)}{x:Nd}{q:Nat}{cs:List Value}{h:Part}(hs:s=.ok (x,q)) (hx:NdR h cs x):rrR s (.tuple #[.agg cs.toArray,.int .i64 q,.agg #[.int .i64 0,.int .i64 0]]) h:=by
 subst hs;exact⟨cs,rfl,hx⟩
theorem rr_bad {s:RdE (Nd×Nat)}(h:rrC s≠0):s=.error (rrA s,rrC s):=by
 cases s with
 |error e=>rfl
 |ok x=>exact absurd rfl h
theorem rr_ok {d:Nat}{l:List UInt8}{p e:Nat}(hp:p≤e) (h:rrC (rdN d l p e)=0):rdN d l p e=.ok (rrX (rdN d l p e),rrQ (rdN d l p e)):=by
 cases hs:rdN d l p e with
 |ok x=>rfl
 |error x =>
  obtain⟨a,c⟩:=x
  rw [hs] at h
  have h:c=0:=h
  have:=rdN_at d l p e a c hp hs
  omega
theorem and_t {k:Bool}{P Q:Prop} [Decidable P] [Decidable Q] (hk:k=true) (h:P↔Q):decide P=decide (k=true∧Q):=decide_eq_decide.2 ⟨fun hp=>⟨hk,h.1 hp⟩,fun hp=>h.2 hp.2⟩
theorem and_f {k:Bool}{Q:Prop} [Decidable Q] (hk:¬ k=true):false=decide (k=true∧Q):=(am (fun hh=>hk hh.1)).symm
theorem rd_kid {d d':Nat}{l:List UInt8}{p en c t n q f pos last:Nat}{k r:Bool}{acc:List Nd}{a e:Int}(hd:d=d'+1) (hH:rdH l p en true=.ok (c,t,k,n,q)) (hk:k=true) (hK:rdK (rdN d' l) l (q+n) n q [] true q=rdK (rdN d' l) l (q+n) (f+1) pos acc r last) (hp:pos<q+n)
 (hx:rdN d' l pos (q+n)=.error (a,e)):rdN d l p en=.error (a,e):=by
 subst hd hk
 rw [dW hH,hK,lL hp hx]
theorem rd_end {d d':Nat}{l:List UInt8}{p en c t n q f pos last:Nat}{k r:Bool}{acc:List Nd}{bs:List UInt8}(he:en≤l.length) (hen:en<4294967296) (hd:d=d'+1) (hH:rdH l p en true=.ok (c,t,k,n,q))
 (h1:k=true→bs=[]∧rdK (rdN d' l) l (q+n) n q [] true q=rdK (rdN d' l) l (q+n) f pos acc r last) (h0:k=false→acc=[]∧bs=cutL l q (q+n)) (hs:pos≤q+n) (hx:¬ (k=true∧pos<q+n)) :
 rdN d l p en=if(Nd.mk c t k bs acc).put.isSome then .ok (.mk c t k bs acc,q+n) else .error (p,34):=by
 subst hd
 cases k with
 |true =>
  obtain⟨rfl,hK⟩:=h1 rfl
  have hx2:¬ pos<q+n:=fun hh=>hx ⟨rfl,hh⟩
  have hp:pos=q+n:=by omega
  replace hK:=hK.trans (fu hx2)
  rw [rk_right he hen hH hK,dW hH,hK,hp]
 |false =>
  obtain⟨rfl,rfl⟩:=h0 rfl
  rw [rp_right he hH,gT hH]
theorem rdnode_fn:∀ (d:Nat) (l:List UInt8) (p en:Nat) (ab:Option Addr) (cb:Nat) (h:Part),SlR u8R 1 h ab cb l→l.length≤4000000→en≤l.length→p≤l.length→d≤32 →
 FnR Tryz.prog 201 [.slice ab l.length cb,.int .i64 p,.int .i64 en,.int .i64 ((33:Int)-d)] h (rrR (rdN d l p en)):=by
 intro d
 induction d using Nat.strongRecOn with
 |_ d ih =>
 intro l p en ab cb h hl hll hen hpl0 hd
 refine aG Tryz.func201 rfl Tryz.ntmps201 rfl (fun e he=>?_)
 refine aU [(0,_),(1,_),(2,_),(3,_)] ⟨rfl,rfl,rfl,rfl,trivial⟩ ?_
 have hh0:=aO h
 refine Sr (bu ew rfl (fun b1=>?_))
 refine Ru 1 rfl (bu jo rfl (fun b2=>?_))
 refine a_ (aw (Sr (Ru 3 rfl (a_ (Cs rfl (fun hc3=>?_) fun hc3=>?_)))))
 ·refine Sr (ae (aY (cs:=[.int .i64 0,.int .i64 0,.bool false,.slice none 0 0,.slice none 0 0]) ez rfl rfl) rfl ?_)
  refine Ru 1 rfl (ae (aY (cs:=[_,_]) eW rfl rfl) rfl ?_)
  refine aQ bD rfl rfl dl_ f6 f8 z9_ ?_
  refine Ru 1 rfl (aQ cC rfl rfl dl_ cS gO cS ?_)
  refine Nk [9,10,8,0,1,2,3] rfl ?_
  exact b_ (dL rfl rfl bD mm_ z9_ rfl rfl cC mm_ cS) (gu (by cases d with
   |zero=>exact eV (by unfold rdH;rw [if_pos z2_])
   |succ d=>exact gw (by unfold rdH;rw [if_pos z2_])))
 refine ax (Sr ?_)
 have hpl:p<l.length:=z2_;have hbt:=bv l p hpl;have hlt:=bK l p
 refine Ru 2 rfl (cg (aC (m:=p) cA rfl rfl rfl hl rfl z2_) rfl ?_)
 rintro _ ⟨b4,o4,hi4,rfl,hE4⟩
 refine ae (aZ eu rfl z5_) rfl ?_
 refine ae j8 rfl ?_
 refine Ru 1 rfl (Nk [11,10,9,8,0,1,2,3] rfl (Sr (Ru 1 rfl (ae ky rfl ?_))))
 rw [show((l[p].toNat:Int) / 64)=((byteAt l p / 64:Nat):Int) by rw [hbt];simp]
 refine Ru 1 rfl (ae oe rfl ?_)
 rw [show((l[p].toNat:Int) % 32)=((byteAt l p % 32:Nat):Int) by rw [hbt];simp]
 refine Ru 1 rfl (ae ky rfl ?_)
 refine ae oe rfl ?_
 refine Ru 1 rfl ?_
 rw [show decide ((l[p].toNat:Int) / 32 % 2=1)=decide (byteAt l p / 32 % 2=1) from decide_eq_decide.2 z2_]
 refine ae (aY (cs:=[_,_,_,.slice none 0 0,.slice none 0 0]) ez rfl rfl) rfl ?_
 refine bu ew rfl (fun b6=>?_)
 refine aQ bD rfl rfl dl_ f6 f8 z9_ ?_
 refine Nk [12,10,9,8,0,1,2,3] rfl (aw (Sr (Ru 1 rfl (ae (aq cZ rfl mm_ rfl) rfl ?_))))
 refine Ru 1 rfl (ae (aq cZ rfl mm_ rfl) rfl ?_)
 refine Ru 1 rfl (ae (aq j7 rfl mm_ rfl) rfl ?_)
 refine aV ca_207 rfl (rmay_fn _ _ _ _) rfl ?_
 refine Ru 1 rfl (Nk [47,12,10,9,8,0,1,2,3] rfl (Cs rfl (fun hc8=>?_) fun hc8=>?_))
 ·have hmay:mayB (byteAt l p / 64:Nat) (byteAt l p % 32:Nat) (decide (byteAt l p / 32 % 2=1))=false:=(by simpa using hc8)
  refine Sr (ae (aY (cs:=[.int .i64 0,.int .i64 0,.bool false,.slice none 0 0,.slice none 0 0]) ez rfl rfl) rfl ?_)
  refine Ru 1 rfl (ae (aY (cs:=[_,_]) eW rfl rfl) rfl ?_)
  refine aQ bD rfl rfl dl_ f6 f8 z9_ ?_
  refine Ru 1 rfl (aQ cC rfl rfl dl_ cS gO cS ?_)
  refine Nk [9,12,10,8,0,1,2,3] rfl ?_
  exact b_ (dL rfl rfl bD mm_ z9_ rfl rfl cC mm_ cS) (gu (by cases d with
   |zero=>exact eV (by unfold rdH;rw [if_neg z2_,if_pos hmay])
   |succ d=>exact gw (by unfold rdH;rw [if_neg z2_,if_pos hmay])))
 have hmay:mayB (byteAt l p / 64:Nat) (byteAt l p % 32:Nat) (decide (byteAt l p / 32 % 2=1))=true:=(by simpa using hc8)
 refine ax (Sr (Ru 3 rfl (bI ca_242 rfl (rP z5_ z2_ z2_) rfl ?_)))
 rintro _ h9 hle9 rfl
 replace hl:=hl.mono hle9
 replace hh0:=hh0.mono hle9
 obtain⟨s,hs⟩:∃ s,rdS l (p+1) en=s:=⟨_,rfl⟩;rw [hs];have hsq:=hdQ_le l (p+1) en;rw [hs] at hsq
 refine Ru 7 rfl (Nk [15,14,13,12,10,9,8,0,1,2,3] rfl (aw (aw (cj [(67,.bool (decide (hdC s=0∧(en:Int)-hdQ s<hdN s)))] [(15,_),(14,_),(13,_),(12,_),(10,_),(9,_),(8,_),(0,_),(1,_),(3,_)] ⟨rfl,rfl,rfl,rfl,rfl,rfl,rfl,rfl,rfl,rfl,trivial⟩ ?_ ?_))))
 ·refine Rg (Ru 3 rfl (Bs 61 rfl (fun hc10=>?_) fun hc10=>?_))
  ·refine Ru 3 rfl (aH rfl rfl  si_ rfl ?_)
   refine Ru 2 rfl (a_ (⟨rfl,rfl,?_⟩))
   exact rB
  refine Ru 6 rfl (a_ (⟨rfl,rfl,?_⟩))
  exact rB
 refine cj [(15,.int .i64 (hdE s en))] [(14,_),(13,_),(12,_),(10,_),(9,_),(8,_),(0,_),(1,_),(3,_)] ⟨rfl,rfl,rfl,rfl,rfl,rfl,rfl,rfl,rfl,trivial⟩ ?_ ?_
 ·refine Cs rfl (fun hc11=>?_) fun hc11=>?_
  ·refine Rg (Ru 1 rfl (a_ (⟨rfl,rfl,?_⟩)))
   exact z45_
  refine ax (⟨rfl,rfl,?_⟩)
  exact z45_
 refine aw (aw (cj [(73,.bool (decide (hdE s en=0∧d=0)))] [(15,_),(14,_),(13,_),(12,_),(10,_),(9,_),(8,_),(0,_),(1,_),(3,_)] ⟨rfl,rfl,rfl,rfl,rfl,rfl,rfl,rfl,rfl,rfl,trivial⟩ ?_ ?_))
 ·refine Rg (Ru 3 rfl (Bs 70 rfl (fun hc12=>?_) fun hc12=>?_))
  ·refine Ru 3 rfl (a_ (⟨rfl,rfl,?_⟩))
   exact rB
  refine Ru 3 rfl (a_ (⟨rfl,rfl,?_⟩))
  exact rB
 refine cj [(15,.int .i64 (hdF s en d))] [(14,_),(13,_),(12,_),(10,_),(9,_),(8,_),(0,_),(1,_),(3,_)] ⟨rfl,rfl,rfl,rfl,rfl,rfl,rfl,rfl,rfl,trivial⟩ ?_ ?_
 ·refine Cs rfl (fun hc13=>?_) fun hc13=>?_
  ·refine Rg (Ru 1 rfl (a_ (⟨rfl,rfl,?_⟩)))
   exact z45_
  refine ax (⟨rfl,rfl,?_⟩)
  exact z45_
 refine aw (Sr (Ru 2 rfl (a_ (Cs rfl (fun hc14=>?_) fun hc14=>?_))))
 ·refine Sr (ae (aY (cs:=[.int .i64 0,.int .i64 0,.bool false,.slice none 0 0,.slice none 0 0]) ez rfl rfl) rfl ?_)
  refine Ru 2 rfl (ae (aY (cs:=[_,_]) eW rfl rfl) rfl ?_)
  refine aQ bD rfl rfl dl_ f6 f8 z9_ ?_
  refine Ru 1 rfl (aQ cC rfl rfl dl_ cS gO cS ?_)
  exact Nk [9,14,13,12,10,8,0,1,3] rfl (b_ (dL rfl rfl bD mm_ z9_ rfl rfl cC mm_ cS) (gu (hdF_bad z2_ hmay hs hc14)))
 obtain⟨zn,zq,d',hzn,hzq,hdd,hH⟩:=hdF_ok (d:=d) z2_ hmay hs z2_;rw [hzn,hzq];have hle:=kJ hH;obtain⟨c,hcd⟩:∃ c,byteAt l p / 64=c:=⟨_,rfl⟩;obtain⟨t,htd⟩:∃ t,byteAt l p % 32=t:=⟨_,rfl⟩;obtain⟨k,hkd⟩:∃ k,decide (byteAt l p / 32 % 2=1)=k:=⟨_,rfl⟩;rw [hcd,htd,hkd] at hH ⊢;rw [hcd,htd] at hle
 refine ax (aw (Sr (Ru 1 rfl (ae (aq j7 rfl mm_ rfl) rfl ?_))))
 refine bZ 5 1 ?_;refine bZ 31 5 ?_
 refine Ru 1 rfl (Nk [82,14,13,12,10,9,8,0,1,3] rfl (Cs rfl (fun hc15=>?_) fun hc15=>?_))
 ·refine J.held ([]) 11 cK rfl (fun h00=>?_)
  refine Tk 0 rfl (by first|exact cq iF rfl|exact bX iF rfl) ?_
  refine Tk 2 rfl (bG rfl) ?_
  refine Tk 3 rfl (bG rfl) ?_
  refine Tk 4 rfl (bG rfl) ?_
  refine Tk 5 rfl (bG rfl) ?_
  refine Tk 6 rfl ai_ ?_
  refine Te 7 rfl (dK (m:=zq) (m':=zq+zn) cA rfl rfl rfl rfl z2_ z5_ rfl z2_ z2_) ?_
  rintro _ ⟨as_,cs_,rfl,hSs⟩
  obtain⟨bs,hbs⟩:∃ bs,cutL l zq (zq+zn)=bs:=⟨_,rfl⟩;have hbc:=hbs;unfold cutL at hbs;rw [hbs] at hSs ⊢;have hbsl:=hSs.big;have hbl2:bs.length=zn:=(by rw [← hbs];simp;omega)
  refine Ta 1 rfl ?_
  unfold One
  refine ae (aq cU rfl mm_ rfl) rfl ?_
  refine a_ ⟨(br_ h00),?_⟩
  refine Ta 8 rfl ?_
  unfold One
  refine cw cP rfl rfl (bQ:CellsR u8R 1 _ [] []) rfl z5_ rfl dl_ z4_ rfl rfl (fun a17 c17 xs17 hC17 hN17=>?_)
  obtain rfl:=hC17.u8
  refine cM (R:=u8R) (l:=bs) dl_ aW rfl z4_ (fun h18 hle18 hP18=>?_)
  replace hl:=hl.mono hle18
  replace hh0:=hh0.mono hle18
  replace hSs:=hSs.mono hle18
  refine a_ ⟨(br_ h00),?_⟩
  refine Tk 9 rfl (by first|exact cq iF rfl|exact bX iF rfl) ?_
  refine Ta 10 rfl ?_
  unfold One
  refine bn cU rfl rfl rfl dl_ fc ?_
  refine a_ ⟨(br_ h00),?_⟩
  refine JH.done cY ?_
  refine Kp [14,13,12,10,9,8,0,1,3] rfl (aw (Sr (JL.ents [.blk b6 _ _,.row none 0 31 5 0 [],.blk b1 _ _,.blk b2 _ _] pt_ ?_)))
  refine Ru 2 rfl (a_ (aE (bC (fun t_ S_ h_ L_=>∃ (g:Part) (f pos last:Nat) (acc:List Nd) (r:Bool) (bs:List UInt8) (ak bk:Option Addr) (ck ckb:Nat) (xs:List Value),t_=zq+zn-pos∧S_=[(0,.slice ab l.length cb),(1,.int .i64 p),(3,.int .i64 ((33:Int)-d)),(8,.pointer (some ⟨b1,0,none⟩)),(10,.pointer (some ⟨b2,0,none⟩)),(12,.pointer (some ⟨b6,0,none⟩)),(13,.int .i64 zn),(14,.int .i64 zq),(16,.int .i64 pos)]∧g=h_∧L_=[.blk b6 31 [.int .i64 c,.int .i64 t,.bool k,.slice bk bs.length ckb,.slice ak acc.length ck],.row ak ck 31 5 acc.length xs,.blk b1 31 [.int .i64 0,.int .i64 0,.bool false,.slice none 0 0,.slice none 0 0],.blk b2 103 [.int .i64 0,.int .i64 0]]∧(h.le g∧SlR u8R 1 g ab cb l∧CellsR NdR 5 g xs acc∧SlR u8R 1 g bk ckb bs∧bs.length≤zn∧last≤pos∧zq≤pos∧pos≤zq+zn∧zq+zn≤pos+f∧Nd.szL acc+zq≤pos∧acc.length+zq≤pos∧(k=false→acc=[]∧bs=cutL l zq (zq+zn))∧(k=true→bs=[]∧rdK (rdN d' l) l (zq+zn) zn zq [] true zq=rdK (rdN d' l) l (zq+zn) f pos acc r last))) ⟨_,_,?_,⟨_,zn,zq,zq,[],true,bs,none,_,0,_,[],rfl,rfl,rfl,rfl,⟨by assumption,by assumption,bQ,(by first|assumption|exact bc),(by first|omega|exact Nat.zero_le _),by omega,by omega,by omega,by omega,by simp [Nd.szL],by simp,(by intro hh;first|exact⟨rfl,hbc.symm⟩|simp_all),(by intro hh;first|exact⟨rfl,rfl⟩|simp_all)⟩⟩⟩ ?_)))
  ·exact z7_
  rintro _ _ _ _ ⟨g,f,pos,last,acc,r,bs,ak,bk,ck,ckb,xs,rfl,rfl,rfl,rfl,hhg,hl,hC,hbsR,hbl,hlp,hzp,hps,hpf,hsz,hap,hK0,hK1⟩
  refine aw (aw (cj [(102,.bool (decide (k=true∧pos<zq+zn)))] [(0,_),(1,_),(3,_),(8,_),(10,_),(12,_),(13,_),(14,_),(16,_)] ⟨rfl,rfl,rfl,rfl,rfl,rfl,rfl,rfl,rfl,trivial⟩ ?_ ?_))
  ·refine Rg (Ru 1 rfl (ae (aq j7 rfl mm_ rfl) rfl ?_))
   refine Ru 1 rfl (Bs 96 rfl (fun hc19=>?_) fun hc19=>?_)
   ·refine Ru 3 rfl (aH rfl rfl  ai_ rfl ?_)
    refine Ru 2 rfl (a_ (⟨rfl,rfl,?_⟩))
    exact z42_
   refine Ru 6 rfl (a_ (⟨rfl,rfl,?_⟩))
   exact z42_
  refine Cs rfl (fun hc20=>?_) fun hc20=>?_
  ·obtain⟨hkt,hpos⟩:=hc20;obtain⟨hbs0,hK⟩:=hK1 hkt;obtain⟨f',rfl⟩:∃ f',f=f'+1:=⟨f-1,by omega⟩
   refine ax (aE (Sr (Ru 4 rfl (ae ai_ rfl ?_))))
   rw [show(zq:Int)+zn=((zq+zn:Nat):Int) by omega]
   refine Ru 1 rfl (ae ai_ rfl ?_)
   rw [show((33:Int)-(d:Int)+1)=33-(d':Int) by omega]
   refine bI ca_201 rfl ((ih d' z2_ l pos (zq+zn) ab cb _ z5_ hll z2_ z2_ z2_)) rfl ?_
   rintro _ h21 hle21 ⟨xcs,rfl,hX⟩
   replace hhg:=hhg.mono hle21
   replace hl:=hl.mono hle21
   replace hC:=hC.mono hle21
   replace hbsR:=hbsR.mono hle21
   have hyo:=@rr_ok d' l pos (zq+zn) z2_;have hyb:=@rr_bad (rdN d' l pos (zq+zn));obtain⟨y,hy⟩:∃ y,rdN d' l pos (zq+zn)=y:=⟨_,rfl⟩;rw [hy] at hX hyo hyb ⊢
   refine Ru 4 rfl (bu ew rfl (fun b22=>?_))
   refine bu jo rfl (fun b23=>?_)
   refine aQ bD rfl rfl dl_ f6 f8 z9_ ?_
   refine Ru 1 rfl (aQ cC rfl rfl dl_ cS gO cS ?_)
   refine a_ (aw (Sr (Ru 1 rfl (ae (aq kl rfl mm_ rfl) rfl ?_))))
   refine Ru 1 rfl (a_ (Cs rfl (fun hc24=>?_) fun hc24=>?_))
   ·have hrd:=rd_kid hdd hH hkt hK hpos (hy.trans (hyb hc24))
    refine aw (J.held ([.blk (by first|exact b23|exact b33) 103 [.int .i64 (rrA y),.int .i64 (rrC y)]]) 5 cK rfl (fun h00=>?_))
    refine Tk 0 rfl (aY (cs:=[.int .i64 0,.int .i64 0,.bool false,.slice none 0 0,.slice none 0 0]) ez rfl rfl) ?_
    refine Tk 1 rfl (bp cC rfl mm_ cS) ?_
    refine Ta 2 rfl ?_
    unfold One
    refine aQ bD rfl rfl dl_ f6 f8 z9_ ?_
    refine a_ ⟨(br_ h00),?_⟩
    refine Tk 3 rfl (RunV.assign rfl) ?_
    refine Ta 4 rfl ?_
    unfold One
    refine aQ cC rfl rfl dl_ cS gO cS ?_
    refine a_ ⟨(br_ h00),?_⟩
    refine JH.done cY ?_
    exact b_ (dL rfl rfl bD mm_ z9_ rfl rfl cC mm_ cS) (gu hrd)
   have hye:=hy.trans (hyo z2_);obtain⟨x,hxx⟩:∃ x,rrX y=x:=⟨_,rfl⟩;obtain⟨p',hpp⟩:∃ p',rrQ y=p':=⟨_,rfl⟩;rw [hxx,hpp] at hye;rw [hxx] at hX;rw [hpp];have hxl:=fB d' l pos (zq+zn) _ _ hye;have hxz:=rdN_sz z2_ hye
   refine ax (Sr (Ru 1 rfl (ae (aq dB rfl mm_ rfl) rfl ?_)))
   refine ae (bp bD rfl mm_ z9_) rfl ?_
   refine JL.litA il rfl z9_ rfl rfl (fun b25=>?_)
   refine bV il rfl rfl z5_ rfl dl_ dl_ z9_ (hX) z4_ rfl rfl (fun a26 c26 xs26 hC26 hN26=>?_)
   refine Ru 1 rfl (bn dB rfl rfl rfl dl_ fc ?_)
   refine a_ (Rg (Ru 2 rfl (JL.ents [.blk b6 _ _,.row _ _ _ _ _ _,.blk b1 _ _,.blk b2 _ _] pt_ ?_)))
   refine a_ (⟨_,?_,_,?_,⟨_,f',p',pos,acc++[x],_,bs,_,_,_,_,_,rfl,rfl,rfl,rfl,⟨by assumption,by assumption,by assumption,by assumption,by omega,by omega,by omega,by omega,by omega,by rw [Nd.szL_append];simp [Nd.szL];omega,by simp;omega,fun hh=>by simp_all,fun _=>⟨hbs0,by rw [hK,jI hpos hye]⟩⟩⟩⟩)
   ·omega
   exact z7_
  refine bx (Kp [1,8,10,12,13,14] rfl (aw (Sr ?_)))
  refine cM (R:=NdR) (l:=acc) dl_ z5_ rfl z2_ (fun h9 hle9 hS9=>?_);have hB9:=hbsR.mono hle9;have hend:=rd_end (d:=d) (bs:=bs) hen z2_ hdd hH hK1 hK0 hps z5_
  refine ae (bp bD rfl mm_ z9_) rfl ?_
  refine aV ca_165 rfl (jB (x:=.mk c t k bs acc) (cR hB9 hS9) (by simp only [Nd.sz];omega)) rfl ?_
  refine Ru 1 rfl (a_ (Cs rfl (fun hc28=>?_) fun hc28=>?_))
  ·rw [if_neg (by simpa using hc28)] at hend
   refine Sr (ae (aY (cs:=[.int .i64 0,.int .i64 0,.bool false,.slice none 0 0,.slice none 0 0]) ez rfl rfl) rfl ?_)
   refine Ru 1 rfl (ae (aY (cs:=[_,_]) eW rfl rfl) rfl ?_)
   refine aQ bD rfl rfl dl_ f6 f8 z9_ ?_
   refine Ru 1 rfl (aQ cC rfl rfl dl_ cS gO cS ?_)
   exact Nk [9,8,10,12,13,14] rfl (b_ (dL rfl rfl bD mm_ z9_ rfl rfl cC mm_ cS) (gu hend))
  rw [if_pos (by simpa using hc28)] at hend
  refine ax (Kp [8,10,12,13,14] rfl (Sr (ae (bp bD rfl mm_ z9_) rfl ?_)))
  refine Ru 2 rfl (ae ai_ rfl ?_)
  refine ae (aY (cs:=[.int .i64 0,.int .i64 0]) eW rfl rfl) rfl ?_
  refine aQ bD rfl rfl dl_ f6 f8 z9_ ?_
  refine Ru 1 rfl (aQ cC rfl rfl dl_ cS gO cS ?_)
  exact Nk [9,8,10] rfl (b_ (dL rfl rfl bD mm_ z9_ rfl rfl cC mm_ cS) (rrR_ok hend (cR hB9 hS9)))
 let bs:List UInt8:=[]
 refine ax (aw (Sr (JL.ents [.blk b6 _ _,.row none 0 31 5 0 [],.blk b1 _ _,.blk b2 _ _] pt_ ?_)))
 refine Ru 2 rfl (a_ (aE (bC (fun t_ S_ h_ L_=>∃ (g:Part) (f pos last:Nat) (acc:List Nd) (r:Bool) (bs:List UInt8) (ak bk:Option Addr) (ck ckb:Nat) (xs:List Value),t_=zq+zn-pos∧S_=[(0,.slice ab l.length cb),(1,.int .i64 p),(3,.int .i64 ((33:Int)-d)),(8,.pointer (some ⟨b1,0,none⟩)),(10,.pointer (some ⟨b2,0,none⟩)),(12,.pointer (some ⟨b6,0,none⟩)),(13,.int .i64 zn),(14,.int .i64 zq),(16,.int .i64 pos)]∧g=h_∧L_=[.blk b6 31 [.int .i64 c,.int .i64 t,.bool k,.slice bk bs.length ckb,.slice ak acc.length ck],.row ak ck 31 5 acc.length xs,.blk b1 31 [.int .i64 0,.int .i64 0,.bool false,.slice none 0 0,.slice none 0 0],.blk b2 103 [.int .i64 0,.int .i64 0]]∧(h.le g∧SlR u8R 1 g ab cb l∧CellsR NdR 5 g xs acc∧SlR u8R 1 g bk ckb bs∧bs.length≤zn∧last≤pos∧zq≤pos∧pos≤zq+zn∧zq+zn≤pos+f∧Nd.szL acc+zq≤pos∧acc.length+zq≤pos∧(k=false→acc=[]∧bs=cutL l zq (zq+zn))∧(k=true→bs=[]∧rdK (rdN d' l) l (zq+zn) zn zq [] true zq=rdK (rdN d' l) l (zq+zn) f pos acc r last))) ⟨_,_,?_,⟨_,zn,zq,zq,[],true,bs,none,_,0,_,[],rfl,rfl,rfl,rfl,⟨by assumption,by assumption,bQ,(by first|assumption|exact bc),(by first|omega|exact Nat.zero_le _),by omega,by omega,by omega,by omega,by simp [Nd.szL],by simp,(by intro hh;first|exact⟨rfl,hbc.symm⟩|simp_all),(by intro hh;first|exact⟨rfl,rfl⟩|simp_all)⟩⟩⟩ ?_)))
 ·exact z7_
 rintro _ _ _ _ ⟨g,f,pos,last,acc,r,bs,ak,bk,ck,ckb,xs,rfl,rfl,rfl,rfl,hhg,hl,hC,hbsR,hbl,hlp,hzp,hps,hpf,hsz,hap,hK0,hK1⟩
 refine aw (aw (cj [(102,.bool (decide (k=true∧pos<zq+zn)))] [(0,_),(1,_),(3,_),(8,_),(10,_),(12,_),(13,_),(14,_),(16,_)] ⟨rfl,rfl,rfl,rfl,rfl,rfl,rfl,rfl,rfl,trivial⟩ ?_ ?_))
 ·refine Rg (Ru 1 rfl (ae (aq j7 rfl mm_ rfl) rfl ?_))
  refine Ru 1 rfl (Bs 96 rfl (fun hc29=>?_) fun hc29=>?_)
  ·refine Ru 3 rfl (aH rfl rfl  ai_ rfl ?_)
   refine Ru 2 rfl (a_ (⟨rfl,rfl,?_⟩))
   exact z42_
  refine Ru 6 rfl (a_ (⟨rfl,rfl,?_⟩))
  exact z42_
 refine Cs rfl (fun hc30=>?_) fun hc30=>?_
 ·obtain⟨hkt,hpos⟩:=hc30;obtain⟨hbs0,hK⟩:=hK1 hkt;obtain⟨f',rfl⟩:∃ f',f=f'+1:=⟨f-1,by omega⟩
  refine ax (aE (Sr (Ru 4 rfl (ae ai_ rfl ?_))))
  rw [show(zq:Int)+zn=((zq+zn:Nat):Int) by omega]
  refine Ru 1 rfl (ae ai_ rfl ?_)
  rw [show((33:Int)-(d:Int)+1)=33-(d':Int) by omega]
  refine bI ca_201 rfl ((ih d' z2_ l pos (zq+zn) ab cb _ z5_ hll z2_ z2_ z2_)) rfl ?_
  rintro _ h31 hle31 ⟨xcs,rfl,hX⟩
  replace hhg:=hhg.mono hle31
  replace hl:=hl.mono hle31
  replace hC:=hC.mono hle31
  replace hbsR:=hbsR.mono hle31
  have hyo:=@rr_ok d' l pos (zq+zn) z2_;have hyb:=@rr_bad (rdN d' l pos (zq+zn));obtain⟨y,hy⟩:∃ y,rdN d' l pos (zq+zn)=y:=⟨_,rfl⟩;rw [hy] at hX hyo hyb ⊢
  refine Ru 4 rfl (bu ew rfl (fun b32=>?_))
  refine bu jo rfl (fun b33=>?_)
  refine aQ bD rfl rfl dl_ f6 f8 z9_ ?_
  refine Ru 1 rfl (aQ cC rfl rfl dl_ cS gO cS ?_)
  refine a_ (aw (Sr (Ru 1 rfl (ae (aq kl rfl mm_ rfl) rfl ?_))))
  refine Ru 1 rfl (a_ (Cs rfl (fun hc34=>?_) fun hc34=>?_))
  ·have hrd:=rd_kid hdd hH hkt hK hpos (hy.trans (hyb hc34))
   refine aw (J.held ([.blk (by first|exact b23|exact b33) 103 [.int .i64 (rrA y),.int .i64 (rrC y)]]) 5 cK rfl (fun h00=>?_))
   refine Tk 0 rfl (aY (cs:=[.int .i64 0,.int .i64 0,.bool false,.slice none 0 0,.slice none 0 0]) ez rfl rfl) ?_
   refine Tk 1 rfl (bp cC rfl mm_ cS) ?_
   refine Ta 2 rfl ?_
   unfold One
   refine aQ bD rfl rfl dl_ f6 f8 z9_ ?_
   refine a_ ⟨(br_ h00),?_⟩
   refine Tk 3 rfl (RunV.assign rfl) ?_
   refine Ta 4 rfl ?_
   unfold One
   refine aQ cC rfl rfl dl_ cS gO cS ?_
   refine a_ ⟨(br_ h00),?_⟩
   refine JH.done cY ?_
   exact b_ (dL rfl rfl bD mm_ z9_ rfl rfl cC mm_ cS) (gu hrd)
  have hye:=hy.trans (hyo z2_);obtain⟨x,hxx⟩:∃ x,rrX y=x:=⟨_,rfl⟩;obtain⟨p',hpp⟩:∃ p',rrQ y=p':=⟨_,rfl⟩;rw [hxx,hpp] at hye;rw [hxx] at hX;rw [hpp];have hxl:=fB d' l pos (zq+zn) _ _ hye;have hxz:=rdN_sz z2_ hye
  refine ax (Sr (Ru 1 rfl (ae (aq dB rfl mm_ rfl) rfl ?_)))
  refine ae (bp bD rfl mm_ z9_) rfl ?_
  refine JL.litA il rfl z9_ rfl rfl (fun b35=>?_)
  refine bV il rfl rfl z5_ rfl dl_ dl_ z9_ (hX) z4_ rfl rfl (fun a36 c36 xs36 hC36 hN36=>?_)
  refine Ru 1 rfl (bn dB rfl rfl rfl dl_ fc ?_)
  refine a_ (Rg (Ru 2 rfl (JL.ents [.blk b6 _ _,.row _ _ _ _ _ _,.blk b1 _ _,.blk b2 _ _] pt_ ?_)))
  refine a_ (⟨_,?_,_,?_,⟨_,f',p',pos,acc++[x],_,bs,_,_,_,_,_,rfl,rfl,rfl,rfl,⟨by assumption,by assumption,by assumption,by assumption,by omega,by omega,by omega,by omega,by omega,by rw [Nd.szL_append];simp [Nd.szL];omega,by simp;omega,fun hh=>by simp_all,fun _=>⟨hbs0,by rw [hK,jI hpos hye]⟩⟩⟩⟩)
  ·omega
  exact z7_
 refine bx (Kp [1,8,10,12,13,14] rfl (aw (Sr ?_)))
 refine cM (R:=NdR) (l:=acc) dl_ z5_ rfl z2_ (fun h9 hle9 hS9=>?_);have hB9:=hbsR.mono hle9;have hend:=rd_end (d:=d) (bs:=bs) hen z2_ hdd hH hK1 hK0 hps z5_
 refine ae (bp bD rfl mm_ z9_) rfl ?_
 refine aV ca_165 rfl (jB (x:=.mk c t k bs acc) (cR hB9 hS9) (by simp only [Nd.sz];omega)) rfl ?_
 refine Ru 1 rfl (a_ (Cs rfl (fun hc38=>?_) fun hc38=>?_))
 ·rw [if_neg (by simpa using hc38)] at hend
  refine Sr (ae (aY (cs:=[.int .i64 0,.int .i64 0,.bool false,.slice none 0 0,.slice none 0 0]) ez rfl rfl) rfl ?_)
  refine Ru 1 rfl (ae (aY (cs:=[_,_]) eW rfl rfl) rfl ?_)
  refine aQ bD rfl rfl dl_ f6 f8 z9_ ?_
  refine Ru 1 rfl (aQ cC rfl rfl dl_ cS gO cS ?_)
  exact Nk [9,8,10,12,13,14] rfl (b_ (dL rfl rfl bD mm_ z9_ rfl rfl cC mm_ cS) (gu hend))
 rw [if_pos (by simpa using hc38)] at hend
 refine ax (Kp [8,10,12,13,14] rfl (Sr (ae (bp bD rfl mm_ z9_) rfl ?_)))
 refine Ru 2 rfl (ae ai_ rfl ?_)
 refine ae (aY (cs:=[.int .i64 0,.int .i64 0]) eW rfl rfl) rfl ?_
 refine aQ bD rfl rfl dl_ f6 f8 z9_ ?_
 refine Ru 1 rfl (aQ cC rfl rfl dl_ cS gO cS ?_)
 exact Nk [9,8,10] rfl (b_ (dL rfl rfl bD mm_ z9_ rfl rfl cC mm_ cS) (rrR_ok hend (cR hB9 hS9)))
end
section
set_option maxRecDepth 100000
end
section
set_option maxRecDepth 100000
theorem rtop_fn {a:Option Addr}{c:Nat}{l:List UInt8}{h:Part}(hl:SlR u8R 1 h a c l) (hll:l.length≤4000000) :
 FnR Tryz.prog 158 [.slice a l.length c] h (fun v h'=>∃ cs,v=.tuple #[.agg (List.toArray cs),.agg #[.int .i64 (rdTop l).2.1,.int .i64 (rdTop l).2.2]]∧NdR h' cs (rdTop l).1):=by
 refine aG Tryz.func158 rfl Tryz.ntmps158 rfl (fun e he=>?_)
 refine aU [(0,_)] ⟨rfl,trivial⟩ ?_
 have hh0:=aO h
 refine Sr (bu ew rfl (fun b1=>?_))
 refine bu jo rfl (fun b2=>?_)
 refine a_ (aw (Sr (Ru 3 rfl (a_ (Cs rfl (fun hc3=>?_) fun hc3=>?_)))))
 ·exfalso;omega
 refine ax (Sr (Ru 3 rfl (bI ca_201 rfl ((rdnode_fn 32 l 0 l.length a c _ hl z2_ z2_ z2_ z2_)) rfl ?_)))
 rintro _ h4 hle4 ⟨xcs,rfl,hX⟩
 replace hl:=hl.mono hle4
 replace hh0:=hh0.mono hle4
 have hyo:=@rr_ok 32 l 0 l.length z2_;have hyb:=@rr_bad (rdN 32 l 0 l.length);obtain⟨y,hy⟩:∃ y,rdN 32 l 0 l.length=y:=⟨_,rfl⟩;rw [hy] at hX hyo hyb ⊢
 refine Ru 4 rfl (bu ew rfl (fun b5=>?_))
 refine bu jo rfl (fun b6=>?_)
 refine aQ bD rfl rfl dl_ f6 f8 z9_ ?_
 refine Ru 1 rfl (aQ cC rfl rfl dl_ cS gO cS ?_)
 refine Nk [5,6,4,3,2,0] rfl (aw (Sr (Ru 1 rfl (ae (aq kl rfl mm_ rfl) rfl ?_))))
 refine Ru 1 rfl (a_ (Cs rfl (fun hc7=>?_) fun hc7=>?_))
 ·have hye:=hy.trans (hyb hc7);have ht:rdTop l=(ndZ,rrA y,rrC y):=(by unfold rdTop;rw [if_neg z2_,hye])
  refine aw (J.held ([.blk b6 103 [.int .i64 (rrA y),.int .i64 (rrC y)]]) 4 cK rfl (fun h00=>?_))
  refine Tk 0 rfl (aY (cs:=[.int .i64 0,.int .i64 0,.bool false,.slice none 0 0,.slice none 0 0]) ez rfl rfl) ?_
  refine Tk 1 rfl (bp cC rfl mm_ cS) ?_
  refine Ta 2 rfl ?_
  unfold One
  refine aQ bD rfl rfl dl_ f6 f8 z9_ ?_
  refine a_ ⟨(br_ h00),?_⟩
  refine Ta 3 rfl ?_
  unfold One
  refine aQ cC rfl rfl dl_ cS gO cS ?_
  refine a_ ⟨(br_ h00),?_⟩
  refine JH.done cY ?_
  refine Kp [5,4,3,2,0] rfl ?_
  rw [ht];exact b_ (RetV.cell2 rfl rfl bD mm_ z9_ rfl cC mm_ cS) ⟨_,rfl,cR bc bc⟩
 have hye:=hy.trans (hyo z2_);obtain⟨x,hxx⟩:∃ x,rrX y=x:=⟨_,rfl⟩;obtain⟨p',hpp⟩:∃ p',rrQ y=p':=⟨_,rfl⟩;rw [hxx,hpp] at hye;rw [hxx] at hX;rw [hpp];have hxl:=fB 32 l 0 l.length _ _ hye
 refine ax (Kp [5,4,3,2,0] rfl (aw (Sr (Ru 4 rfl (a_ (Cs rfl (fun hc8=>?_) fun hc8=>?_))))))
 ·have ht:rdTop l=(ndZ,(p':Int),35):=(by unfold rdTop;rw [if_neg z2_,hye];simp only;rw [if_pos z2_])
  refine Sr (ae (aY (cs:=[.int .i64 0,.int .i64 0,.bool false,.slice none 0 0,.slice none 0 0]) ez rfl rfl) rfl ?_)
  refine Ru 1 rfl (ae (aY (cs:=[_,_]) eW rfl rfl) rfl ?_)
  refine aQ bD rfl rfl dl_ f6 f8 z9_ ?_
  refine aQ cC rfl rfl dl_ cS gO cS ?_
  refine Nk [4,3,2] rfl ?_
  rw [ht];exact b_ (RetV.cell2 rfl rfl bD mm_ z9_ rfl cC mm_ cS) ⟨_,rfl,cR bc bc⟩
 have ht:rdTop l=(x,0,0):=(by unfold rdTop;rw [if_neg z2_,hye];simp only;rw [if_neg z2_])
 refine ax (Kp [4,3,2] rfl (Sr (ae (bp bD rfl mm_ z9_) rfl ?_)))
 refine ae (aY (cs:=[.int .i64 0,.int .i64 0]) eW rfl rfl) rfl ?_
 refine aQ bD rfl rfl dl_ f6 f8 z9_ ?_
 refine aQ cC rfl rfl dl_ cS gO cS ?_
 refine a_ ?_
 rw [ht];exact b_ (RetV.cell2 rfl rfl bD mm_ z9_ rfl cC mm_ cS) ⟨_,rfl,hX⟩
theorem lI (l:List UInt8):(rdTop l).1.sz≤l.length+1:=by
 have hz:ndZ.sz≤1:=by decide
 unfold rdTop
 split
 ·exact Nat.le_trans hz z2_
 ·split
  ·exact Nat.le_trans hz z2_
  ·rename_i x q h
   split
   ·exact Nat.le_trans hz z2_
   ·have h1:=rdN_sz (aD _) h
    have h2:=fB _ _ _ _ _ _ h
    simp only
    omega
end
section
set_option maxRecDepth 100000
theorem og {n:Nd}(hz:n.sz≤1073741824):FnD Tryz.prog 63 [.nd n] (.tup [.bs n.wr.1,.i n.wr.2]):=.mk fun h vs hT hd=>by
 obtain⟨v,rfl,h1⟩:=gJ hd
 obtain⟨cs,rfl,hR⟩:=dk.1 h1
 exact(write_fn hR hT hz).mono fun v h' _ ⟨a,c,e,r⟩=>⟨_,rfl,by rw [e];exact fS ((cV (h:=h')).2 ⟨_,_,rfl,r⟩) (ba (h:=h'))⟩
theorem den_flt {h:Part}{a c:Int}:Den (.st (Flt.enc ⟨a,c⟩)) h (.agg #[.int .i64 a,.int .i64 c]):=(df (h:=h)).2 ⟨[.int .i64 a,.int .i64 c],rfl,.c rfl (ba (h:=h)) (.c rfl (ba (h:=h)) .n)⟩
theorem read_d {l:Txt}:FnD Tryz.prog 64 [.bs l] (.tup [.nd (rdTop l).1,.st (Flt.enc ⟨(rdTop l).2.1,(rdTop l).2.2⟩)]):=.mk fun h vs hT hd=>by
 obtain⟨v,rfl,h1⟩:=gJ hd
 obtain⟨a,cc,rfl,hR⟩:=cV.1 h1
 exact(read_fn hR hT).mono fun v h' _ ⟨cs,e,r⟩=>⟨_,rfl,by rw [e];exact fS ((dk (h:=h')).2 ⟨cs,rfl,r⟩) den_flt⟩
theorem rread_d {l:Txt}(hl:l.length≤4000000):FnD Tryz.prog 158 [.bs l] (.tup [.nd (rdTop l).1,.st (Flt.enc ⟨(rdTop l).2.1,(rdTop l).2.2⟩)]):=.mk fun h vs hT hd=>by
 obtain⟨v,rfl,h1⟩:=gJ hd
 obtain⟨a,cc,rfl,hR⟩:=cV.1 h1
 exact(rtop_fn hR hl).mono fun v h' _ ⟨cs,e,r⟩=>⟨_,rfl,by rw [e];exact fS ((dk (h:=h')).2 ⟨cs,rfl,r⟩) den_flt⟩
theorem qn {n:Nd}(hz:n.sz≤10000000):FnD Tryz.prog 168 [.nd n] (.tup [.bs (n.put.getD []),.b n.put.isSome]):=.mk fun h vs hT hd=>by
 obtain⟨v,rfl,h1⟩:=gJ hd
 obtain⟨cs,rfl,hR⟩:=dk.1 h1
 exact(kM hR hz).mono fun v h' _ ⟨a,c,e,r⟩=>⟨_,rfl,by rw [e];exact fS ((cV (h:=h')).2 ⟨_,_,rfl,r⟩) ((dg (h:=h')).2 rfl)⟩
theorem oG {x y:Nd}:FnD Tryz.prog 11 [.nd x,.nd y] (.b (x.beq y)):=.mk fun h vs hT hd=>by
 obtain⟨v,w,rfl,h1,h2⟩:=den2 hd
 obtain⟨cs,rfl,hR⟩:=dk.1 h1
 obtain⟨cs',rfl,hR'⟩:=dk.1 h2
 exact(same_fn' hR hR').d ((dg (h:=h)).2 rfl)
theorem rdeep_d {x:Nd}(hz:x.sz≤1125899906842624):FnD Tryz.prog 16 [.nd x] (.i x.rk):=.mk fun h vs hT hd=>by
 obtain⟨v,rfl,h1⟩:=gJ hd
 obtain⟨cs,rfl,hR⟩:=dk.1 h1
 exact(deep_fn' hR hz).d (ba (h:=h))
theorem rsize_d {x:Nd}{m:Int}(h0:0≤m) (h1:m≤1125899906842624):FnD Tryz.prog 15 [.nd x,.i m] (.i (x.szM m)):=.mk fun h vs hT hd=>by
 obtain⟨v,w,rfl,h2,h3⟩:=den2 hd
 obtain⟨cs,rfl,hR⟩:=dk.1 h2
 rw [d9.1 h3]
 exact(size_fn' hR h0 h1).d (ba (h:=h))
theorem lq {l r:Txt}:FnD Tryz.prog 128 [.bs l,.bs r] (.i (Go.Lib.compareBytes l r)):=.mk fun h vs hT hd=>by
 obtain⟨v,w,rfl,h1,h2⟩:=den2 hd
 obtain⟨a,cc,rfl,hR⟩:=cV.1 h1
 obtain⟨a',cc',rfl,hR'⟩:=cV.1 h2
 exact(eO hR hR').d (ba (h:=h))
theorem roidb_d {s:Txt}(hs:s.length≤1000000000):FnD Tryz.prog 155 [.s s] (.tup [.bs ((oidB s).getD []),.i (if(oidB s).isSome then 0 else 20)]):=.mk fun h vs hT hd=>by
 obtain⟨v,rfl,h1⟩:=gJ hd
 rw [d9.1 h1]
 exact(fI s h hs).mono fun v h' _ ⟨a,c,e,r⟩=>⟨_,rfl,by rw [e];exact fS ((cV (h:=h')).2 ⟨_,_,rfl,r⟩) (ba (h:=h'))⟩
theorem roidt_d {l:Txt}(hb:l.length≤10000000):FnD Tryz.prog 110 [.bs l] (.tup [.s ((oidT l).getD []),.i (if(oidT l).isSome then 0 else 20)]):=.mk fun h vs hT hd=>by
 obtain⟨v,rfl,h1⟩:=gJ hd
 obtain⟨a,cc,rfl,hR⟩:=cV.1 h1
 exact(jC hR hb).d (fS (ba (h:=h)) (ba (h:=h)))
theorem qf {s:Txt}(hs:s.length≤1000000):FnD Tryz.prog 94 [.s s] (.nd (oiN s)):=.mk fun h vs hT hd=>by
 obtain⟨v,rfl,h1⟩:=gJ hd
 rw [d9.1 h1]
 exact(roid_fn hs).mono fun v h' _ ⟨a,c,e,r⟩=>⟨_,rfl,by rw [e];exact(dk (h:=h')).2 ⟨_,rfl,cR r bc⟩⟩
theorem qd {l:List Nd}:FnD Tryz.prog 42 [.nds l] (.nd (.mk 0 16 true [] l)):=.mk fun h vs hT hd=>by
 obtain⟨v,rfl,h1⟩:=gJ hd
 obtain⟨a,cc,rfl,hR⟩:=dM.1 h1
 exact rseq_fn.mono fun v h' hle e=>⟨_,rfl,by rw [e];exact(dk (h:=h')).2 ⟨_,rfl,cR bc (hR.mono hle)⟩⟩
instance:Cn Tryz.prog 63 (type_of% @og):=⟨@og⟩
instance:Cn Tryz.prog 64 (type_of% @read_d):=⟨@read_d⟩
instance:Cn Tryz.prog 158 (type_of% @rread_d):=⟨@rread_d⟩
instance:Cn Tryz.prog 168 (type_of% @qn):=⟨@qn⟩
instance:Cn Tryz.prog 11 (type_of% @oG):=⟨@oG⟩
instance:Cn Tryz.prog 16 (type_of% @rdeep_d):=⟨@rdeep_d⟩
instance:Cn Tryz.prog 15 (type_of% @rsize_d):=⟨@rsize_d⟩
instance:Cn Tryz.prog 128 (type_of% @lq):=⟨@lq⟩
instance:Cn Tryz.prog 155 (type_of% @roidb_d):=⟨@roidb_d⟩
instance:Cn Tryz.prog 110 (type_of% @roidt_d):=⟨@roidt_d⟩
instance:Cn Tryz.prog 94 (type_of% @qf):=⟨@qf⟩
instance:Cn Tryz.prog 42 (type_of% @qd):=⟨@qd⟩
end
section
open Go Go.RowKit Go.ChangeShapes Go.WideShapes Go.Lib Go.ChangeAt
set_option maxRecDepth 100000
theorem FnD.tt {P:Program} [Tb P] {Fi:Nat}{ds:List D}{h:Part}{vs:List Value}(c:FnD P Fi ds (.bq true)) (hT:Tb.T P h) (hd:DenT ds h vs):Pure P Fi vs h (.bool true) :=
 Pure.of (R:=fun u h' Lo=>Lo=[]∧∃ d,d=D.bq true∧Den d h' u) (c.fn h vs hT hd) (fun u h' Lo ⟨_,d,e,k⟩=>by subst e;exact dg.1 k)
theorem DenT.n {h:Part}:DenT [] h []:=by unfold DenT;rfl
theorem DenT.c {h:Part}{d:D}{r:List D}{v:Value}{t:List Value}(h2:Den d h v) (h3:DenT r h t):DenT (d::r) h (v::t):=by unfold DenT;exact⟨v,t,rfl,h2,h3⟩
theorem den_ndc {h:Part}{cs:List Value}{x:Nd}(r:NdR h cs x):Den (.nd x) h (.agg cs.toArray):=(dk (h:=h)).2 ⟨cs,rfl,r⟩
theorem slR_bE {h:Part}{cs:List Value}{l:Txt}(k:slR u8R 1 h cs l):encR bE h cs l:=by
 obtain⟨a,c,rfl,r⟩:=k
 exact .c rfl ((cV (h:=h)).2 ⟨_,_,rfl,r⟩) .n
theorem lB {α:Type}{R:Rep α}{sz:Nat}{enc:α→List D}(hR:∀ {h cs y},R h cs y→encR enc h cs y) {h:Part}{cs:List Value}{l:List α}(k:slR R sz h cs l):∃ v,cs=[v]∧v.oneCell'=true∧Den (.sl sz enc l) h v:=by
 obtain⟨a,c,rfl,r⟩:=k
 exact⟨_,rfl,rfl,(fD (h:=h)).2 ⟨_,_,rfl,r.imp rfl (aO h) (fun i p q cs h1 h2 h3=>by rw [h1] at h2;cases h2;exact hR h3)⟩⟩
section
variable {H:Type}{enc:TypeId×Value→H}{W:World}{base:Nat}{v:Value}{d:DataW H}{ps:List MemPlace}
theorem lQ (n:Nat):Opens Tryz.prog n 25 (slR u8R 1) 1 (fun l=>(l.map fun _=>1).sum+1):=by
 cases n with
 |zero=>intro H enc W cs x h;simp [DataW.trod] at h
 |succ n=>exact jO n
theorem cells_bss:Tryz.prog.cellsOf 57=1:=by kernel_rfl
theorem fV:Tryz.prog.cellsOf 9=1:=by kernel_rfl
theorem k_:Tryz.prog.cellsOf 59=2:=by kernel_rfl
theorem pL:0<Tryz.prog.bytesOf 25:=by rw [show Tryz.prog.bytesOf 25=24 by kernel_rfl];decide
theorem opens_bss (n:Nat):Opens Tryz.prog n 57 (slR (slR u8R 1) 1) 1 (fun l=>(l.map fun l=>(l.map fun _=>1).sum+1).sum+1):=by
 cases n with
 |zero=>intro H enc W cs x h;simp [DataW.trod] at h
 |succ n=>exact dQ Tryz.underlying57 ke bJ pL (lQ n)
theorem opens_fe (n:Nat):Opens Tryz.prog n 59 (fun h cs f=>encR Fe.enc h cs f∧f.oid.length≤140737488355328∧f.vals.length≤140737488355328∧∀ v∈f.vals,v.length≤140737488355328) 2 (fun _=>0):=by
 intro H enc W cs x h hw
 cases n with
 |zero=>simp [DataW.trod] at h
 |succ n =>
  obtain⟨xs,m,hm,rfl,hl,hxl,hall⟩:=DataW.trod_struct Tryz.underlying59 h
  rw [k_] at hl
  match cs,hl with
  |[v0,v1],_ =>
  match xs,hxl with
  |[x0,x1],_ =>
  have h0:DataW.trod enc Tryz.prog W 0 (fun _=>true) true m 9 ((List.drop 0 [v0,v1]).take (Tryz.prog.cellsOf 9))=some x0:=hall 0 _ rfl
  rw [fV] at h0
  change DataW.trod enc Tryz.prog W 0 (fun _=>true) true m 9 [v0]=some x0 at h0
  have h1:DataW.trod enc Tryz.prog W 0 (fun _=>true) true m 57 ((List.drop 1 [v0,v1]).take (Tryz.prog.cellsOf 57))=some x1:=hall 1 _ rfl
  rw [cells_bss] at h1
  change DataW.trod enc Tryz.prog W 0 (fun _=>true) true m 57 [v1]=some x1 at h1
  simp only [DataW.weights,Tryz.underlying59,List.map_cons,List.map_nil,DataW.weightsEach,List.all_append,Bool.and_eq_true,List.append_nil] at hw
  obtain⟨w0,w1⟩:=hw
  obtain⟨s,_,⟨e0,hs⟩,_⟩:=jN Tryz.underlying9 enc W _ _ h0 w0
  obtain⟨l,_,hl1,_⟩:=opens_bss m enc W _ _ h1 w1
  have hb:l.length≤140737488355328∧∀ v∈l,v.length≤140737488355328:=by
   obtain⟨a,c,_,r⟩:=hl1
   refine⟨r.big,fun v hv=>?_⟩
   obtain⟨i,hi,e⟩:=List.getElem_of_mem hv
   obtain⟨_,_,_,_,_,_,_,_,⟨_,_,_,r'⟩⟩:=r.elt i v (by rw [aP hi,e])
   exact r'.big
  obtain⟨u,e1,o1,d1⟩:=lB (enc:=bE) slR_bE hl1
  cases e0
  cases e1
  exact⟨⟨s,l⟩,rfl,⟨.c rfl (ba (h:=_)) (.c o1 d1 .n),Nat.le_trans hs bJ,hb⟩,Nat.zero_le _⟩
end
end
section
theorem nd1 {c t:Int}{k:Bool}{b:Txt}{l:List Nd}:(Nd.mk c t k b l).cls=c:=rfl
theorem nd2 {c t:Int}{k:Bool}{b:Txt}{l:List Nd}:(Nd.mk c t k b l).tag=t:=rfl
theorem nd3 {c t:Int}{k:Bool}{b:Txt}{l:List Nd}:(Nd.mk c t k b l).cons=k:=rfl
theorem nd4 {c t:Int}{k:Bool}{b:Txt}{l:List Nd}:(Nd.mk c t k b l).bytes=b:=rfl
theorem nd5 {c t:Int}{k:Bool}{b:Txt}{l:List Nd}:(Nd.mk c t k b l).kids=l:=rfl
theorem oid_rt {b s:Txt}(h:oidT b=some s):oidB s=some b:=by
 rw [lS] at h
 unfold decO at h
 cases hd:decGo b 0 true with
 |none=>rw [hd] at h;cases h
 |some l =>
  rw [hd] at h
  by_cases hl:l=[]
  ·simp [hl] at h
  ·simp only [if_neg hl,Option.map_some,ay] at h
   obtain⟨h1,h2⟩:=mu b 0 true l (fun _=>rfl) (fun x=>by cases x) hd
   rw [← h,qx l h2,if_neg hl,← h1,qQ,List.nil_append]
theorem oid_tr {b s:Txt}(h:oidB s=some b):(oidT b).isSome=true:=by
 unfold oidB at h
 split at h
 ·cases h
 ·rename_i l hl
  split at h
  ·rename_i hok
   cases h
   have hlt:=gV s [] l hl
   have hg:∀ i,l.getD i 0<9223372036854775808:=fun i=>by
    by_cases hi:i<l.length
    ·rw [ce hi];exact hlt _ (aL hi)
    ·rw [bg,bL z2_];simp
   have h3:decGo (enc ((40*l.getD 0 0+l.getD 1 0)::l.drop 2)) 0 true=some ((40*l.getD 0 0+l.getD 1 0)::l.drop 2):=by
    refine pj _ fun x hx=>?_
    rw [List.mem_cons] at hx
    rcases hx with rfl|hx
    ·unfold oidOk at hok
     simp only [Bool.and_eq_true,Bool.or_eq_true,aj] at hok
     have:=hg 1
     omega
    ·exact hlt x (List.mem_of_mem_drop hx)
   rw [lS]
   unfold decO
   rw [h3]
   simp
  ·cases h
def OrdK (l:List Txt) (i:Nat):Prop:=∀ j,j<i→¬ 0<Go.Lib.compareBytes (l.getD j []) (l.getD (j+1) [])
instance (l:List Txt) (i:Nat):Decidable (OrdK l i):=inferInstanceAs (Decidable (∀ j,j<i→_))
def ordB (l:List Txt):Bool:=decide (OrdK l (l.length-1))
theorem lP (x y:Txt) (r:List Txt):ordB (x::y::r)=(!decide (0<Go.Lib.compareBytes x y)&&ordB (y::r)):=by
 unfold ordB OrdK
 rw [Bool.eq_iff_iff]
 simp only [aj,Bool.and_eq_true,Bool.not_eq_true',decide_eq_false_iff_not,aA,Nat.add_sub_cancel]
 constructor
 ·intro h
  exact⟨h 0 z2_,fun j hj=>h (j+1) z2_⟩
 ·rintro⟨h1,h2⟩ j hj
  cases j with
  |zero=>exact h1
  |succ j=>exact h2 j z2_
theorem jK (set:Bool):∀ (ks:List Nd) (last acc:Txt),(Nd.putL set ks (some last) acc).isSome=(ks.all (·.put.isSome)&&(!set||ordB (last::ks.map fun k=>k.put.getD [])))
 |[],last,acc=>by simp [Nd.putL,ordB,OrdK]
 |x::r,last,acc=>by
  simp only [Nd.putL,List.map_cons,List.all_cons]
  cases hx:x.put with
  |none=>simp
  |some b =>
   simp only [Option.isSome_some,Bool.true_and,Option.getD_some]
   rw [lP]
   simp only [aboveB]
   by_cases hc:0<Go.Lib.compareBytes last b
   ·simp only [an hc,Bool.and_true,Bool.not_true,Bool.false_and,Bool.or_false]
    cases set with
    |true=>simp
    |false=>simp only [bO,if_false,Bool.not_false,Bool.and_true];rw [jK];simp
   ·simp only [am hc,Bool.and_false,bO,if_false,Bool.not_false,Bool.true_and]
    rw [jK]
theorem dP (set:Bool) (ks:List Nd) (acc:Txt):(Nd.putL set ks none acc).isSome=(ks.all (·.put.isSome)&&(!set||ordB (ks.map fun k=>k.put.getD []))):=by
 cases ks with
 |nil=>simp [Nd.putL,ordB,OrdK]
 |cons x r =>
  simp only [Nd.putL,List.map_cons,List.all_cons]
  cases hx:x.put with
  |none=>simp
  |some b =>
   simp only [aboveB,Bool.and_false,bO,if_false,Option.isSome_some,Bool.true_and,Option.getD_some]
   rw [jK]
theorem gx (ks:List Nd):(Nd.mk 0 16 true [] ks).put.isSome=ks.all (·.put.isSome):=by
 have h:okN 0 16 true [] ks=true:=by simp [okN,mayB,form]
 rw [Nd.put,if_pos h,Option.isSome_map,show(decide ((0:Int)=0)&&decide ((16:Int)=17))=false by decide,dP]
 simp
theorem lM (ks:List Nd):(Nd.mk 0 17 true [] ks).put.isSome=(ks.all (·.put.isSome)&&ordB (ks.map fun k=>k.put.getD [])):=by
 have h:okN 0 17 true [] ks=true:=by simp [okN,mayB,form]
 rw [Nd.put,if_pos h,Option.isSome_map,show(decide ((0:Int)=0)&&decide ((17:Int)=17))=true by decide,dP]
 simp
theorem iv {n:Nd}{t:Int}(h:n.put.isSome=true) (h0:n.cls=0) (ht:n.tag=t) (hm:mayB 0 t false=false):n.cons=true∧n.bytes=[]:=by
 cases n with
 |mk c tt k b ks =>
  simp only [Nd.cls,Nd.tag,Nd.cons,Nd.bytes] at *
  subst h0 ht
  have hok:okN 0 tt k b ks=true:=by
   simp only [Nd.put] at h
   split at h
   ·assumption
   ·cases h
  unfold okN at hok
  simp only [Bool.and_eq_true] at hok
  cases k with
  |false=>rw [hm] at hok;simp at hok
  |true =>
   simp at hok
   exact⟨rfl,hok.2⟩
theorem kI {n:Nd}{t:Int}(h:n.put.isSome=true) (h0:n.cls=0) (ht:n.tag=t) (hm:mayB 0 t true=false):n.cons=false∧n.kids=[]∧valB t n.bytes=true:=by
 refine ji (t:=t) ?_ hm
 unfold isB;simp [h0,ht,h]
theorem lU {s:Txt}(h:(oidB s).isSome=true):(oiN s).put.isSome=true:=by
 obtain⟨b,hb⟩:=Option.isSome_iff_exists.1 h
 have h2:=oid_tr hb
 have hv:valB 6 b=true:=by unfold valB;simp [h2]
 have h3:okN 0 6 false b []=true:=by simp [okN,mayB,form,hv]
 simp only [oiN,hb,Option.getD_some,Nd.put,h3,if_true,Option.isSome_map]
 rw [dP];simp
theorem wr_put {n:Nd}(h:n.wr.2=0):n.put=some n.wr.1:=by
 rcases pQ n with h1|h1
 ·exact h1.2.1
 ·exact absurd h h1
theorem rd_wr {v:Txt}(h:(rdTop v).2.2=0):(rdTop v).1.wr=(v,0):=wr_rdTop (a:=(rdTop v).2.1) (by rw [← h])
theorem kd_kids {n:Nd}{a b:Nd}(h:n.kids=[a,b]):kd n 0=a∧kd n 1=b:=by simp [kd,h]
def fldV (v:Txt):Bool:=decide ((rdTop v).2.2=0)&&decide (((rdTop v).1.rk:Int)≤20)
def fnOk (f:Fe):Bool:=(oidB f.oid).isSome&&decide (1≤(f.vals.length:Int))&&decide ((f.vals.length:Int)≤8)&&f.vals.all fldV&&ordB f.vals
def setN (f:Fe):Nd:=.mk 0 17 true [] (f.vals.map fun v=>(rdTop v).1)
def fieldN (f:Fe):Nd:=if fnOk f then .mk 0 16 true [] [oiN f.oid,setN f] else ndZ0
def fieldE (f:Fe):Int:=if fnOk f then 0 else 60
def cOid (n:Nd):Txt×Bool:=if decide (n.cls=0)&&decide (n.tag=6) then((oidT n.bytes).getD [],(oidT n.bytes).isSome) else([],false)
def fldK (k:Nd):Bool:=decide (k.wr.2=0)&&decide ((k.rk:Int)≤20)
def foOk (n:Nd):Bool:=n.put.isSome&&isSeqB n 2 2&&(cOid (kd n 0)).2&&decide ((kd n 1).cls=0)&&decide ((kd n 1).tag=17)&&decide (1≤((kd n 1).kids.length:Int))&&decide (((kd n 1).kids.length:Int)≤8)&&(kd n 1).kids.all fldK
def fieldOf (n:Nd):Fe×Bool:=if foOk n then(⟨(cOid (kd n 0)).1,(kd n 1).kids.map (·.wr.1)⟩,true) else(⟨[],[]⟩,false)
def fR (n:Nd):Fe:=⟨(oidT (kd n 0).bytes).getD [],((kd n 1).kids.take 10).map fun k=>k.put.getD []⟩
def fieldOfR (n:Nd):Fe×Bool:=if decide (fieldE (fR n)=0)&&(fieldN (fR n)).beq n then(fR n,true) else(⟨[],[]⟩,false)
theorem fN {f:Fe}:fieldE f=0↔fnOk f=true:=by
 unfold fieldE
 cases fnOk f<;>simp
theorem gE {n:Nd}(h:foOk n=true):fnOk (fR n)=true∧fieldN (fR n)=n∧fR n=⟨(cOid (kd n 0)).1,(kd n 1).kids.map (·.wr.1)⟩:=by
 simp only [foOk,Bool.and_eq_true,aj] at h
 obtain⟨⟨⟨⟨⟨⟨⟨h1,h2⟩,h3⟩,h4⟩,h5⟩,h6⟩,h7⟩,h8⟩:=h
 simp only [isSeqB,Bool.and_eq_true,aj] at h2
 obtain⟨⟨⟨⟨c1,c2⟩,c3⟩,c4⟩,c5⟩:=h2
 obtain⟨k0,s,hk⟩:∃ a b,n.kids=[a,b]:=by
  match hh:n.kids,c4,c5 with
  |[],c4,_=>simp at c4
  |[_],c4,_=>simp at c4
  |[a,b],_,_=>exact⟨a,b,rfl⟩
  |_::_::_::_,_,c5=>simp at c5;omega
 obtain⟨e0,e1⟩:=kd_kids hk
 rw [e0] at h3 ⊢
 rw [e1] at h4 h5 h6 h7 h8 ⊢
 have hb:=(iv h1 c1 c2 bJ).2
 obtain⟨c,t,k,b,ks⟩:=n
 simp only [nd1,nd2,nd3,nd4,nd5] at *
 subst c1 c2 c3 hk hb
 rw [gx] at h1
 simp only [List.all_cons,List.all_nil,Bool.and_true,Bool.and_eq_true] at h1
 unfold cOid at h3
 split at h3
 ·rename_i hc
  rw [Bool.and_eq_true,aj,aj] at hc
  obtain⟨o1,o2,_⟩:=kI h1.1 hc.1 hc.2 bJ
  obtain⟨txt,ht⟩:=Option.isSome_iff_exists.1 h3
  have hrt:=oid_rt ht
  have hkall:∀ k∈s.kids,k.put=some k.wr.1∧k.wr.2=0∧(k.rk:Int)≤20:=fun k hk=>by
   have:=List.all_eq_true.1 h8 k hk
   simp only [fldK,Bool.and_eq_true,aj] at this
   exact⟨wr_put this.1,this⟩
  have hmap:s.kids.map (fun k=>k.put.getD [])=s.kids.map (·.wr.1):=List.map_congr_left fun k hk=>by rw [(hkall k hk).1];rfl
  have hfr:fR (.mk 0 16 true [] [k0,s])=⟨txt,s.kids.map (·.wr.1)⟩:=by
   simp only [fR,kd,nd5,List.getD_cons_zero,List.getD_cons_succ,ht,Option.getD_some]
   rw [aJ z2_,hmap]
  have hset:=(iv h1.2 h4 h5 bJ)
  have hback:(s.kids.map (·.wr.1)).map (fun v=>(rdTop v).1)=s.kids:=by
   rw [List.map_map]
   conv=>rhs;rw [← List.map_id s.kids]
   refine List.map_congr_left fun k hk=>?_
   show(rdTop k.wr.1).1=k
   rw [lH (hkall k hk).2.1]
  have hs2:s=.mk 0 17 true [] s.kids:=by
   obtain⟨c,t,k,b,ks⟩:=s
   simp only [nd1,nd2,nd3,nd4,nd5] at *
   obtain⟨q1,q2⟩:=hset
   subst h4 h5 q1 q2;rfl
  have hord:ordB (s.kids.map (·.wr.1))=true:=by
   have h9:=h1.2
   rw [hs2,lM,Bool.and_eq_true] at h9
   rw [← hmap];exact h9.2
  have hok:fnOk ⟨txt,s.kids.map (·.wr.1)⟩=true:=by
   simp only [fnOk,hrt,Option.isSome_some,aK,Bool.true_and,Bool.and_eq_true,aj,hord,and_true]
   refine⟨⟨h6,h7⟩,List.all_eq_true.2 fun v hv=>?_⟩
   obtain⟨k,hk,rfl⟩:=List.mem_map.1 hv
   simp only [fldV,lH (hkall k hk).2.1,Bool.and_eq_true,aj]
   exact⟨trivial,(hkall k hk).2.2⟩
  rw [hfr]
  refine⟨hok,?_,?_⟩
  ·unfold fieldN
   rw [if_pos hok]
   unfold setN oiN
   rw [hback,← hs2,hrt]
   obtain⟨c,t,k,b,ks⟩:=k0
   simp only [nd1,nd2,nd3,nd4,nd5] at *
   obtain⟨q1,q2⟩:=hc
   subst q1 q2 o1 o2;rfl
  ·unfold cOid
   rw [if_pos (by simp [hc]),ht];rfl
 ·cases h3
theorem sf {n:Nd}(h1:fnOk (fR n)=true) (h2:fieldN (fR n)=n):foOk n=true:=by
 have hn:=h2
 unfold fieldN at hn
 rw [if_pos h1] at hn
 have hf:=h1
 simp only [fnOk,Bool.and_eq_true,aj] at hf
 obtain⟨⟨⟨⟨g1,g2⟩,g3⟩,g4⟩,g5⟩:=hf
 have hv:∀ v∈(fR n).vals,(rdTop v).1.wr=(v,0)∧((rdTop v).1.rk:Int)≤20:=fun v hv=>by
  have:=List.all_eq_true.1 g4 v hv
  simp only [fldV,Bool.and_eq_true,aj] at this
  exact⟨rd_wr this.1,this.2⟩
 generalize fR n=f at *
 have e0:kd n 0=oiN f.oid:=by rw [← hn];rfl
 have e1:kd n 1=setN f:=by rw [← hn];rfl
 have hset:(setN f).put.isSome=true:=by
  unfold setN
  rw [lM,Bool.and_eq_true]
  have hp:∀ v∈f.vals,(rdTop v).1.put=some v:=fun v hh=>by have:=hv v hh;rw [wr_put (by rw [this.1]),this.1]
  refine⟨List.all_eq_true.2 fun k hk=>?_,?_⟩
  ·obtain⟨v,hvm,rfl⟩:=List.mem_map.1 hk;rw [hp v hvm];rfl
  ·rw [List.map_map]
   have:f.vals.map ((fun k:Nd=>k.put.getD [])∘fun v=>(rdTop v).1)=f.vals:=by
    conv=>rhs;rw [← List.map_id f.vals]
    exact List.map_congr_left fun v hh=>by show((rdTop v).1.put).getD []=v;rw [hp v hh];rfl
   rw [this];exact g5
 have hput:n.put.isSome=true:=by rw [← hn,gx];simp [lU g1,hset]
 have hoid:(cOid (oiN f.oid)).2=true:=by
  obtain⟨b,hb⟩:=Option.isSome_iff_exists.1 g1
  have:=oid_tr hb
  simp [cOid,oiN,nd1,nd2,nd4,hb,this]
 have hseq:isSeqB n 2 2=true:=by rw [← hn];simp [isSeqB,nd1,nd2,nd3,nd5]
 simp only [foOk,e0,e1,hput,hseq,hoid,Bool.true_and,Bool.and_eq_true,aj]
 refine⟨⟨⟨⟨rfl,rfl⟩,?_⟩,?_⟩,List.all_eq_true.2 fun k hk=>?_⟩
 ·simpa [setN,nd5] using g2
 ·simpa [setN,nd5] using g3
 ·simp only [setN,nd5] at hk
  obtain⟨v,hvm,rfl⟩:=List.mem_map.1 hk
  have:=hv v hvm
  simp only [fldK,this.1,Bool.and_eq_true,aj]
  exact⟨trivial,this.2⟩
theorem se (n:Nd):fieldOf n=fieldOfR n:=by
 unfold fieldOf fieldOfR
 by_cases h:foOk n=true
 ·obtain⟨h1,h2,h3⟩:=gE h
  rw [if_pos h,if_pos (by rw [an (fN.2 h1),h2,Bool.true_and];exact(Nd.beq_eq _ n n (aD _)).2 rfl),h3]
 ·rw [if_neg h,if_neg]
  intro hh
  rw [Bool.and_eq_true,aj,fN] at hh
  exact h (sf hh.1 ((Nd.beq_eq _ _ n (aD _)).1 hh.2))
end
section
def arV (P:Program) (T:Nat):Option Nat :=
 match P.underlying T with
 |some (.array n e)=>match aggT P e with
  |some none=>some n
  |_=>none
 |_=>none
theorem RunV.indexV {f:Fr}{S:Sig}{h:Part}{L:List Ent}{T ty:TypeId}{xo yo:Operand}{cs:List Value}{len m:Nat}{k:IntKind}{i:Int}{v:Value}(hT:arV f.P T=some len) (hx:ev S xo=some (.agg cs.toArray)) (hy:ev S yo=some (.int k i)) (hi:i=(m:Int)) (h1:m<len) (hv:cs[m]?=some v) :
 RunV f S h L (.index T xo yo) ty v:=fun a w s _ _ _ _=>by
 subst hi
 unfold arV at hT
 split at hT<;>try cases hT
 rename_i n e hu
 split at hT<;>cases hT
 rename_i ha
 have h0:(0:Int)≤m:=by omega
 have h2:=ee ha w
 have h3:cs.toArray[m]?=some v:=by simpa using hv
 simp only [execOp,s.eval hx,s.eval hy,Instr.index,asIntOf,Sem.run_bind,Result.andThen,run_underlying hu,Sem.run_pure,part,h2]
 simp [h0,h1,h2,hv,part,Result.andThen]
theorem nE:∀ (vs A Z:List Value),Z.length=vs.length→fill1 (A++Z) (partsV A.length vs)=A++vs
 |[],A,Z,h=>by
  obtain rfl:=List.eq_nil_of_length_eq_zero h
  rfl
 |v::r,A,[],h=>by cases h
 |v::r,A,z::Z,h=>by
  simp only [partsV,fill1]
  have e:(A++z::Z).set A.length v=(A++[v])++Z:=by simp
  have ih:=nE r (A++[v]) Z (by simpa using h)
  rw [e]
  simpa using ih
def allI:List D→Bool
 |[]=>true
 |.v (.int _ _)::r=>allI r
 |_=>false
theorem allI_ok {h:Part}:∀ {ds:List D}{vs:List Value},allI ds=true→DenT ds h vs→DenL ds h vs∧vs.all (·.oneCell')=true
 |[],vs,_,k=>by unfold DenT at k;subst k;exact⟨by unfold DenL;rfl,rfl⟩
 |.v (.int kk i)::r,vs,e,k=>by
  unfold DenT at k
  obtain⟨v,t,rfl,h1,h2⟩:=k
  obtain⟨h3,h4⟩:=allI_ok (ds:=r) e h2
  have hv:=d9.1 h1
  subst hv
  exact⟨by unfold DenL;exact⟨_,t,rfl,rfl,h1,h3⟩,by simpa [Value.oneCell'] using h4⟩
section
variable {P:Program} [Tb P] {F:Fd}{a:List (Nat×A)}{o:List (Nat×OE)}{ops:Array Oper}{d T:Nat}{ty:TypeId}{pos:String}{af:Array Edge}{g:Option (Nat×Bool)}{xo yo:Operand}
theorem St1.bAr {ps:Array (Nat×Operand)}{ds:List D}{zs:List Value}(hT:arZ P T=some (zs,1)) (hp:evsA a 0 ps.toList=some ds) (ha:allI ds=true) (hl:Nat.beq zs.length ds.length=true) (hg:gdB ops a g=some true) (hd:Nat.blt d F.m=true) :
 St1 P F ops a o ⟨some d,.build T ps,ty,pos,af,g⟩ d (.d (.st ds)):=.run hg hd fun ρ h S L cz=>by
 obtain⟨vs,h1,h2⟩:=gF cz hp
 obtain⟨h3,h4⟩:=allI_ok ha h2
 have h5:=h2.len
 have h6:zs.length=vs.length:=by have:=ah hl;omega
 obtain⟨ps⟩:=ps
 have key:∀ (vs:List Value) (k n:Nat),vs.all (·.oneCell')=true→k+vs.length≤n→((partsV k vs).all fun p=>p.2.oneCell'&&Nat.blt p.1 n)=true:=by
  intro vs
  induction vs with
  |nil=>intro k n _ _;rfl
  |cons v r ih =>
   intro k n hv hk
   simp only [List.all_cons,Bool.and_eq_true,aA] at hv hk
   simp only [partsV,List.all_cons,Bool.and_eq_true]
   exact⟨⟨hv.1,by simp;omega⟩,ih (k+1) n hv.2 z2_⟩
 have h7:=nE vs [] zs h6
 simp only [List.nil_append,bh] at h7
 exact⟨_,RunV.buildArr hT h1 (key vs 0 _ h4 z2_) h7,(df (h:=h)).2 ⟨_,rfl,h3⟩⟩
theorem r7 {h:Part}:∀ {ds:List D}{vs:List Value}{m:Nat}{d:D},DenL ds h vs→nthG ds m=some d→∃ v,vs[m]?=some v∧Den d h v
 |[],vs,m,d,_,e=>by cases m<;>cases e
 |y::r,vs,0,d,k,e=>by
  unfold DenL at k
  obtain⟨v,t,rfl,h1,h2,h3⟩:=k
  simp only [nthG,ay] at e
  subst e
  exact⟨v,rfl,h2⟩
 |y::r,vs,m+1,d,k,e=>by
  unfold DenL at k
  obtain⟨v,t,rfl,h1,h2,h3⟩:=k
  obtain⟨v',h4,h5⟩:=r7 (m:=m) h3 e
  exact⟨v',by simpa using h4,h5⟩
theorem St1.ixAr {l:List D}{kk:IntKind}{i:Int}{len:Nat}{d':D}(m:Nat) (hT:arV P T=some len) (hx:evA a xo=some (.d (.st l))) (hy:evA a yo=some (.d (.v (.int kk i)))) (hi:i=(m:Int)) (hm:Nat.blt m len=true) (hn:nthG l m=some d') (hg:gdB ops a g=some true) (hd:Nat.blt d F.m=true) :
 St1 P F ops a o ⟨some d,.index T xo yo,ty,pos,af,g⟩ d (.d d'):=.run hg hd fun ρ h S L cz=>by
 obtain⟨v,h1,h2⟩:=cd cz hx
 obtain⟨cs,rfl,h3⟩:=(df (h:=h)).1 h2
 obtain⟨w,h4,h5⟩:=r7 h3 hn
 exact⟨w,RunV.indexV hT h1 (dt cz hy) hi (by simpa using hm) h4,h5⟩
end
end
section
end
end Go.Proofs.YtcnacdlfmbigaaaGreatDoor
