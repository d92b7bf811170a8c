/- Parts. -/
import Derived.Test.YtojokloclmcloaaGreatDoorQ3
set_option maxRecDepth 100000
set_option linter.unusedSimpArgs false
set_option linter.unusedVariables false
set_option linter.constructorNameAsVariable false
namespace Go.Proofs.YtojokloclmcloaaGreatDoor
open Go.Proofs.Tryz
open Go Go.RowKit
theorem z18_ {p:Prop}(u:p:=by repeat (first|exact trivial|refine⟨rfl,?_⟩|refine⟨(by exact cV (by first|exact decide_eq_decide.2 (by unfold atOk;omega)|exact(au (by unfold atOk;omega)).symm|exact(aj (by unfold atOk;omega)).symm|(rw [<- decide_not];exact decide_eq_decide.2 (by unfold atOk;omega)))),?_⟩)):p:=u
theorem sQ {p:Prop}(u:p:=by unfold daysI monthI;rw [hlp];congr 1;simp only [if_true,c_,if_false];(repeat' split)<;>omega):p:=u
theorem uX {p:Prop}(u:p:=by simp only [bz,bC];omega):p:=u
theorem iF:callT prog 220=true:=by kernel_rfl
theorem uE:callT prog 221=true:=by kernel_rfl
theorem ca_252:callT prog 252=true:=by kernel_rfl
theorem ca_270:callT prog 270=true:=by kernel_rfl
def daysI (y m:Int):Int:=if m=0 then(if leapB y then 366 else 365) else monthI y m
theorem qg (y:Int):leapB y=decide (y % 4=0/\y % 100≠0\/y % 400=0):=by
 unfold leapB;rw [<- Bool.decide_or,<- Bool.decide_and];exact decide_eq_decide.2 z2_
theorem oW (y m:Int) (h:Part) (h0:0<=y):Pure prog 270 [.int .i64 y,.int .i64 m] h (.int .i64 (daysI y m)):=by
 have hlp:=qg y;refine aM func270 U ntmps270 U (λe he=>?_);refine bg [(0,_),(1,_)] ⟨U,U,trivial⟩ ?_;refine Sr (Ru 1 U (a_ (Sr (Ru 1 U (a_ (az (az (cJ [(18,.bool (decide (y % 4=0/\y % 100≠0\/y % 400=0)))] [(5,_),(4,_),(1,_)] ⟨U,U,U,trivial⟩ ?_ ?_))))))))
 ·refine Rg (Ru 1 U (ah uY U ?_));refine Ru 2 U (Bs 9 U (λhc1=>?_) λhc1=>?_)
  ·refine Ru 1 U (aQ U U  uY U ?_);refine Ru 3 U (Bs 14 U (λhc2=>?_) λhc2=>?_)
   ·refine Ru 4 U (a_ (⟨U,U,?_⟩));exact nu
   refine Ru 1 U (aQ U U  uY U ?_);refine Ru 2 U (a_ (⟨U,U,?_⟩));exact nu
  refine Ru 6 U (aQ U U  uY U ?_);refine Ru 2 U (a_ (⟨U,U,?_⟩));exact nu
 refine Cs U (λhc3=>?_) λhc3=>?_
 ·rw [aj hc3] at hlp;refine Rg (Ru 1 U (a_ ?_));refine az (Sr (Ru 1 U (a_ (aJ (Sr (Ru 2 U (Nk [20,19,5,4] U (Cs U (λhc4=>?_) λhc4=>?_))))))))
  ·refine Sr (Ru 1 U (ah ai_ U ?_));exact Ru 1 U (Nk [4] U (aH (ay U U) sQ U))
  refine Sr (Ru 2 U (a_ (Cs U (λhc5=>?_) λhc5=>?_)))
  ·refine Sr (Ru 1 U (ah ai_ U ?_));exact Ru 1 U (Nk [4] U (aH (ay U U) sQ U))
  refine az (Sr (Ru 2 U (Nk [28,19,4] U (Cs U (λhc6=>?_) λhc6=>?_))))
  ·exact aA (aY U (Sr (Ru 1 U (a_ (aH (ay U U) sQ U)))))
  refine Sr (Ru 2 U (a_ (Cs U (λhc7=>?_) λhc7=>?_)))
  ·exact aA (Kp [28,4] U (aY U (Sr (Ru 1 U (a_ (aH (ay U U) sQ U))))))
  refine Sr (Ru 2 U (Nk [28,19,4] U (Cs U (λhc8=>?_) λhc8=>?_)))
  ·exact aA (aY U (Sr (Ru 1 U (a_ (aH (ay U U) sQ U)))))
  refine Rg (Ru 2 U (a_ (Cs U (λhc9=>?_) λhc9=>?_)))
  ·exact Sr (Ru 1 U (Nk [4] U (aH (ay U U) sQ U)))
  exact aA (Kp [4] U (Sr (Ru 1 U (a_ (aH (ay U U) sQ U)))))
 rw [au hc3] at hlp;refine aA ?_;refine az (Sr (Ru 1 U (a_ (aJ (Sr (Ru 2 U (a_ (Cs U (λhc10=>?_) λhc10=>?_))))))))
 ·refine Sr (Ru 1 U (ah ai_ U ?_));exact Ru 1 U (Nk [4] U (aH (ay U U) sQ U))
 refine Sr (Ru 2 U (Nk [24,19,5,4] U (Cs U (λhc11=>?_) λhc11=>?_)))
 ·refine Sr (Ru 1 U (ah ai_ U ?_));exact Ru 1 U (Nk [4] U (aH (ay U U) sQ U))
 refine az (Sr (Ru 2 U (a_ (Cs U (λhc12=>?_) λhc12=>?_))))
 ·exact aA (Kp [28,4] U (aY U (Sr (Ru 1 U (a_ (aH (ay U U) sQ U))))))
 refine Sr (Ru 2 U (Nk [28,19,4] U (Cs U (λhc13=>?_) λhc13=>?_)))
 ·exact aA (aY U (Sr (Ru 1 U (a_ (aH (ay U U) sQ U)))))
 refine Sr (Ru 2 U (a_ (Cs U (λhc14=>?_) λhc14=>?_)))
 ·exact aA (Kp [28,4] U (aY U (Sr (Ru 1 U (a_ (aH (ay U U) sQ U))))))
 refine Rg (Ru 2 U (Nk [28,4] U (Cs U (λhc15=>?_) λhc15=>?_)))
 ·exact Sr (Ru 1 U (a_ (aH (ay U U) sQ U)))
 exact aA (Sr (Ru 1 U (a_ (aH (ay U U) sQ U))))
theorem uy (y m:Int):28<=daysI y m/\daysI y m<=366:=by
 have:=dR y m;unfold daysI;(repeat' split)<;>omega
def partI (s:LB):Int:=if s.all dig then numV s else -1
theorem fZ (s:LB) (h:Part) (hl:s.length<=18):Pure prog 220 [.string ⟨s.toArray⟩] h (.int .i64 (partI s)):=by
 refine aM func220 U ntmps220 U (λe he=>?_);refine bg [(0,_)] ⟨U,trivial⟩ ?_;refine Sr (Ru 1 U (a_ ?_));refine Sr (Ru 1 U (a_ (az (Sr (Ru 1 U (a_ (aJ (bM (λt_ S_ h_ L_=>∃ (i:Nat),t_=s.length-i/\S_=[(0,.string ⟨s.toArray⟩),(3,.int .i64 (numV (s.take i):Nat)),(4,.int .i64 i)]/\h=h_/\L_=[]/\(i<=s.length/\(s.take i).all dig=true/\numV (s.take i)<10 ^ i)) ⟨_,_,?_,⟨0,U,U,U,U,⟨by omega,by simp,by simp [numV]⟩⟩⟩ ?_))))))))
 ·exact z49_
 rintro _ _ _ _ ⟨i,rfl,rfl,rfl,rfl,hi,hd,hv⟩;refine az (Sr (Ru 2 U (ah (cD dC U) U ?_)));refine Ru 1 U (a_ (Cs U (λhc1=>?_) λhc1=>?_))
 ·have hi':i<s.length:=z2_;have hst:=jk s i hi';have hat:=pd s i hi';have hp:10 ^ i<=100000000000000000:=Nat.le_trans (Nat.pow_le_pow_right bT (show i<=17 by omega)) bT;have hbl:=cx s i;have hbi:byteAt s i=(s.getD i 0).toNat:=rfl;refine aA (az (aJ (az (Sr (Ru 2 U (ah (bH (m:=i) dC U U z2_ z2_) U ?_))))));refine ah lH U ?_;refine bh fI U (d9 _ _ _ _) U ?_;refine Ru 1 U (a_ (Cs U (λhc3=>?_) λhc3=>?_))
  ·have hnr:partI s=-1:=(by have hb:s.all dig=false:=(by rw [List.all_eq_false];exact⟨s[i],aF _,by have e:=bY s i hi';unfold dig;rw [au z2_];decide⟩);unfold partI;rw [hb];rfl);exact Sr (Ru 1 U (a_ (aH (ay U U) (by rw [hnr]) U)))
  refine aA (Rg (Ru 1 U (ah jM U ?_)));refine Ru 2 U (ah (bH (m:=i) dC U U z2_ z2_) U ?_);refine ah (by first|exact RunV.sub_u8 rfl rfl z2_ z2_|exact dW rfl rfl) U ?_;refine ah lH U ?_;refine ah ai_ U ?_;refine Ru 1 U (a_ (Rg (Ru 1 U (ah ai_ U ?_))));refine Ru 1 U (a_ (⟨_,?_,_,?_,⟨i+1,U,U,U,U,⟨by omega,by rw [hat,hd,aj z2_];rfl,by rw [hst,Nat.pow_succ];omega⟩⟩⟩))
  ·omega
  exact z49_
 have hie:s.take i=s:=aS z2_;rw [hie] at hd hv |-;have hnr:partI s=numV s:=if_pos hd
 exact bA (Kp [3] U (Sr (Ru 2 U (a_ (aH (ay U U) (by rw [hnr]) U)))))
theorem iA (s:LB) (i n j:Nat) (h:j<n):byteAt ((s.drop i).take n) j=byteAt s (i+j):=by
 unfold byteAt;simp only [bi];rw [List.getElem?_take,if_pos h,List.getElem?_drop]
theorem part2 (l:LB) (h:l.length=2):partI l=if 48<=byteAt l 0/\byteAt l 0<=57/\48<=byteAt l 1/\byteAt l 1<=57 then(byteAt l 0-48:Int)*10+(byteAt l 1-48) else -1:=by
 match l,h with
 |[a,b],_ =>
  have ha:byteAt [a,b] 0=a.toNat:=rfl;have hb:byteAt [a,b] 1=b.toNat:=rfl;rw [ha,hb];unfold partI numV dig;simp only [List.all_cons,List.all_nil,Bool.and_true,List.foldl_cons,List.foldl_nil,Bool.and_eq_true,ax];split
  ·rw [if_pos z2_];omega
  ·rw [if_neg z2_]
theorem part4 (l:LB) (h:l.length=4):partI l=if(48<=byteAt l 0/\byteAt l 0<=57/\48<=byteAt l 1/\byteAt l 1<=57)/\48<=byteAt l 2/\byteAt l 2<=57/\48<=byteAt l 3/\byteAt l 3<=57 then((byteAt l 0-48:Int)*10+(byteAt l 1-48))*100+((byteAt l 2-48:Int)*10+(byteAt l 3-48)) else -1:=by
 match l,h with
 |[a,b,c,d],_ =>
  have ha:byteAt [a,b,c,d] 0=a.toNat:=rfl;have hb:byteAt [a,b,c,d] 1=b.toNat:=rfl;have hc:byteAt [a,b,c,d] 2=c.toNat:=rfl;have hd:byteAt [a,b,c,d] 3=d.toNat:=rfl;rw [ha,hb,hc,hd];unfold partI numV dig;simp only [List.all_cons,List.all_nil,Bool.and_true,List.foldl_cons,List.foldl_nil,Bool.and_eq_true,ax];split
  ·rw [if_pos z2_];omega
  ·rw [if_neg z2_]
theorem ii (s:LB) (i:Nat) (h:i+1<s.length):partI ((s.drop i).take 2)=if 0<=twoI s i then twoI s i else -1:=by
 rw [part2 _ (by simp;omega),iA s i 2 0 bT,iA s i 2 1 bT];unfold twoI;rw [Nat.add_zero]
 (repeat' split)<;>omega
theorem part_four (s:LB) (h:4<=s.length):(partI (s.take 4)=twoI s 0*100+twoI s 2/\0<=twoI s 0*100+twoI s 2/\twoI s 0*100+twoI s 2<=9999)\/partI (s.take 4)=-1/\twoI s 0*100+twoI s 2<0:=by
 have e:=part4 (s.take 4) (by simp;omega);have hb:=λj hj=>iA s 0 4 j hj;rw [List.drop_zero] at hb;rw [hb 0 bT,hb 1 bT,hb 2 bT,hb 3 bT] at e;simp only [Nat.zero_add] at e;have h2:=e_ s 0;have h3:=e_ s 2;unfold twoI at *;rw [e];simp only [Nat.zero_add,Nat.reduceAdd] at *
 (repeat' split)<;>omega
def atOk (y m d hh mi s:Int):Prop:=0<=y/\y<=9999/\1<=m/\m<=12/\1<=d/\d<=monthI y m/\0<=hh/\hh<=23/\0<=mi/\mi<=59/\0<=s/\s<=59
instance (y m d hh mi s:Int):Decidable (atOk y m d hh mi s):=by unfold atOk;infer_instance
def atT (y m d hh mi s:Int):Int:=-62167219200+(beforeI y+(d-1)+mdays y (m.toNat-1))*86400+(hh*3600+mi*60+s)
theorem bef_400 (y:Int) (h:0<=y):beforeI (y+400)=beforeI y+146097:=by unfold beforeI;(repeat' split)<;>omega
theorem bef_1 (y:Int) (h:0<=y):beforeI (y+1)=beforeI y+daysI y 0:=by
 have:=qg y;unfold beforeI daysI;rw [if_pos U,this];simp only [ax]
 (repeat' split)<;>omega
theorem at_fn (y m d hh mi s:Int) (h:Part):Pure prog 252 [.int .i64 y,.int .i64 m,.int .i64 d,.int .i64 hh,.int .i64 mi,.int .i64 s] h (.tuple #[.int .i64 (if atOk y m d hh mi s then atT y m d hh mi s else 0),.bool (decide (atOk y m d hh mi s))]):=by
 have hmb:=dR y m;have hdm:1<=m->daysI y m=monthI y m:=λhm=>if_neg z2_;refine aM func252 U ntmps252 U (λe he=>?_);refine bg [(0,_),(1,_),(2,_),(3,_),(4,_),(5,_)] ⟨U,U,U,U,U,U,trivial⟩ ?_;refine Sr (Ru 2 U (a_ (az (az (cJ [(50,.bool (decide (¬ atOk y m d hh mi s)))] [(13,_),(12,_),(0,_),(1,_),(2,_),(3,_),(4,_),(5,_)] ⟨U,U,U,U,U,U,U,U,trivial⟩ ?_ ?_)))))
 ·refine Rg (Ru 1 U (bh fI U (d9 _ _ _ _) U ?_));refine Ru 2 U (Bs 20 U (λhc2=>?_) λhc2=>?_)
  ·refine Ru 30 U (a_ (⟨U,U,?_⟩));exact z18_
  refine Ru 1 U (cG U U  fI U (d9 _ _ _ _) U ?_);refine Ru 3 U (Bs 25 U (λhc4=>?_) λhc4=>?_)
  ·refine Ru 25 U (a_ (⟨U,U,?_⟩));exact z18_
  refine Ru 4 U (Bs 29 U (λhc5=>?_) λhc5=>?_)
  ·refine Ru 21 U (a_ (⟨U,U,?_⟩));exact z18_
  refine Ru 3 U (cG U U  ca_270 U (oW _ _ _ z2_) U ?_);refine Ru 3 U (Bs 36 U (λhc7=>?_) λhc7=>?_)
  ·refine Ru 14 U (a_ (⟨U,U,?_⟩));exact z18_
  refine Ru 1 U (cG U U  fI U (d9 _ _ _ _) U ?_);refine Ru 3 U (Bs 41 U (λhc9=>?_) λhc9=>?_)
  ·refine Ru 9 U (a_ (⟨U,U,?_⟩));exact z18_
  refine Ru 1 U (cG U U  fI U (d9 _ _ _ _) U ?_);refine Ru 3 U (Bs 46 U (λhc11=>?_) λhc11=>?_)
  ·refine Ru 4 U (a_ (⟨U,U,?_⟩));exact z18_
  refine Ru 1 U (cG U U  fI U (d9 _ _ _ _) U ?_);refine Ru 2 U (a_ (⟨U,U,?_⟩));exact z18_
 refine Cs U (λhc13=>?_) λhc13=>?_
 ·have hff:=hc13;exact Sr (Ru 2 U (a_ (aH (b_ U U U) (by rw [if_neg hff,au hff]) U)))
 have hok:atOk y m d hh mi s:=(by first|exact hc13|exact Classical.not_not.1 hc13);obtain⟨y0,y1,m0,m1,d0,d1,h0,h1,mi0,mi1,s0,s1⟩:=hok;refine aA (Sr (Ru 1 U (ah si_ U ?_)));refine Ru 1 U (Nk [14,13,12,0,1,3,4,5] U (az (Sr (Ru 1 U (a_ (aJ (bM (λt_ S_ h_ L_=>∃ (k:Nat),t_=13-k/\S_=[(0,.int .i64 y),(1,.int .i64 m),(3,.int .i64 hh),(4,.int .i64 mi),(5,.int .i64 s),(14,.int .i64 (d-1+mdays y k)),(15,.int .i64 (k+1:Nat))]/\h=h_/\L_=[]/\(k<m)) ⟨_,_,?_,⟨0,U,U,U,U,by omega⟩⟩ ?_)))))))
 ·repeat (first|exact trivial|refine⟨rfl,?_⟩|refine⟨(by exact cQ (by first|(simp only [mdays];omega)|(simp only [mdays];simp;done)|(simp [mdays]<;>omega))),?_⟩)
 rintro _ _ _ _ ⟨k,rfl,rfl,rfl,rfl,hk⟩;have hmd:=ox y k;have hmb2:=dR y ((k:Int)+1);have hdk:daysI y ((k+1:Nat):Int)=monthI y ((k:Int)+1):=(by rw [show((k+1:Nat):Int)=(k:Int)+1 by omega];exact if_neg z2_);refine az (Sr (Ru 3 U (a_ (Cs U (λhc14=>?_) λhc14=>?_))))
 ·refine aA (az (aJ (Rg (Ru 3 U (bh ca_270 U (oW _ _ _ z2_) U ?_)))));refine ah ai_ U ?_;refine Ru 1 U (a_ (Rg (Ru 1 U (ah ai_ U ?_))));refine Ru 1 U (a_ (⟨_,?_,_,?_,⟨k+1,U,U,U,U,by omega⟩⟩))
  ·omega
  repeat (first|exact trivial|refine⟨rfl,?_⟩|refine⟨(by exact cQ (by first|(simp only [mdays];omega)|(simp only [mdays];simp;done)|(simp [mdays]<;>omega))),?_⟩)
 have hkm:k=m.toNat-1:=z2_;rw [hkm] at *;have hmd2:=ox y (m.toNat-1);refine bA (Kp [0,3,4,5,14] U (az (aJ (bM (λt_ S_ h_ L_=>∃ (q:Nat),t_=26-q/\S_=[(0,.int .i64 (y-400*q)),(3,.int .i64 hh),(4,.int .i64 mi),(5,.int .i64 s),(14,.int .i64 (d-1+mdays y (m.toNat-1)+146097*q))]/\h=h_/\L_=[]/\(400*q<=y/\beforeI y=beforeI (y-400*q)+146097*q)) ⟨_,_,?_,⟨0,U,U,U,U,⟨by omega,by simp⟩⟩⟩ ?_))))
 ·exact g7
 rintro _ _ _ _ ⟨q,rfl,rfl,rfl,rfl,hq,hbq⟩;refine az (Sr (Ru 2 U (a_ (Cs U (λhc16=>?_) λhc16=>?_))))
 ·refine aA (aJ (Sr (Ru 1 U (ah si_ U ?_))));refine Ru 1 U (a_ (Rg (Ru 1 U (ah ai_ U ?_))));refine Ru 1 U (a_ (⟨_,?_,_,?_,⟨q+1,U,U,U,U,⟨by omega,by rw [hbq];have:=bef_400 (y-400*(q+1:Nat)) z2_;rw [show y-400*(q+1:Nat)+400=y-400*q by omega] at this;omega⟩⟩⟩))
  ·omega
  exact g7
 refine bA (az (Sr (Ru 1 U (a_ (aJ (bM (λt_ S_ h_ L_=>∃ (z:Nat),t_=400-z/\S_=[(0,.int .i64 (y-400*q)),(3,.int .i64 hh),(4,.int .i64 mi),(5,.int .i64 s),(14,.int .i64 (d-1+mdays y (m.toNat-1)+146097*q+beforeI z)),(16,.int .i64 z)]/\h=h_/\L_=[]/\(z<=y-400*q)) ⟨_,_,?_,⟨0,U,U,U,U,by omega⟩⟩ ?_))))))
 ·repeat (first|exact trivial|refine⟨rfl,?_⟩|refine⟨(by exact cQ (by first|omega|(have:=bef_1 z z2_;rw [show((z:Int)+1)=(z+1:Nat) by omega] at this;omega)|(simp [beforeI];done))),?_⟩)
 rintro _ _ _ _ ⟨z,rfl,rfl,rfl,rfl,hz⟩;have hbb:=iB z z2_ z2_;have hdb:=uy z 0;refine az (Sr (Ru 3 U (a_ (Cs U (λhc17=>?_) λhc17=>?_))))
 ·refine aA (az (aJ (Rg (Ru 2 U (bh ca_270 U (oW _ _ _ z2_) U ?_)))));refine ah ai_ U ?_;refine Ru 1 U (a_ (Rg (Ru 1 U (ah ai_ U ?_))));refine Ru 1 U (a_ (⟨_,?_,_,?_,⟨z+1,U,U,U,U,by omega⟩⟩))
  ·omega
  repeat (first|exact trivial|refine⟨rfl,?_⟩|refine⟨(by exact cQ (by first|omega|(have:=bef_1 z z2_;rw [show((z:Int)+1)=(z+1:Nat) by omega] at this;omega)|(simp [beforeI];done))),?_⟩)
 have hzy:(z:Int)=y-400*q:=z2_;have hbz:beforeI y=beforeI z+146097*q:=(by rw [hzy];exact hbq);refine bA (Kp [3,4,5,14] U (Sr (Ru 1 U (ah jM U ?_))));refine ah ai_ U ?_;refine Ru 1 U (ah jM U ?_);refine Ru 1 U (ah jM U ?_);refine ah ai_ U ?_;refine Ru 1 U (ah ai_ U ?_);refine ah ai_ U ?_;exact Ru 2 U (Nk [13,12] U (aH (b_ U U U) (by rw [if_pos ⟨y0,y1,m0,m1,d0,d1,h0,h1,mi0,mi1,s0,s1⟩,aj ⟨y0,y1,m0,m1,d0,d1,h0,h1,mi0,mi1,s0,s1⟩];unfold atT;congr 3;congr 1;congr 1;omega) U))
theorem momOk_at (y:Int) (s:LB) (h:s.length=10) (hy:y<=9999):momOk y s=decide (atOk y (partI ((s.drop 0).take 2)) (partI ((s.drop 2).take 2)) (partI ((s.drop 4).take 2)) (partI ((s.drop 6).take 2)) (partI ((s.drop 8).take 2))) /\
 (momOk y s=true->momT y s=atT y (partI ((s.drop 0).take 2)) (partI ((s.drop 2).take 2)) (partI ((s.drop 4).take 2)) (partI ((s.drop 6).take 2)) (partI ((s.drop 8).take 2))):=by
 rw [ii s 0 z2_,ii s 2 z2_,ii s 4 z2_,ii s 6 z2_,ii s 8 z2_];have w0:=e_ s 0;have w2:=e_ s 2;have w4:=e_ s 4;have w6:=e_ s 6;have w8:=e_ s 8;by_cases c0:0<=twoI s 0
 ·by_cases c2:0<=twoI s 2
  ·by_cases c4:0<=twoI s 4
   ·by_cases c6:0<=twoI s 6
    ·by_cases c8:0<=twoI s 8
     ·rw [if_pos c0,if_pos c2,if_pos c4,if_pos c6,if_pos c8];refine⟨?_,λ_=>rfl⟩;unfold momOk atOk;exact decide_eq_decide.2 z2_
     ·have hf:momOk y s=false:=au z2_;rw [hf,if_neg c8];exact⟨(au (by unfold atOk;omega)).symm,λh=>by cases h⟩
    ·have hf:momOk y s=false:=au z2_;rw [hf,if_neg c6];exact⟨(au (by unfold atOk;omega)).symm,λh=>by cases h⟩
   ·have hf:momOk y s=false:=au z2_;rw [hf,if_neg c4];exact⟨(au (by unfold atOk;omega)).symm,λh=>by cases h⟩
  ·have hf:momOk y s=false:=au z2_;rw [hf,if_neg c2];exact⟨(au (by unfold atOk;omega)).symm,λh=>by cases h⟩
 ·have hf:momOk y s=false:=au z2_;rw [hf,if_neg c0];exact⟨(au (by unfold atOk;omega)).symm,λh=>by cases h⟩
theorem of_fn (y:Int) (s:LB) (h:Part) (hl:s.length=10) (hy:y<=9999):Pure prog 221 [.int .i64 y,.string ⟨s.toArray⟩] h (.tuple #[.int .i64 (momV y s),.bool (momOk y s)]):=by
 obtain⟨hm1,hm2⟩:=momOk_at y s hl hy;refine aM func221 U ntmps221 U (λe he=>?_);refine bg [(0,_),(1,_)] ⟨U,U,trivial⟩ ?_;refine Sr (Ru 2 U (a_ (az (de cM cP ?_))));refine Rq 2 U ?_;refine cq (cC dC U U U (show _=((0:Nat):Int) from rfl) (show _=((2:Nat):Int) from rfl) z2_ z2_) U ?_;refine dG iF U (fZ _ _ uX) U ?_;refine Rq 1 U ?_;refine cq (cC dC U U U (show _=((2:Nat):Int) from rfl) (show _=((4:Nat):Int) from rfl) z2_ z2_) U ?_;refine dG iF U (fZ _ _ uX) U ?_;refine Rq 1 U ?_;refine cq (cC dC U U U (show _=((4:Nat):Int) from rfl) (show _=((6:Nat):Int) from rfl) z2_ z2_) U ?_;refine dG iF U (fZ _ _ uX) U ?_;refine Rq 1 U ?_;refine cq (cC dC U U U (show _=((6:Nat):Int) from rfl) (show _=((8:Nat):Int) from rfl) z2_ z2_) U ?_;refine dG iF U (fZ _ _ uX) U ?_;refine Rq 1 U ?_;refine cq (cC dC U U U (show _=((8:Nat):Int) from rfl) (show _=((10:Nat):Int) from rfl) z2_ z2_) U ?_;refine dG iF U (fZ _ _ uX) U ?_;refine dG ca_252 U (at_fn _ _ _ _ _ _ _) U ?_;refine Rq 4 U ?_;refine Nq [5,4] U ?_;exact aH (b_ U U U) (by rw [momV,hm1];rw [hm1] at hm2;split;(rename_i hz;rw [if_pos (by simpa using hz),hm2 (by simpa using hz)]);(rename_i hz;rw [if_neg (by simpa using hz)])) U
theorem vm (s:LB) (h:Part) (h2:s.length<=140737488355328):Pure prog 166 [.string ⟨s.toArray⟩] h (.tuple #[.int .i64 (psT s),.int .i64 (if psOk s then 0 else 21)]):=by
 have w0:=e_ s 0;have hp2:2<=s.length->(0<=twoI s 0/\partI (s.take 2)=twoI s 0)\/(twoI s 0<0/\partI (s.take 2)=-1):=λhh=>by
  have:=ii s 0 z2_;rw [List.drop_zero] at this;split at this<;>omega
 refine aM func166 U ntmps166 U (λe he=>?_);refine bg [(0,_)] ⟨U,trivial⟩ ?_;refine Sr (Ru 2 U (a_ (az (az (cJ [(20,.bool (decide (¬ (s.length=13/\byteAt s 12=90/\0<=twoI s 0))))] [(3,_),(2,_),(0,_)] ⟨U,U,U,trivial⟩ ?_ ?_)))))
 ·refine Rg (Ru 1 U (ah (cD dC U) U ?_));refine Ru 2 U (Bs 10 U (λhc1=>?_) λhc1=>?_)
  ·refine Ru 10 U (a_ (⟨U,U,?_⟩));exact nu
  refine Ru 1 U (aQ U U  (bH (m:=12) dC U U U z2_) U ?_);refine Ru 3 U (Bs 15 U (λhc2=>?_) λhc2=>?_)
  ·refine Ru 5 U (a_ (⟨U,U,?_⟩));exact nu
  refine Ru 1 U (aQ U U  (RunV.strCut_h dC U U (show _=((2:Nat):Int) from rfl) z2_) U ?_);refine cG U U  iF U (fZ _ _ uX) U ?_;refine Ru 2 U (a_ (⟨U,U,?_⟩));exact nu
 refine Cs U (λhc4=>?_) λhc4=>?_
 ·have hm:psOk s=false:=(by unfold psOk;by_cases hz:s.length=13/\byteAt s 12=90;(have hy:psY s=twoI s 0:=if_neg z2_);rw [hy,show momOk (twoI s 0) ((s.drop 2).take 10)=false from au z2_,Bool.and_false];rw [au hz,Bool.false_and]);exact Sr (Ru 2 U (a_ (aH (b_ U U U) (by rw [psT,hm];rfl) U)))
 obtain⟨hl13,hz90,htw⟩:s.length=13/\byteAt s 12=90/\0<=twoI s 0:=z2_;have hp3:partI (s.take 2)=twoI s 0:=z2_;refine aA (Sr (Ru 1 U (ah (RunV.strCut_h dC U U (show _=((2:Nat):Int) from rfl) z2_) U ?_)));refine bh iF U (fZ _ _ uX) U ?_;rw [hp3];refine ah ai_ U ?_;refine Ru 1 U (Nk [4,3,2,0] U (az (Sr (Ru 2 U (a_ (Cs U (λhc6=>?_) λhc6=>?_))))))
 ·have hy:psY s=twoI s 0+1900+100:=(by unfold psY;rw [if_pos z2_,if_pos z2_]);refine Rg (Ru 1 U (ah ai_ U ?_));refine Ru 1 U (Nk [4,3,2,0] U (Sr ?_));rw [show 1900+twoI s 0=twoI s 0+1900 by omega];rw [<- hy];have hps:psOk s=momOk (psY s) ((s.drop 2).take 10):=(by unfold psOk;rw [aj ⟨hl13,hz90⟩,Bool.true_and]);refine Ru 2 U (ah (cC dC U U U (show _=((2:Nat):Int) from rfl) (show _=((12:Nat):Int) from rfl) z2_ z2_) U ?_);refine bh uE U (of_fn _ _ _ uX z2_) U ?_;refine Ru 5 U (Nk [6,5,3,2] U (az (Sr (Ru 2 U (a_ (Cs U (λhc8=>?_) λhc8=>?_))))))
  ·exact Sr (Ru 2 U (Nk [3,2,5] U (aH (b_ U U U) (by rw [psT,hps,hc8];rfl) U)))
  exact aA (Sr (Ru 3 U (Nk [3,2] U (aH (b_ U U U) (by simp [psT,hps,momV,hc8]) U))))
 have hy:psY s=twoI s 0+1900:=(by unfold psY;rw [if_pos z2_,if_neg z2_]);refine aA (Sr ?_);rw [show 1900+twoI s 0=twoI s 0+1900 by omega];rw [<- hy];have hps:psOk s=momOk (psY s) ((s.drop 2).take 10):=(by unfold psOk;rw [aj ⟨hl13,hz90⟩,Bool.true_and]);refine Ru 2 U (ah (cC dC U U U (show _=((2:Nat):Int) from rfl) (show _=((12:Nat):Int) from rfl) z2_ z2_) U ?_);refine bh uE U (of_fn _ _ _ uX z2_) U ?_;refine Ru 5 U (Nk [6,5,3,2] U (az (Sr (Ru 2 U (a_ (Cs U (λhc10=>?_) λhc10=>?_))))))
 ·exact Sr (Ru 2 U (Nk [3,2,5] U (aH (b_ U U U) (by simp [psT,hps,momV,hc10]) U)))
 exact aA (Sr (Ru 3 U (Nk [3,2] U (aH (b_ U U U) (by simp [psT,hps,momV,hc10]) U))))
theorem tU (s g:LB) (hg:g.length=6) (hb:∀ k,k<6->byteAt g k=if 15+k+1<s.length then byteAt s (15+k) else 48):∀ k,k<=6->(g.take k).all dig=micOk s k/\(micOk s k=true->(numV (g.take k):Int)=micI s k)
 |0,_=>by simp [micOk,micI,numV]
 |k+1,hk=>by
  obtain⟨i1,i2⟩:=tU s g hg hb k z2_;have hbk:=hb k z2_;rw [pd g k z2_,jk g k z2_,i1];simp only [micOk,micI];by_cases hh:15+k+1<s.length
  ·rw [if_pos hh,if_pos hh];rw [if_pos hh] at hbk;rw [hbk];refine⟨U,λhz=>?_⟩;rw [Bool.and_eq_true] at hz;have:=i2 hz.1;have:=of_decide_eq_true hz.2;omega
  ·rw [if_neg hh,if_neg hh];rw [if_neg hh] at hbk;rw [hbk,aj z2_,Bool.and_true];exact⟨U,λhz=>by have:=i2 hz;omega⟩
theorem part_mic (s g:LB) (hg:g.length=6) (hb:∀ k,k<6->byteAt g k=if 15+k+1<s.length then byteAt s (15+k) else 48):(micOk s 6=true/\partI g=micI s 6/\0<=partI g)\/(micOk s 6=false/\partI g=-1):=by
 obtain⟨i1,i2⟩:=tU s g hg hb 6 (aL _);rw [aS z2_] at i1 i2;unfold partI;rw [i1];cases hm:micOk s 6 with
 |true=>left;rw [if_pos rfl];exact⟨U,i2 hm,by omega⟩
 |false=>right;exact⟨U,by simp⟩
theorem vT (l:LB) (n k:Nat) (h:k<l.length+n):byteAt (l++List.replicate n 48) k=if k<l.length then byteAt l k else 48:=by
 unfold byteAt;rw [bi,List.getElem?_append];split
 ·rw [bi]
 ·rw [List.getElem?_replicate,if_pos z2_];rfl
theorem pl_year {s:LB}{y:Int}{q:LB}(h:4<=s.length) (hy:y=partI (s.take 4)):momOk y q=momOk (twoI s 0*100+twoI s 2) q/\momV y q=momV (twoI s 0*100+twoI s 2) q/\y<=9999:=by
 rcases part_four s h with ⟨e1,e2,e3⟩|⟨e1,e2⟩
 ·rw [hy,e1];exact⟨U,U,e3⟩
 ·have f1:momOk y q=false:=au z2_;have f2:momOk (twoI s 0*100+twoI s 2) q=false:=au z2_;unfold momV;rw [f1,f2];exact⟨U,U,by omega⟩
theorem rplong_fn (s:LB) (h:Part) (h2:s.length<=140737488355328):Pure prog 167 [.string ⟨s.toArray⟩] h (.tuple #[.int .i64 (if plOk s then momT (twoI s 0*100+twoI s 2) ((s.drop 4).take 10) else 0),.int .i64 (if plOk s then plM s else 0),.int .i64 (if plOk s then 0 else 21)]):=by
 have e1:((s.length:Int)-1).toNat=s.length-1:=by omega
 have hbl:=cx s (s.length-1);refine aM func167 U ntmps167 U (λe he=>?_);refine bg [(0,_)] ⟨U,trivial⟩ ?_;refine Sr (Ru 3 U (a_ (az (az (cJ [(30,.bool (decide (¬ (15<=s.length/\s.length<=22/\byteAt s (s.length-1)=90/\s.length≠16))))] [(4,_),(3,_),(2,_),(0,_)] ⟨U,U,U,U,trivial⟩ ?_ ?_)))))
 ·refine Rg (Ru 1 U (ah (cD dC U) U ?_));refine Ru 2 U (Bs 13 U (λhc1=>?_) λhc1=>?_)
  ·refine Ru 17 U (a_ (⟨U,U,?_⟩));exact nu
  refine Ru 1 U (aQ U U  (cD dC U) U ?_);refine Ru 3 U (Bs 18 U (λhc2=>?_) λhc2=>?_)
  ·refine Ru 12 U (a_ (⟨U,U,?_⟩));exact nu
  refine Ru 2 U (aQ U U  (cD dC U) U ?_);refine aQ U U  si_ U ?_;refine aQ U U  (bH (m:=s.length-1) dC U U z2_ z2_) U ?_;refine Ru 3 U (Bs 26 U (λhc3=>?_) λhc3=>?_)
  ·refine Ru 4 U (a_ (⟨U,U,?_⟩));exact nu
  refine Ru 1 U (aQ U U  (cD dC U) U ?_);refine Ru 2 U (a_ (⟨U,U,?_⟩));exact nu
 refine Cs U (λhc4=>?_) λhc4=>?_
 ·have hm:plOk s=false:=(by by_cases hz:15<=s.length/\s.length<=22/\byteAt s (s.length-1)=90;exact pl_f2 z2_ z2_;exact pl_f1 hz);exact Sr (Ru 3 U (Nk [4,3,2,0] U (aH (cw U U U U) (by rw [hm];rfl) U)))
 obtain⟨l15,l22,lz,l16⟩:15<=s.length/\s.length<=22/\byteAt s (s.length-1)=90/\s.length≠16:=z2_;obtain⟨F,hF⟩:∃ F,F=(s.drop 14).take (s.length-1-14):=⟨_,U⟩;have hFl:F.length=s.length-15:=(by rw [hF];simp;omega);have hFb:∀ k,k<s.length-15->byteAt F k=byteAt s (14+k):=(λk hk=>by rw [hF];exact iA s 14 _ k z2_);obtain⟨hy1,hy2,hy3⟩:=pl_year (s:=s) (y:=partI (s.take 4)) (q:=(s.drop 4).take 10) z2_ U;refine aA (Sr (Ru 2 U (ah (cD dC U) U ?_)));refine ah si_ U ?_;refine ah (cC (m:=14) (m':=s.length-1) dC U U U U z2_ z2_ z2_) U ?_;rw [<- hF];refine Ru 1 U (Nk [5,4,3,2,0] U (Sr (Ru 1 U (a_ (az (Sr (Ru 1 U (ah (RunV.neqS U U) U ?_))))))));refine a_ (Cs U (λhc5=>?_) λhc5=>?_)
 ·have hne:s.length≠15:=(λh15=>hc5 (List.eq_nil_of_length_eq_zero z2_));have hd1:(F.drop 1).length=s.length-16:=(by rw [bC];omega);refine Sr (Ru 1 U (ah (RunV.strCut_l dC U U (show _=((1:Nat):Int) from rfl) z2_) U ?_));refine Ru 1 U (Nk [7,6,5,4,3,2,0] U (az (aJ (bM (λt_ S_ h_ L_=>∃ (j:Nat) (G:LB),t_=6-j/\S_=[(0,.string ⟨s.toArray⟩),(5,.string ⟨F.toArray⟩),(7,.string ⟨G.toArray⟩)]/\h=h_/\L_=[]/\((F.drop 1).length+j<=6/\G=F.drop 1++List.replicate j 48)) ⟨_,_,?_,⟨0,F.drop 1,U,U,U,U,⟨by omega,by simp⟩⟩⟩ ?_))))
  ·exact z6_
  rintro _ _ _ _ ⟨j,G,rfl,rfl,rfl,rfl,hj,hG⟩;have hgl:G.length=(F.drop 1).length+j:=(by rw [hG,aU,List.length_replicate]);refine az (Sr (Ru 1 U (ah (cD dC U) U ?_)));refine Ru 1 U (a_ (Cs U (λhc6=>?_) λhc6=>?_))
  ·refine aA (aJ (Rg (Ru 1 U (ah (RunV.addS U U z3_) U ?_))));refine Ru 1 U (a_ (⟨_,?_,_,?_,⟨j+1,G++[48],U,U,U,U,⟨by omega,by rw [hG,List.append_assoc,<- List.replicate_succ']⟩⟩⟩))
   ·omega
   exact z6_
  have hgb:∀ k,k<6->byteAt G k=if 15+k+1<s.length then byteAt s (15+k) else 48:=(λk hk=>by rw [hG,vT _ _ _ z2_];by_cases hz:k<(F.drop 1).length;rw [if_pos hz,if_pos z2_,show 15+k=14+(1+k) by omega,<- hFb (1+k) z2_];unfold byteAt;simp [Nat.add_comm];rw [if_neg hz,if_neg z2_]);have hpm:=part_mic s _ z2_ hgb;have hf0:byteAt F 0=byteAt s 14:=hFb 0 z2_;have hf1:=hFb (s.length-16) z2_;rw [show 14+(s.length-16)=s.length-2 by omega] at hf1;refine bA (Sr (Ru 1 U (bh iF U (fZ _ _ z2_) U ?_)));refine Ru 1 U (Nk [6,0,5] U (az (cJ [(61,.bool (decide (¬ (byteAt s 14=46/\byteAt s (s.length-2)≠48)\/partI G<0)))] [(6,_),(0,_)] ⟨U,U,trivial⟩ ?_ ?_)))
  ·refine Rg (Ru 1 U (ah (bH (m:=0) dC U U U z2_) U ?_));refine Ru 2 U (Bs 50 U (λhc8=>?_) λhc8=>?_)
   ·refine Ru 11 U (a_ (⟨U,U,?_⟩));exact nu
   refine Ru 4 U (Bs 54 U (λhc9=>?_) λhc9=>?_)
   ·refine Ru 7 U (a_ (⟨U,U,?_⟩));exact nu
   refine Ru 2 U (aQ U U  (cD dC U) U ?_);refine aQ U U  si_ U ?_;refine aQ U U  (bH (m:=s.length-16) dC U U z2_ z2_) U ?_;refine Ru 2 U (a_ (⟨U,U,?_⟩));exact nu
  refine Cs U (λhc10=>?_) λhc10=>?_
  ·have hm:plOk s=false:=(by rcases hpm with ⟨p1,p2,p3⟩|⟨p1,p2⟩;exact pl_f2 hne z2_;exact pl_f3 6 hne z2_ p1);exact Sr (Ru 3 U (a_ (aH (cw U U U U) (by rw [hm];rfl) U)))
  obtain⟨p1,p2,p3⟩:micOk s 6=true/\partI G=micI s 6/\0<=partI G:=(by rcases hpm with hq|⟨q1,q2⟩;exact hq;exfalso;omega);have hpl:=pl_t1 (s:=s) ⟨l15,l22,lz⟩ hne z2_ p1;have hpM:plM s=micI s 6:=if_neg hne;rw [p2,<- hpM];refine aA (az (de cM cP ?_));refine Rq 1 U ?_;refine cq (RunV.strCut_h dC U U (show _=((4:Nat):Int) from rfl) z2_) U ?_;refine dG iF U (fZ _ _ uX) U ?_;refine Rq 1 U ?_;refine cq (cC dC U U U (show _=((4:Nat):Int) from rfl) (show _=((14:Nat):Int) from rfl) z2_ z2_) U ?_;refine dG uE U (of_fn _ _ _ uX hy3) U ?_;rw [hy1,hy2];refine Rq 5 U ?_;refine Nq [9,8,6] U ?_;refine az (Sr (Ru 2 U (a_ (Cs U (λhc13=>?_) λhc13=>?_))))
  ·exact Sr (Ru 3 U (a_ (aH (cw U U U U) (by simp [hpl,hpM,momV,hc13]) U)))
  exact aA (Sr (Ru 5 U (Nk [4,3,2] U (aH (cw U U U U) (by simp [hpl,hpM,momV,hc13]) U))))
 have h15:s.length=15:=(by have hF0:F.length=0:=(by rw [show F=[] from hc5];rfl);omega);have hpl:=pl_t0 (s:=s) ⟨l15,l22,lz⟩ h15;have hpM:plM s=0:=if_pos h15;refine aA (az (de cM cP ?_));refine Rq 1 U ?_;refine cq (RunV.strCut_h dC U U (show _=((4:Nat):Int) from rfl) z2_) U ?_;refine dG iF U (fZ _ _ uX) U ?_;refine Rq 1 U ?_;refine cq (cC dC U U U (show _=((4:Nat):Int) from rfl) (show _=((14:Nat):Int) from rfl) z2_ z2_) U ?_;refine dG uE U (of_fn _ _ _ uX hy3) U ?_;rw [hy1,hy2];refine Rq 5 U ?_;refine Nq [9,8,6,4,3,2] U ?_;refine az (Sr (Ru 2 U (a_ (Cs U (λhc16=>?_) λhc16=>?_))))
 ·exact Sr (Ru 3 U (Nk [4,3,2,8,6] U (aH (cw U U U U) (by simp [hpl,hpM,momV,hc16]) U)))
 exact aA (Sr (Ru 5 U (Nk [4,3,2] U (aH (cw U U U U) (by simp [hpl,hpM,momV,hc16]) U))))
def prL:LB:=[32,39,40,41,43,44,45,46,47,58,61,63]
def prAl (b:Int):Bool:=(decide (65<=b/\b<=90)||decide (97<=b/\b<=122))||decide (48<=b/\b<=57)
def prAny (b:Int) (l:LB):Bool:=l.any λx=>decide (b=x.toNat)
theorem prC_eq (b:Nat):prC b=(prAl b||prAny b prL):=by
 rw [Bool.eq_iff_iff];simp only [prC,prAl,prAny,prL,List.any_cons,List.any_nil,Bool.or_eq_true,ax,Bool.or_false,show((32:UInt8).toNat=32) from rfl,show((39:UInt8).toNat=39) from rfl,show((40:UInt8).toNat=40) from rfl,show((41:UInt8).toNat=41) from rfl,show((43:UInt8).toNat=43) from rfl,show((44:UInt8).toNat=44) from rfl,show((45:UInt8).toNat=45) from rfl,show((46:UInt8).toNat=46) from rfl,show((47:UInt8).toNat=47) from rfl,show((58:UInt8).toNat=58) from rfl,show((61:UInt8).toNat=61) from rfl,show((63:UInt8).toNat=63) from rfl];omega
theorem vw (b:Int) (q:Nat) (h:q<prL.length):prAny b (prL.take (q+1))=(prAny b (prL.take q)||decide (b=byteAt prL q)):=by
 unfold prAny;rw [am h,List.any_append,List.any_cons,List.any_nil,Bool.or_false,bY prL q h]
theorem prC_lt (c:Nat) (h:prC c=true):c<128:=by
 have:=of_decide_eq_true h;omega
theorem rprint_fn (s:LB) (h:Part) (hl:s.length<=140737488355328):Pure prog 164 [.string ⟨s.toArray⟩] h (.bool (runes (λc _=>prC c) s 0)):=by
 rw [pA prC_lt _ s (aL _)];have hpl:prL.length=12:=rfl;refine aM func164 U ntmps164 U (λe he=>?_);refine bg [(0,_)] ⟨U,trivial⟩ ?_;refine Sr (Ru 1 U (a_ ?_));refine Sr (Ru 1 U (a_ (az (Sr (Ru 1 U (a_ (aJ (bM (λt_ S_ h_ L_=>∃ (p:Nat),t_=s.length-p/\S_=[(0,.string ⟨s.toArray⟩),(3,.string ⟨prL.toArray⟩),(4,.int .i64 p)]/\h=h_/\L_=[]/\(p<=s.length/\(s.all λb=>prC b.toNat)=(s.drop p).all λb=>prC b.toNat)) ⟨_,_,?_,⟨0,U,U,U,U,⟨by omega,U⟩⟩⟩ ?_))))))))
 ·exact z6_
 rintro _ _ _ _ ⟨p,rfl,rfl,rfl,rfl,hp,hq⟩;refine az (Sr (Ru 2 U (ah (cD dC U) U ?_)));refine Ru 1 U (a_ (Cs U (λhc1=>?_) λhc1=>?_))
 ·have hst:=uQ prC s p z2_;have hbp:=cx s p;refine aA (az (aJ (Sr (Ru 2 U (ah (bH (m:=p) dC U U z2_ z2_) U ?_)))));refine ah lH U ?_;refine Ru 1 U (a_ (Sr (Ru 1 U (bh fI U (d9 _ _ _ _) U ?_))));refine Ru 1 U ?_;apply On 20 23 3 [5,17,16,15,14,11,10,9,8,0,3,4] U U
  rotate_left
  ·intro hb3 hc3;refine Ru 1 U (cG U U  fI U (d9 _ _ _ _) U ?_);exact Ru 1 U (Ae (om_f hb3 U) U)
  rotate_right
  ·exact λhb3 _=>Ru 3 U (Ae (om_t hb3 U) U)
  refine Ru 1 U ?_;apply On 24 27 3 [5,17,16,15,14,11,10,9,8,0,3,4] U U
  rotate_left
  ·intro hb5 hc5;refine Ru 1 U (cG U U  fI U (d9 _ _ _ _) U ?_);exact Ru 1 U (Ae (om_f hb5 U) U)
  rotate_right
  ·exact λhb5 _=>Ru 3 U (Ae (om_t hb5 U) U)
  refine Ru 1 U (a_ (az (Sr (Ru 1 U (a_ (aJ (bM (λt_ S_ h_ L_=>∃ (q:Nat) (v:Bool),t_=prL.length-q/\S_=[(0,.string ⟨s.toArray⟩),(3,.string ⟨prL.toArray⟩),(4,.int .i64 p),(6,.bool v),(7,.int .i64 q)]/\h=h_/\L_=[]/\(q<=prL.length/\v=(prAl (byteAt s p)||prAny (byteAt s p) (prL.take q)))) ⟨_,_,?_,⟨0,prAl (byteAt s p),U,U,U,U,⟨by omega,by simp [prAny]⟩⟩⟩ ?_)))))))
  ·exact z6_
  rintro _ _ _ _ ⟨q,v,rfl,rfl,rfl,rfl,hq1,hv⟩;refine az (Sr (Ru 2 U (ah (cD dC U) U ?_)));refine Ru 1 U (a_ (Cs U (λhc7=>?_) λhc7=>?_))
  ·refine aA (az (aJ (cJ [(6,.bool (v||decide ((byteAt s p:Int)=byteAt prL q)))] [(31,_),(30,_),(29,_),(28,_),(0,_),(3,_),(4,_),(7,_)] ⟨U,U,U,U,U,U,U,U,trivial⟩ ?_ ?_)))
   ·refine de cM cP ?_;refine Rq 2 U ?_;refine Bq 35 U (λhc8=>?_) λhc8=>?_
    ·refine Rq 9 U ?_;refine eH ?_;refine⟨U,U,?_⟩
     repeat (first|exact trivial|refine⟨rfl,?_⟩|refine⟨(by exact cV (by cases v<;>simp_all)),?_⟩)
    refine Rq 2 U ?_;refine dx U U  (bH (m:=p) dC U U z2_ z2_) U ?_;refine Rq 2 U ?_;refine dx U U  (bH (m:=q) dC U U z2_ z2_) U ?_;refine Rq 3 U ?_;refine eH ?_;refine⟨U,U,?_⟩
    repeat (first|exact trivial|refine⟨rfl,?_⟩|refine⟨(by exact cV (by cases v<;>simp_all)),?_⟩)
   refine Rg (Ru 1 U (ah ai_ U ?_));refine Ru 1 U (a_ (⟨_,?_,_,?_,⟨q+1,(v||decide ((byteAt s p:Int)=byteAt prL q)),U,U,U,U,⟨by omega,by rw [hv,vw _ _ z2_,Bool.or_assoc]⟩⟩⟩))
   ·omega
   exact z6_
  have hqe:q=prL.length:=z2_;have hpc:prC (byteAt s p)=v:=(by rw [hv,prC_eq,hqe,List.take_length]);refine bA (Sr (Ru 2 U (a_ (Cs U (λhc9=>?_) λhc9=>?_))))
  ·exact Sr (Ru 1 U (a_ (aH (ay U U) (by rw [hq,hst,hpc];simp_all) U)))
  refine aA (Rg (Ru 1 U (ah ai_ U ?_)));refine Ru 1 U (a_ (⟨_,?_,_,?_,⟨p+1,U,U,U,U,⟨by omega,by rw [hq,hst,hpc];simp_all⟩⟩⟩))
  ·omega
  exact z6_
 exact bA (Kp [] U (Sr (Ru 1 U (a_ (aH (ay U U) (by rw [hq,List.drop_of_length_le z2_];rfl) U)))))
theorem ofNat_mod (n:Nat):UInt8.ofNat (n % 256)=UInt8.ofNat n:=by
 apply UInt8.toNat_inj.1;simp
theorem s_ (n j:Nat) (hn:n<=140737488355328) (h0:128<=n) (h2:j<=nby n):0<n / 256 ^ j<->j<nby n:=by
 cases j with
 |zero=>have:=mg n;simp;omega
 |succ j=>exact nby_gt n (j+1) hn z2_ h2
theorem mn {n:Nat}{h:Part}(hn:n<=140737488355328):FnR prog 114 [.int .i64 n] h (λv h'=>∃ a c,v=.slice a (lenB n).length c/\SlR u8R 1 h' a c (lenB n)):=by
 have hk:=mg n;refine aM func114 U ntmps114 U (λe he=>?_);refine bg [(0,_)] ⟨U,trivial⟩ ?_;have hh0:=aT h;refine Sr (Ru 1 U (a_ (az (Sr (Ru 2 U (a_ (Cs U (λhc1=>?_) λhc1=>?_)))))))
 ·have hlb1:lenB n=[UInt8.ofNat n]:=if_pos z2_;refine Sr (Ru 1 U (ah (cT n jA U U) U ?_));refine cF dq pg U U U U U (λb2=>?_);refine JL.pubB (R:=u8R) (sz:=1) (l:=[UInt8.ofNat n]) dl_ (qG (by first|kernel_rfl|rfl)) (by first|decide|omega|(simp;done)) (λh3 hle3 hQ=>?_)
  replace hh0:=hh0.mono hle3
  refine Ru 1 U (Nk [2,0] U ?_);rw [hlb1];exact bj (ay U U) ⟨some ⟨b2,0,none⟩,1,U,hQ⟩
 refine aA (Sr (Ru 1 U (a_ (az (aJ (bM (λt_ S_ h_ L_=>∃ (g:Part) (j:Nat) (la:OA) (lc:Nat),t_=7-j/\S_=[(0,.int .i64 (n / 256 ^ j:Nat)),(3,.slice la (be j n).length lc)]/\g=h_/\L_=[]/\(h.le g/\j<=nby n/\SlR u8R 1 g la lc (be j n))) ⟨_,_,?_,⟨_,0,none,0,U,U,U,U,⟨by assumption,by omega,bu⟩⟩⟩ ?_))))))
 ·repeat (first|exact trivial|refine⟨rfl,?_⟩|refine⟨(by exact cQ (by first|(simp;done)|(rw [Nat.pow_succ,<- Nat.div_div_eq_div_mul];omega))),?_⟩)
 rintro _ _ _ _ ⟨g,j,la,lc,rfl,rfl,rfl,rfl,hhg,hj,hL⟩;have hgt:=s_ n j hn z2_ hj;have hlb:=jJ j n;have hlb3:=jJ (j+1) n;have hle:=Nat.div_le_self n (256 ^ j);refine az (Sr (Ru 2 U (a_ (Cs U (λhc4=>?_) λhc4=>?_))))
 ·refine aA (aJ (Sr (Ru 1 U (a_ (Sr (Ru 2 U (ah uY U ?_)))))));refine ah (cT (n / 256 ^ j % 256) jA U z2_) U ?_;rw [ofNat_mod];refine cF dq pg U U U U U (λb5=>?_);refine bZ 5 1 ?_;refine bV dq U U (bQ (R:=u8R)) U dl_ dl_ U (U) z3_ U U (λa6 c6 xs6 hC6 hN6=>?_);obtain rfl:=hC6.u8;refine Ru 1 U (a_ (Sr (Ru 2 U (bX dq U U bm U z7_ U dl_ z3_ U U (λa7 c7 xs7 hC7 hN7=>?_)))));obtain rfl:=hC7.u8;refine cW (R:=u8R) (l:=be (j+1) n) dl_ bm U z3_ (λh8 hle8 hP8=>?_)
  replace hhg:=hhg.mono hle8
  replace hL:=hL.mono hle8
  refine Ru 1 U (a_ (Rg (Ru 1 U (ah qX U ?_))));refine Ru 1 U (a_ (⟨_,?_,_,?_,⟨_,j+1,_,_,U,U,U,U,⟨by assumption,by omega,by assumption⟩⟩⟩))
  ·omega
  repeat (first|exact trivial|refine⟨rfl,?_⟩|refine⟨(by exact cQ (by first|(simp;done)|(rw [Nat.pow_succ,<- Nat.div_div_eq_div_mul];omega))),?_⟩)
 have hjn:j=nby n:=z2_;subst hjn;have hlb1:lenB n=UInt8.ofNat (128+nby n)::be (nby n) n:=if_neg z2_;refine bA (Sr (Ru 2 U (ah ai_ U ?_)));refine ah (cT (128+nby n) jA U (by rw [hlb];omega)) U ?_;refine cF dq pg U U U U U (λb9=>?_);refine Ru 1 U (Nk [5,3] U (Sr (Ru 2 U (JL.rowB (b:=b9) dl_ ?_))));refine bX dq U U bm U z7_ U dl_ z3_ U U (λa10 c10 xs10 hC10 hN10=>?_);obtain rfl:=hC10.u8;refine cW (R:=u8R) (l:=UInt8.ofNat (128+nby n)::be (nby n) n) dl_ bm U z3_ (λh11 hle11 hP11=>?_)
 replace hhg:=hhg.mono hle11
 replace hL:=hL.mono hle11
 refine Ru 1 U (Nk [2] U ?_);rw [hlb1];exact bj (ay U U) ⟨_,_,U,by assumption⟩
theorem z0_ {p:Prop}(u:p:=by first|(rw [sW (by omega),<- e0 (by omega)];(congr 1;first|exact(aj (by omega)).symm|exact(au (by omega)).symm|exact decide_eq_decide.2 (by omega)|(rw [<- decide_not];exact decide_eq_decide.2 (by omega))))|(rw [sW (by omega)];(congr 1;first|exact(aj (by omega)).symm|exact(au (by omega)).symm|exact decide_eq_decide.2 (by omega)|(rw [<- decide_not];exact decide_eq_decide.2 (by omega))))|(rw [pi (by omega),leastB];(repeat' split)<;>first|(congr 1;first|exact(aj (by omega)).symm|exact(au (by omega)).symm|exact decide_eq_decide.2 (by omega)|(rw [<- decide_not];exact decide_eq_decide.2 (by omega)))|(congr 1;first|exact aj (by omega)|exact au (by omega))|(exfalso;omega))|(rw [kH (by omega),bits_f (by first|omega|(rw [<- e0 (by omega)];omega))];done)|(rw [kH (by omega),bits_1 (by omega) (by omega)];done)|(rw [kH (by omega),bits_n (by omega) (by omega) (by omega),<- e1];done)|(rw [valB_5 (by omega)];(congr 1;first|exact(aj (by omega)).symm|exact(au (by omega)).symm|exact decide_eq_decide.2 (by omega)|(rw [<- decide_not];exact decide_eq_decide.2 (by omega))))|(rw [valB_6 (by omega)];cases (oidT l).isSome<;>rfl)|rw [r_ (by omega)]|rw [r9 (by omega)]|rw [r8 (by omega)]|(rw [r7 (by omega)];cases psOk l<;>rfl)|(rw [qZ (by omega)];cases plOk l<;>rfl)|rw [valB_0 (by omega)]):p:=u
theorem z40_ {p:Prop}(u:p:=by repeat (first|exact trivial|refine⟨rfl,?_⟩|refine⟨(by exact cV (by cases k<;>simp_all<;>omega)),?_⟩)):p:=u
theorem z47_ {p:Prop}(u:p:=by repeat (first|exact trivial|refine⟨rfl,?_⟩|refine⟨(by exact cV (by rw [hBB];simp_all)),?_⟩)):p:=u
theorem ca_112:callT prog 112=true:=by kernel_rfl
theorem ca_113:callT prog 113=true:=by kernel_rfl
theorem ca_114:callT prog 114=true:=by kernel_rfl
theorem ca_162:callT prog 162=true:=by kernel_rfl
theorem ca_163:callT prog 163=true:=by kernel_rfl
theorem ca_164:callT prog 164=true:=by kernel_rfl
theorem ca_165:callT prog 165=true:=by kernel_rfl
theorem ca_166:callT prog 166=true:=by kernel_rfl
theorem ca_167:callT prog 167=true:=by kernel_rfl
theorem ca_60:callT prog 60=true:=by kernel_rfl
theorem ca_76:callT prog 76=true:=by kernel_rfl
theorem bits_f {b:LB}(h:b.length=0\/7<byteAt b 0):bitsB b=false:=au (λhh=>hh.1 z2_)
theorem bits_1 {b:LB}(h:b.length=1) (h7:byteAt b 0<=7):bitsB b=decide (((2 ^ byteAt b 0:Nat):Int)=1):=by
 unfold bitsB;refine decide_eq_decide.2 ?_;rcases Nat.eq_zero_or_pos (byteAt b 0) with h0|h0
 ·exact⟨λ_=>by rw [h0];rfl,λ_=>⟨by omega,.inl h0⟩⟩
 ·have:2<=2 ^ byteAt b 0:=Nat.pow_le_pow_right (n:=2) bT h0;constructor
  ·rintro⟨h1,_⟩;omega
  ·intro h1;omega
theorem bits_n {b:LB}(h0:b.length≠0) (h1:b.length≠1) (h7:byteAt b 0<=7):bitsB b=decide ((byteAt b (b.length-1):Int) % ((2 ^ byteAt b 0:Nat):Int)=0):=by
 unfold bitsB;refine decide_eq_decide.2 ?_;constructor
 ·rintro⟨_,h2|h2⟩
  ·rw [h2];simp
  ·rw [<- Int.natCast_emod,h2];rfl
 ·intro h2;rw [<- Int.natCast_emod] at h2;exact⟨by omega,.inr z2_⟩
theorem pow7 (n:Nat) (h:n<=7):1<=2 ^ n/\2 ^ n<=128:=⟨Nat.one_le_two_pow,Nat.pow_le_pow_right (n:=2) bT h⟩
theorem py {t:Int}{a:OA}{c:Nat}{l:LB}{h:Part}(hl:SlR u8R 1 h a c l) (hb:l.length<=100000000):Pure prog 113 [.int .i64 t,.slice a l.length c] h (.bool (valB t l)):=by
 have e0:=λhh=>bY l 0 hh;refine aM func113 U ntmps113 U (λe he=>?_);refine bg [(0,_),(1,_)] ⟨U,U,trivial⟩ ?_;refine Sr (Ru 1 U (a_ (Sr (Ru 3 U (a_ ?_)))));refine az (Sr (Ru 1 U (a_ (aJ (Sr (Ru 2 U (a_ (Cs U (λhc1=>?_) λhc1=>?_))))))))
 ·refine Sr (Ru 3 U (Bs 23 U (λhc2=>?_) λhc2=>?_))
  ·refine Ru 1 U (cH U U  (aI cY U U (show _=((0:Nat):Int) from rfl) z7_ U z2_) U ?_);rintro _ ⟨b3,o3,hi3,rfl,hE3⟩;refine aQ U U  (bv ff U z7_) U ?_;refine Ru 2 U (Bs 28 U (λhc5=>?_) λhc5=>?_)
   ·exact Ru 7 U (Nk [4] U (aH (ay U U) z0_ U))
   refine Ru 1 U (cH U U  (aI cY U U (show _=((0:Nat):Int) from rfl) z7_ U z2_) U ?_);rintro _ ⟨b6,o6,hi6,rfl,hE6⟩;refine aQ U U  (bv ff U z7_) U ?_;exact Ru 4 U (Nk [4] U (aH (ay U U) z0_ U))
  exact Ru 12 U (Nk [4] U (aH (ay U U) z0_ U))
 refine az (Sr (Ru 2 U (Nk [35,18,5,4,1] U (Cs U (λhc8=>?_) λhc8=>?_))))
 ·refine aA (aY U (az (Sr (Ru 2 U (a_ (Cs U (λhc9=>?_) λhc9=>?_))))))
  ·exact Sr (Ru 3 U (Nk [4,1] U (aH (ay U U) z0_ U)))
  refine aA (Kp [4,1] U (az (de cM cP ?_)));have e0:=bY l 0 z2_;have e1:=bY l 1 z2_;have b0:=cx l 0;have b1:=cx l 1;refine Rq 1 U ?_;refine du (aI cY U U (show _=((0:Nat):Int) from rfl) z7_ U z2_) U ?_;rintro _ ⟨b10,o10,hi10,rfl,hE10⟩;refine cq (bv ff U z7_) U ?_;refine cq lH U ?_;refine cq jM U ?_;refine Rq 1 U ?_;refine du (aI cY U U (show _=((1:Nat):Int) from rfl) z7_ U z2_) U ?_;rintro _ ⟨b12,o12,hi12,rfl,hE12⟩;refine cq (bv ff U z7_) U ?_;refine cq lH U ?_;refine cq qX U ?_;refine cq ai_ U ?_;refine Rq 1 U ?_;refine Nq [6,4] U ?_;refine Sr (Ru 3 U (Bs 55 U (λhc14=>?_) λhc14=>?_))
  ·exact Ru 4 U (Nk [4] U (aH (ay U U) z0_ U))
  exact Ru 4 U (Nk [4] U (aH (ay U U) z0_ U))
 refine Rg (Ru 2 U (a_ (Cs U (λhc15=>?_) λhc15=>?_)))
 ·refine az (Sr (Ru 2 U (Nk [39,5,4,1] U (Cs U (λhc16=>?_) λhc16=>?_))))
  ·exact Sr (Ru 3 U (Nk [4,1] U (aH (ay U U) z0_ U)))
  refine aA (az (de cM cP ?_));have e0:=bY l 0 z2_;have e1:=bY l 1 z2_;have b0:=cx l 0;have b1:=cx l 1;refine Rq 1 U ?_;refine du (aI cY U U (show _=((0:Nat):Int) from rfl) z7_ U z2_) U ?_;rintro _ ⟨b17,o17,hi17,rfl,hE17⟩;refine cq (bv ff U z7_) U ?_;refine cq lH U ?_;refine cq jM U ?_;refine Rq 1 U ?_;refine du (aI cY U U (show _=((1:Nat):Int) from rfl) z7_ U z2_) U ?_;rintro _ ⟨b19,o19,hi19,rfl,hE19⟩;refine cq (bv ff U z7_) U ?_;refine cq lH U ?_;refine cq qX U ?_;refine cq ai_ U ?_;refine Rq 1 U ?_;refine Nq [6,4] U ?_;refine Sr (Ru 3 U (Bs 55 U (λhc21=>?_) λhc21=>?_))
  ·exact Ru 4 U (Nk [4] U (aH (ay U U) z0_ U))
  exact Ru 4 U (Nk [4] U (aH (ay U U) z0_ U))
 refine Sr (Ru 2 U (Nk [59,18,5,4,1] U (Cs U (λhc22=>?_) λhc22=>?_)))
 ·refine az (Sr (Ru 3 U (Bs 63 U (λhc23=>?_) λhc23=>?_)))
  ·exact Ru 5 U (Nk [68,5,4,1] U (aY U (Sr (Ru 1 U (a_ (aH (ay U U) z0_ U))))))
  refine Ru 1 U (cH U U  (aI cY U U (show _=((0:Nat):Int) from rfl) z7_ U z2_) U ?_);rintro _ ⟨b24,o24,hi24,rfl,hE24⟩;refine aQ U U  (bv ff U z7_) U ?_;refine Ru 2 U (Nk [68,5,4,1] U (Cs U (λhc26=>?_) λhc26=>?_))
  ·exact Sr (Ru 1 U (a_ (aH (ay U U) z0_ U)))
  have e0:=bY l 0 z2_;have e1:=bY l (l.length-1) z2_;have hp7:=pow7 (byteAt l 0) z2_;refine aA ?_;refine Sr (Ru 1 U (a_ (az (Sr (Ru 1 U (a_ (aJ (bM (λt_ S_ h_ L_=>∃ (i:Nat),t_=9-i/\S_=[(1,.slice a l.length c),(5,.int .i64 l.length),(7,.int .i64 (2 ^ i:Nat)),(8,.int .i64 i)]/\h=h_/\L_=[]/\(i<=byteAt l 0)) ⟨_,_,?_,⟨0,U,U,U,U,by omega⟩⟩ ?_))))))))
  ·repeat (first|exact trivial|refine⟨rfl,?_⟩|refine⟨(by exact cQ (by first|rfl|(rw [Nat.pow_succ];omega))),?_⟩)
  rintro _ _ _ _ ⟨i,rfl,rfl,rfl,rfl,hi⟩;have hpi:=pow7 i z2_;refine az (Sr (Ru 2 U (cm (aI cY U U (show _=((0:Nat):Int) from rfl) z7_ U z2_) U ?_)));rintro _ ⟨b27,o27,hi27,rfl,hE27⟩;refine ah (bv ff U z7_) U ?_;refine ah lH U ?_;refine Ru 1 U (a_ (Cs U (λhc29=>?_) λhc29=>?_))
  ·refine aA (az (aJ (Rg (Ru 1 U (ah jM U ?_)))));refine Ru 1 U (a_ (Rg (Ru 1 U (ah ai_ U ?_))));refine Ru 1 U (a_ (⟨_,?_,_,?_,⟨i+1,U,U,U,U,by omega⟩⟩))
   ·omega
   repeat (first|exact trivial|refine⟨rfl,?_⟩|refine⟨(by exact cQ (by first|rfl|(rw [Nat.pow_succ];omega))),?_⟩)
  have hib:i=byteAt l 0:=z2_;rw [hib];refine bA (Kp [1,5,7] U (az (Sr (Ru 2 U (a_ (Cs U (λhc30=>?_) λhc30=>?_))))))
  ·exact Sr (Ru 3 U (Nk [4,1,5,7] U (aH (ay U U) z0_ U)))
  refine aA (Sr (Ru 2 U (ah si_ U ?_)));refine cm (aI (m:=l.length-1) cY U U z2_ hl U z2_) U ?_;rintro _ ⟨b31,o31,hi31,rfl,hE31⟩;refine ah (bv ff U z7_) U ?_;refine ah lH U ?_;refine Ru 1 U (ah uY U ?_);exact Ru 2 U (Nk [4] U (aH (ay U U) z0_ U))
 refine Sr (Ru 2 U (a_ (Cs U (λhc33=>?_) λhc33=>?_)))
 ·exact Sr (Ru 3 U (Nk [4] U (aH (ay U U) z0_ U)))
 refine Sr (Ru 2 U (Nk [96,18,4,1] U (Cs U (λhc34=>?_) λhc34=>?_)))
 ·refine Sr (Ru 1 U (bh ca_162 U (lX z7_ z2_) U ?_));exact Ru 5 U (Nk [10,4] U (Sr (Ru 3 U (a_ (aH (ay U U) z0_ U)))))
 refine Sr (Ru 2 U (a_ (Cs U (λhc36=>?_) λhc36=>?_)))
 ·refine Sr (Ru 1 U (ah (d7 dM U z7_ U) U ?_));refine bh ca_163 U (rutf8_fn _ _ z2_) U ?_;exact Ru 1 U (Nk [4] U (aH (ay U U) z0_ U))
 refine Sr (Ru 2 U (Nk [110,18,4,1] U (Cs U (λhc38=>?_) λhc38=>?_)))
 ·refine Sr (Ru 1 U (ah (d7 dM U z7_ U) U ?_));refine bh ca_164 U (rprint_fn _ _ z2_) U ?_;exact Ru 1 U (Nk [4] U (aH (ay U U) z0_ U))
 refine Sr (Ru 2 U (a_ (Cs U (λhc40=>?_) λhc40=>?_)))
 ·refine Sr (Ru 1 U (ah (d7 dM U z7_ U) U ?_));refine bh ca_165 U (ria5_fn _ _ z2_) U ?_;exact Ru 1 U (Nk [4] U (aH (ay U U) z0_ U))
 refine Sr (Ru 2 U (Nk [120,18,4,1] U (Cs U (λhc42=>?_) λhc42=>?_)))
 ·refine Sr (Ru 1 U (ah (d7 dM U z7_ U) U ?_));refine bh ca_166 U (vm _ _ z2_) U ?_;exact Ru 5 U (Nk [12,4] U (Sr (Ru 3 U (a_ (aH (ay U U) z0_ U)))))
 refine Sr (Ru 2 U (a_ (Cs U (λhc44=>?_) λhc44=>?_)))
 ·refine Sr (Ru 1 U (ah (d7 dM U z7_ U) U ?_));refine bh ca_167 U (rplong_fn _ _ z2_) U ?_;exact Ru 7 U (Nk [15,4] U (Sr (Ru 3 U (a_ (aH (ay U U) z0_ U)))))
 exact aA (Kp [4] U (Sr (Ru 1 U (a_ (aH (ay U U) z0_ U)))))
theorem jI:∀ (l r:LB),belowB l r=decide (0<Go.Lib.compareBytes r l)
 |[],[]=>rfl
 |[],_::_=>rfl
 |_::_,[]=>rfl
 |a::l,b::r=>by
  have ih:=jI l r;show(if a=b then belowB l r else decide (a<b))=decide (0<(if b<a then(-1:Int) else if a<b then 1 else Go.Lib.compareBytes r l));by_cases h:a=b
  ·subst h;rw [if_pos U,if_neg (by simp [UInt8.lt_iff_toNat_lt]),if_neg (by simp [UInt8.lt_iff_toNat_lt]),ih]
  ·rw [if_neg h];have hn:a.toNat≠b.toNat:=λe=>h (UInt8.toNat_inj.1 e);by_cases h2:b<a
   ·rw [if_pos h2];rw [UInt8.lt_iff_toNat_lt] at h2;exact decide_eq_decide.2 ⟨λh3=>by rw [UInt8.lt_iff_toNat_lt] at h3;omega,λh3=>by omega⟩
   ·have h3:a<b:=by rw [UInt8.lt_iff_toNat_lt] at h2 |-;omega
    rw [if_neg h2,if_pos h3,aj h3];rfl
theorem tF {c t:Int}{bs:LB}{ks:LN}(h:mayB c t true=true) (hb:bs.length=0):(Nd.mk c t true bs ks).put=(Nd.putL (decide (c=0)&&decide (t=17)) ks none []).map (λb=>headB c t true b.length++b):=by
 have hn:bs=[]:=List.eq_nil_of_length_eq_zero hb;subst hn;have hok:okN c t true [] ks=true:=by unfold okN;rw [h];simp
 simp only [Nd.put];rw [if_pos hok]
theorem tE {c t:Int}{bs:LB}{ks:LN}(h:mayB c t false=true) (hk:ks.length=0):(Nd.mk c t false bs ks).put=if decide (c=0)&&!valB t bs then none else some (headB c t false bs.length++bs):=by
 have hn:ks=[]:=List.eq_nil_of_length_eq_zero hk;subst hn;have hok:okN c t false bs []=!(decide (c=0)&&!valB t bs):=by unfold okN;rw [h];simp
 simp only [Nd.put];rw [hok];cases decide (c=0)&&!valB t bs<;>rfl
theorem put_bad {c t:Int}{k:Bool}{bs:LB}{ks:LN}(h:¬ (mayB c t k=true/\(k=true->bs.length=0)/\(k=false->ks.length=0))):(Nd.mk c t k bs ks).put=none:=by
 simp only [Nd.put];rw [if_neg];intro hok;refine h ?_;unfold okN at hok;rw [Bool.and_eq_true,Bool.and_eq_true,Bool.and_eq_true] at hok;obtain⟨h1,h2,h3,_⟩:=hok;refine⟨h1,?_,?_⟩
 ·rintro rfl;simp at h2;exact List.length_eq_zero_iff.2 h2
 ·rintro rfl;simp at h3;exact List.length_eq_zero_iff.2 h3
theorem may_rng {c t:Int}{k:Bool}(h:mayB c t k=true):(c=0\/c=2)/\0<=t/\t<=30:=by
 unfold mayB at h;simp only [Bool.and_eq_true,Bool.or_eq_true,ax] at h;obtain⟨h1,h2⟩:=h;exact⟨by rcases h2 with h2|h2;exact .inr h2;exact .inl h2.1,h1⟩
theorem rbytes_fn:∀ (n:Nat) (x:Nd) (cs:LV) (h:Part),x.rk<=n->NdR h cs x->x.sz<=100000000 ->
 FnR prog 60 [.agg cs.toArray] h (λv h'=>∃ a c,v=.tuple #[.slice a (x.put.getD []).length c,.bool x.put.isSome]/\SlR u8R 1 h' a c (x.put.getD [])):=by
 intro n
 induction n with
 |zero=>intro x cs h hx;cases x;simp [Nd.rk] at hx
 |succ n ih =>
 intro x cs h hx r hsz;cases x with
 |mk c t k bs ks =>
 obtain⟨a,ca,b,cb,rfl,ha,hb⟩:=r.inv;have hl:=hb.big;have hl2:=ha.big;simp only [Nd.rk] at hx;simp only [Nd.sz] at hsz;have hkr:∀ i (hi:i<ks.length),ks[i].rk<=n/\ks[i].sz<=Nd.szL ks:=λi hi=>⟨by have:=Nd.rk_lt (aF hi);omega,Nd.sz_le (aF hi)⟩;refine aM func60 U ntmps60 U (λe he=>?_);refine bg [(0,_)] ⟨U,trivial⟩ ?_;have hh0:=aT h;refine Sr (dh U U U (λb1=>?_));refine Ru 2 U (a_ (az (az (cJ [(39,.bool (decide (¬ (mayB c t k=true/\(k=true->bs.length=0)/\(k=false->ks.length=0)))))] [(3,_),(2,_),(1,_)] ⟨U,U,U,trivial⟩ ?_ ?_))))
 ·refine Rg (Ru 1 U (ah (aw dI U mm_ U) U ?_));refine Ru 1 U (ah (aw dI U mm_ U) U ?_);refine Ru 1 U (ah (aw kC U mm_ U) U ?_);refine bh ca_112 U (rmay_fn _ _ _ _) U ?_;refine Ru 2 U (Bs 19 U (λhc3=>?_) λhc3=>?_)
  ·refine Ru 20 U (a_ (⟨U,U,?_⟩));exact z40_
  refine Ru 1 U (aQ U U  (aw kC U mm_ U) U ?_);refine Ru 1 U (Bs 22 U (λhc4=>?_) λhc4=>?_)
  ·refine Ru 1 U (aQ U U  (aw dt U mm_ U) U ?_);refine Ru 5 U (Bs 29 U (λhc5=>?_) λhc5=>?_)
   ·refine Ru 10 U (a_ (⟨U,U,?_⟩));exact z40_
   refine Ru 1 U (aQ U U  (aw kC U mm_ U) U ?_);refine Ru 2 U (Bs 33 U (λhc6=>?_) λhc6=>?_)
   ·refine Ru 1 U (aQ U U  (aw dz U mm_ U) U ?_);refine Ru 4 U (a_ (⟨U,U,?_⟩));exact z40_
   refine Ru 6 U (a_ (⟨U,U,?_⟩));exact z40_
  refine Ru 8 U (aQ U U  (aw kC U mm_ U) U ?_);refine Ru 2 U (Bs 33 U (λhc7=>?_) λhc7=>?_)
  ·refine Ru 1 U (aQ U U  (aw dz U mm_ U) U ?_);refine Ru 4 U (a_ (⟨U,U,?_⟩));exact z40_
  refine Ru 6 U (a_ (⟨U,U,?_⟩));exact z40_
 refine Cs U (λhc8=>?_) λhc8=>?_
 ·have hz:=put_bad hc8;refine Sr (Ru 2 U (a_ ?_));rw [hz];exact bj (b_ U U U) ⟨none,0,U,bu⟩
 obtain⟨hm,hkb,hkk⟩:mayB c t k=true/\(k=true->bs.length=0)/\(k=false->ks.length=0):=(by first|exact hc8|exact Classical.not_not.1 hc8);have hrg:=may_rng hm;refine aA (Sr (Ru 1 U (ah (aw dI U mm_ U) U ?_)));refine ah jM U ?_;refine Ru 1 U (ah (aw dI U mm_ U) U ?_);refine ah ai_ U ?_;refine Ru 1 U (Nk [4,3,2,1] U (Sr (Ru 1 U (ah (aw dt U mm_ U) U ?_))));refine Ru 1 U (a_ (az (Sr (Ru 1 U (ah (aw kC U mm_ U) U ?_)))));refine a_ (Cs U (λhc9=>?_) λhc9=>?_)
 ·subst hc9;have hbz:=hkb U;have hpc:=tF (bs:=bs) (ks:=ks) hm hbz;refine Sr (Ru 1 U (ah ai_ U ?_));refine Ru 1 U (Nk [4,5,3,2,1] U (Sr (Ru 1 U (a_ (Sr (bZ 5 1 ?_))))));refine Ru 1 U (a_ (Sr (Ru 1 U (a_ (aJ (bM (λt_ S_ h_ L_=>∃ (g:Part) (i:Nat) (inB lb:LB) (ai la:OA) (ci lc:Nat),t_=ks.length-i/\S_=[(1,.pointer (some ⟨b1,0,none⟩)),(4,.int .i64 (64*c+t+32)),(5,.slice ai inB.length ci),(6,.slice la lb.length lc),(7,.int .i64 i)]/\g=h_/\L_=[.row ai ci 5 1 inB.length (u8s inB),.blk b1 35 [.int .i64 c,.int .i64 t,.bool true,.slice a bs.length ca,.slice b ks.length cb]]/\(h.le g/\i<=ks.length/\SlR u8R 1 g la lc lb/\inB.length<=8*Nd.szL (ks.take i)/\Nd.putL (decide (c=0)&&decide (t=17)) ks none []=Nd.putL (decide (c=0)&&decide (t=17)) (ks.drop i) (if i=0 then none else some lb) inB)) ⟨_,_,?_,⟨_,0,[],[],_,_,_,_,U,U,U,U,⟨by assumption,by omega,bu,by simp,U⟩⟩⟩ ?_))))))
  ·exact z6_
  rintro _ _ _ _ ⟨g,i,inB,lb,ai,la,ci,lc,rfl,rfl,rfl,rfl,hhg,hi,hla,hil,hp⟩;have r:=r.mono hhg;have ha:=ha.mono hhg;have hb:=hb.mono hhg;have hst:=Nd.szL_take_le ks i;refine az (Sr (Ru 2 U (ah (aw dz U mm_ U) U ?_)));refine Ru 2 U (a_ (Cs U (λhc10=>?_) λhc10=>?_))
  ·have hi':i<ks.length:=z2_;have hzt:=Nd.szL_take ks i hi';have hst2:=Nd.szL_take_le ks (i+1);have hki:=hkr i hi';have hps:=Nd.putL_step (decide (c=0)&&decide (t=17)) ks i (if i=0 then none else some lb) inB hi';refine aA (az (aJ (Sr (Ru 1 U (ah (aw dz U mm_ U) U ?_)))));refine Ru 1 U (cm (aI gJ U U z9_ z7_ U z2_) U ?_);rintro _ ⟨b11,o11,hi11,rfl,hE11⟩;refine cm (dw bP U z7_) U ?_;rintro _ ⟨_,rfl,hNd12⟩;refine bL ca_60 U (ih (ks[i]'z2_) _ _ hki.1 z7_ z2_) U ?_;rintro _ h13 hle13 ⟨ka,kc,rfl,hkS⟩
   replace r:=r.mono hle13
   replace ha:=ha.mono hle13
   replace hb:=hb.mono hle13
   replace hhg:=hhg.mono hle13
   replace hla:=hla.mono hle13
   replace hNd12:=hNd12.mono hle13
   obtain⟨kp,hkp⟩:∃ kp,kp=(ks[i]'z2_).put:=⟨_,U⟩;rw [<- hkp] at hkS hps |-;obtain⟨BB,hBB⟩:∃ BB,BB=(!kp.isSome||((decide (c=0)&&decide (t=17))&&(decide ((0:Int)<i)&&belowB (kp.getD []) lb))):=⟨_,U⟩;refine Ru 5 U (a_ (az (az (cJ [(88,.bool BB)] [(9,_),(8,_),(67,_),(66,_),(59,_),(65,_),(64,_),(63,_),(62,_),(61,_),(60,_),(56,_),(55,_),(54,_),(53,_),(52,_),(1,_),(4,_),(5,_),(6,_),(7,_)] ⟨U,U,U,U,U,U,U,U,U,U,U,U,U,U,U,U,U,U,U,U,U,trivial⟩ ?_ ?_))))
   ·refine Rg (Ru 3 U (Bs 70 U (λhc14=>?_) λhc14=>?_))
    ·refine Ru 18 U (a_ (⟨U,U,?_⟩));exact z47_
    refine Ru 1 U (aQ U U  (aw dI U mm_ U) U ?_);refine Ru 2 U (Bs 74 U (λhc15=>?_) λhc15=>?_)
    ·refine Ru 1 U (aQ U U  (aw dI U mm_ U) U ?_);refine Ru 3 U (Bs 79 U (λhc16=>?_) λhc16=>?_)
     ·refine Ru 4 U (Bs 83 U (λhc17=>?_) λhc17=>?_)
      ·refine Ru 2 U (cG U U  ca_76 U (below_fn z7_ z7_) U ?_);refine Ru 2 U (a_ (⟨U,U,?_⟩));exact z47_
      refine Ru 5 U (a_ (⟨U,U,?_⟩));exact z47_
     refine Ru 9 U (a_ (⟨U,U,?_⟩));exact z47_
    refine Ru 14 U (a_ (⟨U,U,?_⟩));exact z47_
   refine Cs U (λhc19=>?_) λhc19=>?_
   ·have hz:(Nd.mk c t true bs ks).put=none:=(by rw [hpc,hp,hps];rw [hc19] at hBB;cases kp with
     |none=>rfl
     |some kb=>show Option.map _ (if _ then _ else _)=_;rw [if_pos (by rw [lE,<- jI];simpa using hBB.symm)];rfl)
    refine Sr (Ru 2 U (a_ ?_));rw [hz];exact bj (b_ U U U) ⟨none,0,U,bu⟩
   rw [hc19] at hBB;obtain⟨kb,hkb2⟩:∃ kb,kp=some kb:=(by cases kp with
    |none=>simp at hBB
    |some kb=>exact⟨kb,U⟩)
   subst hkb2;simp only [Option.getD_some] at hkS |-;have hcz:((decide (c=0)&&decide (t=17))&&(decide ((0:Int)<i)&&belowB kb lb))=false:=(by rw [Option.isSome_some,Bool.not_true,Bool.false_or] at hBB;exact hBB.symm);have hkl:=dF _ _ kb (aL _) hkp.symm
   refine aA (Sr (Ru 2 U (bX dq U U bm U z7_ U dl_ z3_ U U (λa20 c20 xs20 hC20 hN20=>?_))));obtain rfl:=hC20.u8;refine Ru 1 U (a_ (Rg (Ru 2 U (a_ (Rg (Ru 1 U (ah ai_ U ?_)))))));refine Ru 1 U (a_ (⟨_,?_,_,?_,⟨_,i+1,inB++kb,kb,_,_,_,_,U,U,U,U,⟨by assumption,by omega,by assumption,by rw [aU,hzt];omega,by rw [hp,hps];show(if _ then _ else _)=_;rw [if_neg (by rw [lE,<- jI,hcz];decide),if_neg z2_]⟩⟩⟩))
   ·omega
   exact z6_
  refine J.pub (R:=u8R) (l:=inB) dl_ bm U z2_ (λh9 hle9 hP9=>?_);replace hhg:=hhg.mono hle9;replace r:=r.mono hle9;replace hb:=hb.mono hle9;replace hla:=hla.mono hle9;clear ha;have ha:=hP9;obtain⟨TG,htg,hz⟩:∃ TG:Nat,64*c+t+32=TG/\(Nd.mk c t true bs ks).put=some ((UInt8.ofNat TG::lenB inB.length)++inB):=⟨tagN c t true,by unfold tagN;rw [if_pos rfl];omega,by rw [hpc,hp,List.drop_of_length_le z2_];rfl⟩;have hinl:inB.length<=1000000000:=z2_;refine bA (Kp [4,5] U (Sr (Ru 1 U (ah (cT TG jA U htg) U ?_))));refine cF dq pg U U U U U (λb21=>?_);refine Ru 1 U (a_ (Sr (Ru 3 U (bL ca_114 U (mn z2_) U ?_))));rintro _ h22 hle22 ⟨a22,c22,rfl,hS22⟩
  replace r:=r.mono hle22
  replace ha:=ha.mono hle22
  replace hb:=hb.mono hle22
  replace hhg:=hhg.mono hle22
  replace hla:=hla.mono hle22
  have hlb9:(lenB inB.length).length<=8:=(by have:=g9 0 0 false inB.length;unfold headB at this;simp only [aC] at this;omega);refine JL.rowL (l:=[UInt8.ofNat TG]) (b:=b21) dl_ (by first|rfl|kernel_rfl) (by first|decide|(simp;done)) ?_;refine bX dq U U bm U z7_ U dl_ z3_ U U (λa23 c23 xs23 hC23 hN23=>?_);obtain rfl:=hC23.u8;refine Ru 1 U (Nk [10,5] U (Sr (Ru 2 U (bX dq U U bm U z7_ U dl_ z3_ U U (λa24 c24 xs24 hC24 hN24=>?_)))));obtain rfl:=hC24.u8;refine cW (R:=u8R) (l:=(UInt8.ofNat TG::lenB inB.length)++inB) dl_ bm U z3_ (λh25 hle25 hP25=>?_)
  replace r:=r.mono hle25
  replace ha:=ha.mono hle25
  replace hb:=hb.mono hle25
  replace hhg:=hhg.mono hle25
  replace hla:=hla.mono hle25
  replace hS22:=hS22.mono hle25
  refine Ru 2 U (Nk [3,2] U ?_);rw [hz];exact bj (b_ U U U) ⟨_,_,U,by assumption⟩
 subst hc9;have hkz:=hkk U;have hpp:=tE (bs:=bs) (ks:=ks) hm hkz;have hhg:=hh0;refine az (cJ [(103,.bool (decide (c=0)&&!valB t bs))] [(5,_),(4,_),(3,_),(2,_)] ⟨U,U,U,U,trivial⟩ ?_ ?_)
 ·refine Rg (Ru 1 U (ah (aw dI U mm_ U) U ?_));refine Ru 2 U (Bs 96 U (λhc26=>?_) λhc26=>?_)
  ·refine Ru 1 U (aQ U U  (aw dI U mm_ U) U ?_);refine Ru 1 U (aQ U U  (aw dt U mm_ U) U ?_);refine cG U U  ca_113 U (py z7_ z2_) U ?_;refine Ru 2 U (a_ (⟨U,U,?_⟩))
   repeat (first|exact trivial|refine⟨rfl,?_⟩|refine⟨(by exact cV (by simp_all)),?_⟩)
  refine Ru 7 U (a_ (⟨U,U,?_⟩))
  repeat (first|exact trivial|refine⟨rfl,?_⟩|refine⟨(by exact cV (by simp_all)),?_⟩)
 refine Cs U (λhc28=>?_) λhc28=>?_
 ·have hz:(Nd.mk c t false bs ks).put=none:=(by rw [hpp,if_pos (by simpa using hc28)]);refine Sr (Ru 2 U (a_ ?_));rw [hz];exact bj (b_ U U U) ⟨none,0,U,bu⟩
 obtain⟨inB,hinB⟩:∃ inB,inB=bs:=⟨_,U⟩;rw [<- hinB];rw [<- hinB] at ha;obtain⟨TG,htg,hz⟩:∃ TG:Nat,64*c+t=TG/\(Nd.mk c t false inB ks).put=some ((UInt8.ofNat TG::lenB inB.length)++inB):=⟨tagN c t false,by unfold tagN;rw [if_neg bT];omega,by rw [hinB,hpp,if_neg (by rw [Bool.not_eq_true];first|exact hc28|(simpa using hc28)|(cases hv:(decide (c=0)&&!valB t bs);rfl;exfalso;simp_all))];rfl⟩;have hinl:inB.length<=1000000000:=(by rw [hinB];omega);refine aA (Sr (Ru 1 U (ah (cT TG jA U htg) U ?_)));refine cF dq pg U U U U U (λb29=>?_);refine Ru 1 U (Nk [10,5,3,2] U (Sr (Ru 3 U (bL ca_114 U (mn z2_) U ?_))));rintro _ h30 hle30 ⟨a30,c30,rfl,hS30⟩
 replace r:=r.mono hle30
 replace ha:=ha.mono hle30
 replace hb:=hb.mono hle30
 have hlb9:(lenB inB.length).length<=8:=(by have:=g9 0 0 false inB.length;unfold headB at this;simp only [aC] at this;omega);refine JL.rowL (l:=[UInt8.ofNat TG]) (b:=b29) dl_ (by first|rfl|kernel_rfl) (by first|decide|(simp;done)) ?_;refine bX dq U U bm U z7_ U dl_ z3_ U U (λa31 c31 xs31 hC31 hN31=>?_);obtain rfl:=hC31.u8;refine Ru 1 U (Nk [10,5,3,2] U (Sr (Ru 2 U (bX dq U U bm U z7_ U dl_ z3_ U U (λa32 c32 xs32 hC32 hN32=>?_)))));obtain rfl:=hC32.u8;refine cW (R:=u8R) (l:=(UInt8.ofNat TG::lenB inB.length)++inB) dl_ bm U z3_ (λh33 hle33 hP33=>?_)
 replace r:=r.mono hle33
 replace ha:=ha.mono hle33
 replace hb:=hb.mono hle33
 replace hS30:=hS30.mono hle33
 refine Ru 2 U (Nk [3,2] U ?_);rw [hz];exact bj (b_ U U U) ⟨_,_,U,by assumption⟩
theorem ib {x:Nd}{cs:LV}{h:Part}(r:NdR h cs x) (hs:x.sz<=100000000):FnR prog 60 [.agg cs.toArray] h (λv h'=>∃ a c,v=.tuple #[.slice a (x.put.getD []).length c,.bool x.put.isSome]/\SlR u8R 1 h' a c (x.put.getD [])):=rbytes_fn _ x cs h (aL _) r hs
theorem lW {x:Nd}{cs:LV}{h:Part}(r:NdR h cs x) (hs:x.sz<=100000000):Pure prog 185 [.agg cs.toArray] h (.bool x.put.isSome):=by
 refine dY ?_;refine aM func185 U ntmps185 U (λe he=>?_);refine bg [(0,_)] ⟨U,trivial⟩ ?_;refine Sr (dh U U U (λb1=>?_));refine Ru 1 U (a_ (Sr (ah (bJ bP U mm_ z4_) U ?_)));refine bL ca_60 U (ib z7_ z2_) U ?_;rintro _ h2 hle2 ⟨a2,c2,rfl,hS2⟩
 replace r:=r.mono hle2
 exact Ru 5 U (Nk [4,2] U (Sr (Ru 2 U (a_ (ew (ay U U) U)))))
abbrev dT:=@Int.natCast_add
theorem z41_ {p:Prop}(u:p:=by repeat (first|exact trivial|refine⟨rfl,?_⟩|refine⟨(by exact cV (by first|(rw [decide_eq_decide];omega)|exact(au z2_).symm|exact au z2_)),?_⟩)):p:=u
theorem gX:aggT prog 190=some none:=by kernel_rfl
theorem uG:callT prog 140=true:=by kernel_rfl
theorem ca_141:callT prog 141=true:=by kernel_rfl
theorem qM:callT prog 234=true:=by kernel_rfl
theorem uD:callT prog 261=true:=by kernel_rfl
theorem ca_264:callT prog 264=true:=by kernel_rfl
theorem ca_286:callT prog 286=true:=by kernel_rfl
theorem ca_84:callT prog 84=true:=by kernel_rfl
theorem km:convI prog 190 161=some .u64:=by kernel_rfl
theorem oY:convI prog 190 5=some .u8:=by kernel_rfl
theorem mk_22:mkT prog 22=some (5,.int .u8 0,1):=by kernel_rfl
theorem lR:slT prog 62=some (190,1):=by kernel_rfl
def d32 (l:List UInt32) (i:Nat):Nat:=(l.getD i 0).toNat
def d64 (l:List UInt64) (i:Nat):Nat:=(l.getD i 0).toNat
theorem mB (l:List UInt32) (i:Nat) (h:i<l.length):((l[i]'h).toNat:Int)=d32 l i:=by simp [d32,h]
theorem qA (l:List UInt64) (i:Nat) (h:i<l.length):((l[i]'h).toNat:Int)=d64 l i:=by simp [d64,h]
theorem kZ (l:List UInt32) (i:Nat):d32 l i<4294967296:=UInt32.toNat_lt _
theorem d32_out (l:List UInt32) (i:Nat) (h:l.length<=i):d32 l i=0:=by
 unfold d32;rw [bi,cv h];rfl
theorem oX (l:List UInt64) (i:Nat) (h:l.length<=i):d64 l i=0:=by
 unfold d64;rw [bi,cv h];rfl
def tsz (f:Nat->Nat):Nat->Nat
 |0=>0
 |n+1=>if f n=0 then tsz f n else n+1
theorem gH (f:Nat->Nat):∀ n,tsz f n<=n
 |0=>aL _
 |n+1=>by unfold tsz;split;(have:=gH f n;omega);exact aL _
theorem tsz_top (f:Nat->Nat):∀ n,tsz f n≠0->f (tsz f n-1)≠0
 |0,h=>absurd U h
 |n+1,h=>by
  unfold tsz at h |-
  by_cases hf:f n=0
  ·rw [if_pos hf] at h |-;exact tsz_top f n h
  ·rw [if_neg hf];exact hf
theorem l_ (f:Nat->Nat):∀ n i,tsz f n<=i->i<n->f i=0
 |0,i,_,h=>by omega
 |n+1,i,h,h2=>by
  unfold tsz at h;by_cases hf:f n=0
  ·rw [if_pos hf] at h;by_cases hi:i=n
   ·subst hi;exact hf
   ·exact l_ f n i h z2_
  ·rw [if_neg hf] at h;omega
theorem sY (f:Nat->Nat) (n:Nat) (h:¬ (0<n/\f (n-1)=0)):tsz f n=n:=by
 cases n with
 |zero=>rfl
 |succ n=>unfold tsz;exact if_neg (λhf=>h ⟨by omega,hf⟩)
theorem tsz_go (f:Nat->Nat) (n:Nat) (h:0<n/\f (n-1)=0):tsz f n=tsz f (n-1):=by
 obtain⟨m,rfl⟩:∃ m,n=m+1:=⟨n-1,by omega⟩;conv=>lhs;unfold tsz
 exact if_pos h.2
def bl (n:Nat):Nat:=if n=0 then 0 else n.log2+1
theorem bl_half (n:Nat) (h:0<n):bl n=bl (n / 2)+1:=by
 unfold bl;rw [if_neg z2_,Nat.log2_def];split
 ·rw [if_neg z2_]
 ·rw [if_pos z2_]
theorem uJ (k n:Nat):2 ^ k<=n->bl n=k+bl (n / 2 ^ k):=by
 induction k generalizing n with
 |zero=>intro _;simp
 |succ k ih =>
  intro h;rw [Nat.pow_succ] at h;have hp:0<2 ^ k:=Nat.two_pow_pos k;rw [bl_half n z2_,ih (n / 2) z2_,Nat.div_div_eq_div_mul,Nat.pow_succ,Nat.mul_comm 2];omega
theorem sL (k n:Nat) (h:n<2 ^ k):bl n<=k:=by
 unfold bl;split
 ·omega
 ·have:=(Nat.log2_lt z7_).2 h;omega
theorem sK (l:List UInt32) (i:Nat):bl (d32 l i)<=32:=sL 32 _ (kZ l i)
def tab8:LB:=[0,1]++List.replicate 2 2++List.replicate 4 3++List.replicate 8 4++List.replicate 16 5++List.replicate 32 6++List.replicate 64 7++List.replicate 128 8
theorem tab8_len:tab8.length=256:=by decide +kernel
theorem tab8_at (n:Nat) (h:n<256):byteAt tab8 n=bl n:=by
 have:∀ i:Fin 256,byteAt tab8 i.val=bl i.val:=by decide +kernel
 exact this ⟨n,h⟩
theorem il {a:OA}{c:Nat}{l:List UInt32}{h:Part}(hl:SlR u32R 1 h a c l):Pure prog 140 [.slice a l.length c] h (.int .i64 (tsz (d32 l) l.length:Nat)):=by
 have hll:=hl.big;refine aM func140 U ntmps140 U (λe he=>?_);refine bg [(0,_)] ⟨U,trivial⟩ ?_;refine Sr (Ru 1 U (a_ (Sr (Ru 3 U (a_ (az (aJ (bM (λt_ S_ h_ L_=>∃ (n:Nat),t_=n+1/\S_=[(0,.slice a l.length c),(3,.int .i64 n)]/\h=h_/\L_=[]/\(n<=l.length/\tsz (d32 l) l.length=tsz (d32 l) n)) ⟨_,_,?_,⟨l.length,U,U,U,U,⟨aL _,U⟩⟩⟩ ?_))))))))
 ·exact g7
 rintro _ _ _ _ ⟨n,rfl,rfl,rfl,rfl,hn,he⟩;refine az (az (cJ [(15,.bool (decide (0<n/\d32 l (n-1)=0)))] [(0,_),(3,_)] ⟨U,U,trivial⟩ ?_ ?_))
 ·refine Rg (Ru 3 U (Bs 8 U (λhc1=>?_) λhc1=>?_))
  ·refine Ru 2 U (aQ U U  si_ U ?_);refine cH U U  (aI lR U U z9_ z7_ U z2_) U ?_;rintro _ ⟨b2,o2,hi2,rfl,hE2⟩;refine aQ U U  (dX gX U z7_) U ?_;rw [mB,show((n:Int)-1).toNat=n-1 by omega];refine Ru 2 U (a_ (⟨U,U,?_⟩));exact z41_
  refine Ru 7 U (a_ (⟨U,U,?_⟩));exact z41_
 refine Cs U (λhc4=>?_) λhc4=>?_
 ·refine aA (aJ (Rg (Ru 1 U (ah si_ U ?_))));refine Ru 1 U (a_ (⟨_,?_,_,?_,⟨n-1,U,U,U,U,⟨by omega,by rw [he,tsz_go _ _ z2_]⟩⟩⟩))
  ·omega
  exact g7
 exact bA (Sr (Ru 2 U (Nk [2] U (aH (ay U U) (by rw [he,sY _ _ z2_]) U))))
def hiQ (D n:Nat):Nat:=if D<=n then n / D else n
def hiA (D k n:Nat):Nat:=if D<=n then k else 0
theorem hi_bl (k n:Nat):bl n=hiA (2 ^ k) k n+bl (hiQ (2 ^ k) n):=by
 unfold hiA hiQ;split
 ·exact uJ k n z7_
 ·simp
theorem hi_pos {D n:Nat}(k:Nat) (h:D<=n):hiQ D n=n / D/\hiA D k n=k:=⟨if_pos h,if_pos h⟩
theorem hi_neg {D n:Nat}(k:Nat) (h:¬ D<=n):hiQ D n=n/\hiA D k n=0:=⟨if_neg h,if_neg h⟩
theorem hiA_le (D k n:Nat):hiA D k n<=k:=by unfold hiA;split<;>omega
theorem len32_fn {n:Nat}{h:Part}(hn:n<4294967296):Pure prog 141 [.int .u32 n] h (.int .i64 (bl n:Nat)):=by
 have htl:=tab8_len;have h1:hiQ 65536 n<65536:=by unfold hiQ;split<;>omega
 have h2:hiQ 256 (hiQ 65536 n)<256:=(show ∀ m,m<65536->hiQ 256 m<256 from λm hm=>by unfold hiQ;split<;>omega) _ h1;have e1:bl n=hiA 65536 16 n+bl (hiQ 65536 n):=hi_bl 16 n;have e2:bl (hiQ 65536 n)=hiA 256 8 (hiQ 65536 n)+bl (hiQ 256 (hiQ 65536 n)):=hi_bl 8 _;have l1:=hiA_le 65536 16 n;have l2:=hiA_le 256 8 (hiQ 65536 n);have l3:=tab8_at _ h2;have l4:=sL 8 _ h2;refine aM func141 U ntmps141 U (λe he=>?_);refine bg [(0,_)] ⟨U,trivial⟩ ?_;refine Sr (Ru 1 U (a_ (az (Sr (Ru 2 U (a_ (cJ [(0,.int .u32 (hiQ 65536 n:Nat)),(2,.int .i64 (hiA 65536 16 n:Nat))] [] trivial ?_ ?_)))))))
 ·refine Cs U (λhc1=>?_) λhc1=>?_
  ·have q:=hi_pos (D:=65536) (n:=n) 16 z2_;refine Sr (Ru 1 U (ah (RunV.shr_u32 65536 U U bT bT bT) U ?_));refine Ru 1 U (Nk [0,2] U (Rg (Ru 1 U (a_ (⟨U,U,?_⟩)))));exact g7
  have q:=hi_neg (D:=65536) (n:=n) 16 z2_;refine aA (⟨U,U,?_⟩);exact g7
 refine az (Sr (Ru 2 U (a_ (cJ [(0,.int .u32 (hiQ 256 (hiQ 65536 n):Nat)),(2,.int .i64 (hiA 65536 16 n+hiA 256 8 (hiQ 65536 n):Nat))] [] trivial ?_ ?_))))
 ·refine Cs U (λhc2=>?_) λhc2=>?_
  ·have q:=hi_pos (D:=256) (n:=hiQ 65536 n) 8 z2_;refine Sr (Ru 1 U (ah (RunV.shr_u32 256 U U bT bT bT) U ?_));refine Ru 1 U (Nk [0,2] U (Rg (Ru 1 U (ah ai_ U ?_))));refine Ru 1 U (a_ (⟨U,U,?_⟩));exact g7
  have q:=hi_neg (D:=256) (n:=hiQ 65536 n) 8 z2_;refine aA (⟨U,U,?_⟩);exact g7
 refine Sr (Ru 2 U (ah (by first|exact RunV.conv_u8 oY rfl z2_ z2_|exact cL oY rfl) U ?_));refine ah (bH (p:=tab8) (m:=hiQ 256 (hiQ 65536 n)) dC cP U U z2_) U ?_;rw [l3];refine ah lH U ?_;refine ah ai_ U ?_;exact Ru 1 U (Nk [2] U (aH (ay U U) (by rw [e1,e2,dT,dT,dT,Int.add_assoc]) U))
def nbits (f:Nat->Nat) (n:Nat):Nat:=if tsz f n=0 then 0 else 32*(tsz f n-1)+bl (f (tsz f n-1))
theorem fx {a:OA}{c:Nat}{l:List UInt32}{h:Part}(hl:SlR u32R 1 h a c l):Pure prog 84 [.slice a l.length c] h (.int .i64 (nbits (d32 l) l.length:Nat)):=by
 have hll:=hl.big;have ht:=gH (d32 l) l.length;have hb:=sK l (tsz (d32 l) l.length-1);refine aM func84 U ntmps84 U (λe he=>?_);refine bg [(0,_)] ⟨U,trivial⟩ ?_;refine Sr (Ru 1 U (a_ (Sr (Ru 1 U (bh uG U (il z7_) U ?_)))));refine Ru 1 U (a_ (az (Sr (Ru 2 U (a_ (Cs U (λhc2=>?_) λhc2=>?_))))))
 ·have hz:nbits (d32 l) l.length=0:=if_pos z2_;exact Sr (Ru 1 U (Nk [2,3,0] U (aH (ay U U) (by rw [hz];rfl) U)))
 have hz:nbits (d32 l) l.length=32*(tsz (d32 l) l.length-1)+bl (d32 l (tsz (d32 l) l.length-1)):=if_neg z2_;refine aA (Kp [3,2,0] U (Sr (Ru 1 U (ah si_ U ?_))));refine ah jM U ?_;refine Ru 2 U (ah si_ U ?_);refine cm (aI lR U U z9_ z7_ U z2_) U ?_;rintro _ ⟨b3,o3,hi3,rfl,hE3⟩;refine ah (dX gX U z7_) U ?_;rw [mB,show((tsz (d32 l) l.length:Int)-1).toNat=tsz (d32 l) l.length-1 by omega];refine bh ca_141 U (len32_fn (kZ _ _)) U ?_;refine ah ai_ U ?_;exact Ru 1 U (Nk [2] U (aH (ay U U) (by rw [hz];exact congrArg (Value.int .i64) z2_) U))
def wB (f:Nat->Nat) (i:Nat):UInt8:=UInt8.ofNat (f (i / 4) / 256 ^ (i % 4))
def natW (f:Nat->Nat):Nat->LB
 |0=>[]
 |k+1=>wB f k::natW f k
theorem jm (f:Nat->Nat):∀ k,(natW f k).length=k
 |0=>rfl
 |k+1=>by simp [natW,jm f k]
theorem shr_d (i:Nat):(2:Int) ^ (8*((i:Int) % 4)).toNat=256 ^ (i % 4):=by
 have:(8*((i:Int) % 4)).toNat=8*(i % 4):=by omega
 rw [this,Int.pow_mul];rfl
theorem set_rep (m:Nat) (t:LB) (x:UInt8):(List.replicate (m+1) 0++t).set m x=List.replicate m 0++x::t:=by
 rw [List.replicate_succ',List.append_assoc,List.set_append_right _ _ (by simp)];simp
theorem rep_one (m:Nat) (t:LB):(List.replicate (m+1) 0++t:LB)=List.replicate m 0++0::t:=by
 rw [List.replicate_succ',List.append_assoc];rfl
theorem sb {a:OA}{c k:Nat}{l:List UInt32}{h:Part}(hl:SlR u32R 1 h a c l) (hk:k<=65536) (hb:(nbits (d32 l) l.length+7) / 8<=k) :
 FnR prog 127 [.slice a l.length c,.int .i64 k] h (λv h'=>∃ a' c',v=.tuple #[.slice a' (natW (d32 l) k).length c',.int .i64 0]/\SlR u8R 1 h' a' c' (natW (d32 l) k)):=by
 have hll:=hl.big;refine aM func127 U ntmps127 U (λe he=>?_);refine bg [(0,_),(1,_)] ⟨U,U,trivial⟩ ?_;have hh0:=aT h;refine Sr (Ru 2 U (a_ (az (Sr (Ru 3 U ?_)))));apply On 10 13 3 [5,4,0,1] U U
 rotate_left
 ·intro hb1 hc1;exact Ru 3 U (Ae (om_f hb1 U) U)
 rotate_right
 ·exact λhb1 _=>Ru 3 U (Ae (om_t hb1 U) U)
 refine a_ (Cs U (λhc2=>?_) λhc2=>?_)
 ·exfalso;omega
 refine aA (az (Sr (Ru 1 U (bh ca_84 U (fx z7_) U ?_))));refine ah ai_ U ?_;refine ah qX U ?_;refine Ru 2 U (Nk [19,5,4,0,1] U (Cs U (λhc4=>?_) λhc4=>?_))
 ·exfalso;omega
 refine aA (Sr (Ru 1 U ?_));refine JL.make1 mk_22 U U (m:=k) U U z2_ U U (λb1=>?_);rw [kR];refine Ru 1 U (a_ (az (Sr (Ru 2 U (a_ (aJ (bM (λt_ S_ h_ L_=>∃ (i:Nat) (out:LB),t_=k-i/\S_=[(0,.slice a l.length c),(1,.int .i64 k),(6,.slice (some ⟨b1,0,none⟩) k k),(22,.int .i64 k),(23,.int .i64 i)]/\h=h_/\L_=[.row (some ⟨b1,0,none⟩) k 5 1 k (u8s out)]/\(i<=k/\out=List.replicate (k-i) 0++natW (d32 l) i)) ⟨_,_,?_,⟨0,_,U,U,U,U,⟨by omega,by simp [natW]⟩⟩⟩ ?_)))))))
 ·exact z6_
 rintro _ _ _ _ ⟨i,out,rfl,rfl,rfl,rfl,hi,ho⟩;refine Sr (Ru 1 U (a_ (az (Cs U (λhc6=>?_) λhc6=>?_))))
 ·have hol:out.length=k:=(by rw [ho,aU,List.length_replicate,jm];omega);have hdl:=kZ l (i / 4);refine aA (az (aJ (Sr (Ru 2 U (a_ (Sr (Ru 1 U (ah qX U ?_))))))));refine Ru 3 U (a_ (Cs U (λhc7=>?_) λhc7=>?_))
  ·obtain⟨m,hm⟩:∃ m,k-i=m+1:=⟨k-i-1,by omega⟩;have hset:out.set (k-1-i) (wB (d32 l) i)=List.replicate (k-(i+1)) 0++natW (d32 l) (i+1):=(by rw [ho,hm,show k-1-i=m by omega,set_rep,show k-(i+1)=m by omega];rfl);refine Rg (Ru 2 U (ah si_ U ?_));refine Ru 1 U (ah si_ U ?_);refine Ru 2 U (ah qX U ?_);refine cm (aI lR U U z9_ z7_ U z2_) U ?_;rintro _ ⟨b8,o8,hi8,rfl,hE8⟩;refine ah (dX gX U z7_) U ?_;rw [mB,show((i:Int) / 4).toNat=i / 4 by omega];refine Ru 1 U (ah uY U ?_);refine ah jM U ?_;refine ah (RunV.shr_u32 (256 ^ (i % 4)) U U z2_ z2_ (shr_d i)) U ?_;refine ah (cT (d32 l (i / 4) / 256 ^ (i % 4)) oY U (by rw [Int.natCast_ediv,Int.natCast_pow];rfl)) U ?_;refine ah (RunV.index_at cY (m:=k-1-i) U U z2_ z2_) U ?_;refine JL.storeRow ff U U U dl_ (show k-1-i<(u8s out).length by rw [gZ];omega) ?_;rw [nB];refine a_ (Rg (ah ai_ U ?_));refine Ru 1 U (a_ (⟨_,?_,_,?_,⟨i+1,_,U,U,U,U,⟨by omega,hset⟩⟩⟩))
   ·omega
   exact z6_
  obtain⟨m,hm⟩:∃ m,k-i=m+1:=⟨k-i-1,by omega⟩;have hset:out=List.replicate (k-(i+1)) 0++natW (d32 l) (i+1):=(by rw [ho,hm,rep_one,show k-(i+1)=m by omega,natW,wB,d32_out l (i / 4) z2_,Nat.zero_div];rfl);refine aA (Rg (ah ai_ U ?_));refine Ru 1 U (a_ (⟨_,?_,_,?_,⟨i+1,_,U,U,U,U,⟨by omega,hset⟩⟩⟩))
  ·omega
  exact z6_
 refine bA (Kp [6] U (Sr ?_));have hik:i=k:=z2_;have ho2:out=natW (d32 l) k:=(by rw [ho,hik,Nat.sub_self];rfl);have hkl:=jm (d32 l) k;subst ho2;refine cW (R:=u8R) (l:=natW (d32 l) k) dl_ bm z2_ z2_ (λh9 hle9 hS9=>?_);exact Ru 3 U (a_ (bj (b_ U U U) ⟨_,_,by rw [hkl],hS9⟩))
def cutZ (l:List UInt64):List UInt64:=l.take (tsz (d64 l) l.length)
def m64 (x:UInt32):UInt64:=UInt64.ofNat x.toNat
theorem oB (x:UInt32):(m64 x).toNat=x.toNat:=by
 have:=UInt32.toNat_lt x;unfold m64;rw [UInt64.toNat_ofNat'];omega
theorem mA (l:List UInt32) (i:Nat):d64 (l.map m64) i=d32 l i:=by
 unfold d64 d32;by_cases h:i<l.length
 ·simp [h,oB]
 ·simp [h]
theorem pn {f g:Nat->Nat}(h:∀ i,f i=g i) (n:Nat):tsz f n=tsz g n:=by rw [show f=g from funext h]
theorem uz (l:List UInt64) (k i:Nat) (h:∀ i,k<=i->i<l.length->d64 l i=0):d64 (l.take k) i=d64 l i:=by
 by_cases hi:i<k
 ·unfold d64;simp [List.getElem?_take,hi]
 ·by_cases hl:i<l.length
  ·rw [h i z2_ hl,oX _ _ (by rw [bz];omega)]
  ·rw [oX l _ z2_,oX _ _ (by rw [bz];omega)]
def digsB (l:List UInt32):List UInt64:=cutZ (l.map m64)
theorem digsB_len (l:List UInt32):(digsB l).length=tsz (d32 l) l.length:=by
 unfold digsB cutZ;have:=gH (d64 (l.map m64)) (l.map m64).length;rw [bz,Nat.min_eq_left this,pn (mA l),aD]
theorem uu (l:List UInt32) (i:Nat):d64 (digsB l) i=d32 l i:=by
 unfold digsB cutZ;rw [uz _ _ _ (λi h1 h2=>l_ _ _ i h1 h2),mA]
theorem cut_fn {a:OA}{c:Nat}{l:List UInt64}{h:Part}(hl:SlR u64R 1 h a c l):FnR prog 286 [.slice a l.length c] h (λv h'=>∃ a' c',v=.slice a' (cutZ l).length c'/\SlR u64R 1 h' a' c' (cutZ l)):=by
 have hll:=hl.big;have hh0:=aT h;refine aM func286 U ntmps286 U (λe he=>?_);refine bg [(0,_)] ⟨U,trivial⟩ ?_;refine Sr (Ru 1 U (a_ (Sr (Ru 3 U (a_ (az (aJ (bM (λt_ S_ h_ L_=>∃ (n:Nat),t_=n+1/\S_=[(0,.slice a l.length c),(3,.int .i64 n)]/\h=h_/\L_=[]/\(n<=l.length/\tsz (d64 l) l.length=tsz (d64 l) n)) ⟨_,_,?_,⟨l.length,U,U,U,U,⟨aL _,U⟩⟩⟩ ?_))))))))
 ·exact g7
 rintro _ _ _ _ ⟨n,rfl,rfl,rfl,rfl,hn,he⟩;refine az (az (cJ [(15,.bool (decide (0<n/\d64 l (n-1)=0)))] [(0,_),(3,_)] ⟨U,U,trivial⟩ ?_ ?_))
 ·refine Rg (Ru 3 U (Bs 8 U (λhc1=>?_) λhc1=>?_))
  ·refine Ru 2 U (aQ U U  si_ U ?_);refine cH U U  (aI dk U U z9_ z7_ U z2_) U ?_;rintro _ ⟨b2,o2,hi2,rfl,hE2⟩;refine aQ U U  (bU dy U z7_) U ?_;rw [qA,show((n:Int)-1).toNat=n-1 by omega];refine Ru 2 U (a_ (⟨U,U,?_⟩));exact z41_
  refine Ru 7 U (a_ (⟨U,U,?_⟩));exact z41_
 refine Cs U (λhc4=>?_) λhc4=>?_
 ·refine aA (aJ (Rg (Ru 1 U (ah si_ U ?_))));refine Ru 1 U (a_ (⟨_,?_,_,?_,⟨n-1,U,U,U,U,⟨by omega,by rw [he,tsz_go _ _ z2_]⟩⟩⟩))
  ·omega
  exact g7
 have hcz:l.take n=cutZ l:=(by unfold cutZ;rw [he,sY _ _ z2_]);refine bA (Sr (Ru 2 U (cm (RunE.cut_h dk (m:=n) U U U z7_ U z2_) U ?_)));rintro _ ⟨a9,c9,rfl,hS9⟩;rw [hcz] at hS9 |-
 exact Ru 1 U (Nk [2] U (bj (ay U U) ⟨_,_,U,hS9⟩))
theorem iS {a:OA}{c:Nat}{l:List UInt32}{h:Part}(hl:SlR u32R 1 h a c l) (hlen:l.length<=1000000):FnR prog 261 [.slice a l.length c] h (λv h'=>∃ a' c',v=.slice a' (digsB l).length c'/\SlR u64R 1 h' a' c' (digsB l)):=by
 have hll:=hl.big;refine aM func261 U ntmps261 U (λe he=>?_);refine bg [(0,_)] ⟨U,trivial⟩ ?_;refine Sr (Ru 1 U (a_ (Sr (Ru 1 U (a_ (az (Sr (bZ 161 1 ?_))))))));refine Ru 1 U (a_ (aJ (bM (λt_ S_ h_ L_=>∃ (g:Part) (i:Nat) (ao:OA) (co:Nat) (xs:LV),t_=l.length-i/\S_=[(0,.slice a l.length c),(3,.slice ao ((l.map m64).take i).length co),(4,.int .i64 i)]/\g=h_/\L_=[.row ao co 161 1 ((l.map m64).take i).length xs]/\(h.le g/\i<=l.length/\CellsR u64R 1 g xs ((l.map m64).take i))) ⟨_,_,?_,⟨_,0,_,_,_,U,U,U,U,⟨aT _,by omega,bQ⟩⟩⟩ ?_)))
 ·exact z6_
 rintro _ _ _ _ ⟨g,i,ao,co,xs,rfl,rfl,rfl,rfl,hhg,hi,hC⟩;have hl:=hl.mono hhg;refine az (Sr (Ru 4 U (a_ (Cs U (λhc1=>?_) λhc1=>?_))))
 ·have hi2:i<l.length:=z2_;have hi':i<(l.map m64).length:=(by rw [aD];omega);have htl:((l.map m64).take i).length=i:=(by rw [bz,aD];omega);have hke:(l.map m64).take i++[m64 (l[i]'hi2)]=(l.map m64).take (i+1):=(by rw [am hi',List.getElem_map]);refine aA (az (aJ (Rg (Ru 3 U (cm (aI lR U U z9_ z7_ U z2_) U ?_)))));rintro _ ⟨b2,o2,hi2,rfl,hE2⟩;refine ah (dX gX U z7_) U ?_;refine ah (by first|exact dJ km rfl z2_ z2_|exact RunV.convw_u64 km rfl|exact cL km rfl) U ?_;refine cF gC lF U U U U U (λb4=>?_);refine bV gC U U z7_ U dl_ dl_ U ((by show _=_;rw [oB]:u64R _ [.int .u64 (l[i].toNat:Int)] (m64 l[i]))) z3_ U U (λa5 c5 xs5 hC5 hN5=>?_);rw [hke] at *;refine Ru 1 U (a_ (Rg (Ru 1 U (ah ai_ U ?_))));refine Ru 1 U (a_ (⟨_,?_,_,?_,⟨_,i+1,_,_,_,U,U,U,U,⟨by assumption,by omega,by assumption⟩⟩⟩))
  ·omega
  exact z6_
 refine bA (Kp [3] U (Sr (Ru 1 U ?_)));have hke:(l.map m64).take i=l.map m64:=aS (by rw [aD];omega);have hml:(l.map m64).length=l.length:=aD ..;rw [hke] at hC |-;refine cW (R:=u64R) dl_ z7_ U z2_ (λh9 hle9 hS9=>?_);replace hl:=hl.mono hle9;replace hC:=hC.mono hle9;replace hhg:=hhg.mono hle9
 refine bL ca_286 U (cut_fn z7_) U ?_;rintro _ h6 hle6 ⟨a6,c6,rfl,hS6⟩
 replace hl:=hl.mono hle6
 replace hhg:=hhg.mono hle6
 replace hC:=hC.mono hle6
 exact Ru 1 U (a_ (bj (ay U U) ⟨_,_,U,by assumption⟩))
theorem digit_fn {a:OA}{c i:Nat}{l:List UInt64}{h:Part}(hl:SlR u64R 1 h a c l):Pure prog 264 [.slice a l.length c,.int .i64 i] h (.int .u64 (d64 l i:Nat)):=by
 have hll:=hl.big;refine aM func264 U ntmps264 U (λe he=>?_);refine bg [(0,_),(1,_)] ⟨U,U,trivial⟩ ?_;refine Sr (Ru 1 U (a_ (az (Sr (Ru 4 U (a_ (Cs U (λhc1=>?_) λhc1=>?_)))))))
 ·refine Sr (Ru 2 U (cm (aI dk U U z9_ z7_ U z2_) U ?_));rintro _ ⟨b2,o2,hi2,rfl,hE2⟩;refine ah (bU dy U z7_) U ?_;rw [qA];exact Ru 1 U (Nk [4] U (aH (ay U U) U U))
 exact aA (Kp [4] U (Sr (Ru 1 U (a_ (aH (ay U U) (by rw [oX l i z2_];rfl) U)))))
theorem digit_fn' {a:OA}{c i:Nat}{q:Int}{l:List UInt64}{h:Part}(hl:SlR u64R 1 h a c l) (hq:q=(i:Int)):Pure prog 264 [.slice a l.length c,.int .i64 q] h (.int .u64 (d64 l i:Nat)):=by
 subst hq;exact digit_fn hl
theorem ig {a:OA}{c:Nat}{l:List UInt32}{h:Part}(hl:SlR u32R 1 h a c l) (hlen:l.length<=1000000):FnR prog 234 [.slice a l.length c] h (λv _=>v=.int .i64 (nbits (d32 l) l.length:Nat)):=by
 have hll:=hl.big;have ht:=gH (d32 l) l.length;have hdl:=digsB_len l;refine aM func234 U ntmps234 U (λe he=>?_);refine bg [(0,_)] ⟨U,trivial⟩ ?_;have hh0:=aT h;refine Sr (Ru 1 U (a_ (Sr (Ru 1 U (bL uD U (iS z7_ z2_) U ?_)))));rintro _ h1 hle1 ⟨a1,c1,rfl,hS1⟩
 replace hl:=hl.mono hle1
 replace hh0:=hh0.mono hle1
 refine Ru 1 U (a_ (az (Sr (Ru 3 U (Nk [10,3,2] U (Cs U (λhc2=>?_) λhc2=>?_))))))
 ·have hz:nbits (d32 l) l.length=0:=if_pos z2_;exact Sr (Ru 1 U (a_ (bj (ay U U) (by rw [hz];rfl))))
 have hz:nbits (d32 l) l.length=32*(tsz (d32 l) l.length-1)+bl (d32 l (tsz (d32 l) l.length-1)):=if_neg z2_;have hb:=sK l (tsz (d32 l) l.length-1);refine aA (Sr (Ru 2 U (ah si_ U ?_)));refine ah jM U ?_;refine Ru 1 U (Nk [4,3,2] U (az (Sr (Ru 3 U (ah si_ U ?_)))));refine cm (aI dk U U z9_ z7_ U z2_) U ?_;rintro _ ⟨b3,o3,hi3,rfl,hE3⟩;refine ah (bU dy U z7_) U ?_;rw [qA,show(((digsB l).length:Int)-1).toNat=tsz (d32 l) l.length-1 by omega,uu];refine Ru 1 U (Nk [5,4,2] U (aJ (bM (λt_ S_ h_ L_=>∃ (m:Nat),t_=m+1/\S_=[(4,.int .i64 ((32*(tsz (d32 l) l.length-1)+bl (d32 l (tsz (d32 l) l.length-1)):Nat)-(bl m:Nat):Int)),(5,.int .u64 m)]/\h1=h_/\L_=[]/\(m<4294967296)) ⟨_,_,?_,⟨d32 l (tsz (d32 l) l.length-1),U,U,U,U,kZ _ _⟩⟩ ?_)))
 ·exact g7
 rintro _ _ _ _ ⟨m,rfl,rfl,rfl,rfl,hm⟩;have hbm:=sL 32 m hm;refine az (Sr (Ru 2 U (a_ (Cs U (λhc5=>?_) λhc5=>?_))))
 ·have hbh:=bl_half m z2_;refine aA (az (aJ (Rg (Ru 1 U (ah ai_ U ?_)))));refine Ru 1 U (a_ (Rg (Ru 1 U (ah z35_ U ?_))));refine Ru 1 U (a_ (⟨_,?_,_,?_,⟨m / 2,U,U,U,U,by omega⟩⟩))
  ·omega
  exact g7
 have hm0:m=0:=z2_;subst hm0;exact bA (Sr (Ru 2 U (Nk [2] U (bj (ay U U) (by rw [hz];exact congrArg (Value.int .i64) (by show _-((0:Nat):Int)=_;omega))))))
theorem vB (n:Nat):UInt8.ofNat (n % 256)=UInt8.ofNat n:=by
 apply UInt8.toNat_inj.1;simp
theorem rwrite_fn {a:OA}{c k:Nat}{l:List UInt32}{h:Part}(hl:SlR u32R 1 h a c l) (hlen:l.length<=1000000) (hk:k<=65536) (hb:nbits (d32 l) l.length<=8*k) :
 FnR prog 237 [.slice a l.length c,.int .i64 k] h (λv h'=>∃ a' c',v=.tuple #[.slice a' (natW (d32 l) k).length c',.int .i64 0]/\SlR u8R 1 h' a' c' (natW (d32 l) k)):=by
 have hll:=hl.big;refine aM func237 U ntmps237 U (λe he=>?_);refine bg [(0,_),(1,_)] ⟨U,U,trivial⟩ ?_;have hh0:=aT h;refine Sr (Ru 2 U (a_ (az (Sr (Ru 3 U ?_)))));apply On 13 16 3 [5,4,0,1] U U
 rotate_left
 ·intro hb1 hc1;exact Ru 3 U (Ae (om_f hb1 U) U)
 rotate_right
 ·exact λhb1 _=>Ru 3 U (Ae (om_t hb1 U) U)
 refine a_ (Cs U (λhc2=>?_) λhc2=>?_)
 ·exfalso;omega
 refine aA (Sr (Ru 1 U (bL uD U (iS z7_ z2_) U ?_)));rintro _ h3 hle3 ⟨da,dc,rfl,hD⟩
 replace hl:=hl.mono hle3
 replace hh0:=hh0.mono hle3
 refine Ru 1 U (a_ (az (Sr (Ru 1 U (bL qM U (ig z7_ z2_) U ?_)))));rintro _ h4 hle4 rfl
 replace hl:=hl.mono hle4
 replace hh0:=hh0.mono hle4
 replace hD:=hD.mono hle4
 refine Ru 1 U (ah jM U ?_);refine Ru 1 U (Nk [23,6,5,4,1] U (Cs U (λhc5=>?_) λhc5=>?_))
 ·exfalso;omega
 refine aA (Sr (Ru 1 U ?_));refine JL.make1 mk_22 U U (m:=k) U U z2_ U U (λb1=>?_);rw [kR];refine Ru 1 U (a_ (az (Sr (Ru 1 U (a_ (aJ (bM (λt_ S_ h_ L_=>∃ (i:Nat) (out:LB),t_=k-i/\S_=[(1,.int .i64 k),(6,.slice da (digsB l).length dc),(7,.slice (some ⟨b1,0,none⟩) k k),(8,.int .i64 i)]/\h4=h_/\L_=[.row (some ⟨b1,0,none⟩) k 5 1 k (u8s out)]/\(i<=k/\out=List.replicate (k-i) 0++natW (d32 l) i)) ⟨_,_,?_,⟨0,_,U,U,U,U,⟨by omega,by simp [natW]⟩⟩⟩ ?_)))))))
 ·exact z6_
 rintro _ _ _ _ ⟨i,out,rfl,rfl,rfl,rfl,hi,ho⟩;refine az (Sr (Ru 3 U (a_ (Cs U (λhc7=>?_) λhc7=>?_))))
 ·have hol:out.length=k:=(by rw [ho,aU,List.length_replicate,jm];omega);have hdl:=kZ l (i / 4);obtain⟨m,hm⟩:∃ m,k-i=m+1:=⟨k-i-1,by omega⟩;have hset:out.set (k-1-i) (wB (d32 l) i)=List.replicate (k-(i+1)) 0++natW (d32 l) (i+1):=(by rw [ho,hm,show k-1-i=m by omega,set_rep,show k-(i+1)=m by omega];rfl);refine aA (az (aJ (Sr (Ru 2 U (ah qX U ?_)))));refine bh ca_264 U (digit_fn' (i:=i / 4) hD z2_) U ?_;rw [uu];refine Ru 1 U (a_ (az (Sr (Ru 1 U (a_ (aJ (bM (λt_ S_ h_ L_=>∃ (j y:Nat),t_=i % 4-j/\S_=[(1,.int .i64 k),(6,.slice da (digsB l).length dc),(7,.slice (some ⟨b1,0,none⟩) k k),(8,.int .i64 i),(9,.int .u64 (y:Nat)),(10,.int .i64 j)]/\h4=h_/\L_=[.row (some ⟨b1,0,none⟩) k 5 1 k (u8s out)]/\(j<=i % 4/\y=d32 l (i / 4) / 256 ^ j/\y<4294967296)) ⟨_,_,?_,⟨0,d32 l (i / 4),U,U,U,U,⟨by omega,by simp,hdl⟩⟩⟩ ?_)))))))
  ·exact z6_
  rintro _ _ _ _ ⟨j,y,rfl,rfl,rfl,rfl,hj,hy,hy2⟩;refine az (Sr (Ru 2 U (ah uY U ?_)));refine Ru 1 U (a_ (Cs U (λhc9=>?_) λhc9=>?_))
  ·refine aA (az (aJ (Rg (Ru 1 U (ah z35_ U ?_)))));refine Ru 1 U (a_ (Rg (Ru 1 U (ah ai_ U ?_))));refine Ru 1 U (a_ (⟨_,?_,_,?_,⟨j+1,y / 256,U,U,U,U,⟨by omega,by rw [hy,Nat.pow_succ,<- Nat.div_div_eq_div_mul],by omega⟩⟩⟩))
   ·omega
   exact z6_
  have hj4:j=i % 4:=z2_;subst hj4;refine bA (Rg (Ru 2 U (ah si_ U ?_)));refine Ru 1 U (ah si_ U ?_);refine Ru 1 U (ah (by first|exact RunV.rem_u64 rfl rfl z2_ z2_|exact RunV.rem rfl rfl z2_) U ?_);refine ah (cT (y % 256) fV U z2_) U ?_;rw [vB,hy];refine ah (RunV.index_at cY (m:=k-1-i) U U z2_ z2_) U ?_;refine JL.storeRow ff U U U dl_ (show k-1-i<(u8s out).length by rw [gZ];omega) ?_;rw [nB];refine a_ (Rg (Ru 1 U (ah ai_ U ?_)));refine Ru 1 U (a_ (⟨_,?_,_,?_,⟨i+1,_,U,U,U,U,⟨by omega,hset⟩⟩⟩))
  ·omega
  exact z6_
 refine bA (Kp [7] U (Sr ?_));have hik:i=k:=z2_;have ho2:out=natW (d32 l) k:=(by rw [ho,hik,Nat.sub_self];rfl);have hkl:=jm (d32 l) k;subst ho2;refine cW (R:=u8R) (l:=natW (d32 l) k) dl_ bm z2_ z2_ (λh9 hle9 hS9=>?_);exact Ru 3 U (a_ (bj (b_ U U U) ⟨_,_,by rw [hkl],hS9⟩))
theorem ap_62:apT prog 62=some (190,1,4):=by kernel_rfl
theorem ca_127:callT prog 127=true:=by kernel_rfl
theorem ca_237:callT prog 237=true:=by kernel_rfl
theorem ca_97:callT prog 97=true:=by kernel_rfl
theorem ga:convI prog 161 190=some .u32:=by kernel_rfl
theorem zr_190:zeroT prog 190=some [.int .u32 0]:=by kernel_rfl
theorem tS (l:List UInt32):nbits (d32 l) l.length<=32*l.length:=by
 have h:=gH (d32 l) l.length;have hb:=sK l (tsz (d32 l) l.length-1);unfold nbits;split<;>omega
def natN (l:List UInt32):Nd:=.mk 0 2 false (natW (d32 l) (nbits (d32 l) l.length / 8+1)) []
theorem qd {a:OA}{c k:Nat}{q:Int}{l:List UInt32}{h:Part}(hl:SlR u32R 1 h a c l) (hq:q=(k:Int)) (hk:k<=65536) (hb:(nbits (d32 l) l.length+7) / 8<=k) :
 FnR prog 127 [.slice a l.length c,.int .i64 q] h (λv h'=>∃ a' c',v=.tuple #[.slice a' (natW (d32 l) k).length c',.int .i64 0]/\SlR u8R 1 h' a' c' (natW (d32 l) k)):=by
 subst hq;exact sb hl hk hb
theorem vj {a:OA}{c k:Nat}{q:Int}{l:List UInt32}{h:Part}(hl:SlR u32R 1 h a c l) (hlen:l.length<=1000000) (hq:q=(k:Int)) (hk:k<=65536) (hb:nbits (d32 l) l.length<=8*k) :
 FnR prog 237 [.slice a l.length c,.int .i64 q] h (λv h'=>∃ a' c',v=.tuple #[.slice a' (natW (d32 l) k).length c',.int .i64 0]/\SlR u8R 1 h' a' c' (natW (d32 l) k)):=by
 subst hq;exact rwrite_fn hl hlen hk hb
theorem mv {a:OA}{c:Nat}{l:List UInt32}{h:Part}(hl:SlR u32R 1 h a c l) (hlen:l.length<=4096):FnR prog 73 [.slice a l.length c] h (λv h'=>∃ cs,v=.agg (List.toArray cs)/\NdR h' cs (natN l)):=by
 have hnb:=tS l;refine aM func73 U ntmps73 U (λe he=>?_);refine bg [(0,_)] ⟨U,trivial⟩ ?_;have hh0:=aT h;refine Sr (bI eF U (λb1=>?_));refine a_ (az (Sr (Ru 1 U (bh ca_84 U (fx z7_) U ?_))));refine Ru 1 U (a_ (Cs U (λhc3=>?_) λhc3=>?_))
 ·exfalso;omega
 refine aA (Sr (Ru 2 U (bh ca_84 U (fx z7_) U ?_)));refine ah qX U ?_;refine ah ai_ U ?_;refine bL ca_127 U (qd (k:=nbits (d32 l) l.length / 8+1) z7_ z2_ z2_ z2_) U ?_;rintro _ h5 hle5 ⟨wa,wc,rfl,hW⟩
 replace hl:=hl.mono hle5
 replace hh0:=hh0.mono hle5
 refine Ru 5 U (Nk [3,2] U (Sr (Ru 1 U (bL ca_24 U (rP z7_) U ?_))));rintro _ h6 hle6 ⟨w6,rfl,hNd6⟩
 replace hl:=hl.mono hle6
 replace hh0:=hh0.mono hle6
 replace hW:=hW.mono hle6
 refine aV bP U U dl_ f8 f9 z4_ ?_;exact a_ (bj (cr U U bP mm_ z4_) ⟨_,U,by assumption⟩)
theorem rz {a:OA}{c:Nat}{l:List UInt32}{h:Part}(hl:SlR u32R 1 h a c l) (hlen:l.length<=4096):FnR prog 181 [.slice a l.length c] h (λv h'=>∃ cs,v=.agg (List.toArray cs)/\NdR h' cs (natN l)):=by
 have hnb:=tS l;refine aM func181 U ntmps181 U (λe he=>?_);refine bg [(0,_)] ⟨U,trivial⟩ ?_;have hh0:=aT h;refine Sr (bI eF U (λb1=>?_));refine a_ (az (Sr (Ru 1 U (bL qM U (ig z7_ z2_) U ?_))));rintro _ h2 hle2 rfl
 replace hl:=hl.mono hle2
 replace hh0:=hh0.mono hle2
 refine Ru 1 U (a_ (Cs U (λhc3=>?_) λhc3=>?_))
 ·exfalso;omega
 refine aA (Sr (Ru 2 U (bL qM U (ig z7_ z2_) U ?_)));rintro _ h4 hle4 rfl
 replace hl:=hl.mono hle4
 replace hh0:=hh0.mono hle4
 refine ah qX U ?_;refine ah ai_ U ?_;refine bL ca_237 U (vj (k:=nbits (d32 l) l.length / 8+1) z7_ z2_ z2_ z2_ z2_) U ?_;rintro _ h5 hle5 ⟨wa,wc,rfl,hW⟩
 replace hl:=hl.mono hle5
 replace hh0:=hh0.mono hle5
 refine Ru 5 U (Nk [3,2] U (Sr (Ru 1 U (ah (bn (cs:=[.int .i64 0,_,.bool false,_,.slice none 0 0]) eR U U) U ?_))));refine aV bP U U dl_ f8 f9 z4_ ?_;exact a_ (bj (cr U U bP mm_ z4_) ⟨_,U,d_ hW bu⟩)
def fitI (n:Int) (j:Nat):Prop:=-128<=n / 256 ^ (j-1)/\n / 256 ^ (j-1)<128
instance (n:Int) (j:Nat):Decidable (fitI n j):=by unfold fitI;infer_instance
theorem ib_top (n:Int) (j:Nat):byteAt (ibytes n (j+1)) 0=(n / 256 ^ j % 256).toNat:=by
 show(UInt8.ofNat _).toNat=_;rw [UInt8.toNat_ofNat'];omega
theorem ib_next (n:Int) (j:Nat):byteAt (ibytes n (j+2)) 1=(n / 256 ^ j % 256).toNat:=by
 show(UInt8.ofNat _).toNat=_;rw [UInt8.toNat_ofNat'];omega
theorem oN (n:Int) (j:Nat):n / 256 ^ (j+1)=n / 256 ^ j / 256:=by
 rw [Int.pow_succ,Int.ediv_ediv_of_nonneg (Int.le_of_lt (Int.pow_pos bT))]
theorem oC (n:Int) (j:Nat) (h:fitI n (j+2)):leastB (ibytes n (j+2))=decide (¬ fitI n (j+1)):=by
 have e0:byteAt (ibytes n (j+2)) 0=_:=ib_top n (j+1);have e1:=ib_next n j;have ed:=oN n j;have hl:=dL n (j+2);unfold leastB;rw [if_neg z2_,if_neg z2_,decide_eq_decide];unfold fitI at h |-
 rw [show j+2-1=j+1 from rfl] at h;rw [show j+1-1=j from rfl];generalize n / 256 ^ j=q at *;generalize n / 256 ^ (j+1)=q' at *;omega
theorem td (n:Int) (j:Nat) (hj:j=0\/¬ fitI n j):∀ k,j+1<=k->(∀ i,j+1<=i->i<=k->fitI n i)->stripB (ibytes n k)=ibytes n (j+1)
 |0,h,_=>by omega
 |1,h,_=>by
  have:j=0:=by omega
  subst this;exact gI (by unfold leastB;rw [if_neg (by rw [dL];decide),if_pos (dL n 1)])
 |k+2,h,hf=>by
  have hlb:=oC n k (hf (k+2) h (aL _));by_cases hk:k+1=j
  ·subst hk;exact gI (by rw [hlb];exact aj (hj.resolve_left z2_))
  ·rw [lQ (by rw [hlb];exact au (λhn=>hn (hf (k+1) z2_ z2_)))];exact td n j hj (k+1) z2_ (λi h1 h2=>hf i h1 z2_)
theorem fit_up (n:Int) (i:Nat) (h:fitI n (i+1)):fitI n (i+2):=by
 have ed:=oN n i;unfold fitI at *;rw [show i+2-1=i+1 from rfl];rw [show i+1-1=i from rfl] at h;generalize n / 256 ^ i=q at *;generalize n / 256 ^ (i+1)=q' at *;omega
theorem fit_le (n:Int) (j:Nat) (h:fitI n (j+1)):∀ i,j+1<=i->fitI n i
 |0,h1=>by omega
 |1,h1=>by
  have:j=0:=by omega
  subst this;exact h
 |i+2,h1=>by
  by_cases he:j+1=i+2
  ·rw [<- he];exact h
  ·exact fit_up n i (fit_le n j h (i+1) z2_)
theorem js (n:Int) (j:Nat) (hj7:j<=7) (hj:j=0\/¬ fitI n j) (h:fitI n (j+1)):intB n=ibytes n (j+1) :=
 td n j hj 8 z2_ (λi h1 _=>fit_le n j h i h1)
theorem fit8 (n:Int) (h0:-9223372036854775808<=n) (h1:n<=9223372036854775807):fitI n 8:=by
 unfold fitI;rw [show(256:Int) ^ (8-1)=72057594037927936 by decide];omega
theorem tmod256 (q:Int):(q.tmod 256=q % 256/\0<=q.tmod 256)\/(q.tmod 256=q % 256-256/\q.tmod 256<0):=by
 have h1:=Int.tmod_eq_emod (a:=q) (b:=256);have h2:=Int.emod_nonneg q (b:=256) bT;have h3:=Int.emod_lt_of_pos q (b:=256) bT;split at h1
 ·left;omega
 ·right;rw [show((256:Int).natAbs:Int)=256 from rfl] at h1;omega
theorem RunV.quo256 {f:Fr}{S:Sig}{h:Part}{L:LE}{ty T yt:TypeId}{x y:Operand}{q:Int}(hx:ev S x=some (.int .i64 (q-q % 256))) (hy:ev S y=some (.int .i64 256)) (h0:-9223372036854775808<=q) (h1:q<=9223372036854775807):RunV f S h L (.binOp .quo T x y yt) ty (.int .i64 (q / 256)):=by
 have:=RunV.quo (f:=f) (h:=h) (L:=L) (ty:=ty) (T:=T) (yt:=yt) hx hy bT;have e:(q-q % 256).tdiv 256=q / 256:=by
  have:q-q % 256=256*(q / 256):=by omega
  rw [this,Int.mul_tdiv_cancel_left _ bT]
 rwa [e,fM _ z2_ z2_] at this
theorem rint_fn {n:Int}{h:Part}(h0:-9223372036854775808<=n) (h1:n<=9223372036854775807):FnR prog 36 [.int .i64 n] h (λv h'=>∃ cs,v=.agg (List.toArray cs)/\NdR h' cs (.mk 0 2 false (intB n) [])):=by
 refine aM func36 U ntmps36 U (λe he=>?_);refine bg [(0,_)] ⟨U,trivial⟩ ?_;have hh0:=aT h;refine Sr (bI eF U (λb1=>?_));refine a_ (Sr (Ru 1 U (a_ (aJ (bM (λt_ S_ h_ L_=>∃ (g:Part) (j:Nat) (q:Int) (la:OA) (lc:Nat),t_=8-j/\S_=[(0,.int .i64 q),(2,.pointer (some ⟨b1,0,none⟩)),(3,.slice la (ibytes n j).length lc)]/\g=h_/\L_=[.blk b1 35 [.int .i64 0,.int .i64 0,.bool false,.slice none 0 0,.slice none 0 0]]/\(h.le g/\SlR u8R 1 g la lc (ibytes n j)/\q=n / 256 ^ j/\-9223372036854775808<=q/\q<=9223372036854775807/\j<=7/\(j=0\/¬ fitI n j))) ⟨_,_,?_,⟨_,0,n,none,0,U,U,U,U,⟨by assumption,bu,by simp,by omega,by omega,by omega,.inl U⟩⟩⟩ ?_)))))
 ·exact z6_
 rintro _ _ _ _ ⟨g,j,q,la,lc,rfl,rfl,rfl,rfl,hhg,hL,hq,hq0,hq1,hj,hfj⟩;have htm:=tmod256 q;have hil:=dL n j;have hil1:=dL n (j+1);have hbt:=ib_top n j;have hb0:((ibytes n (j+1))[0]'z2_).toNat=(q % 256).toNat:=(by rw [bY,hbt,hq]);have hib:ibytes n (j+1)=UInt8.ofNat (q % 256).toNat::ibytes n j:=(by rw [hq];rfl);have hds:=oN n j;have hfd:fitI n (j+1)<->-128<=q/\q<128:=(by rw [hq];exact Iff.rfl);refine aJ (Sr (Ru 1 U (ah (RunV.rem U U bT) U ?_)));refine Ru 1 U (a_ (az (Sr (Ru 2 U (a_ (cJ [(4,.int .i64 (q % 256))] [(8,_),(7,_),(6,_),(0,_),(2,_),(3,_)] ⟨U,U,U,U,U,U,trivial⟩ ?_ ?_))))))
 ·refine Cs U (λhc2=>?_) λhc2=>?_
  ·refine Rg (Ru 1 U (ah ai_ U ?_));refine Ru 1 U (a_ (⟨U,U,?_⟩));exact g7
  refine aA (⟨U,U,?_⟩);exact g7
 refine Sr (Ru 1 U (a_ (Sr (Ru 2 U (ah (cT (q % 256).toNat cv_2_5 U z2_) U ?_)))));refine cF dq pg U U U U U (λb3=>?_);refine bZ 5 1 ?_;refine bV dq U U (bQ (R:=u8R)) U dl_ dl_ U (U) z3_ U U (λa4 c4 xs4 hC4 hN4=>?_);obtain rfl:=hC4.u8;refine Ru 1 U (a_ (Sr (Ru 2 U (bX dq U U bm U z7_ U dl_ z3_ U U (λa5 c5 xs5 hC5 hN5=>?_)))));obtain rfl:=hC5.u8;refine cW (R:=u8R) (l:=UInt8.ofNat (q % 256).toNat::ibytes n j) dl_ bm U z3_ (λh6 hle6 hP6=>?_)
 replace hhg:=hhg.mono hle6
 replace hL:=hL.mono hle6
 rw [<- hib] at hP6;rw [show([]++[UInt8.ofNat (q % 256).toNat]++ibytes n j:LB)=ibytes n (j+1) from hib.symm];refine ah (bS U) U ?_;refine a_ (Sr (Ru 2 U (ah si_ U ?_)));refine ah (RunV.quo256 U U z2_ z2_) U ?_;refine Ru 1 U (a_ (Sr (Ru 3 U (Bs 26 U (λhc7=>?_) λhc7=>?_))))
 ·refine Ru 1 U (cH U U  (aI cY U U (show _=((0:Nat):Int) from rfl) z7_ U z2_) U ?_);rintro _ ⟨b8,o8,hi8,rfl,hE8⟩;refine aQ U U  (bv ff U z7_) U ?_;refine Ru 3 U (Bs 32 U (λhc10=>?_) λhc10=>?_)
  ·refine Ru 9 U (Nk [41,40,39,38,37,36,35,34,33,32,31,30,29,28,27,26,25,24,0,23,22,21,20,3,19,18,17,5,16,15,14,13,12,4,8,7,6,2] U (aY U (Sr (Ru 1 U (ah (bn (cs:=[.int .i64 0,_,.bool false,_,.slice none 0 0]) eR U U) U ?_)))));refine aV bP U U dl_ f8 f9 z4_ ?_;refine a_ ?_
   first|(exfalso;omega)|(have hit:intB n=ibytes n (j+1):=js n j hj hfj (hfd.2 z2_);rw [hit];exact bj (cr rfl rfl bP mm_ z4_) ⟨_,rfl,d_ z7_ bu⟩)
  refine Ru 3 U (Bs 35 U (λhc11=>?_) λhc11=>?_)
  ·refine Ru 1 U (cH U U  (aI cY U U (show _=((0:Nat):Int) from rfl) z7_ U z2_) U ?_);rintro _ ⟨b12,o12,hi12,rfl,hE12⟩;refine aQ U U  (bv ff U z7_) U ?_;refine Ru 3 U (Nk [41,40,39,38,37,36,35,34,33,32,31,30,29,28,27,26,25,24,0,23,22,21,20,3,19,18,17,5,16,15,14,13,12,4,8,7,6,2] U (Cs U (λhc14=>?_) λhc14=>?_))
   ·refine Sr (Ru 1 U (ah (bn (cs:=[.int .i64 0,_,.bool false,_,.slice none 0 0]) eR U U) U ?_));refine aV bP U U dl_ f8 f9 z4_ ?_;refine a_ ?_
    first|(exfalso;omega)|(have hit:intB n=ibytes n (j+1):=js n j hj hfj (hfd.2 z2_);rw [hit];exact bj (cr rfl rfl bP mm_ z4_) ⟨_,rfl,d_ z7_ bu⟩)
   refine aA (⟨_,?_,_,?_,⟨_,j+1,q / 256,_,_,U,U,U,U,⟨by assumption,by assumption,by rw [hds,hq],by omega,by omega,(by have h8:=fit8 n h0 h1;by_cases hj8:j=7;(exfalso;subst hj8;have:=hfd.1 h8;omega);omega),.inr (λhf=>by have:=hfd.1 hf;omega)⟩⟩⟩)
   ·omega
   exact z6_
  refine Ru 6 U (Nk [41,40,39,38,37,36,35,34,33,32,31,30,29,28,27,26,25,24,0,23,22,21,20,3,19,18,17,5,16,15,14,13,12,4,8,7,6,2] U (dA U ?_));refine aA (⟨_,?_,_,?_,⟨_,j+1,q / 256,_,_,U,U,U,U,⟨by assumption,by assumption,by rw [hds,hq],by omega,by omega,(by have h8:=fit8 n h0 h1;by_cases hj8:j=7;(exfalso;subst hj8;have:=hfd.1 h8;omega);omega),.inr (λhf=>by have:=hfd.1 hf;omega)⟩⟩⟩)
  ·omega
  exact z6_
 refine Ru 9 U (Bs 35 U (λhc15=>?_) λhc15=>?_)
 ·refine Ru 1 U (cH U U  (aI cY U U (show _=((0:Nat):Int) from rfl) z7_ U z2_) U ?_);rintro _ ⟨b16,o16,hi16,rfl,hE16⟩;refine aQ U U  (bv ff U z7_) U ?_;refine Ru 3 U (Nk [41,40,39,38,37,36,35,34,33,32,31,30,29,28,27,26,25,24,0,23,22,21,20,3,19,18,17,5,16,15,14,13,12,4,8,7,6,2] U (Cs U (λhc18=>?_) λhc18=>?_))
  ·refine Sr (Ru 1 U (ah (bn (cs:=[.int .i64 0,_,.bool false,_,.slice none 0 0]) eR U U) U ?_));refine aV bP U U dl_ f8 f9 z4_ ?_;refine a_ ?_
   first|(exfalso;omega)|(have hit:intB n=ibytes n (j+1):=js n j hj hfj (hfd.2 z2_);rw [hit];exact bj (cr rfl rfl bP mm_ z4_) ⟨_,rfl,d_ z7_ bu⟩)
  refine aA (⟨_,?_,_,?_,⟨_,j+1,q / 256,_,_,U,U,U,U,⟨by assumption,by assumption,by rw [hds,hq],by omega,by omega,(by have h8:=fit8 n h0 h1;by_cases hj8:j=7;(exfalso;subst hj8;have:=hfd.1 h8;omega);omega),.inr (λhf=>by have:=hfd.1 hf;omega)⟩⟩⟩)
  ·omega
  exact z6_
 refine Ru 6 U (Nk [41,40,39,38,37,36,35,34,33,32,31,30,29,28,27,26,25,24,0,23,22,21,20,3,19,18,17,5,16,15,14,13,12,4,8,7,6,2] U (dA U ?_));refine aA (⟨_,?_,_,?_,⟨_,j+1,q / 256,_,_,U,U,U,U,⟨by assumption,by assumption,by rw [hds,hq],by omega,by omega,(by have h8:=fit8 n h0 h1;by_cases hj8:j=7;(exfalso;subst hj8;have:=hfd.1 h8;omega);omega),.inr (λhf=>by have:=hfd.1 hf;omega)⟩⟩⟩)
 ·omega
 exact z6_
def trimL (l:List UInt32):List UInt32:=l.take (tsz (d32 l) l.length)
def n32 (x:UInt64):UInt32:=UInt32.ofNat x.toNat
theorem n32_m64 (x:UInt32):n32 (m64 x)=x:=by
 unfold n32;rw [oB];simp
theorem n32_nat (x:UInt64) (h:x.toNat<4294967296):(n32 x).toNat=x.toNat:=by
 unfold n32;rw [UInt32.toNat_ofNat'];omega
theorem cutZ_len (l:List UInt64):(cutZ l).length<=l.length:=by unfold cutZ;rw [bz];omega
theorem cutZ_at (l:List UInt64) (i:Nat):d64 (cutZ l) i=d64 l i:=uz _ _ _ (λi h1 h2=>l_ _ _ i h1 h2)
theorem number_fn {a:OA}{c:Nat}{L:List UInt64}{h:Part}(hl:SlR u64R 1 h a c L) (hd:∀ i,d64 L i<4294967296) (hlen:L.length<=1000000):FnR prog 291 [.slice a L.length c] h (λv h'=>∃ a' c',v=.slice a' ((cutZ L).map n32).length c'/\SlR u32R 1 h' a' c' ((cutZ L).map n32)):=by
 have hcl:=cutZ_len L;obtain⟨K,hK⟩:∃ K,K=cutZ L:=⟨_,U⟩;have hdK:∀ i,d64 K i<4294967296:=λi=>by rw [hK,cutZ_at];exact hd i
 rw [<- hK] at hcl |-
 have hml:(K.map n32).length=K.length:=aD ..;refine aM func291 U ntmps291 U (λe he=>?_);refine bg [(0,_)] ⟨U,trivial⟩ ?_;refine Sr (Ru 1 U (a_ (Sr (Ru 1 U (bL ca_286 U ((hK ▸ cut_fn z7_:FnR _ _ _ _ (λv h'=>∃ a' c',v=.slice a' K.length c'/\SlR u64R 1 h' a' c' K))) U ?_)))));rintro _ h1 hle1 ⟨da,dc,rfl,hD⟩
 replace hl:=hl.mono hle1
 refine Ru 1 U (a_ (Sr (Ru 1 U (a_ (az (Sr (bZ 190 1 ?_)))))));refine Ru 1 U (a_ (aJ (bM (λt_ S_ h_ L_=>∃ (g:Part) (i:Nat) (ao:OA) (co:Nat) (xs:LV),t_=K.length-i/\S_=[(0,.slice da K.length dc),(3,.slice ao ((K.map n32).take i).length co),(4,.int .i64 i)]/\g=h_/\L_=[.row ao co 190 1 ((K.map n32).take i).length xs]/\(h1.le g/\i<=K.length/\CellsR u32R 1 g xs ((K.map n32).take i))) ⟨_,_,?_,⟨_,0,_,_,_,U,U,U,U,⟨aT _,by omega,bQ⟩⟩⟩ ?_)))
 ·exact z6_
 rintro _ _ _ _ ⟨g,i,ao,co,xs,rfl,rfl,rfl,rfl,hhg,hi,hC⟩;have hD:=hD.mono hhg;refine az (Sr (Ru 4 U (a_ (Cs U (λhc2=>?_) λhc2=>?_))))
 ·have hi2:i<K.length:=z2_;have hi':i<(K.map n32).length:=z2_;have htl:((K.map n32).take i).length=i:=(by rw [bz];omega);have hke:(K.map n32).take i++[n32 (K[i]'hi2)]=(K.map n32).take (i+1):=(by rw [am hi',List.getElem_map]);have hki:(K[i]'hi2).toNat<4294967296:=(by have:=hdK i;have e:=qA K i hi2;omega);refine aA (az (aJ (Rg (Ru 3 U (cm (aI dk U U z9_ z7_ U z2_) U ?_)))));rintro _ ⟨b3,o3,hi3,rfl,hE3⟩;refine ah (bU dy U z7_) U ?_;refine ah (by first|exact RunV.conv_u32 ga rfl z2_ z2_|exact cL ga rfl) U ?_;refine cF ap_62 zr_190 U U U U U (λb5=>?_);refine bV ap_62 U U z7_ U dl_ dl_ U ((by show _=_;rw [n32_nat _ hki]:u32R _ [.int .u32 (K[i].toNat:Int)] (n32 K[i]))) z3_ U U (λa6 c6 xs6 hC6 hN6=>?_);rw [hke] at *;refine Ru 1 U (a_ (Rg (Ru 1 U (ah ai_ U ?_))));refine Ru 1 U (a_ (⟨_,?_,_,?_,⟨_,i+1,_,_,_,U,U,U,U,⟨by assumption,by omega,by assumption⟩⟩⟩))
  ·omega
  exact z6_
 refine bA (Kp [3] U (Sr (Ru 1 U ?_)));have hke:(K.map n32).take i=K.map n32:=aS z2_;rw [hke] at hC |-;refine cW (R:=u32R) dl_ z7_ U z2_ (λh9 hle9 hS9=>?_)
 exact Ru 1 U (a_ (bj (ay U U) ⟨_,_,U,by assumption⟩))
theorem whole_fn {c t:Int}{k:Bool}{bs:LB}{ks:LN}{cs:LV}{h:Part}(r:NdR h cs (.mk c t k bs ks)) (hT:Tabs h) (hsz:(Nd.mk c t k bs ks).sz<=1073741824) :
 Pure prog 151 [.agg cs.toArray] h (.bool ((decide (c=0)&&(decide (t=2)||decide (t=10)))&&(Nd.mk c t k bs ks).put.isSome)):=by
 obtain⟨ka,kca,kb,kcb,rfl,hka,hkb⟩:=r.inv;refine dY ?_;refine aM func151 U ntmps151 U (λe he=>?_);refine bg [(0,_)] ⟨U,trivial⟩ ?_;refine Sr (dh U U U (λb1=>?_));refine Ru 1 U (a_ (Sr (Ru 1 U (ah (aw dI U mm_ U) U ?_))));refine Ru 2 U ?_;apply An 6 15 9 [2,1] U U
 ·intro hb2 hc2;refine Ru 1 U (aQ U U  (aw dI U mm_ U) U ?_);refine Ru 2 U ?_;apply On 10 14 4 [6,2,1] U U
  rotate_left
  ·intro hb3 hc3;refine Ru 1 U (aQ U U  (aw dI U mm_ U) U ?_);exact Ru 2 U (Ae (om_f hb3 U) U)
  rotate_right
  ·exact λhb3 _=>Ru 4 U (Ae (om_t hb3 U) U)
  exact Ru 1 U (Ae (am_t hb2 U) U)
 ·exact λhb2 _=>Ru 9 U (Ae (am_f hb2 U) U)
 refine Ru 1 U ?_;apply An 16 19 3 [2] U U
 ·intro hb4 hc4;refine aQ U U  (bJ bP U mm_ z4_) U ?_;refine cG U U  ca_97 U (tp r hT hsz) U ?_;exact Ru 1 U (Ae (am_t hb4 U) U)
 ·exact λhb4 _=>Ru 3 U (Ae (am_f hb4 U) U)
 exact Ru 1 U (a_ (ew (ay U U) U))
theorem qQ (x y:Int) (hx:x % 256=0) (hx0:-9223372036854775808<=x) (hx1:x<=9223372036854775807) (hy0:0<=y) (hy1:y<256):bits .or .i64 x y=x+y:=by
 have e1:(BitVec.ofInt 64 x).toNat=(x % 18446744073709551616).toNat:=by rw [BitVec.toNat_ofInt];rfl
 have e2:(BitVec.ofInt 64 y).toNat=y.toNat:=by rw [BitVec.toNat_ofInt,show(((2 ^ 64:Nat):Int))=18446744073709551616 from rfl];omega
 show IntKind.i64.wrap (((BitVec.ofInt 64 x) ||| (BitVec.ofInt 64 y)).toNat:Nat)=x+y;rw [BitVec.toNat_or,e1,e2];obtain⟨q,hq⟩:∃ q:Nat,(x % 18446744073709551616).toNat=2 ^ 8*q:=⟨(x % 18446744073709551616).toNat / 256,by omega⟩;rw [hq,<- Nat.two_pow_add_eq_or_of_lt (show y.toNat<2 ^ 8 by omega) q,IntKind.wrap_i64];omega
theorem RunV.join256 {f:Fr}{S:Sig}{h:Part}{L:LE}{ty T yt:TypeId}{x y:Operand}{p q:Int}(hx:ev S x=some (.int .i64 p)) (hy:ev S y=some (.int .i64 q)) (hp:p % 256=0) (h0:-9223372036854775808<=p) (h1:p<=9223372036854775807) (hq0:0<=q) (hq:q<256):RunV f S h L (.binOp .or T x y yt) ty (.int .i64 (p+q)):=by
 have:=RunV.or_ (f:=f) (h:=h) (L:=L) (ty:=ty) (T:=T) (yt:=yt) hx hy;rwa [qQ p q hp h0 h1 hq0 hq] at this
def vL:List UInt32->Nat
 |[]=>0
 |x::r=>x.toNat+4294967296*vL r
theorem vL_append (l r:List UInt32):vL (l++r)=vL l+4294967296 ^ l.length*vL r:=by
 induction l with
 |nil=>simp [vL]
 |cons x t ih =>
  simp only [List.cons_append,vL,ih,aC,Nat.pow_succ];rw [Nat.mul_add,<- Nat.mul_assoc,Nat.mul_comm (4294967296 ^ t.length),Nat.add_assoc]
theorem vL_lt (l:List UInt32):vL l<4294967296 ^ l.length:=by
 induction l with
 |nil=>simp [vL]
 |cons x t ih =>
  have hx:=UInt32.toNat_lt x;simp only [vL,aC,Nat.pow_succ];omega
theorem gh (l:List UInt32) (i:Nat):vL l / 4294967296 ^ i % 4294967296=d32 l i:=by
 induction l generalizing i with
 |nil=>simp [vL,d32]
 |cons y t ih =>
  have hy:=UInt32.toNat_lt y;cases i with
  |zero=>simp only [vL,Nat.pow_zero,Nat.div_one];show _=y.toNat;omega
  |succ i =>
   have e:d32 (y::t) (i+1)=d32 t i:=rfl;rw [e,<- ih i,Nat.pow_succ,Nat.mul_comm (4294967296 ^ i),<- Nat.div_div_eq_div_mul];congr 2;simp only [vL];omega
theorem pj (l:List UInt32) (k:Nat) (h:k<=l.length):vL l=vL (l.take k)+4294967296 ^ k*vL (l.drop k):=by
 have:=vL_append (l.take k) (l.drop k);rw [List.take_append_drop,bz,Nat.min_eq_left h] at this;exact this
theorem vL_zero (l:List UInt32) (h:∀ i,i<l.length->d32 l i=0):vL l=0:=by
 induction l with
 |nil=>rfl
 |cons x t ih =>
  have h0:x.toNat=0:=h 0 (by simp);have:=ih (λi hi=>h (i+1) (by simpa using hi));simp only [vL];omega
theorem d32_drop (l:List UInt32) (k i:Nat):d32 (l.drop k) i=d32 l (k+i):=by
 unfold d32;simp
def digN:Nat->Nat->List UInt32
 |0,_=>[]
 |m+1,v=>UInt32.ofNat v::digN m (v / 4294967296)
theorem dO (m v:Nat):(digN m v).length=m:=by induction m generalizing v with
 |zero=>rfl
 |succ m ih=>simp [digN,ih]
theorem rf (m v:Nat):vL (digN m v)=v % 4294967296 ^ m:=by
 induction m generalizing v with
 |zero=>simp [vL,digN,Nat.mod_one]
 |succ m ih =>
  simp only [digN,vL,ih,UInt32.toNat_ofNat'];rw [show(4294967296:Nat) ^ (m+1)=4294967296*4294967296 ^ m by rw [Nat.pow_succ,Nat.mul_comm],Nat.mod_mul]
theorem digN_vL (l:List UInt32):digN l.length (vL l)=l:=by
 induction l with
 |nil=>rfl
 |cons x t ih =>
  have hx:=UInt32.toNat_lt x;simp only [aC,digN,vL];rw [show(x.toNat+4294967296*vL t) / 4294967296=vL t by omega,ih];congr 1;apply UInt32.toNat_inj.1;rw [UInt32.toNat_ofNat'];omega
theorem lt_bl (n:Nat):n<2 ^ bl n:=by
 unfold bl;split
 ·rename_i h;subst h;decide
 ·exact Nat.lt_log2_self
theorem bl_ge (n k:Nat) (h:2 ^ k<=n):k+1<=bl n:=by
 rcases Nat.lt_or_ge k (bl n) with h1|h1
 ·exact h1
 ·have h2:=lt_bl n;have:=Nat.pow_le_pow_right (show 0<2 by decide) h1;omega
theorem bl_pos (n:Nat) (h:0<n):2 ^ (bl n-1)<=n/\1<=bl n:=by
 unfold bl;rw [if_neg z2_];exact⟨Nat.log2_self_le z2_,by omega⟩
def nd (n:Nat):Nat:=(bl n+31) / 32
def toL (n:Nat):List UInt32:=digN (nd n) n
theorem pU (k:Nat):(4294967296:Nat) ^ k=2 ^ (32*k):=by rw [Nat.pow_mul]
theorem sh (n:Nat):n<4294967296 ^ nd n:=by
 rw [pU];exact Nat.lt_of_lt_of_le (lt_bl n) (Nat.pow_le_pow_right bT (by unfold nd;omega))
theorem vL_toL (n:Nat):vL (toL n)=n:=by
 unfold toL;rw [rf,Nat.mod_eq_of_lt (sh n)]
theorem nd_eq (n t:Nat) (h:n<4294967296 ^ (t+1)) (h0:4294967296 ^ t<=n):nd n=t+1:=by
 rw [pU] at h h0;have h1:=sL _ _ h;have h2:=bl_ge _ _ h0;unfold nd;omega
theorem nd_le (n t:Nat) (h:n<4294967296 ^ t):nd n<=t:=by
 rw [pU] at h;have h1:=sL _ _ h;unfold nd;omega
theorem nE (n:Nat):(toL n).length=nd n:=dO _ _
theorem nd_zero:nd 0=0:=rfl
theorem nd_pos (n:Nat) (h:0<n):4294967296 ^ (nd n-1)<=n/\1<=nd n:=by
 have h1:=bl_pos n h;rw [pU];exact⟨Nat.le_trans (Nat.pow_le_pow_right bT (by unfold nd;omega)) h1.1,by unfold nd;omega⟩
theorem vL_tsz (l:List UInt32):vL l=vL (trimL l):=by
 have ht:=gH (d32 l) l.length;have hz:vL (l.drop (tsz (d32 l) l.length))=0:=vL_zero _ (λi hi=>by
  rw [d32_drop];rw [bC] at hi;exact l_ (d32 l) l.length _ z2_ z2_)
 rw [pj l _ ht,hz];rfl
theorem d32_take (l:List UInt32) (k i:Nat) (h:i<k):d32 (l.take k) i=d32 l i:=by
 unfold d32;simp [h]
theorem pm (l:List UInt32):tsz (d32 l) l.length=nd (vL l):=by
 have ht:=gH (d32 l) l.length;have htop:=tsz_top (d32 l) l.length;have hlt:=vL_lt (trimL l);have hlen:(trimL l).length=tsz (d32 l) l.length:=by unfold trimL;rw [bz];omega
 rw [vL_tsz l];cases hk:tsz (d32 l) l.length with
 |zero =>
  have:trimL l=[]:=List.eq_nil_of_length_eq_zero z2_;rw [this];rfl
 |succ t =>
  rw [hk] at htop hlen;have h0:=htop z2_;rw [show t+1-1=t from rfl] at h0;have h1:vL (trimL l) / 4294967296 ^ t % 4294967296≠0:=by
   rw [gh];unfold trimL;rw [hk,d32_take _ _ _ z2_];exact h0
  rw [hlen] at hlt;refine(nd_eq _ _ hlt ?_).symm;rcases Nat.lt_or_ge (vL (trimL l)) (4294967296 ^ t) with h2|h2
  ·rw [Nat.div_eq_of_lt h2] at h1;simp at h1
  ·exact h2
theorem nD (l:List UInt32):trimL l=toL (vL l):=by
 have ht:=gH (d32 l) l.length;have hlen:(trimL l).length=nd (vL l):=by unfold trimL;rw [bz,<- pm];omega
 unfold toL;rw [<- hlen,vL_tsz l,digN_vL]
theorem ik (l:List UInt32):nbits (d32 l) l.length=bl (vL l):=by
 unfold nbits;rw [pm];split
 ·rename_i h;rcases Nat.eq_zero_or_pos (vL l) with h0|h0
  ·rw [h0];rfl
  ·have:=nd_pos _ h0;omega
 ·rename_i h;have h0:0<vL l:=by
   rcases Nat.eq_zero_or_pos (vL l) with h0|h0
   ·rw [h0] at h;exact absurd U h
   ·exact h0
  have h1:=nd_pos _ h0;rw [pU] at h1;rw [uJ _ _ h1.1];congr 2;rw [<- pU,<- gh];refine Nat.mod_eq_of_lt ?_;have h2:=sh (vL l);obtain⟨t,e⟩:∃ t,nd (vL l)=t+1:=⟨nd (vL l)-1,by omega⟩;rw [e] at h2 |-
  rw [Nat.pow_succ] at h2;exact Nat.div_lt_of_lt_mul h2
def beV (b:LB):Nat:=b.foldl (λv c=>v*256+c.toNat) 0
theorem uO (b:LB) (v:Nat):b.foldl (λv c=>v*256+c.toNat) v=v*256 ^ b.length+beV b:=by
 induction b generalizing v with
 |nil=>simp [beV]
 |cons x t ih =>
  unfold beV;simp only [List.foldl_cons,aC,Nat.zero_mul,Nat.zero_add];rw [ih,ih x.toNat,Nat.pow_succ,Nat.add_mul,Nat.mul_assoc,Nat.mul_comm 256,Nat.add_assoc]
theorem jL (x:UInt8) (t:LB):beV (x::t)=x.toNat*256 ^ t.length+beV t:=by
 show t.foldl _ _=_;rw [uO];simp
theorem vV (l r:LB):beV (l++r)=beV l*256 ^ r.length+beV r:=by
 unfold beV;rw [List.foldl_append,uO];rfl
theorem uM (b:LB):beV b<256 ^ b.length:=by
 induction b with
 |nil=>simp [beV]
 |cons x t ih =>
  have hx:=UInt8.toNat_lt x;rw [jL,aC,Nat.pow_succ];have:x.toNat*256 ^ t.length<=255*256 ^ t.length:=bD _ z2_;omega
theorem beV_be (k n:Nat):beV (be k n)=n % 256 ^ k:=by
 induction k with
 |zero=>simp [be,beV,Nat.mod_one]
 |succ k ih =>
  simp only [be];rw [jL,ih,jJ,UInt8.toNat_ofNat',show(256:Nat) ^ (k+1)=256 ^ k*256 from Nat.pow_succ ..,Nat.mod_mul,Nat.mul_comm,Nat.add_comm]
theorem wB_vL (l:List UInt32) (i:Nat):wB (d32 l) i=UInt8.ofNat (vL l / 256 ^ i):=by
 apply UInt8.toNat_inj.1;unfold wB;rw [UInt8.toNat_ofNat',UInt8.toNat_ofNat',<- gh];obtain⟨q,r,hr,rfl⟩:∃ q r,r<4/\i=4*q+r:=⟨i / 4,i % 4,by omega,by omega⟩;rw [show(4*q+r) / 4=q by omega,show(4*q+r) % 4=r by omega,Nat.pow_add,Nat.pow_mul,<- Nat.div_div_eq_div_mul];rw [show(256:Nat) ^ 4=4294967296 from rfl];generalize vL l / 4294967296 ^ q=v;have:r=0\/r=1\/r=2\/r=3:=by omega
 rcases this with rfl|rfl|rfl|rfl<;>simp only [Nat.reducePow]<;>omega
theorem natW_be (l:List UInt32) (k:Nat):natW (d32 l) k=be k (vL l):=by
 induction k with
 |zero=>rfl
 |succ k ih=>simp only [natW,be,ih,wB_vL]
theorem t6 (v:Nat):v / 256 ^ (bl v / 8)<128:=by
 refine Nat.div_lt_of_lt_mul ?_;rw [show(256:Nat) ^ (bl v / 8)=2 ^ (8*(bl v / 8)) by rw [Nat.pow_mul],show(128:Nat)=2 ^ 7 from rfl,<- Nat.pow_add];exact Nat.lt_of_lt_of_le (lt_bl v) (Nat.pow_le_pow_right bT z2_)
theorem be_full (v:Nat):beV (be (bl v / 8+1) v)=v:=by
 rw [beV_be];refine Nat.mod_eq_of_lt ?_;have:=t6 v;rw [Nat.pow_succ];have h0:0<256 ^ (bl v / 8):=Nat.pow_pos bT;have:=(Nat.div_lt_iff_lt_mul h0).1 this;rw [Nat.mul_comm] at this;omega
theorem rt (v k:Nat) (hk:bl v / 8=k+1) (h0:v / 256 ^ (k+1)=0):128<=v / 256 ^ k:=by
 have hv:0<v:=by
  rcases Nat.eq_zero_or_pos v with rfl|h
  ·simp [bl] at hk
  ·exact h
 have h1:=(bl_pos v hv).1;have h2:2 ^ (8*(k+1)-1)<=v:=Nat.le_trans (Nat.pow_le_pow_right bT z2_) h1;refine(Nat.le_div_iff_mul_le (Nat.pow_pos bT)).2 ?_;rw [show(256:Nat) ^ k=2 ^ (8*k) by rw [Nat.pow_mul],show(128:Nat)=2 ^ 7 from rfl,<- Nat.pow_add];exact Nat.le_trans (Nat.pow_le_pow_right bT z2_) h2
def ws (k:IntKind) (l:List UInt32):LV:=l.map λx=>.int k (x.toNat:Int)
theorem CellsR.of_ws32 {h:Part}{l:List UInt32}:CellsR u32R 1 h (ws .u32 l) l:=⟨by simp [ws],λi x hx=>by
 unfold u32R;rw [Nat.mul_one,List.take_one,List.head?_drop];simp [ws,hx]⟩
theorem CellsR.of_ws64 {h:Part}{l:List UInt32}:CellsR u64R 1 h (ws .u64 l) (l.map m64):=⟨by simp [ws],λi x hx=>by
 unfold u64R;rw [List.getElem?_map,Option.map_eq_some_iff] at hx;obtain⟨y,hy,rfl⟩:=hx;rw [Nat.mul_one,List.take_one,List.head?_drop,oB];simp [ws,hy]⟩
theorem uA (l:List UInt32):cutZ (l.map m64)=(toL (vL l)).map m64:=by
 rw [<- nD];unfold cutZ trimL;rw [pn (mA l),aD,List.map_take]
theorem map_n32 (l:List UInt32):(l.map m64).map n32=l:=by
 rw [List.map_map];conv=>rhs;rw [<- List.map_id l]
 exact List.map_congr_left (λx _=>n32_m64 x)
theorem ca_151:callT prog 151=true:=by kernel_rfl
theorem ca_239:callT prog 239=true:=by kernel_rfl
theorem cv_210_2:convI prog 210 2=some .i64:=by kernel_rfl
theorem jz:convI prog 5 2=some .i64:=by kernel_rfl
theorem cv_5_210:convI prog 5 210=some .i8:=by kernel_rfl
theorem vD {a:OA}{c:Nat}{l:List UInt32}{h:Part}(hl:SlR u32R 1 h a c l) (hlb:l.length<=1073741824):FnR prog 239 [.slice a l.length c] h (λv h'=>∃ a' c',v=.slice a' (toL (vL l)).length c'/\SlR u32R 1 h' a' c' (toL (vL l))):=by
 have hll:=hl.big;have ht:=gH (d32 l) l.length;have htr:l.take (tsz (d32 l) l.length)=toL (vL l):=nD l;have hlen:(toL (vL l)).length=tsz (d32 l) l.length:=by rw [nE,pm]
 refine aM func239 U ntmps239 U (λe he=>?_);refine bg [(0,_)] ⟨U,trivial⟩ ?_;have hh0:=aT h;refine Sr (Ru 1 U (a_ (Sr (Ru 1 U (bh uG U (il z7_) U ?_)))));refine Ru 1 U (a_ (az (Sr (Ru 2 U (a_ (Cs U (λhc2=>?_) λhc2=>?_))))))
 ·have h0:toL (vL l)=[]:=List.eq_nil_of_length_eq_zero z2_;refine Sr (Ru 1 U (Nk [2,3,0] U ?_));rw [h0];exact bj (ay U U) ⟨none,0,U,bu⟩
 refine aA (Kp [3,2,0] U (Sr (Ru 2 U (cm (RunE.cut_h lR (m:=tsz (d32 l) l.length) U U U hl U z2_) U ?_))));rintro _ ⟨a9,c9,rfl,hS9⟩;rw [htr] at hS9 |-;refine bZ 190 1 ?_
 refine bX (R:=u32R) ap_62 U U bQ U hS9 U dl_ (by simp only [aG];omega) U U (λa8 c8 xs8 hC8 hN8=>?_);simp only [List.nil_append] at hC8 |-;refine cW (R:=u32R) dl_ hC8 U z2_ (λh9 hle9 hP9=>?_)
 exact Ru 1 U (Nk [2] U (bj (ay U U) ⟨_,_,U,hP9⟩))
theorem sd {a:OA}{c n:Nat}{l:List UInt32}{h:Part}(hl:SlR u32R 1 h a c l) (hn:n=l.length) (hlb:n<=1073741824):FnR prog 239 [.slice a n c] h (λv h'=>∃ a' c',v=.slice a' (toL (vL l)).length c'/\SlR u32R 1 h' a' c' (toL (vL l))):=by
 subst hn;exact vD hl hlb
def Nd.whole (x:Nd):Bool:=(decide (x.cls=0)&&(decide (x.tag=2)||decide (x.tag=10)))&&x.put.isSome
theorem whole_fn' {x:Nd}{cs:LV}{h:Part}(r:NdR h cs x) (hT:Tabs h) (hsz:x.sz<=1073741824):Pure prog 151 [.agg cs.toArray] h (.bool x.whole):=by
 cases x;exact whole_fn r hT hsz
theorem uk {t:Int}(h:t=2\/t=10):form t=1:=by rcases h with rfl|rfl<;>rfl
theorem gG {c t:Int}{k:Bool}{bs:LB}{ks:LN}:(Nd.mk c t k bs ks).whole=true<->c=0/\(t=2\/t=10)/\k=false/\ks=[]/\leastB bs=true:=by
 show((decide (c=0)&&(decide (t=2)||decide (t=10)))&&(Nd.mk c t k bs ks).put.isSome)=true<->_;simp only [Bool.and_eq_true,Bool.or_eq_true,ax];constructor
 ·rintro⟨⟨rfl,ht⟩,hp⟩;simp only [Nd.put] at hp;split at hp
  ·rename_i hok;have hf:=uk ht;have hr:0<=t/\t<=30:=by omega
   unfold okN mayB at hok;rw [hf,pi ht] at hok;cases k with
   |true=>simp at hok
   |false =>
    have hn:ks=[]:=by
     cases ks with
     |nil=>rfl
     |cons y r=>simp at hok
    subst hn;simp at hok;exact⟨U,ht,U,U,hok.2⟩
  ·cases hp
 ·rintro⟨rfl,ht,rfl,rfl,hb⟩;refine⟨⟨U,ht⟩,?_⟩;have hf:=uk ht;have hr:0<=t/\t<=30:=by omega
  have hok:okN 0 t false bs []=true:=by
   unfold okN mayB;rw [hf,pi ht,hb];simp [hr]
  simp only [Nd.put];rw [hok];rfl
theorem n8 {b:LB}(h:leastB b=true):0<b.length:=by
 unfold leastB at h;split at h
 ·cases h
 ·omega
theorem Nd.bytes_sz (c t:Int) (k:Bool) (bs:LB) (ks:LN):bs.length<=(Nd.mk c t k bs ks).sz:=by simp only [Nd.sz];omega
def Nd.natOk (x:Nd):Bool:=x.whole&&decide (byteAt x.bytes 0<128)
def Nd.natL (x:Nd):List UInt32:=if x.natOk then toL (beV x.bytes) else []
theorem natOk_t {c t:Int}{k:Bool}{bs:LB}{ks:LN}(h:(Nd.mk c t k bs ks).whole=true) (h2:byteAt bs 0<128):(Nd.mk c t k bs ks).natOk=true:=by
 show((Nd.mk c t k bs ks).whole&&decide (byteAt bs 0<128))=true;rw [h,aj h2];rfl
def s8 (b:Nat):Int:=if b<128 then b else b-256
theorem wrap_s8 (b:Nat) (h:b<256):IntKind.i8.wrap (b:Int)=s8 b:=by
 unfold IntKind.wrap s8;simp [IntKind.signed,IntKind.bits];split<;>omega
theorem RunV.toI8 {f:Fr}{S:Sig}{h:Part}{L:LE}{ty src dst:TypeId}{x:Operand}{k:IntKind}{b:UInt8}(hc:convI f.P src dst=some .i8) (hx:ev S x=some (.int k (b.toNat:Int))):RunV f S h L (.convert src dst x) ty (.int .i8 (s8 b.toNat)):=by
 have:=cL (f:=f) (h:=h) (L:=L) (ty:=ty) hc hx;rwa [wrap_s8 _ (UInt8.toNat_lt b)] at this
theorem s8_bd (b:Nat) (h:b<256):-128<=s8 b/\s8 b<=127:=by unfold s8;split<;>omega
def sV (b:LB):Int:=s8 (byteAt b 0)*256 ^ (b.length-1)+beV (b.drop 1)
theorem sV_bd {s:Int}{w i:Nat}(hs:-128<=s/\s<=127) (hw:w<256 ^ i):-128*256 ^ i<=s*256 ^ i+w/\s*256 ^ i+w<=128*256 ^ i-1:=by
 have hp:(0:Int)<=256 ^ i:=Int.le_of_lt (Int.pow_pos bT);have h1:-128*(256:Int) ^ i<=s*256 ^ i:=Int.mul_le_mul_of_nonneg_right hs.1 hp;have h2:s*(256:Int) ^ i<=127*256 ^ i:=Int.mul_le_mul_of_nonneg_right hs.2 hp;have h3:(w:Int)<256 ^ i:=by exact_mod_cast hw
 omega
theorem jK (b:LB) (i:Nat) (h:i<b.length):beV (b.take (i+1))=beV (b.take i)*256+b[i].toNat:=by
 rw [am h,vV];simp [jL,beV]
theorem pow8_le (i:Nat) (h:i<=6):(256:Int) ^ i<=281474976710656:=by
 have:i=0\/i=1\/i=2\/i=3\/i=4\/i=5\/i=6:=by omega
 rcases this with rfl|rfl|rfl|rfl|rfl|rfl|rfl<;>decide
def Nd.intOk (x:Nd):Bool:=x.whole&&decide (x.bytes.length<=8)
def Nd.intV (x:Nd):Int:=if x.intOk then sV x.bytes else 0
theorem gq {c t:Int}{k:Bool}{bs:LB}{ks:LN}:(Nd.mk c t k bs ks).intOk=((Nd.mk c t k bs ks).whole&&decide (bs.length<=8)):=rfl
theorem ue {c t:Int}{k:Bool}{bs:LB}{ks:LN}(h:(Nd.mk c t k bs ks).intOk=true):(Nd.mk c t k bs ks).intV=sV bs:=if_pos h
theorem intV_f {c t:Int}{k:Bool}{bs:LB}{ks:LN}(h:(Nd.mk c t k bs ks).intOk=false):(Nd.mk c t k bs ks).intV=0:=if_neg (by rw [h];decide)
theorem intof_fn {x:Nd}{cs:LV}{h:Part}(r:NdR h cs x) (hT:Tabs h) (hsz:x.sz<=1073741824) :
 Pure prog 102 [.agg cs.toArray] h (.tuple #[.int .i64 x.intV,.bool x.intOk]):=by
 cases x with
 |mk c t k bs ks =>
 have hbs:=Nd.bytes_sz c t k bs ks;have hpos:(Nd.mk c t k bs ks).whole=true->0<bs.length:=λhw=>n8 (gG.1 hw).2.2.2.2;obtain⟨ka,kca,kb,kcb,rfl,hka,hkb⟩:=r.inv;refine dY ?_;refine aM func102 U ntmps102 U (λe he=>?_);refine bg [(0,_)] ⟨U,trivial⟩ ?_;refine Sr (dh U U U (λb1=>?_));refine Ru 2 U (a_ (az (Sr (ah (bJ bP U mm_ z4_) U ?_))));refine bh ca_151 U (whole_fn' z7_ z7_ z2_) U ?_;refine Ru 2 U ?_;apply On 10 15 5 [3,2,1] U U
 rotate_left
 ·intro hb3 hc3;refine Ru 1 U (aQ U U  (aw dt U mm_ U) U ?_);exact Ru 3 U (Ae (om_f hb3 U) U)
 rotate_right
 ·exact λhb3 _=>Ru 5 U (Ae (om_t hb3 U) U)
 refine a_ (Cs U (λhc4=>?_) λhc4=>?_)
 ·have hff:(Nd.mk c t k bs ks).intOk=false:=(by rw [gq];revert hc4;cases (Nd.mk c t k bs ks).whole<;>simp<;>omega);exact Sr (Ru 2 U (a_ (ew (b_ U U U) (by rw [hff,intV_f hff]))))
 obtain⟨hww,hb8⟩:(Nd.mk c t k bs ks).whole=true/\bs.length<=8:=(by revert hc4;cases (Nd.mk c t k bs ks).whole<;>simp<;>omega);have hps:=hpos hww;have hff:(Nd.mk c t k bs ks).intOk=true:=(by rw [gq,hww,aj hb8];rfl);have e0:=bY bs 0 hps;have hb0:=cx bs 0;have hsb:=s8_bd (byteAt bs 0) hb0;have hdl:(bs.drop 1).length=bs.length-1:=bC;refine aA (Sr (Ru 1 U (ah (aw dt U mm_ U) U ?_)));refine cm (aI cY U U (show _=((0:Nat):Int) from rfl) z7_ U z2_) U ?_;rintro _ ⟨b5,o5,hi5,rfl,hE5⟩;refine ah (bv ff U z7_) U ?_;refine ah (RunV.toI8 cv_5_210 U) U ?_;rw [e0];refine ah (RunV.conv_i64 cv_210_2 U z2_ z2_) U ?_;refine Ru 1 U (Nk [4,3,2,1] U (az (Sr (Ru 1 U (ah (aw dt U mm_ U) U ?_)))));refine cm (ei cY U U (m:=1) U hka U z2_) U ?_;rintro _ ⟨a9,c9,rfl,hS9⟩;refine Ru 2 U (a_ (aJ (bM (λt_ S_ h_ L_=>∃ (i:Nat) (w:Int),t_=bs.length-i/\S_=[(4,.int .i64 w),(24,.slice a9 (bs.drop 1).length c9),(25,.int .i64 (bs.drop 1).length),(26,.int .i64 i)]/\h=h_/\L_=[.blk b1 35 [.int .i64 c,.int .i64 t,.bool k,.slice ka bs.length kca,.slice kb ks.length kcb]]/\(i<=(bs.drop 1).length/\w=s8 (byteAt bs 0)*256 ^ i+beV ((bs.drop 1).take i))) ⟨_,_,?_,⟨0,s8 (byteAt bs 0),U,U,U,U,⟨by omega,by simp [beV]⟩⟩⟩ ?_)))
 ·exact z6_
 rintro _ _ _ _ ⟨i,w,rfl,rfl,rfl,rfl,hi,hw⟩;refine Sr (Ru 1 U (a_ (az (Cs U (λhc8=>?_) λhc8=>?_))))
 ·have hi':i<(bs.drop 1).length:=z2_;have hbv:=uM ((bs.drop 1).take i);rw [bz,Nat.min_eq_left z2_] at hbv;have hwb:=sV_bd hsb hbv;rw [<- hw] at hwb;have hp8:=pow8_le i z2_;have hns:=jK (bs.drop 1) i hi';have hcb:=UInt8.toNat_lt ((bs.drop 1)[i]'hi');refine aA (az (aJ (Sr (cm (aI cY U U z9_ z7_ U z2_) U ?_))));rintro _ ⟨b9,o9,hi9,rfl,hE9⟩;refine ah (bv ff U z7_) U ?_;refine Ru 1 U (a_ (Rg (Ru 1 U (ah (by first|exact RunV.shl_i64 256 rfl rfl bT bT bT z2_ z2_|exact RunV.shl rfl rfl bT bT) U ?_))));refine Ru 1 U (ah (by first|exact RunV.convb_i64 jz rfl|exact RunV.conv_i64 jz rfl z2_ z2_|exact cL jz rfl) U ?_);refine ah (RunV.join256 U U z2_ z2_ z2_ z2_ z2_) U ?_;refine Ru 1 U (a_ (Rg (ah ai_ U ?_)));refine Ru 1 U (a_ (⟨_,?_,_,?_,⟨i+1,w*256+((bs.drop 1)[i]'hi').toNat,U,U,U,U,⟨by omega,by rw [hns,hw,Int.pow_succ,dT,Int.natCast_mul,Int.add_mul,Int.mul_assoc,Int.add_assoc];rfl⟩⟩⟩))
  ·omega
  exact z6_
 have hie:i=(bs.drop 1).length:=z2_;have hsv:(Nd.mk c t k bs ks).intV=w:=(by rw [ue hff,hw,hie,List.take_length,sV,hdl]);exact bA (Kp [4] U (Sr (Ru 3 U (a_ (ew (b_ U U U) (by rw [hff,hsv]))))))
def cmpI3 (m n:Nat):Int:=if m<n then -1 else if n<m then 1 else 0
theorem nd_lt {m n:Nat}(h:nd m<nd n):m<n:=by
 have h0:0<n:=by
  rcases Nat.eq_zero_or_pos n with rfl|h0
  ·rw [nd_zero] at h;omega
  ·exact h0
 have h1:=(nd_pos n h0).1;exact Nat.lt_of_lt_of_le (sh m) (Nat.le_trans (Nat.pow_le_pow_right bT z2_) h1)
theorem oO (x j:Nat):x / 4294967296 ^ j=x / 4294967296 ^ (j+1)*4294967296+x / 4294967296 ^ j % 4294967296:=by
 rw [Nat.pow_succ,<- Nat.div_div_eq_div_mul];omega
theorem jq {x y d:Nat}(h:x / d<y / d):x<y:=by
 rcases Nat.lt_or_ge x y with h1|h1
 ·exact h1
 ·have:=Nat.div_le_div_right (c:=d) h1;omega
section
variable {f:Fr}{S:Sig}{h:Part}{L:LE}{ty src dst:TypeId}{x:Operand}{k:IntKind}{p:Int}
theorem RunV.toW (t:Nat) (hc:convI f.P src dst=some .u32) (hx:ev S x=some (.int k p)) (hp:p=(t:Int)):RunV f S h L (.convert src dst x) ty (.int .u32 ((t % 4294967296:Nat):Int)):=by
 have:=cL (f:=f) (h:=h) (L:=L) (ty:=ty) hc hx;rwa [hp,IntKind.wrap_u32,show((t:Int) % 4294967296)=((t % 4294967296:Nat):Int) from rfl] at this
end
theorem mh {a b:OA}{ca cb:Nat}{l r:List UInt32}{h:Part}(hl:SlR u32R 1 h a ca l) (hr:SlR u32R 1 h b cb r):Pure prog 139 [.slice a l.length ca,.slice b r.length cb] h (.int .i64 (cmpI3 (vL l) (vL r))):=by
 have hll:=hl.big;have hrl:=hr.big;have t1:=gH (d32 l) l.length;have t2:=gH (d32 r) r.length;have e1:=pm l;have e2:=pm r;refine aM func139 U ntmps139 U (λe he=>?_);refine bg [(0,_),(1,_)] ⟨U,U,trivial⟩ ?_;refine Sr (Ru 1 U (a_ (Sr (Ru 1 U (bh uG U (il z7_) U ?_)))));refine Ru 1 U (bh uG U (il z7_) U ?_);refine Ru 2 U (a_ (az (Sr (Ru 3 U (Nk [14,6,5,4,0,1] U (Cs U (λhc3=>?_) λhc3=>?_))))))
 ·refine az (Sr (Ru 3 U (Nk [17,5,4,0,1] U (Cs U (λhc4=>?_) λhc4=>?_))))
  ·have hlt:=nd_lt (m:=vL l) (n:=vL r) z2_;exact Sr (Ru 1 U (a_ (aH (ay U U) (by unfold cmpI3;rw [if_pos hlt]) U)))
  have hlt:=nd_lt (m:=vL r) (n:=vL l) z2_;exact aA (Sr (Ru 1 U (a_ (aH (ay U U) (by unfold cmpI3;rw [if_neg z2_,if_pos hlt]) U))))
 refine aA (az (Sr (Ru 1 U (ah si_ U ?_))));refine Ru 1 U (Nk [7,4,0,1] U (aJ (bM (λt_ S_ h_ L_=>∃ (j:Nat),t_=j+1/\S_=[(0,.slice a l.length ca),(1,.slice b r.length cb),(7,.int .i64 ((j:Int)-1))]/\h=h_/\L_=[]/\(j<=tsz (d32 l) l.length/\vL l / 4294967296 ^ j=vL r / 4294967296 ^ j)) ⟨_,_,?_,⟨tsz (d32 l) l.length,U,U,U,U,⟨aL _,by rw [e1,Nat.div_eq_of_lt (sh _),show nd (vL l)=nd (vL r) by omega,Nat.div_eq_of_lt (sh _)]⟩⟩⟩ ?_)))
 ·exact g7
 rintro _ _ _ _ ⟨j,rfl,rfl,rfl,rfl,hj,he⟩;refine az (Sr (Ru 2 U (a_ (Cs U (λhc5=>?_) λhc5=>?_))))
 ·obtain⟨i,rfl⟩:∃ i,j=i+1:=⟨j-1,by omega⟩;have dl:=oO (vL l) i;have dr:=oO (vL r) i;rw [gh] at dl dr;rw [he] at dl;have al:=mB l i z2_;have ar:=mB r i z2_;refine aA (az (aJ (az (de cM cP ?_))));refine Rq 2 U ?_;refine du (aI (m:=i) lR U U z2_ hl U z2_) U ?_;rintro _ ⟨b6,o6,hi6,rfl,hE6⟩;refine cq (dX gX U z7_) U ?_;refine Rq 2 U ?_;refine du (aI (m:=i) lR U U z2_ hr U z2_) U ?_;rintro _ ⟨b8,o8,hi8,rfl,hE8⟩;refine cq (dX gX U z7_) U ?_;refine Rq 1 U ?_;refine eH ?_;refine Cs U (λhc10=>?_) λhc10=>?_
  ·refine az (az (de cM cP ?_));refine Rq 2 U ?_;refine du (aI (m:=i) lR U U z2_ hl U z2_) U ?_;rintro _ ⟨b11,o11,hi11,rfl,hE11⟩;refine cq (dX gX U z7_) U ?_;refine Rq 2 U ?_;refine du (aI (m:=i) lR U U z2_ hr U z2_) U ?_;rintro _ ⟨b13,o13,hi13,rfl,hE13⟩;refine cq (dX gX U z7_) U ?_;refine Rq 1 U ?_;refine eH ?_;refine Cs U (λhc15=>?_) λhc15=>?_
   ·have hlt:=jq (x:=vL l) (y:=vL r) (d:=4294967296 ^ i) z2_;exact Sr (Ru 1 U (a_ (aH (ay U U) (by unfold cmpI3;rw [if_pos hlt]) U)))
   have hlt:=jq (x:=vL r) (y:=vL l) (d:=4294967296 ^ i) z2_;exact aA (Sr (Ru 1 U (a_ (aH (ay U U) (by unfold cmpI3;rw [if_neg z2_,if_pos hlt]) U))))
  refine aA (Rg (Ru 1 U (ah si_ U ?_)));refine Ru 1 U (a_ (⟨_,?_,_,?_,⟨i,U,U,U,U,⟨by omega,by omega⟩⟩⟩))
  ·omega
  exact g7
 have hj0:j=0:=z2_;rw [hj0,Nat.pow_zero,Nat.div_one,Nat.div_one] at he;exact bA (Kp [] U (Sr (Ru 1 U (a_ (aH (ay U U) (by unfold cmpI3;rw [if_neg z2_,if_neg z2_]) U)))))
theorem natOf_fn {n:Nat}{h:Part}(hn:n<18446744073709551616):FnR prog 187 [.int .u64 n] h (λv h'=>∃ a c,v=.slice a (toL n).length c/\SlR u32R 1 h' a c (toL n)):=by
 refine aM func187 U ntmps187 U (λe he=>?_);refine bg [(0,_)] ⟨U,trivial⟩ ?_;have hh0:=aT h;refine Sr (Ru 1 U (a_ (Sr (Ru 1 U (ah (RunV.toW n ga U U) U ?_)))));refine Ru 1 U (ah (RunV.shr_u64 4294967296 U U bT bT bT) U ?_);refine ah (RunV.toW (n / 4294967296) ga U U) U ?_;refine cF ap_62 zr_190 U U U U U (λb1=>?_);refine JL.pubB (R:=u32R) (sz:=1) (l:=digN 2 n) dl_ ((show CellsR u32R 1 _ [.int .u32 ((n % 4294967296:Nat):Int),.int .u32 ((n / 4294967296 % 4294967296:Nat):Int)] (digN 2 n) from(show ws .u32 (digN 2 n)=[.int .u32 ((n % 4294967296:Nat):Int),.int .u32 ((n / 4294967296 % 4294967296:Nat):Int)] from by simp [ws,digN]) ▸ CellsR.of_ws32)) (by first|decide|omega|(rw [dO];decide)|(simp;done)|(simp [dO];done)) (λh2 hle2 hQ=>?_)
 replace hh0:=hh0.mono hle2
 refine bL ca_239 U (sd hQ (by rw [dO]) z2_) U ?_;rintro _ h3 hle3 ⟨ra,rc,rfl,hR⟩
 replace hh0:=hh0.mono hle3
 replace hQ:=hQ.mono hle3
 refine Ru 1 U (Nk [2] U ?_);have hv:vL (digN 2 n)=n:=(by rw [rf];exact Nat.mod_eq_of_lt (by simp only [Nat.reducePow];omega));rw [hv] at hR |-;exact bj (ay U U) ⟨_,_,U,hR⟩
def dr (X Y:Nat):Nat:=if Y=0 then 0 else X % Y
theorem gW (l:List UInt32):bl (vL l)<=32*l.length:=by
 have:=vL_lt l;rw [pU] at this;exact sL _ _ this
theorem ca_185:callT prog 185=true:=by kernel_rfl
theorem ca_301:callT prog 301=true:=by kernel_rfl
theorem rX {a:OA}{c n:Nat}{l:List UInt32}{h:Part}(hl:SlR u64R 1 h a c (l.map m64)) (hn:n=l.length) (hlen:l.length<=1000000):FnR prog 291 [.slice a n c] h (λv h'=>∃ a' c',v=.slice a' (toL (vL l)).length c'/\SlR u32R 1 h' a' c' (toL (vL l))):=by
 have hml:(l.map m64).length=l.length:=aD ..;have:=number_fn hl (λi=>by rw [mA];exact kZ l i) z2_;rw [hml,<- hn,uA,map_n32] at this;exact this
theorem rwhole_fn {x:Nd}{cs:LV}{h:Part}(r:NdR h cs x) (hsz:x.sz<=10000000):Pure prog 301 [.agg cs.toArray] h (.bool x.whole):=by
 cases x with
 |mk c t k bs ks =>
 obtain⟨ka,kca,kb,kcb,rfl,hka,hkb⟩:=r.inv;refine dY ?_;refine aM func301 U ntmps301 U (λe he=>?_);refine bg [(0,_)] ⟨U,trivial⟩ ?_;refine Sr (dh U U U (λb1=>?_));refine Ru 1 U (a_ (Sr (Ru 1 U (ah (aw dI U mm_ U) U ?_))));refine Ru 2 U ?_;apply An 6 15 9 [2,1] U U
 ·intro hb2 hc2;refine Ru 1 U (aQ U U  (aw dI U mm_ U) U ?_);refine Ru 2 U ?_;apply On 10 14 4 [6,2,1] U U
  rotate_left
  ·intro hb3 hc3;refine Ru 1 U (aQ U U  (aw dI U mm_ U) U ?_);exact Ru 2 U (Ae (om_f hb3 U) U)
  rotate_right
  ·exact λhb3 _=>Ru 4 U (Ae (om_t hb3 U) U)
  exact Ru 1 U (Ae (am_t hb2 U) U)
 ·exact λhb2 _=>Ru 9 U (Ae (am_f hb2 U) U)
 refine Ru 1 U ?_;apply An 16 19 3 [2] U U
 ·intro hb4 hc4;refine aQ U U  (bJ bP U mm_ z4_) U ?_;refine cG U U  ca_185 U (lW z7_ z2_) U ?_;exact Ru 1 U (Ae (am_t hb4 U) U)
 ·exact λhb4 _=>Ru 3 U (Ae (am_f hb4 U) U)
 exact Ru 1 U (a_ (ew (ay U U) U))
theorem rintof_fn {x:Nd}{cs:LV}{h:Part}(r:NdR h cs x) (hsz:x.sz<=10000000) :
 Pure prog 294 [.agg cs.toArray] h (.tuple #[.int .i64 x.intV,.bool x.intOk]):=by
 cases x with
 |mk c t k bs ks =>
 have hbs:=Nd.bytes_sz c t k bs ks;have hpos:(Nd.mk c t k bs ks).whole=true->0<bs.length:=λhw=>n8 (gG.1 hw).2.2.2.2;obtain⟨ka,kca,kb,kcb,rfl,hka,hkb⟩:=r.inv;refine dY ?_;refine aM func294 U ntmps294 U (λe he=>?_);refine bg [(0,_)] ⟨U,trivial⟩ ?_;refine Sr (dh U U U (λb1=>?_));refine Ru 2 U (a_ (az (Sr (ah (bJ bP U mm_ z4_) U ?_))));refine bh ca_301 U (rwhole_fn z7_ z2_) U ?_;refine Ru 2 U ?_;apply On 9 14 5 [3,2,1] U U
 rotate_left
 ·intro hb3 hc3;refine Ru 1 U (aQ U U  (aw dt U mm_ U) U ?_);exact Ru 3 U (Ae (om_f hb3 U) U)
 rotate_right
 ·exact λhb3 _=>Ru 5 U (Ae (om_t hb3 U) U)
 refine a_ (Cs U (λhc4=>?_) λhc4=>?_)
 ·have hff:(Nd.mk c t k bs ks).intOk=false:=(by rw [gq];revert hc4;cases (Nd.mk c t k bs ks).whole<;>simp<;>omega);exact Sr (Ru 2 U (a_ (ew (b_ U U U) (by rw [hff,intV_f hff]))))
 obtain⟨hww,hb8⟩:(Nd.mk c t k bs ks).whole=true/\bs.length<=8:=(by revert hc4;cases (Nd.mk c t k bs ks).whole<;>simp<;>omega);have hps:=hpos hww;have hff:(Nd.mk c t k bs ks).intOk=true:=(by rw [gq,hww,aj hb8];rfl);have e0:=bY bs 0 hps;have hb0:=cx bs 0;have hsb:=s8_bd (byteAt bs 0) hb0;have hdl:(bs.drop 1).length=bs.length-1:=bC;refine aA (Sr (Ru 1 U (ah (aw dt U mm_ U) U ?_)));refine cm (aI cY U U (show _=((0:Nat):Int) from rfl) z7_ U z2_) U ?_;rintro _ ⟨b5,o5,hi5,rfl,hE5⟩;refine ah (bv ff U z7_) U ?_;refine ah (by first|exact RunV.convb_i64 jz rfl|exact RunV.conv_i64 jz rfl z2_ z2_|exact cL jz rfl) U ?_;refine Ru 1 U (Nk [4,3,2,1] U (az (Sr (Ru 2 U (a_ (cJ [(4,.int .i64 (s8 (byteAt bs 0)))] [(3,_),(2,_),(1,_)] ⟨U,U,U,trivial⟩ ?_ ?_))))))
 ·refine Cs U (λhc7=>?_) λhc7=>?_
  ·refine Rg (Ru 1 U (ah si_ U ?_));refine Ru 1 U (a_ (⟨U,U,?_⟩))
   repeat (first|exact trivial|refine⟨rfl,?_⟩|refine⟨(by exact cQ (by unfold s8;split<;>omega)),?_⟩)
  refine aA (⟨U,U,?_⟩)
  repeat (first|exact trivial|refine⟨rfl,?_⟩|refine⟨(by exact cQ (by unfold s8;split<;>omega)),?_⟩)
 refine az (Sr (Ru 1 U (a_ (aJ (bM (λt_ S_ h_ L_=>∃ (i:Nat) (w:Int),t_=bs.length-i/\S_=[(1,.pointer (some ⟨b1,0,none⟩)),(4,.int .i64 w),(5,.int .i64 (i+1:Nat))]/\h=h_/\L_=[.blk b1 35 [.int .i64 c,.int .i64 t,.bool k,.slice ka bs.length kca,.slice kb ks.length kcb]]/\(i<=(bs.drop 1).length/\w=s8 (byteAt bs 0)*256 ^ i+beV ((bs.drop 1).take i))) ⟨_,_,?_,⟨0,s8 (byteAt bs 0),U,U,U,U,⟨by omega,by simp [beV]⟩⟩⟩ ?_)))))
 ·exact z6_
 rintro _ _ _ _ ⟨i,w,rfl,rfl,rfl,rfl,hi,hw⟩;refine az (Sr (Ru 2 U (ah (aw dt U mm_ U) U ?_)));refine Ru 2 U (a_ (Cs U (λhc8=>?_) λhc8=>?_))
 ·have hi':i<(bs.drop 1).length:=z2_;have hbv:=uM ((bs.drop 1).take i);rw [bz,Nat.min_eq_left z2_] at hbv;have hwb:=sV_bd hsb hbv;rw [<- hw] at hwb;have hp8:=pow8_le i z2_;have hns:=jK (bs.drop 1) i hi';have hbi:(bs.drop 1)[i]'hi'=bs[i+1]'z2_:=(by rw [List.getElem_drop];congr 1;omega);rw [hbi] at hns;have hcb:=UInt8.toNat_lt (bs[i+1]'z2_);refine aA (az (aJ (Rg (Ru 1 U (ah jM U ?_)))));refine Ru 1 U (ah (aw dt U mm_ U) U ?_);refine Ru 1 U (cm (aI cY U U z9_ z7_ U z2_) U ?_);rintro _ ⟨b9,o9,hi9,rfl,hE9⟩;refine ah (bv ff U z7_) U ?_;refine ah (by first|exact RunV.convb_i64 jz rfl|exact RunV.conv_i64 jz rfl z2_ z2_|exact cL jz rfl) U ?_;refine ah ai_ U ?_;refine Ru 1 U (a_ (Rg (Ru 1 U (ah ai_ U ?_))));refine Ru 1 U (a_ (⟨_,?_,_,?_,⟨i+1,w*256+(bs[i+1]'z2_).toNat,U,U,U,U,⟨by omega,by rw [hns,hw,Int.pow_succ,dT,Int.natCast_mul,Int.add_mul,Int.mul_assoc,Int.add_assoc];rfl⟩⟩⟩))
  ·omega
  exact z6_
 have hie:i=(bs.drop 1).length:=z2_;have hsv:(Nd.mk c t k bs ks).intV=w:=(by rw [ue hff,hw,hie,List.take_length,sV,hdl]);exact bA (Kp [4] U (Sr (Ru 3 U (a_ (ew (b_ U U U) (by rw [hff,hsv]))))))
theorem ca_291:callT prog 291=true:=by kernel_rfl
theorem digs_eq (l:List UInt32):digsB l=(toL (vL l)).map m64:=uA l
theorem tv {a:OA}{c:Nat}{l:List UInt32}{h:Part}(hl:SlR u32R 1 h a c l) (hlen:l.length<=1000000):FnR prog 261 [.slice a l.length c] h (λv h'=>∃ a' c',v=.slice a' (toL (vL l)).length c'/\SlR u64R 1 h' a' c' ((toL (vL l)).map m64)):=by
 have:=iS hl hlen;rw [digs_eq,aD] at this;exact this
theorem d64_mat (l:List UInt32) (i:Nat) (h:i<(l.map m64).length):(((l.map m64)[i]'h).toNat:Int)=d32 l i:=by rw [qA,mA]
theorem rOf_fn {n:Nat}{h:Part}(hn:n<18446744073709551616):FnR prog 280 [.int .u64 n] h (λv h'=>∃ a c,v=.slice a (toL n).length c/\SlR u32R 1 h' a c (toL n)):=by
 have hv:vL (digN 2 n)=n:=by rw [rf];exact Nat.mod_eq_of_lt (by simp only [Nat.reducePow];omega)
 refine aM func280 U ntmps280 U (λe he=>?_);refine bg [(0,_)] ⟨U,trivial⟩ ?_;have hh0:=aT h;refine Sr (Ru 1 U (a_ (Sr (Ru 1 U (ah (by first|exact RunV.rem_u64 rfl rfl z2_ z2_|exact RunV.rem rfl rfl z2_) U ?_)))));refine Ru 1 U (ah z35_ U ?_);refine cF gC lF U U U U U (λb1=>?_);refine JL.pubB (R:=u64R) (sz:=1) (l:=(digN 2 n).map m64) dl_ ((show CellsR u64R 1 _ [.int .u64 ((n:Int) % 4294967296),.int .u64 ((n:Int) / 4294967296)] ((digN 2 n).map m64) from(show ws .u64 (digN 2 n)=[.int .u64 ((n:Int) % 4294967296),.int .u64 ((n:Int) / 4294967296)] from by simp [ws,digN];omega) ▸ CellsR.of_ws64)) (by first|decide|omega|(rw [dO];decide)|(simp;done)|(simp [dO];done)) (λh2 hle2 hQ=>?_)
 replace hh0:=hh0.mono hle2
 refine bL ca_291 U (rX hQ (by rw [dO]) (by rw [dO];decide)) U ?_;rintro _ h3 hle3 ⟨ra,rc,rfl,hR⟩
 replace hh0:=hh0.mono hle3
 replace hQ:=hQ.mono hle3
 refine Ru 1 U (Nk [2] U ?_);rw [hv] at hR |-;exact bj (ay U U) ⟨_,_,U,hR⟩
theorem ca_290:callT prog 290=true:=by kernel_rfl
theorem rJ {a b:OA}{ca cb X Y:Nat}{h:Part}(hA:SlR u64R 1 h a ca ((toL X).map m64)) (hB:SlR u64R 1 h b cb ((toL Y).map m64)) (hlA:(toL X).length<=1000000):Pure prog 290 [.slice a (toL X).length ca,.slice b (toL Y).length cb] h (.int .i64 (cmpI3 X Y)):=by
 have hAl:((toL X).map m64).length=(toL X).length:=aD ..;have hBl:((toL Y).map m64).length=(toL Y).length:=aD ..;have e1:=nE X;have e2:=nE Y;refine aM func290 U ntmps290 U (λe he=>?_);refine bg [(0,_),(1,_)] ⟨U,U,trivial⟩ ?_;refine Sr (Ru 1 U (a_ (az (Sr (Ru 5 U (a_ (Cs U (λhc1=>?_) λhc1=>?_)))))))
 ·refine az (Sr (Ru 5 U (Nk [15,4,0,1] U (Cs U (λhc2=>?_) λhc2=>?_))))
  ·have hlt:=nd_lt (m:=X) (n:=Y) z2_;exact Sr (Ru 1 U (a_ (aH (ay U U) (by unfold cmpI3;rw [if_pos hlt]) U)))
  have hlt:=nd_lt (m:=Y) (n:=X) z2_;exact aA (Sr (Ru 1 U (a_ (aH (ay U U) (by unfold cmpI3;rw [if_neg z2_,if_pos hlt]) U))))
 refine aA (Kp [4,0,1] U (az (Sr (Ru 2 U (ah si_ U ?_)))));refine Ru 1 U (a_ (aJ (bM (λt_ S_ h_ L_=>∃ (j:Nat),t_=j+1/\S_=[(0,.slice a (toL X).length ca),(1,.slice b (toL Y).length cb),(5,.int .i64 ((j:Int)-1))]/\h=h_/\L_=[]/\(j<=(toL X).length/\X / 4294967296 ^ j=Y / 4294967296 ^ j)) ⟨_,_,?_,⟨(toL X).length,U,U,U,U,⟨aL _,by rw [e1,Nat.div_eq_of_lt (sh _),show nd X=nd Y by omega,Nat.div_eq_of_lt (sh _)]⟩⟩⟩ ?_)))
 ·exact g7
 rintro _ _ _ _ ⟨j,rfl,rfl,rfl,rfl,hj,he⟩;refine az (Sr (Ru 2 U (a_ (Cs U (λhc3=>?_) λhc3=>?_))))
 ·obtain⟨i,rfl⟩:∃ i,j=i+1:=⟨j-1,by omega⟩;have dl:=oO X i;have dr:=oO Y i;have gl:=gh (toL X) i;have gr:=gh (toL Y) i;rw [vL_toL] at gl gr;rw [gl] at dl;rw [gr] at dr;rw [he] at dl;have al:=d64_mat (toL X) i z2_;have ar:=d64_mat (toL Y) i z2_;refine aA (az (aJ (az (az (de cM cP ?_)))));refine Rq 2 U ?_;refine du (aI (m:=i) dk U U z2_ hA hAl.symm z2_) U ?_;rintro _ ⟨b4,o4,hi4,rfl,hE4⟩;refine cq (bU dy U z7_) U ?_;rw [al];refine Rq 2 U ?_;refine du (aI (m:=i) dk U U z2_ hB hBl.symm z2_) U ?_;rintro _ ⟨b6,o6,hi6,rfl,hE6⟩;refine cq (bU dy U z7_) U ?_;rw [ar];refine Rq 1 U ?_;refine eH ?_;refine Cs U (λhc8=>?_) λhc8=>?_
  ·have hlt:=jq (x:=X) (y:=Y) (d:=4294967296 ^ i) z2_;exact Sr (Ru 1 U (a_ (aH (ay U U) (by unfold cmpI3;rw [if_pos hlt]) U)))
  refine aA (az (de cM cP ?_));refine Rq 2 U ?_;refine du (aI (m:=i) dk U U z2_ hA hAl.symm z2_) U ?_;rintro _ ⟨b9,o9,hi9,rfl,hE9⟩;refine cq (bU dy U z7_) U ?_;rw [al];refine Rq 2 U ?_;refine du (aI (m:=i) dk U U z2_ hB hBl.symm z2_) U ?_;rintro _ ⟨b11,o11,hi11,rfl,hE11⟩;refine cq (bU dy U z7_) U ?_;rw [ar];refine Rq 1 U ?_;refine eH ?_;refine Cs U (λhc13=>?_) λhc13=>?_
  ·have hlt:=jq (x:=Y) (y:=X) (d:=4294967296 ^ i) z2_;exact Sr (Ru 1 U (a_ (aH (ay U U) (by unfold cmpI3;rw [if_neg z2_,if_pos hlt]) U)))
  refine aA (Rg (Ru 1 U (ah si_ U ?_)));refine Ru 1 U (a_ (⟨_,?_,_,?_,⟨i,U,U,U,U,⟨by omega,by omega⟩⟩⟩))
  ·omega
  exact g7
 have hj0:j=0:=z2_;rw [hj0,Nat.pow_zero,Nat.div_one,Nat.div_one] at he;exact bA (Kp [] U (Sr (Ru 1 U (a_ (aH (ay U U) (by unfold cmpI3;rw [if_neg z2_,if_neg z2_]) U)))))
theorem rK {a b:OA}{ca cb:Nat}{l r:List UInt32}{h:Part}(hl:SlR u32R 1 h a ca l) (hr:SlR u32R 1 h b cb r) (hlb:l.length<=1000000) (hrb:r.length<=1000000):FnR prog 279 [.slice a l.length ca,.slice b r.length cb] h (λv _=>v=.int .i64 (cmpI3 (vL l) (vL r))):=by
 have n1:(toL (vL l)).length<=l.length:=by rw [nE];exact nd_le _ _ (vL_lt l)
 refine aM func279 U ntmps279 U (λe he=>?_);refine bg [(0,_),(1,_)] ⟨U,U,trivial⟩ ?_;have hh0:=aT h;refine Sr (Ru 1 U (a_ (Sr (Ru 1 U (bL uD U (tv hl hlb) U ?_)))));rintro _ h1 hle1 ⟨da,dc,rfl,hD⟩
 replace hl:=hl.mono hle1
 replace hr:=hr.mono hle1
 replace hh0:=hh0.mono hle1
 refine Ru 1 U (bL uD U (tv hr hrb) U ?_);rintro _ h2 hle2 ⟨ea,ec,rfl,hE⟩
 replace hl:=hl.mono hle2
 replace hr:=hr.mono hle2
 replace hh0:=hh0.mono hle2
 replace hD:=hD.mono hle2
 refine bh ca_290 U (rJ hD hE z2_) U ?_;exact Ru 1 U (Nk [4] U (bj (ay U U) U))
theorem sP {p:Prop}(u:p:=by unfold rightB;first|exact decide_eq_decide.2 z2_|exact(au z2_).symm):p:=u
theorem z44_ {p:Prop}(u:p:=by first|exact bR fo_65_1 rfl|exact bO fo_65_1 rfl):p:=u
theorem gD:aggT prog 62=some none:=by kernel_rfl
theorem ca_139:callT prog 139=true:=by kernel_rfl
theorem ca_186:callT prog 186=true:=by kernel_rfl
theorem ca_187:callT prog 187=true:=by kernel_rfl
theorem ca_278:callT prog 278=true:=by kernel_rfl
theorem ca_279:callT prog 279=true:=by kernel_rfl
theorem ca_280:callT prog 280=true:=by kernel_rfl
theorem fh:fieldOff prog 65 0=some 0:=by kernel_rfl
theorem fo_65_1:fieldOff prog 65 1=some 1:=by kernel_rfl
theorem oI:fieldOff prog 65 2=some 2:=by kernel_rfl
theorem sC (l:List UInt32):d32 l 0 % 2=vL l % 2:=by
 have:=gh l 0;rw [Nat.pow_zero,Nat.div_one] at this;omega
theorem oj {l:List UInt32}(h:¬ 0<l.length):vL l % 2=0:=by
 rw [<- sC,d32_out l 0 z2_]
theorem odd_fn {a:OA}{c:Nat}{l:List UInt32}{h:Part}(hl:SlR u32R 1 h a c l):Pure prog 186 [.slice a l.length c] h (.bool (decide (vL l % 2=1))):=by
 have hb:=hl.big;have hp:=sC l;have hd:=kZ l 0;refine aM func186 U ntmps186 U (λe he=>?_);refine bg [(0,_)] ⟨U,trivial⟩ ?_;refine Sr (Ru 1 U (a_ (Sr (Ru 4 U (Bs 6 U (λhc1=>?_) λhc1=>?_)))))
 ·refine Ru 1 U (cH U U  (aI (m:=0) lR U U U hl U z2_) U ?_);rintro _ ⟨b2,o2,hi2,rfl,hE2⟩;refine aQ U U  (dX gX U z7_) U ?_;rw [mB];refine aQ U U  (RunV.mask_u32 1 2 U U bT bT bT z2_ z2_) U ?_;exact Ru 3 U (Nk [2] U (aH (ay U U) (congrArg Value.bool (by first|exact decide_eq_decide.2 z2_|exact(au (by have:=oj (l:=l) z2_;omega)).symm)) U))
 exact Ru 7 U (Nk [2] U (aH (ay U U) (congrArg Value.bool (by first|exact decide_eq_decide.2 z2_|exact(au (by have:=oj (l:=l) z2_;omega)).symm)) U))
theorem rodd_fn {a:OA}{c:Nat}{l:List UInt32}{h:Part}(hl:SlR u32R 1 h a c l):Pure prog 278 [.slice a l.length c] h (.bool (decide (vL l % 2=1))):=by
 have hb:=hl.big;have hp:=sC l;have hd:=kZ l 0;refine aM func278 U ntmps278 U (λe he=>?_);refine bg [(0,_)] ⟨U,trivial⟩ ?_;refine Sr (Ru 1 U (a_ (Sr (Ru 4 U (Bs 6 U (λhc1=>?_) λhc1=>?_)))))
 ·refine Ru 1 U (cH U U  (aI (m:=0) lR U U U hl U z2_) U ?_);rintro _ ⟨b2,o2,hi2,rfl,hE2⟩;refine aQ U U  (dX gX U z7_) U ?_;rw [mB];refine aQ U U  (by first|exact RunV.rem_u32 rfl rfl z2_ z2_|exact RunV.rem rfl rfl z2_) U ?_;exact Ru 3 U (Nk [2] U (aH (ay U U) (congrArg Value.bool (by first|exact decide_eq_decide.2 z2_|exact(au (by have:=oj (l:=l) z2_;omega)).symm)) U))
 exact Ru 7 U (Nk [2] U (aH (ay U U) (congrArg Value.bool (by first|exact decide_eq_decide.2 z2_|exact(au (by have:=oj (l:=l) z2_;omega)).symm)) U))
def rightB (n e d:Nat):Bool:=decide (n % 2=1/\512<=bl n/\bl n<=4096/\e % 2=1/\2<e/\bl e<=64/\d<n)
theorem jD (a b:Nat):(0<cmpI3 a b<->b<a)/\(cmpI3 a b<0<->a<b)/\(cmpI3 a b=1<->b<a)/\(cmpI3 a b=-1<->a<b)/\(cmpI3 a b=0<->a=b):=by
 unfold cmpI3;split
 ·omega
 ·split<;>omega
theorem mo {an ae ad:OA}{cn ce cd:Nat}{n x d:List UInt32}{h:Part}(hn:SlR u32R 1 h an cn n) (hx:SlR u32R 1 h ae ce x) (hd:SlR u32R 1 h ad cd d):FnR prog 136 [.agg #[.slice an n.length cn,.slice ae x.length ce,.slice ad d.length cd]] h (λv _=>v=.bool (rightB (vL n) (vL x) (vL d))):=by
 have hb:=hn.big;have hbl:=gW n;have v2:vL (toL 2)=2:=vL_toL 2;obtain⟨k1,-,k2,-,-⟩:=jD (vL x) 2;obtain⟨-,k3,-,k4,-⟩:=jD (vL d) (vL n);refine aM func136 U ntmps136 U (λe he=>?_);refine bg [(0,_)] ⟨U,trivial⟩ ?_;have hh0:=aT h;refine Sr (dh U U U (λb1=>?_));refine Ru 1 U (a_ (Sr (Ru 1 U (ah (aw gD U mm_ U) U ?_))));refine bh ca_84 U (fx z7_) U ?_;rw [ik];refine Ru 1 U (a_ (az (J.held ([.blk b1 65 [.slice an n.length cn,.slice ae x.length ce,.slice ad d.length cd]]) 38 cM U (λh00=>?_))));refine Tk 0 U (by first|exact bR fh rfl|exact bO fh rfl) ?_;refine Tk 1 U (aw gD U mm_ U) ?_;refine Ta 2 U ?_;unfold One;refine bh ca_186 U (odd_fn z7_) U ?_;refine a_ ⟨(br_ h00),?_⟩;refine Tk 3 U (aO U) ?_;refine Bh 10 U (λhc4=>?_) λhc4=>?_
 ·refine TG 4 U U U (aO U) ?_;refine TG 5 U U U (RunV.geq U U) ?_;refine Tk 6 U (cU U U) ?_;refine Tk 7 U (aO U) ?_;refine Bh 14 U (λhc5=>?_) λhc5=>?_
  ·refine TG 8 U U U (aO U) ?_;refine TG 9 U U U (RunV.leq U U) ?_;refine Tk 10 U (cU U U) ?_;refine Tk 11 U (aO U) ?_;refine Bh 18 U (λhc6=>?_) λhc6=>?_
   ·refine TG 12 U U U z44_ ?_;refine TG 13 U U U (aw gD U mm_ U) ?_;refine Ta 14 U ?_;unfold One;refine cG U U  ca_186 U (odd_fn z7_) U ?_;refine a_ ⟨(br_ h00),?_⟩;refine Tk 15 U (cU U U) ?_;refine Tk 16 U (aO U) ?_;refine Bh 23 U (λhc8=>?_) λhc8=>?_
    ·refine TG 17 U U U z44_ ?_;refine TG 18 U U U (aw gD U mm_ U) ?_;refine Ta 19 U ?_;unfold One;refine JL.callRg U U  ca_187 U (natOf_fn (n:=2) bT) U ?_;rintro _ h9 hle9 ⟨oa,oc,rfl,hO1⟩
     replace hn:=hn.mono hle9
     replace hx:=hx.mono hle9
     replace hd:=hd.mono hle9
     replace hh0:=hh0.mono hle9
     refine a_ ⟨(br_ h00),?_⟩;refine Ta 20 U ?_;unfold One;refine cG U U  ca_139 U (mh z7_ z7_) U ?_;rw [v2];refine a_ ⟨(br_ h00),?_⟩;refine TG 21 U U U (RunV.gtr U U) ?_;refine Tk 22 U (cU U U) ?_;refine Tk 23 U (aO U) ?_;refine Bh 30 U (λhc11=>?_) λhc11=>?_
     ·refine TG 24 U U U z44_ ?_;refine TG 25 U U U (aw gD U mm_ U) ?_;refine Ta 26 U ?_;unfold One;refine cG U U  ca_84 U (fx z7_) U ?_;rw [ik];refine a_ ⟨(br_ h00),?_⟩;refine TG 27 U U U (RunV.leq U U) ?_;refine Tk 28 U (cU U U) ?_;refine Tk 29 U (aO U) ?_;refine Bh 36 U (λhc13=>?_) λhc13=>?_
      ·refine TG 30 U U U (by first|exact bR oI rfl|exact bO oI rfl) ?_;refine TG 31 U U U (aw gD U mm_ U) ?_;refine TG 32 U U U (by first|exact bR fh rfl|exact bO fh rfl) ?_;refine TG 33 U U U (aw gD U mm_ U) ?_;refine Ta 34 U ?_;unfold One;refine cG U U  ca_139 U (mh z7_ z7_) U ?_;refine a_ ⟨(br_ h00),?_⟩;refine TG 35 U U U (RunV.lss U U) ?_;refine Tk 36 U (cU U U) ?_;refine Tk 37 U (bS U) ?_;refine cy cP ?_;exact Kp [2] U (bj (ay U U) (congrArg Value.bool sP))
      refine Ts 30 U U U ?_;refine Ts 31 U U U ?_;refine Ts 32 U U U ?_;refine Ts 33 U U U ?_;refine Ta 34 U ?_;unfold One;refine bW U U U ?_;refine a_ ⟨(br_ h00),?_⟩;refine Ts 35 U U U ?_;refine Tk 36 U (bp U U) ?_;refine Tk 37 U (bS U) ?_;refine cy cP ?_;exact Kp [2] U (bj (ay U U) (congrArg Value.bool sP))
     refine Ts 24 U U U ?_;refine Ts 25 U U U ?_;refine Ta 26 U ?_;unfold One;refine bW U U U ?_;refine a_ ⟨(br_ h00),?_⟩;refine Ts 27 U U U ?_;refine Tk 28 U (bp U U) ?_;refine Tk 29 U (aO U) ?_;refine Ts 30 U U U ?_;refine Ts 31 U U U ?_;refine Ts 32 U U U ?_;refine Ts 33 U U U ?_;refine Ta 34 U ?_;unfold One;refine bW U U U ?_;refine a_ ⟨(br_ h00),?_⟩;refine Ts 35 U U U ?_;refine Tk 36 U (bp U U) ?_;refine Tk 37 U (bS U) ?_;refine cy cP ?_;exact Kp [2] U (bj (ay U U) (congrArg Value.bool sP))
    refine Ts 17 U U U ?_;refine Ts 18 U U U ?_;refine Ta 19 U ?_;unfold One;refine bW U U U ?_;refine a_ ⟨(br_ h00),?_⟩;refine Ta 20 U ?_;unfold One;refine bW U U U ?_;refine a_ ⟨(br_ h00),?_⟩;refine Ts 21 U U U ?_;refine Tk 22 U (bp U U) ?_;refine Tk 23 U (aO U) ?_;refine Ts 24 U U U ?_;refine Ts 25 U U U ?_;refine Ta 26 U ?_;unfold One;refine bW U U U ?_;refine a_ ⟨(br_ h00),?_⟩;refine Ts 27 U U U ?_;refine Tk 28 U (bp U U) ?_;refine Tk 29 U (aO U) ?_;refine Ts 30 U U U ?_;refine Ts 31 U U U ?_;refine Ts 32 U U U ?_;refine Ts 33 U U U ?_;refine Ta 34 U ?_;unfold One;refine bW U U U ?_;refine a_ ⟨(br_ h00),?_⟩;refine Ts 35 U U U ?_;refine Tk 36 U (bp U U) ?_;refine Tk 37 U (bS U) ?_;refine cy cP ?_;exact Kp [2] U (bj (ay U U) (congrArg Value.bool sP))
   refine Ts 12 U U U ?_;refine Ts 13 U U U ?_;refine Ta 14 U ?_;unfold One;refine bW U U U ?_;refine a_ ⟨(br_ h00),?_⟩;refine Tk 15 U (bp U U) ?_;refine Tk 16 U (aO U) ?_;refine Ts 17 U U U ?_;refine Ts 18 U U U ?_;refine Ta 19 U ?_;unfold One;refine bW U U U ?_;refine a_ ⟨(br_ h00),?_⟩;refine Ta 20 U ?_;unfold One;refine bW U U U ?_;refine a_ ⟨(br_ h00),?_⟩;refine Ts 21 U U U ?_;refine Tk 22 U (bp U U) ?_;refine Tk 23 U (aO U) ?_;refine Ts 24 U U U ?_;refine Ts 25 U U U ?_;refine Ta 26 U ?_;unfold One;refine bW U U U ?_;refine a_ ⟨(br_ h00),?_⟩;refine Ts 27 U U U ?_;refine Tk 28 U (bp U U) ?_;refine Tk 29 U (aO U) ?_;refine Ts 30 U U U ?_;refine Ts 31 U U U ?_;refine Ts 32 U U U ?_;refine Ts 33 U U U ?_;refine Ta 34 U ?_;unfold One;refine bW U U U ?_;refine a_ ⟨(br_ h00),?_⟩;refine Ts 35 U U U ?_;refine Tk 36 U (bp U U) ?_;refine Tk 37 U (bS U) ?_;refine cy cP ?_;exact Kp [2] U (bj (ay U U) (congrArg Value.bool sP))
  refine Ts 8 U U U ?_;refine Ts 9 U U U ?_;refine Tk 10 U (bp U U) ?_;refine Tk 11 U (aO U) ?_;refine Ts 12 U U U ?_;refine Ts 13 U U U ?_;refine Ta 14 U ?_;unfold One;refine bW U U U ?_;refine a_ ⟨(br_ h00),?_⟩;refine Tk 15 U (bp U U) ?_;refine Tk 16 U (aO U) ?_;refine Ts 17 U U U ?_;refine Ts 18 U U U ?_;refine Ta 19 U ?_;unfold One;refine bW U U U ?_;refine a_ ⟨(br_ h00),?_⟩;refine Ta 20 U ?_;unfold One;refine bW U U U ?_;refine a_ ⟨(br_ h00),?_⟩;refine Ts 21 U U U ?_;refine Tk 22 U (bp U U) ?_;refine Tk 23 U (aO U) ?_;refine Ts 24 U U U ?_;refine Ts 25 U U U ?_;refine Ta 26 U ?_;unfold One;refine bW U U U ?_;refine a_ ⟨(br_ h00),?_⟩;refine Ts 27 U U U ?_;refine Tk 28 U (bp U U) ?_;refine Tk 29 U (aO U) ?_;refine Ts 30 U U U ?_;refine Ts 31 U U U ?_;refine Ts 32 U U U ?_;refine Ts 33 U U U ?_;refine Ta 34 U ?_;unfold One;refine bW U U U ?_;refine a_ ⟨(br_ h00),?_⟩;refine Ts 35 U U U ?_;refine Tk 36 U (bp U U) ?_;refine Tk 37 U (bS U) ?_;refine cy cP ?_;exact Kp [2] U (bj (ay U U) (congrArg Value.bool sP))
 refine Ts 4 U U U ?_;refine Ts 5 U U U ?_;refine Tk 6 U (bp U U) ?_;refine Tk 7 U (aO U) ?_;refine Ts 8 U U U ?_;refine Ts 9 U U U ?_;refine Tk 10 U (bp U U) ?_;refine Tk 11 U (aO U) ?_;refine Ts 12 U U U ?_;refine Ts 13 U U U ?_;refine Ta 14 U ?_;unfold One;refine bW U U U ?_;refine a_ ⟨(br_ h00),?_⟩;refine Tk 15 U (bp U U) ?_;refine Tk 16 U (aO U) ?_;refine Ts 17 U U U ?_;refine Ts 18 U U U ?_;refine Ta 19 U ?_;unfold One;refine bW U U U ?_;refine a_ ⟨(br_ h00),?_⟩;refine Ta 20 U ?_;unfold One;refine bW U U U ?_;refine a_ ⟨(br_ h00),?_⟩;refine Ts 21 U U U ?_;refine Tk 22 U (bp U U) ?_;refine Tk 23 U (aO U) ?_;refine Ts 24 U U U ?_;refine Ts 25 U U U ?_;refine Ta 26 U ?_;unfold One;refine bW U U U ?_;refine a_ ⟨(br_ h00),?_⟩;refine Ts 27 U U U ?_;refine Tk 28 U (bp U U) ?_;refine Tk 29 U (aO U) ?_;refine Ts 30 U U U ?_;refine Ts 31 U U U ?_;refine Ts 32 U U U ?_;refine Ts 33 U U U ?_;refine Ta 34 U ?_;unfold One;refine bW U U U ?_;refine a_ ⟨(br_ h00),?_⟩;refine Ts 35 U U U ?_;refine Tk 36 U (bp U U) ?_;refine Tk 37 U (bS U) ?_;refine cy cP ?_;exact Kp [2] U (bj (ay U U) (congrArg Value.bool sP))
theorem kM {an ae ad:OA}{cn ce cd:Nat}{n x d:List UInt32}{h:Part}(hn:SlR u32R 1 h an cn n) (hx:SlR u32R 1 h ae ce x) (hd:SlR u32R 1 h ad cd d) (hln:n.length<=100000) (hlx:x.length<=100000) (hld:d.length<=100000):FnR prog 257 [.agg #[.slice an n.length cn,.slice ae x.length ce,.slice ad d.length cd]] h (λv _=>v=.bool (rightB (vL n) (vL x) (vL d))):=by
 have hb:=hn.big;have hbl:=gW n;have l2:(toL 2).length=1:=by kernel_rfl
 have v2:vL (toL 2)=2:=vL_toL 2;obtain⟨k1,-,k2,-,-⟩:=jD (vL x) 2;obtain⟨-,k3,-,k4,-⟩:=jD (vL d) (vL n);refine aM func257 U ntmps257 U (λe he=>?_);refine bg [(0,_)] ⟨U,trivial⟩ ?_;have hh0:=aT h;refine Sr (dh U U U (λb1=>?_));refine Ru 1 U (a_ (Sr (Ru 1 U (ah (aw gD U mm_ U) U ?_))));refine bL qM U (ig z7_ z2_) U ?_;rintro _ h2 hle2 rfl
 replace hn:=hn.mono hle2
 replace hx:=hx.mono hle2
 replace hd:=hd.mono hle2
 replace hh0:=hh0.mono hle2
 rw [ik];refine Ru 1 U (a_ (az (J.held ([.blk b1 65 [.slice an n.length cn,.slice ae x.length ce,.slice ad d.length cd]]) 38 cM U (λh00=>?_))));refine Tk 0 U (by first|exact bR fh rfl|exact bO fh rfl) ?_;refine Tk 1 U (aw gD U mm_ U) ?_;refine Ta 2 U ?_;unfold One;refine bh ca_278 U (rodd_fn z7_) U ?_;refine a_ ⟨(br_ h00),?_⟩;refine Tk 3 U (aO U) ?_;refine Bh 10 U (λhc4=>?_) λhc4=>?_
 ·refine TG 4 U U U (aO U) ?_;refine TG 5 U U U (RunV.geq U U) ?_;refine Tk 6 U (cU U U) ?_;refine Tk 7 U (aO U) ?_;refine Bh 14 U (λhc5=>?_) λhc5=>?_
  ·refine TG 8 U U U (aO U) ?_;refine TG 9 U U U (RunV.leq U U) ?_;refine Tk 10 U (cU U U) ?_;refine Tk 11 U (aO U) ?_;refine Bh 18 U (λhc6=>?_) λhc6=>?_
   ·refine TG 12 U U U z44_ ?_;refine TG 13 U U U (aw gD U mm_ U) ?_;refine Ta 14 U ?_;unfold One;refine cG U U  ca_278 U (rodd_fn z7_) U ?_;refine a_ ⟨(br_ h00),?_⟩;refine Tk 15 U (cU U U) ?_;refine Tk 16 U (aO U) ?_;refine Bh 23 U (λhc8=>?_) λhc8=>?_
    ·refine TG 17 U U U z44_ ?_;refine TG 18 U U U (aw gD U mm_ U) ?_;refine Ta 19 U ?_;unfold One;refine JL.callRg U U  ca_280 U (rOf_fn (n:=2) bT) U ?_;rintro _ h9 hle9 ⟨oa,oc,rfl,hO1⟩
     replace hn:=hn.mono hle9
     replace hx:=hx.mono hle9
     replace hd:=hd.mono hle9
     replace hh0:=hh0.mono hle9
     refine a_ ⟨(br_ h00),?_⟩;refine Ta 20 U ?_;unfold One;refine JL.callRg U U  ca_279 U (rK z7_ z7_ z2_ z2_) U ?_;rintro _ h10 hle10 rfl
     replace hn:=hn.mono hle10
     replace hx:=hx.mono hle10
     replace hd:=hd.mono hle10
     replace hh0:=hh0.mono hle10
     replace hO1:=hO1.mono hle10
     rw [v2];refine a_ ⟨(br_ h00),?_⟩;refine TG 21 U U U (RunV.eql U U) ?_;refine Tk 22 U (cU U U) ?_;refine Tk 23 U (aO U) ?_;refine Bh 30 U (λhc11=>?_) λhc11=>?_
     ·refine TG 24 U U U z44_ ?_;refine TG 25 U U U (aw gD U mm_ U) ?_;refine Ta 26 U ?_;unfold One;refine JL.callRg U U  qM U (ig z7_ z2_) U ?_;rintro _ h12 hle12 rfl
      replace hn:=hn.mono hle12
      replace hx:=hx.mono hle12
      replace hd:=hd.mono hle12
      replace hh0:=hh0.mono hle12
      replace hO1:=hO1.mono hle12
      rw [ik];refine a_ ⟨(br_ h00),?_⟩;refine TG 27 U U U (RunV.leq U U) ?_;refine Tk 28 U (cU U U) ?_;refine Tk 29 U (aO U) ?_;refine Bh 36 U (λhc13=>?_) λhc13=>?_
      ·refine TG 30 U U U (by first|exact bR oI rfl|exact bO oI rfl) ?_;refine TG 31 U U U (aw gD U mm_ U) ?_;refine TG 32 U U U (by first|exact bR fh rfl|exact bO fh rfl) ?_;refine TG 33 U U U (aw gD U mm_ U) ?_;refine Ta 34 U ?_;unfold One;refine JL.callRg U U  ca_279 U (rK z7_ z7_ z2_ z2_) U ?_;rintro _ h14 hle14 rfl
       replace hn:=hn.mono hle14
       replace hx:=hx.mono hle14
       replace hd:=hd.mono hle14
       replace hh0:=hh0.mono hle14
       replace hO1:=hO1.mono hle14
       refine a_ ⟨(br_ h00),?_⟩;refine TG 35 U U U (RunV.eql U U) ?_;refine Tk 36 U (cU U U) ?_;refine Tk 37 U (bS U) ?_;refine cy cP ?_;exact Kp [2] U (bj (ay U U) (congrArg Value.bool sP))
      refine Ts 30 U U U ?_;refine Ts 31 U U U ?_;refine Ts 32 U U U ?_;refine Ts 33 U U U ?_;refine Ta 34 U ?_;unfold One;refine bW U U U ?_;refine a_ ⟨(br_ h00),?_⟩;refine Ts 35 U U U ?_;refine Tk 36 U (bp U U) ?_;refine Tk 37 U (bS U) ?_;refine cy cP ?_;exact Kp [2] U (bj (ay U U) (congrArg Value.bool sP))
     refine Ts 24 U U U ?_;refine Ts 25 U U U ?_;refine Ta 26 U ?_;unfold One;refine bW U U U ?_;refine a_ ⟨(br_ h00),?_⟩;refine Ts 27 U U U ?_;refine Tk 28 U (bp U U) ?_;refine Tk 29 U (aO U) ?_;refine Ts 30 U U U ?_;refine Ts 31 U U U ?_;refine Ts 32 U U U ?_;refine Ts 33 U U U ?_;refine Ta 34 U ?_;unfold One;refine bW U U U ?_;refine a_ ⟨(br_ h00),?_⟩;refine Ts 35 U U U ?_;refine Tk 36 U (bp U U) ?_;refine Tk 37 U (bS U) ?_;refine cy cP ?_;exact Kp [2] U (bj (ay U U) (congrArg Value.bool sP))
    refine Ts 17 U U U ?_;refine Ts 18 U U U ?_;refine Ta 19 U ?_;unfold One;refine bW U U U ?_;refine a_ ⟨(br_ h00),?_⟩;refine Ta 20 U ?_;unfold One;refine bW U U U ?_;refine a_ ⟨(br_ h00),?_⟩;refine Ts 21 U U U ?_;refine Tk 22 U (bp U U) ?_;refine Tk 23 U (aO U) ?_;refine Ts 24 U U U ?_;refine Ts 25 U U U ?_;refine Ta 26 U ?_;unfold One;refine bW U U U ?_;refine a_ ⟨(br_ h00),?_⟩;refine Ts 27 U U U ?_;refine Tk 28 U (bp U U) ?_;refine Tk 29 U (aO U) ?_;refine Ts 30 U U U ?_;refine Ts 31 U U U ?_;refine Ts 32 U U U ?_;refine Ts 33 U U U ?_;refine Ta 34 U ?_;unfold One;refine bW U U U ?_;refine a_ ⟨(br_ h00),?_⟩;refine Ts 35 U U U ?_;refine Tk 36 U (bp U U) ?_;refine Tk 37 U (bS U) ?_;refine cy cP ?_;exact Kp [2] U (bj (ay U U) (congrArg Value.bool sP))
   refine Ts 12 U U U ?_;refine Ts 13 U U U ?_;refine Ta 14 U ?_;unfold One;refine bW U U U ?_;refine a_ ⟨(br_ h00),?_⟩;refine Tk 15 U (bp U U) ?_;refine Tk 16 U (aO U) ?_;refine Ts 17 U U U ?_;refine Ts 18 U U U ?_;refine Ta 19 U ?_;unfold One;refine bW U U U ?_;refine a_ ⟨(br_ h00),?_⟩;refine Ta 20 U ?_;unfold One;refine bW U U U ?_;refine a_ ⟨(br_ h00),?_⟩;refine Ts 21 U U U ?_;refine Tk 22 U (bp U U) ?_;refine Tk 23 U (aO U) ?_;refine Ts 24 U U U ?_;refine Ts 25 U U U ?_;refine Ta 26 U ?_;unfold One;refine bW U U U ?_;refine a_ ⟨(br_ h00),?_⟩;refine Ts 27 U U U ?_;refine Tk 28 U (bp U U) ?_;refine Tk 29 U (aO U) ?_;refine Ts 30 U U U ?_;refine Ts 31 U U U ?_;refine Ts 32 U U U ?_;refine Ts 33 U U U ?_;refine Ta 34 U ?_;unfold One;refine bW U U U ?_;refine a_ ⟨(br_ h00),?_⟩;refine Ts 35 U U U ?_;refine Tk 36 U (bp U U) ?_;refine Tk 37 U (bS U) ?_;refine cy cP ?_;exact Kp [2] U (bj (ay U U) (congrArg Value.bool sP))
  refine Ts 8 U U U ?_;refine Ts 9 U U U ?_;refine Tk 10 U (bp U U) ?_;refine Tk 11 U (aO U) ?_;refine Ts 12 U U U ?_;refine Ts 13 U U U ?_;refine Ta 14 U ?_;unfold One;refine bW U U U ?_;refine a_ ⟨(br_ h00),?_⟩;refine Tk 15 U (bp U U) ?_;refine Tk 16 U (aO U) ?_;refine Ts 17 U U U ?_;refine Ts 18 U U U ?_;refine Ta 19 U ?_;unfold One;refine bW U U U ?_;refine a_ ⟨(br_ h00),?_⟩;refine Ta 20 U ?_;unfold One;refine bW U U U ?_;refine a_ ⟨(br_ h00),?_⟩;refine Ts 21 U U U ?_;refine Tk 22 U (bp U U) ?_;refine Tk 23 U (aO U) ?_;refine Ts 24 U U U ?_;refine Ts 25 U U U ?_;refine Ta 26 U ?_;unfold One;refine bW U U U ?_;refine a_ ⟨(br_ h00),?_⟩;refine Ts 27 U U U ?_;refine Tk 28 U (bp U U) ?_;refine Tk 29 U (aO U) ?_;refine Ts 30 U U U ?_;refine Ts 31 U U U ?_;refine Ts 32 U U U ?_;refine Ts 33 U U U ?_;refine Ta 34 U ?_;unfold One;refine bW U U U ?_;refine a_ ⟨(br_ h00),?_⟩;refine Ts 35 U U U ?_;refine Tk 36 U (bp U U) ?_;refine Tk 37 U (bS U) ?_;refine cy cP ?_;exact Kp [2] U (bj (ay U U) (congrArg Value.bool sP))
 refine Ts 4 U U U ?_;refine Ts 5 U U U ?_;refine Tk 6 U (bp U U) ?_;refine Tk 7 U (aO U) ?_;refine Ts 8 U U U ?_;refine Ts 9 U U U ?_;refine Tk 10 U (bp U U) ?_;refine Tk 11 U (aO U) ?_;refine Ts 12 U U U ?_;refine Ts 13 U U U ?_;refine Ta 14 U ?_;unfold One;refine bW U U U ?_;refine a_ ⟨(br_ h00),?_⟩;refine Tk 15 U (bp U U) ?_;refine Tk 16 U (aO U) ?_;refine Ts 17 U U U ?_;refine Ts 18 U U U ?_;refine Ta 19 U ?_;unfold One;refine bW U U U ?_;refine a_ ⟨(br_ h00),?_⟩;refine Ta 20 U ?_;unfold One;refine bW U U U ?_;refine a_ ⟨(br_ h00),?_⟩;refine Ts 21 U U U ?_;refine Tk 22 U (bp U U) ?_;refine Tk 23 U (aO U) ?_;refine Ts 24 U U U ?_;refine Ts 25 U U U ?_;refine Ta 26 U ?_;unfold One;refine bW U U U ?_;refine a_ ⟨(br_ h00),?_⟩;refine Ts 27 U U U ?_;refine Tk 28 U (bp U U) ?_;refine Tk 29 U (aO U) ?_;refine Ts 30 U U U ?_;refine Ts 31 U U U ?_;refine Ts 32 U U U ?_;refine Ts 33 U U U ?_;refine Ta 34 U ?_;unfold One;refine bW U U U ?_;refine a_ ⟨(br_ h00),?_⟩;refine Ts 35 U U U ?_;refine Tk 36 U (bp U U) ?_;refine Tk 37 U (bS U) ?_;refine cy cP ?_;exact Kp [2] U (bj (ay U U) (congrArg Value.bool sP))
def belowL (n k:Nat):List UInt32:=(List.replicate (n / 32) 4294967295++(if 0<n % 32 then [UInt32.ofNat (2 ^ (n % 32)-1)] else [])).set 0 (UInt32.ofNat (4294967296-k))
def primeL:Nat->List UInt32
 |0=>belowL 256 189
 |1=>belowL 255 19
 |2=>belowL 256 357
 |3=>belowL 255 31
 |4=>belowL 257 93
 |_=>belowL 521 1
def expL:Nat->List UInt32
 |0=>[0xb9c9afc1,0xb9c94636,0xb9c94636,0xb9c94636,0xb9c94636,0xb9c94636,0xb9c94636,0xb9c94636,0x65af9976,0x65af9a50,0x65af9a50,0x65af9a50,0x65af9a50,0x65af9a50,0x65af9a50,0x65af9a50]
 |1=>[0xa813656d,0xa81357ec,0xa81357ec,0xa81357ec,0xa81357ec,0xa81357ec,0xa81357ec,0xa81357ec,0x63159c8e,0x63159cea,0x63159cea,0x63159cea,0x63159cea,0x63159cea,0x63159cea,0x63159cea]
 |2=>[0x197912ed,0x1978e687,0x1978e687,0x1978e687,0x1978e687,0x1978e687,0x1978e687,0x1978e687,0xaced5201,0xaced5312,0xaced5312,0xaced5312,0xaced5312,0xaced5312,0xaced5312,0xaced5312]
 |3=>[0xc45a3f41,0xc45a3ba5,0xc45a3ba5,0xc45a3ba5,0xc45a3ba5,0xc45a3ba5,0xc45a3ba5,0xc45a3ba5,0x7db7821d,0x7db78248,0x7db78248,0x7db78248,0x7db78248,0x7db78248,0x7db78248,0x7db78248]
 |4=>[0x4623bbc1,0x4623b9dc,0x4623b9dc,0x4623b9dc,0x4623b9dc,0x4623b9dc,0x4623b9dc,0x4623b9dc,0x2940d6ad,0x2940d6bf,0x2940d6bf,0x2940d6bf,0x2940d6bf,0x2940d6bf,0x2940d6bf,0x2940d6bf]
 |5=>[0xa87558e9,0xa875578a,0xa875578a,0xa875578a,0xa875578a,0xa875578a,0xa875578a,0xa875578a,0x807f7f7e,0x807f7f80,0x807f7f80,0x807f7f80,0x807f7f80,0x807f7f80,0x807f7f80,0x807f7f80,0xa269780,0xa27f5d8,0xa27f5d8,0xa27f5d8,0xa27f5d8,0xa27f5d8,0xa27f5d8,0xa27f5d8,0x1d8]
 |6=>[0xa4b65c7d,0xa4b65b49,0xa4b65b49,0xa4b65b49,0xa4b65b49,0xa4b65b49,0xa4b65b49,0xa4b65b49,0x807f7f7f,0x807f7f80,0x807f7f80,0x807f7f80,0x807f7f80,0x807f7f80,0x807f7f80,0x807f7f80,0xc9230380,0xc92436db,0xc92436db,0xc92436db,0xc92436db,0xc92436db,0xc92436db,0xc92436db,0xdb]
 |7=>[0xb84e47d1,0xb84e47b1,0xb84e47b1,0xb84e47b1,0xb84e47b1,0xb84e47b1,0xb84e47b1,0xb84e47b1,0x807f7f7f,0x807f7f80,0x807f7f80,0x807f7f80,0x807f7f80,0x807f7f80,0x807f7f80,0x807f7f80,0x3137af80,0x3137cec8,0x3137cec8,0x3137cec8,0x3137cec8,0x3137cec8,0x3137cec8,0x3137cec8,0xc8]
 |8=>[0xf86107c1,0xf861079e,0xf861079e,0xf861079e,0xf861079e,0xf861079e,0xf861079e,0xf861079e,0x807f7f7f,0x807f7f80,0x807f7f80,0x807f7f80,0x807f7f80,0x807f7f80,0x807f7f80,0x807f7f80,0x1e77bf80,0x1e77e188,0x1e77e188,0x1e77e188,0x1e77e188,0x1e77e188,0x1e77e188,0x1e77e188,0x88]
 |9=>[0x72988d99,0x72988d67,0x72988d67,0x72988d67,0x72988d67,0x72988d67,0x72988d67,0x72988d67,0x807f7f7f,0x807f7f80,0x807f7f80,0x807f7f80,0x807f7f80,0x807f7f80,0x807f7f80,0x807f7f80,0xe6f1e780,0xe6f2190d,0xe6f2190d,0xe6f2190d,0xe6f2190d,0xe6f2190d,0xe6f2190d,0xe6f2190d,0x10d]
 |10=>[0x956b39cd,0x956a956a,0x956a956a,0x956a956a,0x956a956a,0x956a956a,0x956a956a,0x956a956a,0x9e619d0e,0x9e619e61,0x9e619e61,0x9e619e61,0x9e619e61,0x9e619e61,0x9e619e61,0x9e619e61]
 |11=>[0x11ee43e1,0x11ee11ee,0x11ee11ee,0x11ee11ee,0x11ee11ee,0x11ee11ee,0x11ee11ee,0x11ee11ee,0x6e916d3e,0x6e916e91,0x6e916e91,0x6e916e91,0x6e916e91,0x6e916e91,0x6e916e91,0x6e916e91,0x1]
 |_=>[]
def pairR:Rep (Int×Int):=λ_ cs p=>cs=[.int .i64 p.1,.int .i64 p.2]
instance:Mono pairR:=⟨λ_ r=>r,λr u hu=>by unfold pairR at r;subst r;simp only [List.mem_cons,List.not_mem_nil,or_false] at hu;rcases hu with rfl|rfl<;>rfl⟩
def pairsL:List (Int×Int):=[(0,2),(0,4),(2,4),(4,1),(4,3),(0,5),(2,5),(1,5),(3,5),(4,5),(0,2),(0,4)]
def keyN (i:Nat):Nat:=vL (primeL (amongI (pairsL.getD i (0,0)).1 6).toNat)*vL (primeL (amongI (pairsL.getD i (0,0)).2 6).toNat)
def keyE (i:Nat):Nat:=if 10<=i then 257 else 65537
theorem uU:aggT prog 234=some (some 8):=by kernel_rfl
theorem ar_236:arT prog 236=some (8,1):=by kernel_rfl
theorem az_234:arZ prog 234=some ([.int .u64 0,.int .u64 0,.int .u64 0,.int .u64 0,.int .u64 0,.int .u64 0,.int .u64 0,.int .u64 0],1):=by kernel_rfl
theorem ca_142:callT prog 142=true:=by kernel_rfl
theorem ni_235:niT prog 235=true:=by kernel_rfl
theorem ni_239:niT prog 239=true:=by kernel_rfl
theorem pl_238:plT prog 238=some ([.int .u32 0,.int .u32 0,.int .u32 0,.int .u32 0,.int .u32 0,.int .u32 0,.int .u32 0,.int .u32 0],[(0,8)]):=by kernel_rfl
theorem pl_241:plT prog 241=some ([.int .u64 0,.int .u64 0,.int .u64 0,.int .u64 0,.int .u64 0,.int .u64 0,.int .u64 0,.int .u64 0],[(0,8)]):=by kernel_rfl
theorem zr_234:zeroT prog 234=some [.int .u64 0,.int .u64 0,.int .u64 0,.int .u64 0,.int .u64 0,.int .u64 0,.int .u64 0,.int .u64 0]:=by kernel_rfl
section
variable {f:Fr}{S:Sig}{h:Part}{L:LE}{ty T yt:TypeId}{xo yo:Operand}
theorem RunV.eql_nil_nil (hT:ifT f.P T=true) (hx:ev S xo=some .nilIface):RunV f S h L (.binOp .eql T xo (.const .nilIface) yt) ty (.bool true):=cX (y:=.const .nilIface) hx U λw=>by
 unfold ifT at hT;split at hT<;>try cases hT
 rename_i ms hu;have key:∀ m:Nat,(Op.equalIn (m+1) T .nilIface .nilIface).run f.P w=.ok true w:=λm=>by simp [Op.equalIn,run_underlying hu]
 simp only [go_sem,binOp,Op.equal,Op.maxDepth];simp [eqGuard,key 9999]
theorem RunV.eql_iface_nil {t:TypeId}{v:Value}(hT:ifT f.P T=true) (hx:ev S xo=some (.iface t v)):RunV f S h L (.binOp .eql T xo (.const .nilIface) yt) ty (.bool false):=cX (y:=.const .nilIface) hx U λw=>by
 unfold ifT at hT;split at hT<;>try cases hT
 rename_i ms hu;have key:∀ m:Nat,(Op.equalIn (m+1) T (.iface t v) .nilIface).run f.P w=.ok false w:=λm=>by simp [Op.equalIn,run_underlying hu]
 simp only [go_sem,binOp,Op.equal,Op.maxDepth];simp [eqGuard,key 9999]
def arE (P:Program) (T:Nat):Option (Nat×Bool) :=
 match P.underlying T with
 |some (.array n e)=>some (n,aggT P e == some none)
 |_=>none
theorem RunV.indexAgg {len m:Nat}{k:IntKind}{i:Int}{cs:LV}{v:Value}(hT:arE f.P T=some (len,true)) (hx:ev S xo=some (.agg cs.toArray)) (hy:ev S yo=some (.int k i)) (hi:i=(m:Int)) (h1:m<len) (hv:cs[m]?=some v) :
 RunV f S h L (.index T xo yo) ty v:=λa w s _ _ _ _=>by
 subst hi;have h0:(0:Int)<=m:=by omega
 unfold arE at hT;split at hT<;>try cases hT
 rename_i n e hu;simp only [aB,Prod.mk.injEq,beq_iff_eq] at hT;obtain⟨rfl,he⟩:=hT;have ⟨e1,e2⟩:=f7 he w;simp [execOp,s.eval hx,s.eval hy,Instr.index,asIntOf,run_underlying hu,h0,h1,e2,part,e1,hv]
end
def c64 (l:List UInt64):LV:=l.map λx=>.int .u64 (x.toNat:Int)
theorem c64_at (l:List UInt64) (i:Nat) (h:i<l.length):(c64 l)[i]?=some (.int .u64 ((l[i]'h).toNat:Int)):=by simp [c64,h]
def sqL:List UInt64:=[7640891576956012808,13503953896175478587,4354685564936845355,11912009170470909681,5840696475078001361,11170449401992604703,2270897969802886507,6620516959819538809]
theorem shaoid_fn {n:Int}{h:Part}:Pure prog 118 [.int .i64 n] h (.string ⟨(if n=256 then [50,46,49,54,46,56,52,48,46,49,46,49,48,49,46,51,46,52,46,50,46,49] else if n=384 then [50,46,49,54,46,56,52,48,46,49,46,49,48,49,46,51,46,52,46,50,46,50] else if n=512 then [50,46,49,54,46,56,52,48,46,49,46,49,48,49,46,51,46,52,46,50,46,51] else []:LB).toArray⟩):=by
 refine aM func118 U ntmps118 U (λe he=>?_);refine bg [(0,_)] ⟨U,trivial⟩ ?_;refine Sr (Ru 1 U (a_ ?_));refine az (Sr (Ru 1 U (a_ (aJ (Sr (Ru 2 U (a_ (Cs U (λhc1=>?_) λhc1=>?_))))))))
 ·refine Sr (Ru 1 U (Nk [2] U ?_));rw [if_pos hc1];exact aH (ay U U) U U
 refine Sr (Ru 2 U (Nk [6,3,2] U (Cs U (λhc2=>?_) λhc2=>?_)))
 ·refine Sr (Ru 1 U (a_ ?_));rw [if_neg z2_,if_pos hc2];exact aH (ay U U) U U
 refine Sr (Ru 2 U (a_ (Cs U (λhc3=>?_) λhc3=>?_)))
 ·refine Sr (Ru 1 U (Nk [2] U ?_));rw [if_neg z2_,if_neg z2_,if_pos hc3];exact aH (ay U U) U U
 refine aA (Kp [2] U (Sr (Ru 1 U (a_ ?_))));rw [if_neg z2_,if_neg z2_,if_neg z2_];exact aH (ay U U) U U
def someH (n:Int):Prop:=n=256\/n=384\/n=512
instance (n:Int):Decidable (someH n):=inferInstanceAs (Decidable (_\/_\/_))
theorem vM {n:Int}{h:Part}(hn:¬ someH n):FnR prog 142 [.int .i64 n] h (λv _=>v=.nilIface):=by
 unfold someH at hn;refine aM func142 U ntmps142 U (λe he=>?_);refine bg [(0,_)] ⟨U,trivial⟩ ?_;have hh0:=aT h;refine Sr (Ru 1 U (a_ (Sr (ah (RunV.buildArr az_234 U U U) U ?_))));refine bI zr_234 U (λb1=>?_);refine aV uU U U dl_ dn j5 dn ?_;refine a_ ?_;refine az (Sr (Ru 1 U (a_ (aJ (Sr (Ru 2 U (a_ (Cs U (λhc2=>?_) λhc2=>?_))))))))
 ·exfalso;omega
 refine Sr (Ru 2 U (Nk [29,8,3,2] U (Cs U (λhc3=>?_) λhc3=>?_)))
 ·exfalso;omega
 refine Sr (Ru 2 U (a_ (Cs U (λhc4=>?_) λhc4=>?_)))
 ·exfalso;omega
 exact aA (Kp [2] U (Sr (Ru 1 U (a_ (bj (ay U U) U)))))
theorem vK {n:Int}{h:Part}(hn:someH n):FnR prog 142 [.int .i64 n] h (λv _=>∃ t u,v=.iface t u):=by
 unfold someH at hn;have hsl:sqL.length=8:=rfl;refine aM func142 U ntmps142 U (λe he=>?_);refine bg [(0,_)] ⟨U,trivial⟩ ?_;have hh0:=aT h;refine Sr (Ru 1 U (a_ (Sr (ah (RunV.buildArr az_234 U U U) U ?_))));refine bI zr_234 U (λb1=>?_);refine aV uU U U dl_ dn j5 dn ?_;refine a_ ?_;refine az (Sr (Ru 1 U (a_ (aJ (Sr (Ru 2 U (a_ (Cs U (λhc2=>?_) λhc2=>?_))))))))
 ·refine Sr (ah (bn (cs:=[.int .u32 0,.int .u32 0,.int .u32 0,.int .u32 0,.int .u32 0,.int .u32 0,.int .u32 0,.int .u32 0]) pl_238 U U) U ?_);refine dh U U U (λb3=>?_);refine Ru 1 U (Nk [4,3,2] U (az (Sr (ah (bJ uU U mm_ dn) U ?_))));refine Ru 1 U (a_ (aJ (bM (λt_ S_ h_ L_=>∃ (i:Nat) (cs:LV),t_=8-i/\S_=[(4,.pointer (some ⟨b3,0,none⟩)),(13,.agg (c64 sqL).toArray),(14,.int .i64 i)]/\h=h_/\L_=[.blk b3 238 cs,.blk b1 234 (c64 sqL)]/\(i<=8/\cs.length=8)) ⟨_,_,?_,⟨0,[.int .u32 0,.int .u32 0,.int .u32 0,.int .u32 0,.int .u32 0,.int .u32 0,.int .u32 0,.int .u32 0],U,U,U,U,⟨by omega,U⟩⟩⟩ ?_)))
  ·exact g7
  rintro _ _ _ _ ⟨i,cs,rfl,rfl,rfl,rfl,hi,hcl⟩;refine Sr (Ru 1 U (a_ (az (Cs U (λhc4=>?_) λhc4=>?_))))
  ·have hi':i<8:=z2_;have hx64:=(sqL[i]'z2_).toNat_lt;refine aA (az (aJ (Sr (Ru 1 U (ah (RunV.indexAgg (len:=8) (m:=i) cP U U U hi' (c64_at sqL i z2_)) U ?_)))));refine Ru 2 U (a_ (Rg (Ru 3 U (ah (RunV.shr_u64 4294967296 U U bT bT bT) U ?_))));refine ah (RunV.toW ((sqL[i]'z2_).toNat / 4294967296) ga U (by rw [Int.natCast_ediv];rfl)) U ?_;refine Ru 2 U (ah (RunV.indexArr ar_236 U U z9_ z2_) U ?_);refine bK gX U U U dl_ fL ?_;refine a_ (Rg (ah ai_ U ?_));refine Ru 1 U (a_ (⟨_,?_,_,?_,⟨i+1,_,U,U,U,U,⟨by omega,by rw [List.length_set];exact hcl⟩⟩⟩))
   ·omega
   exact g7
  refine bA (Sr (Ru 1 U (ah (RunV.makeInterface ni_235 U) U ?_)));exact Ru 1 U (Nk [2] U (bj (ay U U) ⟨_,_,U⟩))
 refine Sr (Ru 2 U (Nk [29,8,3,2] U (Cs U (λhc5=>?_) λhc5=>?_)))
 ·refine Sr (ah (RunV.buildArr az_234 U U U) U ?_);refine ah (bn (cs:=[_,_,_,_,_,_,_,_]) pl_241 U U) U ?_;refine dh U U U (λb6=>?_);refine ah (RunV.makeInterface ni_239 U) U ?_;exact Ru 1 U (Nk [2] U (bj (ay U U) ⟨_,_,U⟩))
 refine Sr (Ru 2 U (a_ (Cs U (λhc7=>?_) λhc7=>?_)))
 ·refine Sr (ah (bJ uU U mm_ dn) U ?_);refine ah (bn (cs:=[_,_,_,_,_,_,_,_]) pl_241 U U) U ?_;refine dh U U U (λb8=>?_);refine ah (RunV.makeInterface ni_239 U) U ?_;exact Ru 1 U (Nk [2] U (bj (ay U U) ⟨_,_,U⟩))
 refine aA (Kp [2] U (Sr (Ru 1 U (a_ ?_))));exfalso;omega
def shaSize (n:Int):Int:=if someH n then n / 8 else 0
theorem vg {n:Int}{h:Part}:FnR prog 85 [.int .i64 n] h (λv _=>v=.int .i64 (shaSize n)):=by
 by_cases hn:someH n
 ·have hs:shaSize n=n / 8:=if_pos hn;rw [hs];have hn2:=hn;unfold someH at hn2;refine aM func85 U ntmps85 U (λe he=>?_);refine bg [(0,_)] ⟨U,trivial⟩ ?_;have hh0:=aT h;refine Sr (Ru 1 U (a_ (az (Sr (Ru 1 U (bL ca_142 U (vK hn) U ?_))))));rintro _ h1 hle1 ⟨t,u,rfl⟩
  replace hh0:=hh0.mono hle1
  refine ah (RunV.eql_iface_nil cP U) U ?_;refine a_ (dA U ?_);refine aA (Sr (Ru 1 U (ah qX U ?_)));exact Ru 1 U (Nk [2] U (bj (ay U U) U))
 ·have hs:shaSize n=0:=if_neg hn;rw [hs];refine aM func85 U ntmps85 U (λe he=>?_);refine bg [(0,_)] ⟨U,trivial⟩ ?_;have hh0:=aT h;refine Sr (Ru 1 U (a_ (az (Sr (Ru 1 U (bL ca_142 U (vM hn) U ?_))))));rintro _ h1 hle1 rfl
  replace hh0:=hh0.mono hle1
  refine ah (RunV.eql_nil_nil cP U) U ?_;exact a_ (aY U (Sr (Ru 1 U (a_ (bj (ay U U) U)))))
theorem e7:aggT prog 228=some (some 8):=by kernel_rfl
theorem l8:apT prog 226=some (200,1,8):=by kernel_rfl
theorem ca_129:callT prog 129=true:=by kernel_rfl
theorem ca_175:callT prog 175=true:=by kernel_rfl
theorem ca_227:callT prog 227=true:=by kernel_rfl
theorem im:fieldOff prog 228 2=some 2:=by kernel_rfl
theorem pl_228:plT prog 228=some ([.int .u64 0,.int .i64 0,.slice none 0 0,.slice none 0 0,.slice none 0 0,.slice none 0 0,.slice none 0 0,.int .i64 0],[(0,1),(1,1),(2,1),(3,1),(4,1),(5,1),(6,1),(7,1)]):=by kernel_rfl
theorem kD:zeroT prog 200=some [.int .u64 0]:=by kernel_rfl
theorem sO:zeroT prog 228=some [.int .u64 0,.int .i64 0,.slice none 0 0,.slice none 0 0,.slice none 0 0,.slice none 0 0,.slice none 0 0,.int .i64 0]:=by kernel_rfl
def waySize (n:Int):Int:=if n=256 then 32 else if n=384 then 48 else if n=512 then 64 else 0
theorem way_sha (n:Int):waySize n=shaSize n:=by
 by_cases h1:n=256
 ·subst h1;rfl
 ·by_cases h2:n=384
  ·subst h2;rfl
  ·by_cases h3:n=512
   ·subst h3;rfl
   ·have h4:¬ someH n:=(by unfold someH;omega);show(if n=256 then 32 else if n=384 then 48 else if n=512 then 64 else 0:Int)=shaSize n;rw [if_neg h1,if_neg h2,if_neg h3,show shaSize n=0 from if_neg h4]
def sq16:List UInt64:=[0x6a09e667f3bcc908,0xbb67ae8584caa73b,0x3c6ef372fe94f82b,0xa54ff53a5f1d36f1,0x510e527fade682d1,0x9b05688c2b3e6c1f,0x1f83d9abfb41bd6b,0x5be0cd19137e2179,0xcbbb9d5dc1059ed8,0x629a292a367cd507,0x9159015a3070dd17,0x152fecd8f70e5939,0x67332667ffc00b31,0x8eb44a8768581511,0xdb0c2e0d64f98fa7,0x47b5481dbefa4fa4]
theorem sI {h:Part}{xs:LV}{l:List UInt64}(e:c64 l=xs):CellsR u64R 1 h xs l:=by
 subst e;refine⟨by simp [c64],λi x hx=>?_⟩;obtain⟨hi,rfl⟩:=List.getElem?_eq_some_iff.1 hx;unfold u64R;rw [Nat.mul_one,List.take_one,List.head?_drop,c64_at l i hi];rfl
theorem mL {h:Part}:FnR prog 227 [] h (λv h'=>∃ a c,v=.slice a sq16.length c/\SlR u64R 1 h' a c sq16):=by
 refine aM func227 U ntmps227 U (λe he=>?_);have hh0:=aT h;refine Sr (Ru 1 U (a_ (Sr (cF gC lF U U U U U (λb1=>?_)))));refine JL.pubB (R:=u64R) (sz:=1) (l:=sq16) dl_ ((sI cP)) (by first|decide|omega|(rw [dO];decide)|(simp;done)|(simp [dO];done)) (λh2 hle2 hQ=>?_)
 replace hh0:=hh0.mono hle2
 exact Ru 1 U (a_ (bj (ay U U) ⟨_,_,U,hQ⟩))
theorem ways_some {n:Int}{h:Part}(hn:n=256):FnR prog 175 [.int .i64 n] h (λv _=>∃ c0 c1 c2 c3 c4 c5 c6,v=.agg #[c0,c1,c2,c3,c4,c5,c6,.int .i64 (waySize n)]):=by
 have hw:waySize n=32:=if_pos hn;have hsl:sq16.length=16:=rfl;rw [hw];refine aM func175 U ntmps175 U (λe he=>?_);refine bg [(0,_)] ⟨U,trivial⟩ ?_;have hh0:=aT h;refine Sr (bI sO U (λb1=>?_));refine a_ (Sr (bL ca_227 U (mL) U ?_));rintro _ h2 hle2 ⟨sa,sc,rfl,hQ⟩
 replace hh0:=hh0.mono hle2
 refine Ru 1 U (a_ (az (Sr (Ru 2 U (a_ (Cs U (λhc3=>?_) λhc3=>?_))))))
 rotate_left
 ·exfalso;omega
 refine Sr (cF l8 kD U U U U U (λb4=>?_));refine cF l8 kD U U U U U (λb5=>?_);refine cF l8 kD U U U U U (λb6=>?_);refine cF l8 kD U U U U U (λb7=>?_);refine ah (bn (cs:=[_,_,.slice none 0 0,_,_,_,_,_]) pl_228 U U) U ?_;refine bI sO U (λb8=>?_);refine aV e7 U U dl_ dn j5 dn ?_;refine Nk [4,3,2,0] U (az (Sr ?_));refine JL.own (L':=[.blk b8 228 _,.blk b1 228 _]) (λw hk=>hk.drop (by repeat (first|exact List.nil_sublist _|apply List.Sublist.cons_cons|apply List.Sublist.cons))) ?_;refine bZ 161 1 ?_;refine JL.own (λw hk=>hk.perm (.swap ..)) ?_;refine Ru 1 U (a_ (aJ (bM (λt_ S_ h_ L_=>∃ (i:Nat) (l:List UInt64) (ao:OA) (co:Nat) (xs:LV),t_=8-i/\S_=[(2,.pointer (some ⟨b1,0,none⟩)),(3,.slice sa sq16.length sc),(4,.pointer (some ⟨b8,0,none⟩)),(5,.int .i64 i)]/\h2=h_/\L_=[.blk b8 228 [.int .u64 32,.int .i64 64,.slice ao l.length co,(.slice (some ⟨b4,0,none⟩) 3 3),(.slice (some ⟨b5,0,none⟩) 3 3),(.slice (some ⟨b6,0,none⟩) 3 3),(.slice (some ⟨b7,0,none⟩) 3 3),.int .i64 32],.row ao co 161 1 l.length xs,.blk b1 228 [.int .u64 0,.int .i64 0,.slice none 0 0,.slice none 0 0,.slice none 0 0,.slice none 0 0,.slice none 0 0,.int .i64 0]]/\(i<=8/\l.length=i/\CellsR u64R 1 h2 xs l)) ⟨_,_,?_,⟨0,[],none,0,[],U,U,U,U,⟨by omega,U,bQ⟩⟩⟩ ?_)))
 ·exact g7
 rintro _ _ _ _ ⟨i,l,ao,co,xs,rfl,rfl,rfl,rfl,hi,hll,hC⟩;refine az (Sr (Ru 2 U (a_ (Cs U (λhc9=>?_) λhc9=>?_))))
 ·have hi':i<8:=z2_;have hi16:i<sq16.length:=z2_;have hx64:=(sq16[i]'hi16).toNat_lt;refine aA (az (aJ (J.held ([]) 11 cM U (λh00=>?_))));refine Tk 0 U (by first|exact bR im rfl|exact bO im rfl) ?_;refine Tk 2 U (aO U) ?_;refine Tk 3 U (aO U) ?_;refine Te 4 U (aI dk U U z9_ z7_ U z2_) ?_;rintro _ ⟨b10,o10,hi10,rfl,hE10⟩;refine Tk 5 U (bU dy U z7_) ?_;refine Tk 6 U z35_ ?_;refine JH.all2 1 7 cP U U ?_ ?_
  ·unfold One;refine ah (aw ez U mm_ U) U ?_;refine a_ ⟨(br_ h00),?_⟩;refine Ta 7 U ?_;unfold One;refine cF gC lF U U U U U (λb12=>?_);refine a_ ⟨(br_ h00),?_⟩;refine Ta 8 U ?_;unfold One;refine bV gC U U z7_ U dl_ dl_ U ((by show _=_;rw [UInt64.toNat_div];rfl:u64R _ [.int .u64 (((sq16[i]'hi16).toNat:Int) / 4294967296)] (sq16[i]'hi16 / 4294967296))) z3_ U U (λa13 c13 xs13 hC13 hN13=>?_);refine a_ ⟨(br_ h00),?_⟩;refine Tk 9 U (by first|exact bR im rfl|exact bO im rfl) ?_;refine Ta 10 U ?_;unfold One;refine bK ez U U U dl_ fL ?_;refine a_ ⟨(br_ h00),?_⟩;refine cy cP ?_;refine Rg (Ru 1 U (ah ai_ U ?_));refine Ru 1 U (a_ (⟨_,?_,_,?_,⟨i+1,_,_,_,_,U,U,U,U,⟨by omega,by simp [hll],by assumption⟩⟩⟩))
   ·omega
   exact g7
  unfold One;refine cF gC lF U U U U U (λb14=>?_);refine a_ ⟨(br_ h00),?_⟩;refine Ta 1 U ?_;unfold One;refine ah (aw ez U mm_ U) U ?_;refine a_ ⟨(br_ h00),?_⟩;refine Ta 8 U ?_;unfold One;refine bV gC U U z7_ U dl_ dl_ U ((by show _=_;rw [UInt64.toNat_div];rfl:u64R _ [.int .u64 (((sq16[i]'hi16).toNat:Int) / 4294967296)] (sq16[i]'hi16 / 4294967296))) z3_ U U (λa15 c15 xs15 hC15 hN15=>?_);refine a_ ⟨(br_ h00),?_⟩;refine Tk 9 U (by first|exact bR im rfl|exact bO im rfl) ?_;refine Ta 10 U ?_;unfold One;refine bK ez U U U dl_ fL ?_;refine a_ ⟨(br_ h00),?_⟩;refine cy cP ?_;refine Rg (Ru 1 U (ah ai_ U ?_));refine Ru 1 U (a_ (⟨_,?_,_,?_,⟨i+1,_,_,_,_,U,U,U,U,⟨by omega,by simp [hll],by assumption⟩⟩⟩))
  ·omega
  exact g7
 refine bA (Sr (ah (bJ e7 U mm_ dn) U ?_));refine aV e7 U U dl_ dn j5 dn ?_;exact Nk [2,3] U (bj (cr U U e7 mm_ dn) ⟨_,_,_,_,_,_,_,U⟩)
theorem vd {n:Int}{h:Part}(hn:n≠256):FnR prog 175 [.int .i64 n] h (λv _=>∃ c0 c1 c2 c3 c4 c5 c6,v=.agg #[c0,c1,c2,c3,c4,c5,c6,.int .i64 (waySize n)]):=by
 have hw:waySize n=if n=384 then 48 else if n=512 then 64 else 0:=if_neg hn;have hsl:sq16.length=16:=rfl;rw [hw];refine aM func175 U ntmps175 U (λe he=>?_);refine bg [(0,_)] ⟨U,trivial⟩ ?_;have hh0:=aT h;refine Sr (bI sO U (λb1=>?_));refine a_ (Sr (bL ca_227 U (mL) U ?_));rintro _ h2 hle2 ⟨sa,sc,rfl,hQ⟩
 replace hh0:=hh0.mono hle2
 refine Ru 1 U (a_ (az (Sr (Ru 2 U (a_ (Cs U (λhc3=>?_) λhc3=>?_))))))
 ·exfalso;omega
 refine aA (Sr (cF l8 kD U U U U U (λb4=>?_)));refine cF l8 kD U U U U U (λb5=>?_);refine cF l8 kD U U U U U (λb6=>?_);refine cF l8 kD U U U U U (λb7=>?_);refine ah (bn (cs:=[_,_,.slice none 0 0,_,_,_,_,.int .i64 0]) pl_228 U U) U ?_;refine bI sO U (λb8=>?_);refine aV e7 U U dl_ dn j5 dn ?_;refine Nk [6,3,2,0] U (az (Sr (Ru 2 U (a_ (Cs U (λhc9=>?_) λhc9=>?_)))))
 ·refine Sr (Ru 1 U (bK dI U U U dl_ fL ?_));refine a_ (Rg (Ru 1 U (cm (ei dk U U (show _=((8:Nat):Int) from rfl) z7_ U z2_) U ?_)));rintro _ ⟨a10,c10,rfl,hS10⟩;refine Ru 1 U (bK ez U U U dl_ fL ?_);refine Nk [6,3,2,0] U (az (Sr (Ru 2 U (a_ (Cs U (λhc11=>?_) λhc11=>?_)))))
  ·refine Sr (Ru 1 U (bK dI U U U dl_ fL ?_));refine Nk [6,3,2] U (Rg (Ru 1 U (cm (RunE.cut_h dk U U (show _=((8:Nat):Int) from rfl) z7_ U z2_) U ?_)));rintro _ ⟨a12,c12,rfl,hS12⟩;refine Ru 1 U (bK ez U U U dl_ fL ?_);refine a_ (Sr (ah (bJ e7 U mm_ dn) U ?_));refine aV e7 U U dl_ dn j5 dn ?_;refine Nk [2] U ?_;exfalso;omega
  refine aA (Kp [6,2] U (Sr (ah (bJ e7 U mm_ dn) U ?_)));refine aV e7 U U dl_ dn j5 dn ?_;refine a_ ?_
  first|(exfalso;omega)|(rw [if_pos (show n=384 by omega)];exact bj (cr rfl rfl e7 mm_ dn) ⟨_,_,_,_,_,_,_,rfl⟩)|(rw [if_neg (show ¬ n=384 by omega),if_pos (show n=512 by omega)];exact bj (cr rfl rfl e7 mm_ dn) ⟨_,_,_,_,_,_,_,rfl⟩)|(rw [if_neg (show ¬ n=384 by omega),if_neg (show ¬ n=512 by omega)];exact bj (cr rfl rfl e7 mm_ dn) ⟨_,_,_,_,_,_,_,rfl⟩)
 refine aA (az (Sr (Ru 2 U (Nk [42,6,3,2] U (Cs U (λhc13=>?_) λhc13=>?_)))))
 ·refine Sr (Ru 1 U (bK dI U U U dl_ fL ?_));refine a_ (Rg (Ru 1 U (cm (RunE.cut_h dk U U (show _=((8:Nat):Int) from rfl) z7_ U z2_) U ?_)));rintro _ ⟨a14,c14,rfl,hS14⟩;refine Ru 1 U (bK ez U U U dl_ fL ?_);refine Nk [6,2] U (Sr (ah (bJ e7 U mm_ dn) U ?_));refine aV e7 U U dl_ dn j5 dn ?_;refine a_ ?_
  first|(exfalso;omega)|(rw [if_pos (show n=384 by omega)];exact bj (cr rfl rfl e7 mm_ dn) ⟨_,_,_,_,_,_,_,rfl⟩)|(rw [if_neg (show ¬ n=384 by omega),if_pos (show n=512 by omega)];exact bj (cr rfl rfl e7 mm_ dn) ⟨_,_,_,_,_,_,_,rfl⟩)|(rw [if_neg (show ¬ n=384 by omega),if_neg (show ¬ n=512 by omega)];exact bj (cr rfl rfl e7 mm_ dn) ⟨_,_,_,_,_,_,_,rfl⟩)
 refine aA (Sr (ah (bJ e7 U mm_ dn) U ?_));refine aV e7 U U dl_ dn j5 dn ?_;refine Nk [2] U ?_
 first|(exfalso;omega)|(rw [if_pos (show n=384 by omega)];exact bj (cr rfl rfl e7 mm_ dn) ⟨_,_,_,_,_,_,_,rfl⟩)|(rw [if_neg (show ¬ n=384 by omega),if_pos (show n=512 by omega)];exact bj (cr rfl rfl e7 mm_ dn) ⟨_,_,_,_,_,_,_,rfl⟩)|(rw [if_neg (show ¬ n=384 by omega),if_neg (show ¬ n=512 by omega)];exact bj (cr rfl rfl e7 mm_ dn) ⟨_,_,_,_,_,_,_,rfl⟩)
theorem ways_fn {n:Int}{h:Part}:FnR prog 175 [.int .i64 n] h (λv _=>∃ c0 c1 c2 c3 c4 c5 c6,v=.agg #[c0,c1,c2,c3,c4,c5,c6,.int .i64 (waySize n)]):=by
 by_cases hn:n=256
 ·exact ways_some hn
 ·exact vd hn
theorem lV {n:Int}{h:Part}:FnR prog 129 [.int .i64 n] h (λv _=>v=.int .i64 (shaSize n)):=by
 rw [<- way_sha];refine aM func129 U ntmps129 U (λe he=>?_);refine bg [(0,_)] ⟨U,trivial⟩ ?_;have hh0:=aT h;refine Sr (Ru 1 U (a_ (Sr (Ru 1 U (bL ca_175 U (ways_fn) U ?_)))));rintro _ h1 hle1 ⟨c0,c1,c2,c3,c4,c5,c6,rfl⟩
 replace hh0:=hh0.mono hle1
 refine ah (RunV.field1 (o:=7) (cs:=[c0,c1,c2,c3,c4,c5,c6,.int .i64 (waySize n)]) cP U U) U ?_;exact Ru 1 U (Nk [2] U (bj (ay U U) U))
def oidH (n:Int):LB:=if n=256 then [50,46,49,54,46,56,52,48,46,49,46,49,48,49,46,51,46,52,46,50,46,49] else if n=384 then [50,46,49,54,46,56,52,48,46,49,46,49,48,49,46,51,46,52,46,50,46,50] else if n=512 then [50,46,49,54,46,56,52,48,46,49,46,49,48,49,46,51,46,52,46,50,46,51] else []
theorem vh {n:Int}{h:Part}:Pure prog 118 [.int .i64 n] h (.string ⟨(oidH n).toArray⟩):=shaoid_fn
theorem vk {n:Int}{h:Part}:FnR prog 75 [.int .i64 n] h (λv _=>v=.string ⟨(oidH n).toArray⟩):=by
 have h0:shaSize n=0<->¬ someH n:=by
  unfold shaSize;by_cases hn:someH n
  ·rw [if_pos hn];unfold someH at hn |-;omega
  ·rw [if_neg hn];exact⟨λ_=>hn,λ_=>rfl⟩
 unfold someH at h0;unfold oidH;refine aM func75 U ntmps75 U (λe he=>?_);refine bg [(0,_)] ⟨U,trivial⟩ ?_;have hh0:=aT h;refine Sr (Ru 1 U (a_ (az (Sr (Ru 1 U (bL ca_129 U (lV) U ?_))))));rintro _ h1 hle1 rfl
 replace hh0:=hh0.mono hle1
 refine Ru 1 U (a_ (Cs U (λhc2=>?_) λhc2=>?_))
 ·refine Sr (Ru 1 U (Nk [2,0] U ?_));rw [if_neg z2_,if_neg z2_,if_neg z2_];exact bj (ay U U) U
 refine aA (Sr (Ru 1 U (a_ (az (Sr (Ru 2 U (Nk [8,3,2,0] U (Cs U (λhc3=>?_) λhc3=>?_))))))))
 ·refine Rg (Ru 1 U (a_ (az (Sr (Ru 2 U (Nk [10,3,2] U (Cs U (λhc4=>?_) λhc4=>?_)))))))
  ·refine Rg (Ru 1 U (a_ (Sr (Ru 1 U (ah (RunV.addS U U z3_) U ?_)))));refine Ru 1 U (Nk [2] U ?_)
   first|(exfalso;omega)|(rw [if_pos (show n=256 by omega)];exact bj (ay rfl rfl) rfl)|(rw [if_neg (show ¬ n=256 by omega),if_pos (show n=384 by omega)];exact bj (ay rfl rfl) rfl)|(rw [if_neg (show ¬ n=256 by omega),if_neg (show ¬ n=384 by omega),if_pos (show n=512 by omega)];exact bj (ay rfl rfl) rfl)
  refine aA (Sr (Ru 1 U (ah (RunV.addS U U z3_) U ?_)));refine Ru 1 U (Nk [2] U ?_)
  first|(exfalso;omega)|(rw [if_pos (show n=256 by omega)];exact bj (ay rfl rfl) rfl)|(rw [if_neg (show ¬ n=256 by omega),if_pos (show n=384 by omega)];exact bj (ay rfl rfl) rfl)|(rw [if_neg (show ¬ n=256 by omega),if_neg (show ¬ n=384 by omega),if_pos (show n=512 by omega)];exact bj (ay rfl rfl) rfl)
 refine aA (az (Sr (Ru 2 U (a_ (Cs U (λhc5=>?_) λhc5=>?_)))))
 ·refine Rg (Ru 1 U (Nk [3,2] U (Sr (Ru 1 U (ah (RunV.addS U U z3_) U ?_)))));refine Ru 1 U (a_ ?_)
  first|(exfalso;omega)|(rw [if_pos (show n=256 by omega)];exact bj (ay rfl rfl) rfl)|(rw [if_neg (show ¬ n=256 by omega),if_pos (show n=384 by omega)];exact bj (ay rfl rfl) rfl)|(rw [if_neg (show ¬ n=256 by omega),if_neg (show ¬ n=384 by omega),if_pos (show n=512 by omega)];exact bj (ay rfl rfl) rfl)
 refine aA (Kp [3,2] U (Sr (Ru 1 U (ah (RunV.addS U U z3_) U ?_))));refine Ru 1 U (a_ ?_)
 first|(exfalso;omega)|(rw [if_pos (show n=256 by omega)];exact bj (ay rfl rfl) rfl)|(rw [if_neg (show ¬ n=256 by omega),if_pos (show n=384 by omega)];exact bj (ay rfl rfl) rfl)|(rw [if_neg (show ¬ n=256 by omega),if_neg (show ¬ n=384 by omega),if_pos (show n=512 by omega)];exact bj (ay rfl rfl) rfl)
theorem rseq_fn {b:OA}{cb m:Nat}{h:Part}:FnR prog 37 [.slice b m cb] h (λv _=>v=.agg #[.int .i64 0,.int .i64 16,.bool true,.slice none 0 0,.slice b m cb]):=by
 refine aM func37 U ntmps37 U (λe he=>?_);refine bg [(0,_)] ⟨U,trivial⟩ ?_;have hh0:=aT h;refine Sr (bI eF U (λb1=>?_));refine a_ (Sr (Ru 1 U (ah (bn (cs:=[.int .i64 0,_,_,.slice none 0 0,_]) eR U U) U ?_)));refine aV bP U U dl_ f8 f9 z4_ ?_;exact a_ (bj (cr U U bP mm_ z4_) U)
theorem roid_fn {s:LB}{h:Part}(hs:s.length<=1000000):FnR prog 33 [.string ⟨s.toArray⟩] h (λv h'=>∃ a c,v=.agg #[.int .i64 0,.int .i64 6,.bool false,.slice a ((oidB s).getD []).length c,.slice none 0 0]/\SlR u8R 1 h' a c ((oidB s).getD [])):=by
 refine aM func33 U ntmps33 U (λe he=>?_);refine bg [(0,_)] ⟨U,trivial⟩ ?_;have hh0:=aT h;refine Sr (bI eF U (λb1=>?_));refine a_ (Sr (Ru 1 U (bL ca_77 U (gM s _ z2_) U ?_)));rintro _ h2 hle2 ⟨oa,oc,rfl,hO⟩
 replace hh0:=hh0.mono hle2
 refine Ru 5 U (Nk [3,2] U (Sr (Ru 1 U (ah (bn (cs:=[.int .i64 0,_,.bool false,_,.slice none 0 0]) eR U U) U ?_))));refine aV bP U U dl_ f8 f9 z4_ ?_;exact a_ (bj (cr U U bP mm_ z4_) ⟨_,_,U,hO⟩)
def oidN (n:Int):Nd:=.mk 0 6 false ((oidB (oidH n)).getD []) []
def infoN (n:Int) (d:LB):Nd:=.mk 0 16 true [] [.mk 0 16 true [] [oidN n,.mk 0 5 false [] []],.mk 0 4 false d []]
theorem oi (n:Int):(oidH n).length<=30:=by
 unfold oidH;split
 ·decide
 ·split
  ·decide
  ·split<;>decide
def infoL (n:Int) (d:LB):LB:=(infoN n d).put.getD []
def formE (n:Int) (d:LB) (k:Int):Int:=if shaSize n=0\/(d.length:Int)≠shaSize n then 40 else if k<(infoL n d).length+11\/512<k then 50 else 0
def formL (n:Int) (d:LB) (k:Int):LB:=if formE n d k=0 then [0,1]++List.replicate (k.toNat-(infoL n d).length-3) 255++[0]++infoL n d else []
def mp:Nat->Nat->Nat->Nat->Nat
 |0,_,_,N=>1 % N
 |f+1,X,E,N=>if E % 2=1 then X*mp f (X*X % N) (E / 2) N % N else mp f (X*X % N) (E / 2) N
def d0:LB:=List.replicate 32 1
def n0:Nat:=keyN 0
def x0:Nat:=keyE 0
def p0:Nat:=vL (expL 0)
def m0:Nat:=beV (formL 256 d0 64)
def s0:Nat:=mp 512 m0 p0 n0
theorem po {n:Int}(h:shaSize n≠0):someH n:=by
 unfold shaSize at h;by_cases hn:someH n
 ·exact hn
 ·rw [if_neg hn] at h;exact absurd U h
theorem cons_fn' {cl t:Int}{ks:LN}{a:OA}{c c' m:Nat}{h:Part}(hk:SlR NdR 5 h a c' ks) (hm:m=ks.length) (hc:c=c') (hz:Nd.szL ks<=1099511627776) :
 FnR prog 23 [.int .i64 cl,.int .i64 t,.slice a m c] h (λv h'=>∃ cs,v=.agg (List.toArray cs)/\NdR h' cs (.mk cl t true [] ks)):=by
 subst hm hc;exact cons_fn hk hz
theorem qo (n:Int):∀ k,fitI n (k+1)->∃ j,j<=k/\fitI n (j+1)/\(j=0\/¬ fitI n j)
 |0,h=>⟨0,aL _,h,.inl U⟩
 |k+1,h=>by
  by_cases hk:fitI n (k+1)
  ·obtain⟨j,h1,h2⟩:=qo n k hk;exact⟨j,by omega,h2⟩
  ·exact⟨k+1,aL _,h,.inr hk⟩
theorem beV_ib (n:Int):∀ k,(beV (ibytes n k):Int)=n % 256 ^ k
 |0=>by simp [ibytes,beV,Int.emod_one]
 |k+1=>by
  have h1:0<=n / 256 ^ k % 256:=Int.emod_nonneg _ bT;have h2:n / 256 ^ k % 256<256:=Int.emod_lt_of_pos _ bT;have e:((UInt8.ofNat (n / 256 ^ k % 256).toNat).toNat:Int)=n / 256 ^ k % 256:=by rw [UInt8.toNat_ofNat'];omega
  rw [ibytes,jL,dL,dT,Int.natCast_mul,e,beV_ib n k,Int.pow_succ,Int.natCast_pow];have:=Int.emod_add_mul_ediv n (256 ^ k);have h3:=Int.emod_add_mul_ediv (n / 256 ^ k) 256;have hd:n / (256 ^ k*256)=n / 256 ^ k / 256:=by rw [Int.ediv_ediv_of_nonneg (Int.le_of_lt (Int.pow_pos bT))]
  have h4:=Int.emod_add_mul_ediv n (256 ^ k*256);rw [hd] at h4;show _*(256:Int) ^ k+_=_;have h5:(n / 256 ^ k % 256+256*(n / 256 ^ k / 256))*256 ^ k=n / 256 ^ k*256 ^ k:=by rw [h3]
  grind
theorem sV_ib (n:Int) (j:Nat) (h:fitI n (j+1)):sV (ibytes n (j+1))=n:=by
 have h0:=ib_top n j;unfold sV;rw [h0,dL,show(ibytes n (j+1)).drop 1=ibytes n j from rfl,beV_ib,Nat.add_sub_cancel];unfold fitI at h;rw [show j+1-1=j from rfl] at h;have e:s8 (n / 256 ^ j % 256).toNat=n / 256 ^ j:=by
  generalize n / 256 ^ j=q at *;unfold s8;split<;>omega
 rw [e];have:=Int.emod_add_mul_ediv n (256 ^ j);rw [Int.mul_comm];omega
theorem least_int (n:Int) (j:Nat) (h:fitI n (j+1)) (hj:j=0\/¬ fitI n j):leastB (ibytes n (j+1))=true:=by
 cases j with
 |zero=>unfold leastB;rw [if_neg (by rw [dL];decide),if_pos (dL n 1)]
 |succ i=>rw [oC n i h];exact aj (hj.resolve_left z2_)
theorem eO (n:Int) (h0:-9223372036854775808<=n) (h1:n<=9223372036854775807) :
 (Nd.mk 0 2 false (intB n) []).intOk=true/\(Nd.mk 0 2 false (intB n) []).intV=n/\(intB n).length<=8/\1<=(intB n).length/\∃ b,(Nd.mk 0 2 false (intB n) []).wr=(b,0)/\b.length<=10:=by
 obtain⟨j,hj7,hf,hj⟩:=qo n 7 (fit8 n h0 h1);rw [js n j hj7 hj hf];have hl:=dL n (j+1);have hlb:=least_int n j hf hj;have hw:(Nd.mk 0 2 false (ibytes n (j+1)) []).whole=true:=gG.2 ⟨U,.inl U,U,U,hlb⟩;have hok:(Nd.mk 0 2 false (ibytes n (j+1)) []).intOk=true:=by rw [gq,hw,aj z2_];rfl
 refine⟨hok,by rw [ue hok,sV_ib n j hf],by omega,by omega,headB 0 2 false (j+1)++ibytes n (j+1),?_,?_⟩
 ·have hp:(Nd.mk 0 2 false (ibytes n (j+1)) []).put=some (headB 0 2 false (j+1)++ibytes n (j+1)):=by
   have hokN:okN 0 2 false (ibytes n (j+1)) []=true:=by
    unfold okN mayB;rw [pi (.inl U),hlb];rfl
   simp only [Nd.put];rw [hokN,if_pos U,Nd.putL,Option.map_some,hl]
  have hh:=iQ (c:=0) (t:=2) (k:=false) (n:=j+1) z2_;unfold Nd.wr;rw [hp];simp only;rw [if_neg (by simp [Nd.rk,Nd.rkL]),if_neg (by rw [hh];simp [hl];omega)]
 ·have hh:=iQ (c:=0) (t:=2) (k:=false) (n:=j+1) z2_;rw [hh];simp [hl];omega
theorem fp (l:List UInt32):(natN l).natOk=true/\(natN l).natL=trimL l/\(natN l).sz=1+(bl (vL l) / 8+1):=by
 have hn:natN l=.mk 0 2 false (be (bl (vL l) / 8+1) (vL l)) []:=by unfold natN;rw [natW_be,ik]
 have hlen:=jJ (bl (vL l) / 8+1) (vL l);have htop:=t6 (vL l);have hb0:byteAt (be (bl (vL l) / 8+1) (vL l)) 0=vL l / 256 ^ (bl (vL l) / 8):=by
  show(UInt8.ofNat _).toNat=_;rw [UInt8.toNat_ofNat'];exact Nat.mod_eq_of_lt (Nat.lt_trans htop bT)
 have hlb:leastB (be (bl (vL l) / 8+1) (vL l))=true:=by
  unfold leastB;rw [if_neg z2_];split
  ·rfl
  ·rename_i h1;obtain⟨k,hk⟩:∃ k,bl (vL l) / 8=k+1:=⟨bl (vL l) / 8-1,by omega⟩;refine aj ?_;rw [hb0];rw [hk] at htop |-
   have hb1:byteAt (be (k+1+1) (vL l)) 1=vL l / 256 ^ k % 256:=by
    show(UInt8.ofNat _).toNat=_;rw [UInt8.toNat_ofNat']
   have h2:=rt (vL l) k hk;rw [hb1];rintro(⟨e1,e2⟩|⟨e1,e2⟩)
   ·have:=h2 e1;rw [Nat.pow_succ,<- Nat.div_div_eq_div_mul] at e1;omega
   ·omega
 have hw:(Nd.mk 0 2 false (be (bl (vL l) / 8+1) (vL l)) []).whole=true:=gG.2 ⟨U,.inl U,U,U,hlb⟩;have hok:=natOk_t hw (by rw [hb0];exact htop);rw [hn];refine⟨hok,?_,by simp [Nd.sz,Nd.szL,hlen]⟩;have:(Nd.mk 0 2 false (be (bl (vL l) / 8+1) (vL l)) []).natL=toL (beV (be (bl (vL l) / 8+1) (vL l))):=if_pos hok;rw [this,be_full,nD]
theorem bl_len (l:List UInt32):bl (vL l)<=32*l.length:=by
 have:=vL_lt l;rw [pU] at this;exact sL _ _ this
theorem ag_65:aggT prog 65=some (some 3):=by kernel_rfl
theorem ca_181:callT prog 181=true:=by kernel_rfl
theorem ca_257:callT prog 257=true:=by kernel_rfl
theorem ca_37:callT prog 37=true:=by kernel_rfl
def keyNd (n x:List UInt32):Nd:=.mk 0 16 true [] [natN n,natN x]
theorem lr (n x:List UInt32) (h1:n.length<=4096) (h2:x.length<=4096):(keyNd n x).sz<=10000000:=by
 have e1:=(fp n).2.2;have e2:=(fp x).2.2;have b1:=gW n;have b2:=gW x;simp only [keyNd,Nd.sz,Nd.szL,aG];omega
def keyBE (n x d:List UInt32):Int:=if rightB (vL n) (vL x) (vL d)=true then 0 else 50
def keyBL (n x d:List UInt32):LB:=if rightB (vL n) (vL x) (vL d)=true then(keyNd n x).put.getD [] else []
theorem vp {an ae ad:OA}{cn ce cd:Nat}{n x dd:List UInt32}{h:Part}(hn:SlR u32R 1 h an cn n) (hx:SlR u32R 1 h ae ce x) (hdd:SlR u32R 1 h ad cd dd) (hln:n.length<=4096) (hlx:x.length<=4096) (hld:dd.length<=4096) :
 FnR prog 229 [.agg #[.slice an n.length cn,.slice ae x.length ce,.slice ad dd.length cd]] h (λv h'=>∃ a c,v=.tuple #[.slice a (keyBL n x dd).length c,.int .i64 (keyBE n x dd)]/\SlR u8R 1 h' a c (keyBL n x dd)):=by
 have hsz:=lr n x hln hlx;refine aM func229 U ntmps229 U (λe he=>?_);refine bg [(0,_)] ⟨U,trivial⟩ ?_;have hh0:=aT h;refine Sr (dh U U U (λb1=>?_));refine Ru 2 U (a_ (az (Sr (ah (bJ ag_65 U mm_ dn) U ?_))));refine bL ca_257 U (kM hn hx hdd z2_ z2_ z2_) U ?_;rintro _ h2 hle2 rfl
 replace hn:=hn.mono hle2
 replace hx:=hx.mono hle2
 replace hdd:=hdd.mono hle2
 replace hh0:=hh0.mono hle2
 refine Ru 1 U (a_ (Cs U (λhc3=>?_) λhc3=>?_))
 ·have hrt:¬ rightB (vL n) (vL x) (vL dd)=true:=(by simpa using hc3);have e1:keyBE n x dd=50:=if_neg hrt;have e2:keyBL n x dd=[]:=if_neg hrt;refine Sr (Ru 2 U (Nk [3,2,1] U ?_));rw [e1,e2];exact bj (b_ U U U) ⟨_,_,U,bu⟩
 have hrt:rightB (vL n) (vL x) (vL dd)=true:=(by simpa using hc3);have e1:keyBE n x dd=0:=if_pos hrt;have e2:keyBL n x dd=(keyNd n x).put.getD []:=if_pos hrt;refine aA (Kp [3,2,1] U (az (J.held ([.blk b1 65 [.slice an n.length cn,.slice ae x.length ce,.slice ad dd.length cd]]) 14 cM U (λh00=>?_))));refine Tk 0 U (by first|exact bR fh rfl|exact bO fh rfl) ?_;refine Tk 1 U (aw gD U mm_ U) ?_;refine Tk 3 U z44_ ?_;refine Tk 4 U (aw gD U mm_ U) ?_;refine Ta 2 U ?_;unfold One;refine bL ca_181 U (rz hn z2_) U ?_;rintro _ h4 hle4 ⟨w1,rfl,hA⟩
 replace hn:=hn.mono hle4
 replace hx:=hx.mono hle4
 replace hdd:=hdd.mono hle4
 replace hh0:=hh0.mono hle4
 refine a_ ⟨(br_ h00),?_⟩;refine Ta 5 U ?_;unfold One;refine bL ca_181 U (rz hx z2_) U ?_;rintro _ h5 hle5 ⟨w2,rfl,hB⟩
 replace hn:=hn.mono hle5
 replace hx:=hx.mono hle5
 replace hdd:=hdd.mono hle5
 replace hh0:=hh0.mono hle5
 replace hA:=hA.mono hle5
 refine a_ ⟨(br_ h00),?_⟩;refine Ta 6 U ?_;unfold One;refine JL.litAll [_,_] dU U U (List.forall_mem_cons.2 ⟨z4_,List.forall_mem_cons.2 ⟨z4_,List.forall_mem_nil _⟩⟩) U cP cP U (λb6=>?_);refine JL.pubB (R:=NdR) (sz:=5) (l:=[natN n,natN x]) dl_ ((by have:=(CellsR.one hA hA.len5).append (CellsR.one hB hB.len5);simpa using this)) (by first|decide|omega|(rw [dO];decide)|(simp;done)|(simp [dO];done)) (λh7 hle7 hK=>?_)
 replace hn:=hn.mono hle7
 replace hx:=hx.mono hle7
 replace hdd:=hdd.mono hle7
 replace hh0:=hh0.mono hle7
 replace hA:=hA.mono hle7
 replace hB:=hB.mono hle7
 refine a_ ⟨(br_ h00),?_⟩;refine Ta 7 U ?_;unfold One;refine bL ca_37 U (rseq_fn) U ?_;rintro _ h8 hle8 rfl
 replace hn:=hn.mono hle8
 replace hx:=hx.mono hle8
 replace hdd:=hdd.mono hle8
 replace hh0:=hh0.mono hle8
 replace hA:=hA.mono hle8
 replace hB:=hB.mono hle8
 replace hK:=hK.mono hle8
 refine a_ ⟨(br_ h00),?_⟩;refine Ta 8 U ?_;unfold One;refine bL ca_60 U (ib (x:=keyNd n x) (d_ bu hK) z2_) U ?_;rintro _ h9 hle9 ⟨ia,ic,rfl,hI⟩
 replace hn:=hn.mono hle9
 replace hx:=hx.mono hle9
 replace hdd:=hdd.mono hle9
 replace hh0:=hh0.mono hle9
 replace hA:=hA.mono hle9
 replace hB:=hB.mono hle9
 replace hK:=hK.mono hle9
 refine a_ ⟨(br_ h00),?_⟩;refine Tk 9 U (aO U) ?_;refine Tk 10 U (RunV.extract U U) ?_;refine Tk 11 U (RunV.extract U U) ?_;refine Tk 12 U (bS U) ?_;refine Tk 13 U (bS U) ?_;refine cy cP ?_;refine Kp [4,3,2] U (Sr (Ru 3 U (a_ ?_)));rw [e1,e2];exact bj (b_ U U U) ⟨_,_,U,hI⟩
theorem ca_136:callT prog 136=true:=by kernel_rfl
theorem ca_19:callT prog 19=true:=by kernel_rfl
theorem ca_73:callT prog 73=true:=by kernel_rfl
theorem oq (n:List UInt32):∃ t,(natN n).put=some t:=by
 have h:=(fp n).1;unfold Nd.natOk Nd.whole at h;simp only [Bool.and_eq_true] at h;exact Option.isSome_iff_exists.1 h.1.2
theorem ub {n x:List UInt32}(h1:n.length<=4096) (h2:x.length<=4096):(keyNd n x).wr=((keyNd n x).put.getD [],0):=by
 have e1:=fp n;have e2:=fp x;have b1:=gW n;have b2:=gW x;have k4:∀ ks,okN 0 16 true [] ks=true:=λks=>by
  unfold okN;rw [show mayB 0 16 true=true from by decide];simp
 obtain⟨t1,ht1⟩:=oq n;obtain⟨t2,ht2⟩:=oq x;have l1:=(dF _ _ _ (aL _) ht1).2;have l2:=(dF _ _ _ (aL _) ht2).2;obtain⟨t,ht⟩:∃ t,(keyNd n x).put=some t:=by
  simp [keyNd,Nd.put,Nd.putL,k4,ht1,ht2]
 have l3:=(dF _ _ _ (aL _) ht).2;have hsz:=lr n x h1 h2;have hk:(keyNd n x).sz<=100000:=by
  simp only [keyNd,Nd.sz,Nd.szL,aG];omega
 unfold Nd.wr;rw [ht];simp only [Option.getD_some];rw [if_neg (by simp [keyNd,natN,Nd.rk,Nd.rkL]),if_neg z2_]
theorem vx {an ae ad:OA}{cn ce cd:Nat}{n x dd:List UInt32}{h:Part}(hn:SlR u32R 1 h an cn n) (hx:SlR u32R 1 h ae ce x) (hdd:SlR u32R 1 h ad cd dd) (hT:Tabs h) (hln:n.length<=4096) (hlx:x.length<=4096) :
 FnR prog 122 [.agg #[.slice an n.length cn,.slice ae x.length ce,.slice ad dd.length cd]] h (λv h'=>∃ a c,v=.tuple #[.slice a (keyBL n x dd).length c,.int .i64 (keyBE n x dd)]/\SlR u8R 1 h' a c (keyBL n x dd)):=by
 have hsz:=lr n x hln hlx;have hwr:=ub hln hlx;have hs1:Nd.szL [natN n,natN x]<=1099511627776:=by simp only [keyNd,Nd.sz,Nd.szL,aG] at hsz |-;omega
 refine aM func122 U ntmps122 U (λe he=>?_);refine bg [(0,_)] ⟨U,trivial⟩ ?_;have hh0:=aT h;refine Sr (dh U U U (λb1=>?_));refine Ru 2 U (a_ (az (Sr (ah (bJ ag_65 U mm_ dn) U ?_))));refine bL ca_136 U (mo hn hx hdd) U ?_;rintro _ h2 hle2 rfl
 replace hn:=hn.mono hle2
 replace hx:=hx.mono hle2
 replace hdd:=hdd.mono hle2
 replace hT:=hT.mono hle2
 replace hh0:=hh0.mono hle2
 refine Ru 1 U (a_ (Cs U (λhc3=>?_) λhc3=>?_))
 ·have hrt:¬ rightB (vL n) (vL x) (vL dd)=true:=(by simpa using hc3);have e1:keyBE n x dd=50:=if_neg hrt;have e2:keyBL n x dd=[]:=if_neg hrt;refine Sr (Ru 2 U (Nk [3,2,1] U ?_));rw [e1,e2];exact bj (b_ U U U) ⟨_,_,U,bu⟩
 have hrt:rightB (vL n) (vL x) (vL dd)=true:=(by simpa using hc3);have e1:keyBE n x dd=0:=if_pos hrt;have e2:keyBL n x dd=(keyNd n x).put.getD []:=if_pos hrt;refine aA (Kp [3,2,1] U (az (J.held ([.blk b1 65 [.slice an n.length cn,.slice ae x.length ce,.slice ad dd.length cd]]) 13 cM U (λh00=>?_))));refine Tk 0 U (by first|exact bR fh rfl|exact bO fh rfl) ?_;refine Tk 1 U (aw gD U mm_ U) ?_;refine Tk 3 U z44_ ?_;refine Tk 4 U (aw gD U mm_ U) ?_;refine Ta 2 U ?_;unfold One;refine bL ca_73 U (mv hn z2_) U ?_;rintro _ h4 hle4 ⟨w1,rfl,hA⟩
 replace hn:=hn.mono hle4
 replace hx:=hx.mono hle4
 replace hdd:=hdd.mono hle4
 replace hT:=hT.mono hle4
 replace hh0:=hh0.mono hle4
 refine a_ ⟨(br_ h00),?_⟩;refine Ta 5 U ?_;unfold One;refine bL ca_73 U (mv hx z2_) U ?_;rintro _ h5 hle5 ⟨w2,rfl,hB⟩
 replace hn:=hn.mono hle5
 replace hx:=hx.mono hle5
 replace hdd:=hdd.mono hle5
 replace hT:=hT.mono hle5
 replace hh0:=hh0.mono hle5
 replace hA:=hA.mono hle5
 refine a_ ⟨(br_ h00),?_⟩;refine Ta 6 U ?_;unfold One;refine JL.litAll [_,_] dU U U (List.forall_mem_cons.2 ⟨z4_,List.forall_mem_cons.2 ⟨z4_,List.forall_mem_nil _⟩⟩) U cP cP U (λb6=>?_);refine JL.pubB (R:=NdR) (sz:=5) (l:=[natN n,natN x]) dl_ ((by have:=(CellsR.one hA hA.len5).append (CellsR.one hB hB.len5);simpa using this)) (by first|decide|omega|(rw [dO];decide)|(simp;done)|(simp [dO];done)) (λh7 hle7 hK=>?_)
 replace hn:=hn.mono hle7
 replace hx:=hx.mono hle7
 replace hdd:=hdd.mono hle7
 replace hT:=hT.mono hle7
 replace hh0:=hh0.mono hle7
 replace hA:=hA.mono hle7
 replace hB:=hB.mono hle7
 refine a_ ⟨(br_ h00),?_⟩;refine Ta 7 U ?_;unfold One;refine bL ca_23 U (cons_fn' (cl:=0) (t:=16) hK (by simp) (by simp) hs1) U ?_;rintro _ h8 hle8 ⟨w3,rfl,hC⟩
 replace hn:=hn.mono hle8
 replace hx:=hx.mono hle8
 replace hdd:=hdd.mono hle8
 replace hT:=hT.mono hle8
 replace hh0:=hh0.mono hle8
 replace hA:=hA.mono hle8
 replace hB:=hB.mono hle8
 replace hK:=hK.mono hle8
 refine a_ ⟨(br_ h00),?_⟩;refine Ta 8 U ?_;unfold One;refine bL ca_19 U (sR (x:=keyNd n x) hC hT z2_) U ?_;rintro _ h9 hle9 ⟨ia,ic,rfl,hI⟩
 replace hn:=hn.mono hle9
 replace hx:=hx.mono hle9
 replace hdd:=hdd.mono hle9
 replace hT:=hT.mono hle9
 replace hh0:=hh0.mono hle9
 replace hA:=hA.mono hle9
 replace hB:=hB.mono hle9
 replace hK:=hK.mono hle9
 replace hC:=hC.mono hle9
 rw [hwr] at hI |-
 refine a_ ⟨(br_ h00),?_⟩;refine Tk 9 U (RunV.extract U U) ?_;refine Tk 10 U (RunV.extract U U) ?_;refine Tk 11 U (bS U) ?_;refine Tk 12 U (bS U) ?_;refine cy cP ?_;refine Kp [3,2] U ?_;rw [e1,e2];exact bj (b_ U U U) ⟨_,_,U,hI⟩
end Go.Proofs.YtojokloclmcloaaGreatDoor
