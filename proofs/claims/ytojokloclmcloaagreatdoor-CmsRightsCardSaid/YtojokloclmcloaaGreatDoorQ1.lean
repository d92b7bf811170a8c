/- Parts. -/
import Derived.Lib.LaidU8
import Derived.Laws.MakeOwn
import Derived.Laws.CopyRow
import Derived.Lib.MakeNoZero
import Derived.OrdersHeld
import Derived.RangeFuncRecord
import Derived.TacticsIn
import Derived.Recover
import Derived.Test.YtojokloclmcloaaGreatDoorQ0
set_option maxRecDepth 100000
set_option linter.unusedSimpArgs false
set_option linter.unusedVariables false
set_option linter.constructorNameAsVariable false
namespace Go.Proofs.YtojokloclmcloaaGreatDoor
open Go.Proofs.Tryz
open Go Go.RowKit
theorem z24_ {p:Prop}(u:p:=by repeat (first|exact trivial|refine⟨rfl,?_⟩|refine⟨(by exact cV (by first|exact decide_eq_decide.2 z2_|exact(au z2_).symm|exact(aj z2_).symm|simp_all)),?_⟩)):p:=u
theorem ca_214:callT prog 214=true:=by kernel_rfl
def Tabs (h:Part):Prop:=∃ C1 C2,h 1=some C1/\h 2=some C2/\(∀ c,c<256->C1[c]?=some (.int .u8 (Go.Lib.firstT c))) /\
 (∀ i,i<16->C2[2*i]?=some (.int .u8 (Go.Lib.accLo i))/\C2[2*i+1]?=some (.int .u8 (Go.Lib.accHi i)))
theorem Tabs.mono {h h':Part}(k:Tabs h) (hle:h.le h'):Tabs h':=by
 obtain⟨C1,C2,h1,h2,h3⟩:=k;exact⟨C1,C2,hle _ _ h1,hle _ _ h2,h3⟩
theorem Tabs.tabs {h:Part}(k:Tabs h) {w:World}(s:Sub h w):Go.Lib.Utf8Tabs 1 2 w:=by
 obtain⟨C1,C2,h1,h2,h3,h4⟩:=k;exact⟨λc hc=>s.cell h1 (h3 c hc),λi hi=>⟨s.cell h2 (h4 i hi).1,s.cell h2 (h4 i hi).2⟩⟩
theorem oT (s:LB) (hs:s≠[]):Go.Lib.decodeGo ⟨s.toArray⟩=(chr s,wid s):=by
 unfold Go.Lib.decodeGo;rw [l9,if_neg (λh=>hs (List.length_eq_zero_iff.1 h))];rfl
theorem decode_fn (s:LB) (h:Part) (hT:Tabs h) (hs:s≠[]):Pure prog 214 [.string ⟨s.toArray⟩] h (.tuple #[.int .i32 (chr s),.int .i64 (wid s)]) :=
 Pure.lib λw hw=>(Tryz.utf8_DecodeRuneInString ⟨s.toArray⟩ w (hT.tabs hw)).mono λe w' ⟨he,hb⟩=>by
  rw [oT s hs] at he;exact⟨he,hb⟩
def runes (ok:Nat->Nat->Bool):LB->Nat->Bool
 |[],_=>true
 |_::r,k+1=>runes ok r k
 |b::r,0=>ok (chr (b::r)) (wid (b::r))&&runes ok r (wid (b::r)-1)
theorem mO (ok:Nat->Nat->Bool):∀ (l:LB) (k:Nat),runes ok l k=runes ok (l.drop k) 0
 |[],k=>by cases k<;>simp [runes]
 |b::r,0=>rfl
 |b::r,k+1=>by simp only [runes,List.drop_succ_cons];exact mO ok r k
theorem fD (ok:Nat->Nat->Bool) (s:LB) (p:Nat) (h:s.length<=p):runes ok (s.drop p) 0=true:=by
 rw [List.drop_of_length_le h];rfl
theorem cB (ok:Nat->Nat->Bool) (s:LB) (p:Nat) (h:p<s.length):runes ok (s.drop p) 0=(ok (chr (s.drop p)) (wid (s.drop p))&&runes ok (s.drop (p+wid (s.drop p))) 0):=by
 have e:s.drop p=s[p]::s.drop (p+1):=aX h;have hw:=jN (s.drop p);rw [<- List.drop_drop];generalize s.drop p=q at *;subst e;simp only [runes];rw [mO];congr 2;cases hk:wid (s[p]::s.drop (p+1)) with
 |zero=>omega
 |succ k=>simp only [Nat.add_sub_cancel,List.drop_succ_cons]
theorem ia5_fn (s:LB) (h:Part) (h2:s.length<=140737488355328):Pure prog 158 [.string ⟨s.toArray⟩] h (.bool (runes (λc _=>decide (c<=127)) s 0)):=by
 refine aM func158 U ntmps158 U (λe he=>?_);refine bg [(0,_)] ⟨U,trivial⟩ ?_;refine Sr (Ru 1 U (a_ (az (Sr (Ru 1 U (JL.range dC U U (λb1=>?_)))))));refine a_ (aJ (bM (λt_ S_ h_ L_=>∃ (p:Nat),t_=s.length-p/\S_=[(6,.pointer (some ⟨b1,0,none⟩))]/\h=h_/\L_=[.it b1 s p]/\(runes (λc _=>decide (c<=127)) s 0=runes (λc _=>decide (c<=127)) (s.drop p) 0)) ⟨_,_,?_,⟨0,U,U,U,U,U⟩⟩ ?_))
 ·exact z6_
 rintro _ _ _ _ ⟨p,rfl,rfl,rfl,rfl,he⟩;have hw:=jN (s.drop p);refine Sr (JL.next U dl_ U (λhx2=>?_) (λhx2=>?_))
 ·refine Ru 1 U (a_ (az (aY U ?_)));refine aA (aJ (Sr (Ru 2 U (a_ (Sr (Ru 2 U (a_ (Cs U (λhc3=>?_) λhc3=>?_))))))))
  ·exact Sr (Ru 1 U (a_ (aH (ay U U) (by first|(exfalso;omega)|(rw [he,fD _ _ _ z2_])|(rw [he,cB _ s p z2_,au z2_];rfl)) U)))
  refine aA (⟨_,?_,_,?_,⟨p+wid (s.drop p),U,U,U,U,by rw [he,cB _ s p z2_,aj z2_];rfl⟩⟩)
  ·omega
  exact z6_
 refine Ru 1 U (a_ (az (dA U ?_)));exact bA (Sr (Ru 1 U (a_ (aH (ay U U) (by first|(exfalso;omega)|(rw [he,fD _ _ _ z2_])|(rw [he,cB _ s p z2_,au z2_];rfl)) U))))
def prC (c:Nat):Bool:=decide (65<=c/\c<=90\/97<=c/\c<=122\/48<=c/\c<=57\/c=32\/c=39\/c=40\/c=41\/c=43\/c=44\/c=45\/c=46\/c=47\/c=58\/c=61\/c=63)
theorem kU (s:LB) (h:Part) (h2:s.length<=140737488355328):Pure prog 157 [.string ⟨s.toArray⟩] h (.bool (runes (λc _=>prC c) s 0)):=by
 refine aM func157 U ntmps157 U (λe he=>?_);refine bg [(0,_)] ⟨U,trivial⟩ ?_;refine Sr (Ru 1 U (a_ (az (Sr (Ru 1 U (JL.range dC U U (λb1=>?_)))))));refine a_ (aJ (bM (λt_ S_ h_ L_=>∃ (p:Nat),t_=s.length-p/\S_=[(6,.pointer (some ⟨b1,0,none⟩))]/\h=h_/\L_=[.it b1 s p]/\(runes (λc _=>prC c) s 0=runes (λc _=>prC c) (s.drop p) 0)) ⟨_,_,?_,⟨0,U,U,U,U,U⟩⟩ ?_))
 ·exact z6_
 rintro _ _ _ _ ⟨p,rfl,rfl,rfl,rfl,he⟩;have hw:=jN (s.drop p);refine Sr (JL.next U dl_ U (λhx2=>?_) (λhx2=>?_))
 ·refine Ru 1 U (a_ (az (aY U ?_)));refine aA (aJ (Sr (Ru 2 U (a_ (aJ (az (az (cJ [(10,.bool (decide (65<=chr (s.drop p)/\chr (s.drop p)<=90)))] [(4,_),(9,_),(8,_),(7,_),(6,_)] ⟨U,U,U,U,U,trivial⟩ ?_ ?_))))))))
  ·refine Rg (Ru 3 U (Bs 13 U (λhc3=>?_) λhc3=>?_))
   ·refine Ru 4 U (a_ (⟨U,U,?_⟩));exact z24_
   refine Ru 4 U (a_ (⟨U,U,?_⟩));exact z24_
  refine Cs U (λhc4=>?_) λhc4=>?_
  ·refine aA (aY U (aA (⟨_,?_,_,?_,⟨p+wid (s.drop p),U,U,U,U,by rw [he,cB _ s p z2_,prC,aj z2_,Bool.true_and]⟩⟩)))
   ·omega
   exact z6_
  refine az (cJ [(10,.bool (decide (97<=chr (s.drop p)/\chr (s.drop p)<=122)))] [(4,_),(9,_),(8,_),(7,_),(6,_)] ⟨U,U,U,U,U,trivial⟩ ?_ ?_)
  ·refine Rg (Ru 3 U (Bs 19 U (λhc5=>?_) λhc5=>?_))
   ·refine Ru 4 U (a_ (⟨U,U,?_⟩));exact z24_
   refine Ru 4 U (a_ (⟨U,U,?_⟩));exact z24_
  refine Cs U (λhc6=>?_) λhc6=>?_
  ·refine aA (aY U (aA (⟨_,?_,_,?_,⟨p+wid (s.drop p),U,U,U,U,by rw [he,cB _ s p z2_,prC,aj z2_,Bool.true_and]⟩⟩)))
   ·omega
   exact z6_
  refine cJ [(10,.bool (decide (48<=chr (s.drop p)/\chr (s.drop p)<=57)))] [(4,_),(9,_),(8,_),(7,_),(6,_)] ⟨U,U,U,U,U,trivial⟩ ?_ ?_
  ·refine Rg (Ru 3 U (Bs 25 U (λhc7=>?_) λhc7=>?_))
   ·refine Ru 4 U (a_ (⟨U,U,?_⟩));exact z24_
   refine Ru 4 U (a_ (⟨U,U,?_⟩));exact z24_
  refine Cs U (λhc8=>?_) λhc8=>?_
  ·refine aA (⟨_,?_,_,?_,⟨p+wid (s.drop p),U,U,U,U,by rw [he,cB _ s p z2_,prC,aj z2_,Bool.true_and]⟩⟩)
   ·omega
   exact z6_
  refine az (Sr (Ru 3 U (a_ (Cs U (λhc9=>?_) λhc9=>?_))))
  ·refine aA (aY U (aA (⟨_,?_,_,?_,⟨p+wid (s.drop p),U,U,U,U,by rw [he,cB _ s p z2_,prC,aj z2_,Bool.true_and]⟩⟩)))
   ·omega
   exact z6_
  refine Sr (Ru 3 U (a_ (Cs U (λhc10=>?_) λhc10=>?_)))
  ·refine aA (aY U (aA (⟨_,?_,_,?_,⟨p+wid (s.drop p),U,U,U,U,by rw [he,cB _ s p z2_,prC,aj z2_,Bool.true_and]⟩⟩)))
   ·omega
   exact z6_
  refine Sr (Ru 3 U (Nk [29,35,34,33,32,31,30,10,4,9,8,7,6] U (Cs U (λhc11=>?_) λhc11=>?_)))
  ·refine aA (aY U (aA (⟨_,?_,_,?_,⟨p+wid (s.drop p),U,U,U,U,by rw [he,cB _ s p z2_,prC,aj z2_,Bool.true_and]⟩⟩)))
   ·omega
   exact z6_
  refine Sr (Ru 3 U (a_ (Cs U (λhc12=>?_) λhc12=>?_)))
  ·refine aA (aY U (aA (⟨_,?_,_,?_,⟨p+wid (s.drop p),U,U,U,U,by rw [he,cB _ s p z2_,prC,aj z2_,Bool.true_and]⟩⟩)))
   ·omega
   exact z6_
  refine Sr (Ru 3 U (a_ (Cs U (λhc13=>?_) λhc13=>?_)))
  ·refine aA (Kp [29,39,38,37,36,35,34,33,32,31,30,10,4,9,8,7,6] U (aY U (aA (⟨_,?_,_,?_,⟨p+wid (s.drop p),U,U,U,U,by rw [he,cB _ s p z2_,prC,aj z2_,Bool.true_and]⟩⟩))))
   ·omega
   exact z6_
  refine Sr (Ru 3 U (Nk [29,41,40,39,38,37,36,35,34,33,32,31,30,10,4,9,8,7,6] U (Cs U (λhc14=>?_) λhc14=>?_)))
  ·refine aA (aY U (aA (⟨_,?_,_,?_,⟨p+wid (s.drop p),U,U,U,U,by rw [he,cB _ s p z2_,prC,aj z2_,Bool.true_and]⟩⟩)))
   ·omega
   exact z6_
  refine Sr (Ru 3 U (a_ (Cs U (λhc15=>?_) λhc15=>?_)))
  ·refine aA (aY U (aA (⟨_,?_,_,?_,⟨p+wid (s.drop p),U,U,U,U,by rw [he,cB _ s p z2_,prC,aj z2_,Bool.true_and]⟩⟩)))
   ·omega
   exact z6_
  refine Sr (Ru 3 U (a_ (Cs U (λhc16=>?_) λhc16=>?_)))
  ·refine aA (Kp [29,45,44,43,42,41,40,39,38,37,36,35,34,33,32,31,30,10,4,9,8,7,6] U (aY U (aA (⟨_,?_,_,?_,⟨p+wid (s.drop p),U,U,U,U,by rw [he,cB _ s p z2_,prC,aj z2_,Bool.true_and]⟩⟩))))
   ·omega
   exact z6_
  refine Sr (Ru 3 U (Nk [29,47,46,45,44,43,42,41,40,39,38,37,36,35,34,33,32,31,30,10,4,9,8,7,6] U (Cs U (λhc17=>?_) λhc17=>?_)))
  ·refine aA (aY U (aA (⟨_,?_,_,?_,⟨p+wid (s.drop p),U,U,U,U,by rw [he,cB _ s p z2_,prC,aj z2_,Bool.true_and]⟩⟩)))
   ·omega
   exact z6_
  refine Sr (Ru 3 U (a_ (Cs U (λhc18=>?_) λhc18=>?_)))
  ·refine aA (aY U (aA (⟨_,?_,_,?_,⟨p+wid (s.drop p),U,U,U,U,by rw [he,cB _ s p z2_,prC,aj z2_,Bool.true_and]⟩⟩)))
   ·omega
   exact z6_
  refine Sr (Ru 3 U (a_ (Cs U (λhc19=>?_) λhc19=>?_)))
  ·refine aA (Kp [29,51,50,49,48,47,46,45,44,43,42,41,40,39,38,37,36,35,34,33,32,31,30,10,4,9,8,7,6] U (aY U (aA (⟨_,?_,_,?_,⟨p+wid (s.drop p),U,U,U,U,by rw [he,cB _ s p z2_,prC,aj z2_,Bool.true_and]⟩⟩))))
   ·omega
   exact z6_
  refine Rg (Ru 3 U (Nk [29,53,52,51,50,49,48,47,46,45,44,43,42,41,40,39,38,37,36,35,34,33,32,31,30,10,4,9,8,7,6] U (Cs U (λhc20=>?_) λhc20=>?_)))
  ·refine aA (⟨_,?_,_,?_,⟨p+wid (s.drop p),U,U,U,U,by rw [he,cB _ s p z2_,prC,aj z2_,Bool.true_and]⟩⟩)
   ·omega
   exact z6_
  exact Sr (Ru 1 U (a_ (aH (ay U U) (by first|(exfalso;omega)|(rw [he,fD _ _ _ z2_])|(rw [he,cB _ s p z2_,prC,au z2_];rfl)) U)))
 refine Ru 1 U (a_ (az (dA U ?_)));exact bA (Sr (Ru 1 U (a_ (aH (ay U U) (by first|(exfalso;omega)|(rw [he,fD _ _ _ z2_])|(rw [he,cB _ s p z2_,prC,au z2_];rfl)) U))))
theorem utf8_fn (s:LB) (h:Part) (hT:Tabs h) (h2:s.length<=140737488355328):Pure prog 156 [.string ⟨s.toArray⟩] h (.bool (runes (λc n=>!decide (c=65533/\n=1)) s 0)):=by
 refine aM func156 U ntmps156 U (λe he=>?_);refine bg [(0,_)] ⟨U,trivial⟩ ?_;refine Sr (Ru 1 U (a_ (az (Sr (Ru 1 U (JL.range dC U U (λb1=>?_)))))));refine a_ (aJ (bM (λt_ S_ h_ L_=>∃ (p:Nat),t_=s.length-p/\S_=[(0,.string ⟨s.toArray⟩),(8,.pointer (some ⟨b1,0,none⟩))]/\h=h_/\L_=[.it b1 s p]/\(runes (λc n=>!decide (c=65533/\n=1)) s 0=runes (λc n=>!decide (c=65533/\n=1)) (s.drop p) 0)) ⟨_,_,?_,⟨0,U,U,U,U,U⟩⟩ ?_))
 ·exact z6_
 rintro _ _ _ _ ⟨p,rfl,rfl,rfl,rfl,he⟩;have hw:=jN (s.drop p);refine Sr (JL.next U dl_ U (λhx2=>?_) (λhx2=>?_))
 ·refine Ru 1 U (a_ (az (aY U ?_)));refine aA (aJ (Sr (Ru 4 U (a_ (Sr (Ru 2 U (a_ (Cs U (λhc3=>?_) λhc3=>?_))))))))
  ·refine Sr (Ru 2 U (ah (RunV.strCut_l dC U U z9_ z2_) U ?_));refine bh ca_214 U (decode_fn (s.drop p) _ hT (by intro hh;have:=congrArg List.length hh;simp at this;omega)) U ?_;refine Ru 5 U (a_ (Sr (Ru 2 U (a_ (Cs U (λhc5=>?_) λhc5=>?_)))))
   ·exact Sr (Ru 1 U (a_ (aH (ay U U) (by first|(exfalso;omega)|(rw [he,fD _ _ _ z2_])|(rw [he,cB _ s p z2_,aj z2_];rfl)) U)))
   refine aA (⟨_,?_,_,?_,⟨p+wid (s.drop p),U,U,U,U,by rw [he,cB _ s p z2_,au z2_];rfl⟩⟩)
   ·omega
   exact z6_
  refine aA (⟨_,?_,_,?_,⟨p+wid (s.drop p),U,U,U,U,by rw [he,cB _ s p z2_,au z2_];rfl⟩⟩)
  ·omega
  exact z6_
 refine Ru 1 U (a_ (az (dA U ?_)));exact bA (Sr (Ru 1 U (a_ (aH (ay U U) (by first|(exfalso;omega)|(rw [he,fD _ _ _ z2_])|(rw [he,cB _ s p z2_,aj z2_];rfl)) U))))
abbrev aG:=@List.length_nil
theorem z3_ {p:Prop}(u:p:=by first|omega|(simp only [aU,aC,aG];omega)):p:=u
theorem fL {p:Prop}(u:p:=by first|rfl|(simp;omega)):p:=u
theorem z35_ {p:Prop}(u:p:=by first|exact RunV.quo_u64 rfl rfl z2_ z2_ z2_|exact RunV.quo rfl rfl z2_):p:=u
theorem z48_ {p:Prop}(u:p:=by first|(have hz:oidT l=none:=(by rw [he,List.drop_of_length_le z2_,oidGo];simp [*]);rw [hz];rfl)|(have hz:oidT l=some out:=(by rw [he,List.drop_of_length_le z2_,oidGo];simp [*]);rw [hz];rfl)):p:=u
theorem dq:apT prog 22=some (5,1,1):=by kernel_rfl
theorem ar_284:arT prog 284=some (20,1):=by kernel_rfl
theorem ca_190:callT prog 190=true:=by kernel_rfl
theorem fV:convI prog 161 5=some .u8:=by kernel_rfl
theorem fq:convI prog 5 161=some .u64:=by kernel_rfl
theorem zr_284:zeroT prog 284=some [.int .u8 0,.int .u8 0,.int .u8 0,.int .u8 0,.int .u8 0,.int .u8 0,.int .u8 0,.int .u8 0,.int .u8 0,.int .u8 0,.int .u8 0,.int .u8 0,.int .u8 0,.int .u8 0,.int .u8 0,.int .u8 0,.int .u8 0,.int .u8 0,.int .u8 0,.int .u8 0]:=by kernel_rfl
theorem pg:zeroT prog 5=some [.int .u8 0]:=by kernel_rfl
def dgo:Nat->Nat->Nat->Nat->LB
 |0,_,_,_=>[]
 |f+1,n,len,least=>if 0<n\/len<least then dgo f (n / 10) (len+1) least++[UInt8.ofNat (48+n % 10)] else []
def dgs (n least:Nat):LB:=dgo 20 n 0 least
theorem oP {f n len least:Nat}(h:¬ (0<n\/len<least)):dgo f n len least=[]:=by
 cases f with
 |zero=>rfl
 |succ f=>simp only [dgo];rw [if_neg h]
theorem dgo_len:∀ f n len least,(dgo f n len least).length<=f
 |0,_,_,_=>aL _
 |f+1,n,len,least=>by
  simp only [dgo];split
  ·have:=dgo_len f (n / 10) (len+1) least;simp;omega
  ·simp
theorem dp (n least:Nat):(dgs n least).length<=20:=dgo_len _ _ _ _
theorem fa {n:Nat}(h:n<256):((UInt8.ofNat n).toNat:Int)=n:=by simp;omega
theorem oL {α:Type}(l:List α) (j:Nat) (x:α) (h:j<l.length):(l.set j x).drop j=x::l.drop (j+1):=by
 rw [aX (by simpa using h),List.getElem_set_self];congr 1;apply List.ext_getElem?;intro i;simp [List.getElem?_set,show ¬ j=j+1+i by omega]
theorem digits_fn {a:OA}{c:Nat}{l:LB}{n least:Nat}{h:Part}(hn:n<18446744073709551616) (hl:least<=20) (hb:l.length<=70368744177664) :
 Fn prog 190 [.slice a l.length c,.int .u64 n,.int .i64 least] h [.row a c 5 1 l.length (u8s l)]
  (Rets λv _ Lo=>∃ a' c',v=.slice a' (l++dgs n least).length c'/\Lo=[.row a' c' 5 1 (l++dgs n least).length (u8s (l++dgs n least))]):=by
 refine aM func190 U ntmps190 U (λe he=>?_);refine bg [(0,_),(1,_),(2,_)] ⟨U,U,U,trivial⟩ ?_;refine Sr (Ru 1 U (a_ (Sr (bI zr_284 U (λb1=>?_)))));refine a_ (Sr (Ru 1 U (a_ (az (aJ (bM (λt_ S_ h_ L_=>∃ (k m:Nat) (bs:LB),t_=m+k/\S_=[(0,.slice a l.length c),(1,.int .u64 m),(2,.int .i64 least),(7,.pointer (some ⟨b1,0,none⟩)),(8,.int .i64 k)]/\h=h_/\L_=[.blk b1 284 (u8s bs),.row a c 5 1 l.length (u8s l)]/\(k<=20/\bs.length=20/\m<=n/\m<10 ^ k/\dgs n least=dgo k m (20-k) least++bs.drop k)) ⟨_,_,?_,⟨20,n,List.replicate 20 0,U,U,U,U,⟨by omega,U,by omega,by omega,by simp [dgs]⟩⟩⟩ ?_))))))
 ·repeat (first|exact trivial|refine⟨rfl,?_⟩|refine⟨(by exact eB z2_),?_⟩)
 rintro _ _ _ _ ⟨k,m,bs,rfl,rfl,rfl,rfl,hk,hbs,hmn,hm,he⟩;have hul:(u8s bs).length=20:=by rw [gZ,hbs]
 refine az (az (cJ [(16,.bool (decide (0<m\/20-k<least)))] [(0,_),(1,_),(2,_),(7,_),(8,_)] ⟨U,U,U,U,U,trivial⟩ ?_ ?_))
 ·refine Rg (Ru 3 U (Bs 11 U (λhc2=>?_) λhc2=>?_))
  ·refine Ru 5 U (a_ (⟨U,U,?_⟩));exact z24_
  refine Ru 1 U (aQ U U  si_ U ?_);refine Ru 3 U (a_ (⟨U,U,?_⟩));exact z24_
 refine Cs U (λhc3=>?_) λhc3=>?_
 ·obtain⟨j,rfl⟩:∃ j,k=j+1:=⟨k-1,by have:k≠0:=(by rintro rfl;simp at hm;omega);omega⟩;refine aA (aJ (Sr (Ru 1 U (ah si_ U ?_))));refine Ru 1 U (a_ (Sr (Ru 2 U (ah (by first|exact RunV.rem_u64 rfl rfl z2_ z2_|exact RunV.rem rfl rfl z2_) U ?_))));refine ah (by first|exact RunV.add_u64 rfl rfl z2_ z2_|exact RunV.add rfl rfl) U ?_;refine ah (by first|exact RunV.conv_u8 fV rfl z2_ z2_|exact cL fV rfl) U ?_;refine ah (RunV.indexArr ar_284 U U z9_ z2_) U ?_;refine bK ff U U U dl_ fL ?_;refine a_ (Rg (Ru 1 U (ah z35_ U ?_)));refine Ru 1 U (a_ ?_);rw [show(((j+1:Nat):Int)-1).toNat=j by omega,show(48+(m:Int) % 10)=((UInt8.ofNat (48+m % 10)).toNat:Int) by rw [fa z2_];omega,nB];refine⟨_,?_,_,?_,⟨j,m / 10,bs.set j (UInt8.ofNat (48+m % 10)),U,U,U,U,⟨by omega,by simp [hbs],by omega,by rw [Nat.pow_succ] at hm;omega,by rw [he,dgo,if_pos hc3,List.append_assoc,show 20-(j+1)+1=20-j by omega,oL bs j _ z2_];rfl⟩⟩⟩
  ·omega
  repeat (first|exact trivial|refine⟨rfl,?_⟩|refine⟨(by exact eB z2_),?_⟩)
 refine bA (Sr (Ru 2 U ?_));have hdl:(bs.drop k).length<=20:=(by simp;omega);have hd:dgs n least=bs.drop k:=by rw [he,oP z2_];rfl
 refine JL.pubB (R:=u8R) (sz:=1) dl_ bm z2_ (λh4 hle4 hB4=>?_);refine cm (RunE.cutArr ar_284 U U z9_ hB4 z2_ z2_) U ?_;rintro _ ⟨a4,c4,rfl,hS4⟩;refine bX dq U U bm U z7_ U dl_ z3_ U U (λa5 c5 xs5 hC5 hN5=>?_);obtain rfl:=hC5.u8;refine Ru 1 U (Nk [6] U ?_);rw [<- hd];exact dE ⟨_,[_],_,(ay U U),.cons .here .nil,_,U,_,_,U,U⟩
theorem iq {a:OA}{c:Nat}{l:LB}{n least:Nat}{N Q:Int}{h:Part}(hN:N=(n:Int)) (hQ:Q=(least:Int)) (hn:n<18446744073709551616) (hl:least<=20) (hb:l.length<=70368744177664) :
 Fn prog 190 [.slice a l.length c,.int .u64 N,.int .i64 Q] h [.row a c 5 1 l.length (u8s l)]
  (Rets λv _ Lo=>∃ a' c',v=.slice a' (l++dgs n least).length c'/\Lo=[.row a' c' 5 1 (l++dgs n least).length (u8s (l++dgs n least))]):=by
 subst hN hQ;exact digits_fn hn hl hb
def oidGo:LB->LB->Nat->Bool->Bool->Option LB
 |[],out,_,fresh,first=>if !fresh||first then none else some out
 |c::r,out,n,fresh,first =>
  if(fresh&&decide (c.toNat=128))||decide (72057594037927935<n) then none
  else if 127<c.toNat then oidGo r out (n*128+c.toNat % 128) false first
  else if first then oidGo r (out++dgs (min ((n*128+c.toNat % 128) / 40) 2) 1++[46]++dgs (n*128+c.toNat % 128-40*min ((n*128+c.toNat % 128) / 40) 2) 1) 0 true false
  else oidGo r (out++[46]++dgs (n*128+c.toNat % 128) 1) 0 true false
def oidT (b:LB):Option LB:=oidGo b [] 0 true true
theorem rV {a0:OA}{c0:Nat}{l:LB}{h:Part}(hl:SlR u8R 1 h a0 c0 l) (hb:l.length<=1073741824) :
 Fn prog 147 [.slice a0 l.length c0] h [] (Rets λu _ _=>u=.tuple #[.string ⟨((oidT l).getD []).toArray⟩,.int .i64 (if(oidT l).isSome then 0 else 20)]):=by
 refine aM func147 U ntmps147 U (λe he=>?_);refine bg [(0,_)] ⟨U,trivial⟩ ?_;refine Sr (Ru 2 U (a_ ?_));refine Sr (Ru 1 U (a_ (Sr (Ru 3 U (a_ (az (Sr (bZ 5 1 ?_))))))));refine Ru 3 U (a_ (aJ (bM (λt_ S_ h_ L_=>∃ (g:Part) (i:Nat) (out:LB) (n:Nat) (fresh first:Bool) (a:OA) (c:Nat),t_=l.length-i/\S_=[(4,.slice a out.length c),(5,.int .u64 n),(6,.bool fresh),(7,.bool first),(11,.slice a0 l.length c0),(12,.int .i64 l.length),(13,.int .i64 i)]/\g=h_/\L_=[.row a c 5 1 out.length (u8s out)]/\(h.le g/\i<=l.length/\n<=9223372036854775807/\out.length<=41*i/\oidT l=oidGo (l.drop i) out n fresh first)) ⟨_,_,?_,⟨_,0,[],0,true,true,none,0,U,U,U,U,⟨aT _,by omega,by omega,by simp,U⟩⟩⟩ ?_)))
 ·repeat (first|exact trivial|refine⟨rfl,?_⟩|refine⟨(by exact cQ (by simp<;>omega)),?_⟩)
 rintro _ _ _ _ ⟨g,i,out,n,fresh,first,a,c,rfl,rfl,rfl,rfl,hhg,hi,hn,ho,he⟩;have hl:=hl.mono hhg;refine Sr (Ru 1 U (a_ (az (Cs U (λhc1=>?_) λhc1=>?_))))
 ·refine aA (az (aJ (Sr (cm (aI cY U U z9_ z7_ U z2_) U ?_))));rintro _ ⟨b2,o2,hi2,rfl,hE2⟩;have e1:decide ((l[i].toNat:Int)=128)=decide (l[i].toNat=128):=decide_eq_decide.2 z2_;have e2:decide ((72057594037927935:Int)<n)=decide (72057594037927935<n):=decide_eq_decide.2 z2_;refine ah (bv ff U z7_) U ?_;refine Ru 1 U (a_ (az (az (cJ [(25,.bool ((fresh&&decide ((l[i].toNat:Int)=128))||decide ((72057594037927935:Int)<n)))] [(9,_),(16,_),(15,_),(14,_),(4,_),(5,_),(6,_),(7,_),(11,_),(12,_),(13,_)] ⟨U,U,U,U,U,U,U,U,U,U,U,trivial⟩ ?_ ?_))))
  ·refine Rg (Ru 2 U (Bs 18 U (λhc4=>?_) λhc4=>?_))
   ·refine Ru 4 U (Bs 22 U (λhc5=>?_) λhc5=>?_)
    ·refine Ru 3 U (a_ (⟨U,U,?_⟩))
     repeat (first|exact trivial|refine⟨rfl,?_⟩|refine⟨(by exact cV (by cases fresh<;>simp_all)),?_⟩)
    refine Ru 3 U (a_ (⟨U,U,?_⟩))
    repeat (first|exact trivial|refine⟨rfl,?_⟩|refine⟨(by exact cV (by cases fresh<;>simp_all)),?_⟩)
   refine Ru 7 U (a_ (⟨U,U,?_⟩))
   repeat (first|exact trivial|refine⟨rfl,?_⟩|refine⟨(by exact cV (by cases fresh<;>simp_all)),?_⟩)
  refine Cs U (λhc6=>?_) λhc6=>?_
  ·rw [e1,e2] at hc6;have hcz:=hc6;exact Sr (Ru 2 U (a_ (ew (b_ U U U) (by have hz:oidT l=none:=(by rw [he,aX z2_,oidGo,if_pos hcz]);rw [hz];rfl))))
  rw [e1,e2] at hc6;have hcz:=hc6;have hnn:¬ 72057594037927935<n:=(by intro hh;rw [aj hh] at hc6;simp at hc6);have hdr:=aX hi2;refine aA (Sr (Ru 1 U (ah (by first|exact RunV.shl_u64 128 rfl rfl bT bT bT z2_ z2_|exact RunV.shl rfl rfl bT bT) U ?_)));refine Ru 1 U (ah (by first|exact RunV.maskb_u8 7 128 rfl rfl bT bT bT|exact RunV.mask_u8 7 128 rfl rfl bT bT bT z2_ z2_|exact RunV.and_ rfl rfl) U ?_);refine ah (by first|exact RunV.convb_u64 fq rfl|exact dJ fq rfl z2_ z2_|exact cL fq rfl) U ?_;refine ah (RunV.join_u64 7 128 U U bT z2_ z2_ z2_ z2_ z2_ z2_) U ?_;refine Ru 2 U (a_ (az (Sr (Ru 2 U (a_ (Cs U (λhc7=>?_) λhc7=>?_))))))
  ·refine bA (Rg (ah ai_ U ?_));refine Ru 1 U (a_ (⟨_,?_,_,?_,⟨_,i+1,out,n*128+l[i].toNat % 128,false,first,a,c,U,U,U,U,⟨by assumption,by omega,by omega,by omega,by rw [he,hdr,oidGo,if_neg (by rw [hcz];decide),if_pos z2_]⟩⟩⟩))
   ·omega
   repeat (first|exact trivial|refine⟨rfl,?_⟩|refine⟨(by exact cQ (by simp<;>omega)),?_⟩)
  refine aA (az (Sr (Ru 1 U (a_ (Cs U (λhc8=>?_) λhc8=>?_)))))
  ·subst hc8;obtain⟨m2,hm2⟩:∃ m2:Nat,m2=n*128+l[i].toNat % 128-40*min ((n*128+l[i].toNat % 128) / 40) 2:=⟨_,U⟩;refine Sr (Ru 1 U (ah z35_ U ?_));refine ah (RunV.min2 U U) U ?_;refine Ru 1 U (Nk [10,37,36,35,34,33,32,6,5,31,30,29,28,27,26,25,9,16,15,14,4,7,11,12,13] U (Sr (Ru 2 U (d6 ca_190 U (iq (n:=min ((n*128+l[i].toNat % 128) / 40) 2) (least:=1) (by split<;>omega) U z2_ z2_ z2_) pt_ U ?_))));rintro _ h9 Lo9 hle9 ⟨a9,c9,rfl,rfl⟩
   replace hl:=hl.mono hle9
   replace hhg:=hhg.mono hle9
   refine Ru 1 U (a_ (Sr (Ru 2 U (ah (by first|exact RunV.mul_u64 rfl rfl z2_ z2_|exact RunV.mul rfl rfl) U ?_))));refine ah (by first|exact RunV.sub_u64 rfl rfl z2_ z2_|exact dW rfl rfl) U ?_;refine Ru 1 U (a_ (Rg (Ru 1 U (a_ (Sr ?_)))));have hdl2:=dp m2 1;have hdl:=dp (min ((n*128+l[i].toNat % 128) / 40) 2) 1;refine Ru 1 U (cF dq pg U U U U U (λb10=>?_));refine bV dq U U bm U dl_ dl_ U ((show u8R _ [.int .u8 46] 46 from rfl)) z3_ U U (λa11 c11 xs11 hC11 hN11=>?_);obtain rfl:=hC11.u8;refine Ru 1 U (d6 ca_190 U (iq (n:=m2) (least:=1) (by (try split)<;>omega) U z2_ z2_ (by simp;omega)) pt_ U ?_);rintro _ h12 Lo12 hle12 ⟨a12,c12,rfl,rfl⟩
   replace hl:=hl.mono hle12
   replace hhg:=hhg.mono hle12
   refine Ru 1 U (a_ (Rg (Ru 2 U (Nk [6,5,4,49,48,47,46,45,7,44,43,42,41,40,39,38,10,37,36,35,34,33,32,31,30,29,28,27,26,25,9,16,15,14,11,12,13] U (Rg (ah ai_ U ?_))))));refine Ru 1 U (a_ (⟨_,?_,_,?_,⟨_,i+1,_,0,true,false,_,_,U,U,U,U,⟨by assumption,by omega,by omega,by simp;omega,by rw [he,hdr,oidGo,if_neg (by rw [hcz];decide),if_neg z2_];subst hm2;simp [*]⟩⟩⟩))
   ·omega
   repeat (first|exact trivial|refine⟨rfl,?_⟩|refine⟨(by exact cQ (by simp<;>omega)),?_⟩)
  subst hc8;obtain⟨m2,hm2⟩:∃ m2:Nat,m2=n*128+l[i].toNat % 128:=⟨_,U⟩;refine aA (Kp [34,33,32,6,5,31,30,29,28,27,26,25,9,16,15,14,4,7,11,12,13] U (Sr ?_));have hdl2:=dp m2 1;have hdl:=dp (min ((n*128+l[i].toNat % 128) / 40) 2) 1;refine Ru 1 U (cF dq pg U U U U U (λb13=>?_));refine bV dq U U bm U dl_ dl_ U ((show u8R _ [.int .u8 46] 46 from rfl)) z3_ U U (λa14 c14 xs14 hC14 hN14=>?_);obtain rfl:=hC14.u8;refine Ru 1 U (d6 ca_190 U (iq (n:=m2) (least:=1) (by (try split)<;>omega) U z2_ z2_ (by simp;omega)) pt_ U ?_);rintro _ h15 Lo15 hle15 ⟨a15,c15,rfl,rfl⟩
  replace hl:=hl.mono hle15
  replace hhg:=hhg.mono hle15
  refine Ru 1 U (a_ (Rg (Ru 2 U (a_ (Rg (ah ai_ U ?_))))));refine Ru 1 U (a_ (⟨_,?_,_,?_,⟨_,i+1,_,0,true,false,_,_,U,U,U,U,⟨by assumption,by omega,by omega,by simp;omega,by rw [he,hdr,oidGo,if_neg (by rw [hcz];decide),if_neg z2_];subst hm2;simp [*]⟩⟩⟩))
  ·omega
  repeat (first|exact trivial|refine⟨rfl,?_⟩|refine⟨(by exact cQ (by simp<;>omega)),?_⟩)
 refine bA (Kp [4,6,7] U (az (Sr (Ru 3 U (Bs 53 U (λhc16=>?_) λhc16=>?_)))))
 ·exact Ru 2 U (Nk [55,4] U (aY U (Sr (Ru 2 U (a_ (ew (b_ U U U) z48_))))))
 refine Ru 2 U (Nk [55,4] U (Cs U (λhc17=>?_) λhc17=>?_))
 ·exact Sr (Ru 2 U (a_ (ew (b_ U U U) z48_)))
 refine aA (Sr (Ru 1 U (cW (R:=u8R) (l:=out) dl_ bm U z2_ (λhp hlep hSp=>?_))));refine ah (d7 dM U z7_ U) U ?_;exact Ru 2 U (Nk [3,2] U (ew (b_ U U U) z48_))
theorem z1_ {p:Prop}(u:p:=by first|(rw [sW (by omega),<- e0 (by omega)];(congr 1;first|exact(aj (by omega)).symm|exact(au (by omega)).symm|exact decide_eq_decide.2 (by omega)|(rw [<- decide_not];exact decide_eq_decide.2 (by omega))))|(rw [sW (by omega)];(congr 1;first|exact(aj (by omega)).symm|exact(au (by omega)).symm|exact decide_eq_decide.2 (by omega)|(rw [<- decide_not];exact decide_eq_decide.2 (by omega))))|rw [pi (by omega)]|(rw [kH (by omega),bitsB,<- e0,<- e1,aj (by omega)];done)|(rw [kH (by omega),bitsB,<- e0,<- e1];congr 1;exact decide_eq_decide.2 ⟨λhh=>⟨by omega,.inr (by exact_mod_cast hh)⟩,λ⟨_,hh⟩=>by exact_mod_cast hh.resolve_left (by omega)⟩)|(rw [kH (by omega),bitsB,<- e0 (by omega),au (by omega)];done)|(rw [kH (by omega),bitsB,au (by omega)];done)|(rw [valB_5 (by omega)];(congr 1;first|exact(aj (by omega)).symm|exact(au (by omega)).symm|exact decide_eq_decide.2 (by omega)|(rw [<- decide_not];exact decide_eq_decide.2 (by omega))))|(rw [valB_6 (by omega)];cases (oidT l).isSome<;>rfl)|rw [r_ (by omega)]|rw [r9 (by omega)]|rw [r8 (by omega)]|(rw [r7 (by omega)];cases psOk l<;>rfl)|(rw [qZ (by omega)];cases plOk l<;>rfl)|rw [valB_0 (by omega)]):p:=u
theorem g7 {p:Prop}(u:p:=by repeat (first|exact trivial|refine⟨rfl,?_⟩|refine⟨(by exact cQ z2_),?_⟩)):p:=u
theorem z32_ {p:Prop}(u:p:=by rw [leastB,if_neg z2_,if_neg z2_,<- e0,<- e1];(congr 1;first|exact(aj z2_).symm|exact(au z2_).symm|exact decide_eq_decide.2 z2_|(rw [<- decide_not];exact decide_eq_decide.2 z2_))):p:=u
theorem ca_147:callT prog 147=true:=by kernel_rfl
theorem ca_155:callT prog 155=true:=by kernel_rfl
theorem ca_156:callT prog 156=true:=by kernel_rfl
theorem ca_157:callT prog 157=true:=by kernel_rfl
theorem ca_158:callT prog 158=true:=by kernel_rfl
theorem ca_159:callT prog 159=true:=by kernel_rfl
theorem ca_160:callT prog 160=true:=by kernel_rfl
theorem ca_63:callT prog 63=true:=by kernel_rfl
theorem jA:convI prog 3 5=some .u8:=by kernel_rfl
theorem mX {a0:OA}{c0:Nat}{l:LB}{h:Part}(hl:SlR u8R 1 h a0 c0 l) (hb:l.length<=1073741824) :
 Pure prog 147 [.slice a0 l.length c0] h (.tuple #[.string ⟨((oidT l).getD []).toArray⟩,.int .i64 (if(oidT l).isSome then 0 else 20)]):=dY (rV hl hb)
theorem vI (t:Int):form t=0\/form t=1\/form t=2:=by
 unfold form;split
 ·exact .inr (.inr U)
 ·split
  ·exact .inr (.inl U)
  ·exact .inl U
theorem known_fn (t:Int) (h:Part):Pure prog 155 [.int .i64 t] h (.tuple #[.bool (decide (form t≠0)),.bool (decide (form t=2))]):=by
 refine aM func155 U ntmps155 U (λe he=>?_);refine bg [(0,_)] ⟨U,trivial⟩ ?_;refine Sr (Ru 2 U (a_ (az ?_)));refine Sr (Ru 1 U (a_ (aJ (az (Sr (Ru 2 U (a_ (Cs U (λhc1=>?_) λhc1=>?_))))))))
 ·exact aA (aY U (Sr (Ru 2 U (Nk [3,2] U (aH (b_ U U U) iZ U)))))
 refine Rg (Ru 2 U (Nk [5,4,3,2] U (Cs U (λhc2=>?_) λhc2=>?_)))
 ·exact Sr (Ru 2 U (Nk [3,2] U (aH (b_ U U U) iZ U)))
 refine az (Sr (Ru 2 U (a_ (Cs U (λhc3=>?_) λhc3=>?_))))
 ·exact aA (Kp [8,3,2] U (aY U (Sr (Ru 2 U (a_ (aH (b_ U U U) iZ U))))))
 refine Sr (Ru 2 U (Nk [8,4,3,2] U (Cs U (λhc4=>?_) λhc4=>?_)))
 ·exact aA (aY U (Sr (Ru 2 U (Nk [3,2] U (aH (b_ U U U) iZ U)))))
 refine Sr (Ru 2 U (a_ (Cs U (λhc5=>?_) λhc5=>?_)))
 ·exact aA (Kp [8,3,2] U (aY U (Sr (Ru 2 U (a_ (aH (b_ U U U) iZ U))))))
 refine Sr (Ru 2 U (Nk [8,4,3,2] U (Cs U (λhc6=>?_) λhc6=>?_)))
 ·exact aA (aY U (Sr (Ru 2 U (Nk [3,2] U (aH (b_ U U U) iZ U)))))
 refine Sr (Ru 2 U (a_ (Cs U (λhc7=>?_) λhc7=>?_)))
 ·exact aA (Kp [8,3,2] U (aY U (Sr (Ru 2 U (a_ (aH (b_ U U U) iZ U))))))
 refine Sr (Ru 2 U (Nk [8,4,3,2] U (Cs U (λhc8=>?_) λhc8=>?_)))
 ·exact aA (aY U (Sr (Ru 2 U (Nk [3,2] U (aH (b_ U U U) iZ U)))))
 refine Sr (Ru 2 U (a_ (Cs U (λhc9=>?_) λhc9=>?_)))
 ·exact aA (Kp [8,3,2] U (aY U (Sr (Ru 2 U (a_ (aH (b_ U U U) iZ U))))))
 refine Sr (Ru 2 U (Nk [8,4,3,2] U (Cs U (λhc10=>?_) λhc10=>?_)))
 ·exact aA (aY U (Sr (Ru 2 U (Nk [3,2] U (aH (b_ U U U) iZ U)))))
 refine Sr (Ru 2 U (a_ (Cs U (λhc11=>?_) λhc11=>?_)))
 ·exact aA (Kp [8,3,2] U (aY U (Sr (Ru 2 U (a_ (aH (b_ U U U) iZ U))))))
 refine Sr (Ru 2 U (Nk [8,4,3,2] U (Cs U (λhc12=>?_) λhc12=>?_)))
 ·exact aA (aY U (Sr (Ru 2 U (Nk [3,2] U (aH (b_ U U U) iZ U)))))
 refine Sr (Ru 2 U (a_ (Cs U (λhc13=>?_) λhc13=>?_)))
 ·exact aA (Kp [8,3,2] U (aY U (Sr (Ru 2 U (a_ (aH (b_ U U U) iZ U))))))
 refine Rg (Ru 2 U (Nk [8,3,2] U (Cs U (λhc14=>?_) λhc14=>?_)))
 ·exact Sr (Ru 2 U (a_ (aH (b_ U U U) iZ U)))
 exact aA (Sr (Ru 2 U (a_ (aH (b_ U U U) iZ U))))
theorem pmay_fn {x:Nd}{cs:LV}{h:Part}(r:NdR h cs x):Pure prog 109 [.agg cs.toArray] h (.bool (mayB x.cls x.tag x.cons)):=by
 cases x with
 |mk c t k bs ks =>
 obtain⟨a,ca,b,cb,rfl,ha,hb⟩:=r.inv;simp only [Nd.cls,Nd.tag,Nd.cons];have hf:=vI t;refine aM func109 U ntmps109 U (λe he=>?_);refine bg [(0,_)] ⟨U,trivial⟩ ?_;refine Sr (dh U U U (λb1=>?_));refine Ru 1 U (a_ (az (Sr (Ru 1 U (ah (aw dI U mm_ U) U ?_)))));refine Ru 2 U (Bs 8 U (λhc2=>?_) λhc2=>?_)
 ·exact Ru 4 U (Nk [12,2,1] U (aY U (Sr (Ru 1 U (a_ (aH (ay U U) (by rcases hf with hf|hf|hf<;>cases k<;>simp_all [mayB]<;>omega) U))))))
 refine Ru 1 U (aQ U U  (aw dI U mm_ U) U ?_);refine Ru 2 U (Nk [12,2,1] U (Cs U (λhc3=>?_) λhc3=>?_))
 ·exact Sr (Ru 1 U (a_ (aH (ay U U) (by rcases hf with hf|hf|hf<;>cases k<;>simp_all [mayB]<;>omega) U)))
 refine aA (az (Sr (Ru 1 U (ah (aw dI U mm_ U) U ?_))));refine a_ (aJ (Sr (Ru 2 U (a_ (Cs U (λhc4=>?_) λhc4=>?_)))))
 ·exact Sr (Ru 1 U (Nk [2] U (aH (ay U U) (by rcases hf with hf|hf|hf<;>cases k<;>simp_all [mayB]<;>omega) U)))
 refine Sr (Ru 2 U (Nk [17,2,1] U (Cs U (λhc5=>?_) λhc5=>?_)))
 ·refine Sr (Ru 1 U (ah (aw dI U mm_ U) U ?_));refine bh ca_155 U (known_fn _ _) U ?_;refine Ru 5 U (Nk [4,3,2,1] U (Sr (Ru 2 U (Bs 26 U (λhc7=>?_) λhc7=>?_))))
  ·refine Ru 2 U (aQ U U  (aw kC U mm_ U) U ?_);refine aQ U U  (RunV.eqlB un_4 U U) U ?_;exact Ru 2 U (Nk [2] U (aH (ay U U) (by rcases hf with hf|hf|hf<;>cases k<;>simp_all [mayB]<;>omega) U))
  exact Ru 6 U (Nk [2] U (aH (ay U U) (by rcases hf with hf|hf|hf<;>cases k<;>simp_all [mayB]<;>omega) U))
 exact aA (Sr (Ru 1 U (a_ (aH (ay U U) (by rcases hf with hf|hf|hf<;>cases k<;>simp_all [mayB]<;>omega) U))))
def leastB (b:LB):Bool:=if b.length=0 then false else if b.length=1 then true else decide (¬ (byteAt b 0=0/\byteAt b 1<128\/byteAt b 0=255/\127<byteAt b 1))
theorem oD {a:OA}{c:Nat}{l:LB}{h:Part}(hl:SlR u8R 1 h a c l):Pure prog 63 [.slice a l.length c] h (.bool (leastB l)):=by
 have hb:=hl.le63;refine aM func63 U ntmps63 U (λe he=>?_);refine bg [(0,_)] ⟨U,trivial⟩ ?_;refine Sr (Ru 1 U (a_ (az (aJ (Sr (Ru 4 U (a_ (Cs U (λhc1=>?_) λhc1=>?_))))))))
 ·exact Sr (Ru 1 U (Nk [2,0] U (aH (ay U U) (by rw [leastB,if_pos z2_]) U)))
 refine Sr (Ru 4 U (Nk [7,2,0] U (Cs U (λhc2=>?_) λhc2=>?_)))
 ·exact Sr (Ru 1 U (a_ (aH (ay U U) (by rw [leastB,if_neg z2_,if_pos z2_]) U)))
 refine aA (Sr ?_);have e0:=bY l 0 z2_;have e1:=bY l 1 z2_;refine Ru 1 U (cm (aI cY U U (show _=((0:Nat):Int) from rfl) z7_ U z2_) U ?_);rintro _ ⟨b3,o3,hi3,rfl,hE3⟩;refine ah (bv ff U z7_) U ?_;refine Ru 2 U (Bs 15 U (λhc5=>?_) λhc5=>?_)
 ·refine Ru 1 U (cH U U  (aI cY U U (show _=((1:Nat):Int) from rfl) z7_ U z2_) U ?_);rintro _ ⟨b6,o6,hi6,rfl,hE6⟩;refine aQ U U  (bv ff U z7_) U ?_;refine Ru 3 U (Bs 21 U (λhc8=>?_) λhc8=>?_)
  ·exact Ru 13 U (Nk [2] U (aH (ay U U) z32_ U))
  refine Ru 1 U (cH U U  (aI cY U U (show _=((0:Nat):Int) from rfl) z7_ U z2_) U ?_);rintro _ ⟨b9,o9,hi9,rfl,hE9⟩;refine aQ U U  (bv ff U z7_) U ?_;refine Ru 2 U (Bs 26 U (λhc11=>?_) λhc11=>?_)
  ·refine Ru 1 U (cH U U  (aI cY U U (show _=((1:Nat):Int) from rfl) z7_ U z2_) U ?_);rintro _ ⟨b12,o12,hi12,rfl,hE12⟩;refine aQ U U  (bv ff U z7_) U ?_;exact Ru 5 U (Nk [2] U (aH (ay U U) z32_ U))
  exact Ru 8 U (Nk [2] U (aH (ay U U) z32_ U))
 refine Ru 7 U (cH U U  (aI cY U U (show _=((0:Nat):Int) from rfl) z7_ U z2_) U ?_);rintro _ ⟨b14,o14,hi14,rfl,hE14⟩;refine aQ U U  (bv ff U z7_) U ?_;refine Ru 2 U (Bs 26 U (λhc16=>?_) λhc16=>?_)
 ·refine Ru 1 U (cH U U  (aI cY U U (show _=((1:Nat):Int) from rfl) z7_ U z2_) U ?_);rintro _ ⟨b17,o17,hi17,rfl,hE17⟩;refine aQ U U  (bv ff U z7_) U ?_;exact Ru 5 U (Nk [2] U (aH (ay U U) z32_ U))
 exact Ru 8 U (Nk [2] U (aH (ay U U) z32_ U))
def bitsB (b:LB):Bool:=decide (¬ (b.length=0\/7<byteAt b 0\/b.length=1/\0<byteAt b 0)/\(byteAt b 0=0\/byteAt b (b.length-1) % 2 ^ byteAt b 0=0))
def valB (t:Int) (b:LB):Bool :=
 if t=1 then decide (b.length=1/\(byteAt b 0=0\/byteAt b 0=255)) else if t=2\/t=10 then leastB b else if t=3 then bitsB b else if t=5 then decide (b.length=0)
 else if t=6 then(oidT b).isSome else if t=12 then runes (λc n=>!decide (c=65533/\n=1)) b 0 else if t=19 then runes (λc _=>prC c) b 0 else if t=22 then runes (λc _=>decide (c<=127)) b 0
 else if t=23 then psOk b else if t=24 then plOk b else true
theorem sW {t:Int}{b:LB}(h:t=1):valB t b=decide (b.length=1/\(byteAt b 0=0\/byteAt b 0=255)):=by
 unfold valB;rw [if_pos z2_]
theorem pi {t:Int}{b:LB}(h:t=2\/t=10):valB t b=leastB b:=by
 unfold valB;rw [if_neg z2_];rw [if_pos z2_]
theorem kH {t:Int}{b:LB}(h:t=3):valB t b=bitsB b:=by
 unfold valB;rw [if_neg z2_];rw [if_neg z2_];rw [if_pos z2_]
theorem valB_5 {t:Int}{b:LB}(h:t=5):valB t b=decide (b.length=0):=by
 unfold valB;rw [if_neg z2_];rw [if_neg z2_];rw [if_neg z2_];rw [if_pos z2_]
theorem valB_6 {t:Int}{b:LB}(h:t=6):valB t b=(oidT b).isSome:=by
 unfold valB;rw [if_neg z2_];rw [if_neg z2_];rw [if_neg z2_];rw [if_neg z2_];rw [if_pos z2_]
theorem r_ {t:Int}{b:LB}(h:t=12):valB t b=runes (λc n=>!decide (c=65533/\n=1)) b 0:=by
 unfold valB;rw [if_neg z2_];rw [if_neg z2_];rw [if_neg z2_];rw [if_neg z2_];rw [if_neg z2_];rw [if_pos z2_]
theorem r9 {t:Int}{b:LB}(h:t=19):valB t b=runes (λc _=>prC c) b 0:=by
 unfold valB;rw [if_neg z2_];rw [if_neg z2_];rw [if_neg z2_];rw [if_neg z2_];rw [if_neg z2_];rw [if_neg z2_];rw [if_pos z2_]
theorem r8 {t:Int}{b:LB}(h:t=22):valB t b=runes (λc _=>decide (c<=127)) b 0:=by
 unfold valB;rw [if_neg z2_];rw [if_neg z2_];rw [if_neg z2_];rw [if_neg z2_];rw [if_neg z2_];rw [if_neg z2_];rw [if_neg z2_];rw [if_pos z2_]
theorem r7 {t:Int}{b:LB}(h:t=23):valB t b=psOk b:=by
 unfold valB;rw [if_neg z2_];rw [if_neg z2_];rw [if_neg z2_];rw [if_neg z2_];rw [if_neg z2_];rw [if_neg z2_];rw [if_neg z2_];rw [if_neg z2_];rw [if_pos z2_]
theorem qZ {t:Int}{b:LB}(h:t=24):valB t b=plOk b:=by
 unfold valB;rw [if_neg z2_];rw [if_neg z2_];rw [if_neg z2_];rw [if_neg z2_];rw [if_neg z2_];rw [if_neg z2_];rw [if_neg z2_];rw [if_neg z2_];rw [if_neg z2_];rw [if_pos z2_]
theorem valB_0 {t:Int}{b:LB}(h:¬ (t=1\/t=2\/t=10\/t=3\/t=5\/t=6\/t=12\/t=19\/t=22\/t=23\/t=24)):valB t b=true:=by
 unfold valB;rw [if_neg z2_];rw [if_neg z2_];rw [if_neg z2_];rw [if_neg z2_];rw [if_neg z2_];rw [if_neg z2_];rw [if_neg z2_];rw [if_neg z2_];rw [if_neg z2_];rw [if_neg z2_]
theorem pow2_7 (n:Nat) (h:n<=7):(1:Int)<=2 ^ n/\(2:Int) ^ n<=128:=by
 have:n=0\/n=1\/n=2\/n=3\/n=4\/n=5\/n=6\/n=7:=by omega
 rcases this with rfl|rfl|rfl|rfl|rfl|rfl|rfl|rfl<;>decide
theorem j7 {t:Int}{a:OA}{c:Nat}{l:LB}{h:Part}(hl:SlR u8R 1 h a c l) (hT:Tabs h) (hb:l.length<=1073741824):Pure prog 110 [.int .i64 t,.slice a l.length c] h (.bool (valB t l)):=by
 have e0:=λhh=>bY l 0 hh;refine aM func110 U ntmps110 U (λe he=>?_);refine bg [(0,_),(1,_)] ⟨U,U,trivial⟩ ?_;refine Sr (Ru 1 U (a_ ?_));refine az (Sr (Ru 1 U (a_ (aJ (Sr (Ru 2 U (a_ (Cs U (λhc1=>?_) λhc1=>?_))))))))
 ·refine Sr (Ru 4 U (Bs 18 U (λhc2=>?_) λhc2=>?_))
  ·refine Ru 1 U (cH U U  (aI cY U U (show _=((0:Nat):Int) from rfl) z7_ U z2_) U ?_);rintro _ ⟨b3,o3,hi3,rfl,hE3⟩;refine aQ U U  (bv ff U z7_) U ?_;refine Ru 2 U (Bs 23 U (λhc5=>?_) λhc5=>?_)
   ·exact Ru 7 U (Nk [4] U (aH (ay U U) z1_ U))
   refine Ru 1 U (cH U U  (aI cY U U (show _=((0:Nat):Int) from rfl) z7_ U z2_) U ?_);rintro _ ⟨b6,o6,hi6,rfl,hE6⟩;refine aQ U U  (bv ff U z7_) U ?_;exact Ru 4 U (Nk [4] U (aH (ay U U) z1_ U))
  exact Ru 12 U (Nk [4] U (aH (ay U U) z1_ U))
 refine az (Sr (Ru 2 U (Nk [30,12,4,1] U (Cs U (λhc8=>?_) λhc8=>?_))))
 ·refine aA (aY U (Sr (Ru 1 U (bh ca_63 U (oD z7_) U ?_))));exact Ru 1 U (Nk [4] U (aH (ay U U) z1_ U))
 refine Rg (Ru 2 U (a_ (Cs U (λhc10=>?_) λhc10=>?_)))
 ·refine Sr (Ru 1 U (bh ca_63 U (oD z7_) U ?_));exact Ru 1 U (Nk [4] U (aH (ay U U) z1_ U))
 refine Sr (Ru 2 U (Nk [35,12,4,1] U (Cs U (λhc12=>?_) λhc12=>?_)))
 ·refine az (Sr (Ru 4 U (Bs 40 U (λhc13=>?_) λhc13=>?_)))
  ·exact Ru 16 U (Nk [56,4,1] U (aY U (Sr (Ru 1 U (a_ (aH (ay U U) z1_ U))))))
  refine Ru 1 U (cH U U  (aI cY U U (show _=((0:Nat):Int) from rfl) z7_ U z2_) U ?_);rintro _ ⟨b14,o14,hi14,rfl,hE14⟩;refine aQ U U  (bv ff U z7_) U ?_;refine Ru 3 U (Bs 46 U (λhc16=>?_) λhc16=>?_)
  ·exact Ru 10 U (Nk [56,4,1] U (aY U (Sr (Ru 1 U (a_ (aH (ay U U) z1_ U))))))
  refine Ru 4 U (Bs 50 U (λhc17=>?_) λhc17=>?_)
  ·refine Ru 1 U (cH U U  (aI cY U U (show _=((0:Nat):Int) from rfl) z7_ U z2_) U ?_);rintro _ ⟨b18,o18,hi18,rfl,hE18⟩;refine aQ U U  (bv ff U z7_) U ?_;refine Ru 3 U (Nk [56,4,1] U (Cs U (λhc20=>?_) λhc20=>?_))
   ·exact Sr (Ru 1 U (a_ (aH (ay U U) z1_ U)))
   refine aA (az (de cM cP ?_));have e0:=bY l 0 z2_;have e1:=bY l (l.length-1) z2_;have hp:=pow2_7 (l[0]'z2_).toNat z2_;refine Rq 1 U ?_;refine du (aI cY U U (show _=((0:Nat):Int) from rfl) z7_ U z2_) U ?_;rintro _ ⟨b21,o21,hi21,rfl,hE21⟩;refine cq (bv ff U z7_) U ?_;refine Rq 2 U ?_;refine Bq 61 U (λhc23=>?_) λhc23=>?_
   ·refine Rq 15 U ?_;refine Nq [4] U ?_;exact aH (ay U U) z1_ U
   refine Rq 3 U ?_;refine dx U U  si_ U ?_;refine JQ.opeg U U  (aI (m:=l.length-1) cY U U z2_ z7_ U z2_) U ?_;rintro _ ⟨b24,o24,hi24,rfl,hE24⟩;refine dx U U  (bv ff U z7_) U ?_;refine Rq 1 U ?_;refine JQ.opeg U U  (aI cY U U (show _=((0:Nat):Int) from rfl) z7_ U z2_) U ?_;rintro _ ⟨b26,o26,hi26,rfl,hE26⟩;refine dx U U  (bv ff U z7_) U ?_;refine dx U U  (RunV.shl_u8 ((2:Int) ^ (l[0]'z2_).toNat) U U z2_ z2_ (by simp) z2_ z2_) U ?_;refine dx U U  (RunV.sub_u8 U U z2_ z2_) U ?_;refine dx U U  (RunV.maskb_u8 (l[0]'z2_).toNat ((2:Int) ^ (l[0]'z2_).toNat) U U z2_ U z2_) U ?_;refine Rq 3 U ?_;refine Nq [4] U ?_;exact aH (ay U U) z1_ U
  refine Ru 6 U (Nk [56,4,1] U (dA U ?_));refine aA (az (de cM cP ?_));have e0:=bY l 0 z2_;have e1:=bY l (l.length-1) z2_;have hp:=pow2_7 (l[0]'z2_).toNat z2_;refine Rq 1 U ?_;refine du (aI cY U U (show _=((0:Nat):Int) from rfl) z7_ U z2_) U ?_;rintro _ ⟨b28,o28,hi28,rfl,hE28⟩;refine cq (bv ff U z7_) U ?_;refine Rq 2 U ?_;refine Bq 61 U (λhc30=>?_) λhc30=>?_
  ·refine Rq 15 U ?_;refine Nq [4] U ?_;exact aH (ay U U) z1_ U
  refine Rq 3 U ?_;refine dx U U  si_ U ?_;refine JQ.opeg U U  (aI (m:=l.length-1) cY U U z2_ z7_ U z2_) U ?_;rintro _ ⟨b31,o31,hi31,rfl,hE31⟩;refine dx U U  (bv ff U z7_) U ?_;refine Rq 1 U ?_;refine JQ.opeg U U  (aI cY U U (show _=((0:Nat):Int) from rfl) z7_ U z2_) U ?_;rintro _ ⟨b33,o33,hi33,rfl,hE33⟩;refine dx U U  (bv ff U z7_) U ?_;refine dx U U  (RunV.shl_u8 ((2:Int) ^ (l[0]'z2_).toNat) U U z2_ z2_ (by simp) z2_ z2_) U ?_;refine dx U U  (RunV.sub_u8 U U z2_ z2_) U ?_;refine dx U U  (RunV.maskb_u8 (l[0]'z2_).toNat ((2:Int) ^ (l[0]'z2_).toNat) U U z2_ U z2_) U ?_;refine Rq 3 U ?_;refine Nq [4] U ?_;exact aH (ay U U) z1_ U
 refine Sr (Ru 2 U (a_ (Cs U (λhc35=>?_) λhc35=>?_)))
 ·exact Sr (Ru 4 U (Nk [4] U (aH (ay U U) z1_ U)))
 refine Sr (Ru 2 U (Nk [81,12,4,1] U (Cs U (λhc36=>?_) λhc36=>?_)))
 ·refine Sr (Ru 1 U (bh ca_147 U (mX z7_ z2_) U ?_));exact Ru 5 U (Nk [6,4] U (Sr (Ru 3 U (a_ (aH (ay U U) z1_ U)))))
 refine Sr (Ru 2 U (a_ (Cs U (λhc38=>?_) λhc38=>?_)))
 ·refine Sr (Ru 1 U (ah (d7 dM U z7_ U) U ?_));refine bh ca_156 U (utf8_fn _ _ z7_ z2_) U ?_;exact Ru 1 U (Nk [4] U (aH (ay U U) z1_ U))
 refine Sr (Ru 2 U (Nk [95,12,4,1] U (Cs U (λhc40=>?_) λhc40=>?_)))
 ·refine Sr (Ru 1 U (ah (d7 dM U z7_ U) U ?_));refine bh ca_157 U (kU _ _ z2_) U ?_;exact Ru 1 U (Nk [4] U (aH (ay U U) z1_ U))
 refine Sr (Ru 2 U (a_ (Cs U (λhc42=>?_) λhc42=>?_)))
 ·refine Sr (Ru 1 U (ah (d7 dM U z7_ U) U ?_));refine bh ca_158 U (ia5_fn _ _ z2_) U ?_;exact Ru 1 U (Nk [4] U (aH (ay U U) z1_ U))
 refine Sr (Ru 2 U (Nk [105,12,4,1] U (Cs U (λhc44=>?_) λhc44=>?_)))
 ·refine Sr (Ru 1 U (ah (d7 dM U z7_ U) U ?_));refine bh ca_159 U (pshort_fn _ _ z2_) U ?_;exact Ru 5 U (Nk [8,4] U (Sr (Ru 3 U (a_ (aH (ay U U) z1_ U)))))
 refine Sr (Ru 2 U (a_ (Cs U (λhc46=>?_) λhc46=>?_)))
 ·refine Sr (Ru 1 U (ah (d7 dM U z7_ U) U ?_));refine bh ca_160 U (plong_fn _ _ z2_) U ?_;exact Ru 7 U (Nk [11,4] U (Sr (Ru 3 U (a_ (aH (ay U U) z1_ U)))))
 exact aA (Kp [4] U (Sr (Ru 1 U (a_ (aH (ay U U) z1_ U)))))
def be:Nat->Nat->LB
 |0,_=>[]
 |k+1,n=>UInt8.ofNat (n / 256 ^ k)::be k n
def nby (n:Nat):Nat:=if n<256 then 1 else if n<65536 then 2 else if n<16777216 then 3 else if n<4294967296 then 4 else if n<1099511627776 then 5 else 6
def lenB (n:Nat):LB:=if n<128 then [UInt8.ofNat n] else UInt8.ofNat (128+nby n)::be (nby n) n
def tagN (c t:Int) (k:Bool):Nat:=(64*c+t).toNat+(if k then 32 else 0)
def headB (c t:Int) (k:Bool) (n:Nat):LB:=UInt8.ofNat (tagN c t k)::lenB n
theorem mg (n:Nat):1<=nby n/\nby n<=6:=by unfold nby;(repeat' split)<;>omega
theorem jJ (k n:Nat):(be k n).length=k:=by induction k with
 |zero=>rfl
 |succ k ih=>simp [be,ih]
theorem nH (n j:Nat) (e:Int) (he:e=8*(j:Int)):(n:Int) / 2 ^ e.toNat=((n / 256 ^ j:Nat):Int):=by
 subst he;have h1:(8*(j:Int)).toNat=8*j:=by omega
 have h2:(256:Nat) ^ j=2 ^ (8*j):=by rw [Nat.pow_mul]
 rw [h1,h2];simp
theorem nby_gt (n j:Nat) (hn:n<=140737488355328) (h1:1<=j) (h2:j<=nby n):0<n / 256 ^ j<->j<nby n:=by
 have hb:=mg n;have hj:j=1\/j=2\/j=3\/j=4\/j=5\/j=6:=by omega
 have e1:(256:Nat) ^ 1=256:=rfl;have e2:(256:Nat) ^ 2=65536:=rfl;have e3:(256:Nat) ^ 3=16777216:=rfl;have e4:(256:Nat) ^ 4=4294967296:=rfl;have e5:(256:Nat) ^ 5=1099511627776:=rfl;have e6:(256:Nat) ^ 6=281474976710656:=rfl;unfold nby at *;rcases hj with rfl|rfl|rfl|rfl|rfl|rfl<;>simp only [e1,e2,e3,e4,e5,e6]<;>(repeat' split)<;>omega
theorem iQ {c t:Int}{k:Bool}{n:Nat}(h:n<128):headB c t k n=[UInt8.ofNat (tagN c t k)]++[UInt8.ofNat n]:=by
 unfold headB lenB;rw [if_pos h];rfl
theorem vH {c t:Int}{k:Bool}{n:Nat}(h:¬ n<128):headB c t k n=([UInt8.ofNat (tagN c t k)]++[UInt8.ofNat (128+nby n)])++be (nby n) n:=by
 unfold headB lenB;rw [if_neg h];rfl
theorem head_fn {x:Nd}{cs:LV}{h:Part}{n:Nat}(r:NdR h cs x) (hc:x.cls=0\/x.cls=2) (ht:0<=x.tag/\x.tag<=30) (hn:n<=140737488355328) :
 Fn prog 111 [.agg cs.toArray,.int .i64 n] h [] (Rets λv _ Lo=>∃ a c,v=.slice a (headB x.cls x.tag x.cons n).length c/\Lo=[.row a c 5 1 (headB x.cls x.tag x.cons n).length (u8s (headB x.cls x.tag x.cons n))]):=by
 cases x with
 |mk c t k bs ks =>
 obtain⟨a,ca,b,cb,rfl,ha,hb⟩:=r.inv;simp only [Nd.cls,Nd.tag,Nd.cons] at *;have hk:=mg n;refine aM func111 U ntmps111 U (λe he=>?_);refine bg [(0,_),(1,_)] ⟨U,U,trivial⟩ ?_;refine Sr (dh U U U (λb1=>?_));refine Ru 1 U (a_ (Sr (Ru 1 U (ah (aw dI U mm_ U) U ?_))));refine ah (by first|exact RunV.shl_i64 64 rfl rfl bT bT bT z2_ z2_|exact RunV.shl rfl rfl bT bT) U ?_;refine Ru 1 U (ah (aw dI U mm_ U) U ?_);refine ah (RunV.join_i64 6 64 U U bT z2_ z2_ z2_ z2_ z2_ z2_) U ?_;refine ah (cT (64*c+t).toNat jA U z2_) U ?_;refine Ru 1 U (Nk [5,4,2,1] U (az (Sr (Ru 1 U (ah (aw kC U mm_ U) U ?_)))));refine a_ (cJ [(5,.int .u8 ((UInt8.ofNat (tagN c t k)).toNat:Int))] [(4,_),(1,_)] ⟨U,U,trivial⟩ ?_ ?_)
 ·refine Cs U (λhc2=>?_) λhc2=>?_
  ·refine Rg (Ru 1 U (ah (RunV.or32 (64*c+t).toNat U z2_ z2_) U ?_));refine Ru 1 U (a_ (⟨U,U,?_⟩))
   repeat (first|exact trivial|refine⟨rfl,?_⟩|refine⟨(by exact cQ (by cases k<;>first|rfl|simp_all)),?_⟩)
  refine aA (⟨U,U,?_⟩)
  repeat (first|exact trivial|refine⟨rfl,?_⟩|refine⟨(by exact cQ (by cases k<;>first|rfl|simp_all)),?_⟩)
 refine Sr (Ru 1 U (cF dq pg U U U U U (λb3=>?_)));refine Ru 1 U (a_ (az (Sr (Ru 2 U (a_ (Cs U (λhc4=>?_) λhc4=>?_))))))
 ·refine Sr (Ru 2 U (ah (cT n jA U U) U ?_));refine cF dq pg U U U U U (λb5=>?_);refine JL.rowB (b:=b3) dl_ ?_;refine bV dq U U bm U dl_ dl_ U (U) z3_ U U (λa6 c6 xs6 hC6 hN6=>?_);obtain rfl:=hC6.u8;refine Ru 1 U (Nk [4,6,1] U ?_);rw [<- iQ z2_];exact dE ⟨_,[_],_,(ay U U),.cons .here .nil,_,U,_,_,U,U⟩
 refine aA (Kp [6,4,1] U (Sr (Ru 1 U (a_ (az (aJ (bM (λt_ S_ h_ L_=>∃ (j:Nat),t_=7-j/\S_=[(1,.int .i64 n),(6,.slice (some ⟨b3,0,none⟩) 1 1),(7,.int .i64 j)]/\h=h_/\L_=[.blk b3 5 [.int .u8 ((UInt8.ofNat (tagN c t k)).toNat:Int)],.blk b1 35 [.int .i64 c,.int .i64 t,.bool k,.slice a bs.length ca,.slice b ks.length cb]]/\(1<=j/\j<=nby n)) ⟨_,_,?_,⟨1,U,U,U,U,⟨by omega,by omega⟩⟩⟩ ?_)))))))
 ·exact z6_
 rintro _ _ _ _ ⟨j,rfl,rfl,rfl,rfl,hj,hj2⟩;have hgt:=nby_gt n j hn hj hj2;refine az (Sr (Ru 2 U (ah jM U ?_)));refine ah (RunV.shr U U z2_ (by show _<=((64:Nat):Int);omega)) U ?_;rw [nH n j _ rfl];refine Ru 1 U (a_ (Cs U (λhc7=>?_) λhc7=>?_))
 ·refine aA (aJ (Rg (Ru 1 U (ah ai_ U ?_))));refine Ru 1 U (a_ (⟨_,?_,_,?_,⟨j+1,U,U,U,U,⟨by omega,by omega⟩⟩⟩))
  ·omega
  exact z6_
 refine bA (Kp [1,6,7] U (Sr (Ru 2 U (ah ai_ U ?_))));refine ah (cT (128+j) jA U z2_) U ?_;refine cF dq pg U U U U U (λb8=>?_);refine JL.rowB (b:=b3) dl_ ?_;refine bV dq U U bm U dl_ dl_ U (U) z3_ U U (λa9 c9 xs9 hC9 hN9=>?_);obtain rfl:=hC9.u8;refine Ru 1 U (Nk [6,1,7] U (az (aJ (bM (λt_ S_ h_ L_=>∃ (j:Nat) (out:LB) (a9:OA) (q:Nat),t_=7+j/\S_=[(1,.int .i64 n),(6,.slice a9 out.length q),(7,.int .i64 j)]/\h=h_/\L_=[.row a9 q 5 1 out.length (u8s out),.blk b1 35 [.int .i64 c,.int .i64 t,.bool k,.slice a bs.length ca,.slice b ks.length cb]]/\(j<=nby n/\out.length<=10-j/\headB c t k n=out++be j n)) ⟨_,_,?_,⟨j,_,_,_,U,U,U,U,⟨by omega,by simp;omega,by have hjn:j=nby n:=z2_;rw [hjn];exact vH z2_⟩⟩⟩ ?_))))
 ·exact g7
 rintro _ _ _ _ ⟨j,out,a9,q,rfl,rfl,rfl,rfl,hj,hol,he⟩;refine az (Sr (Ru 2 U (a_ (Cs U (λhc10=>?_) λhc10=>?_))))
 ·obtain⟨i,rfl⟩:∃ i,j=i+1:=⟨j-1,by omega⟩;refine aA (az (aJ (Rg (Ru 3 U (ah si_ U ?_)))));refine ah jM U ?_;refine ah (RunV.shr U U z2_ (by show _<=((64:Nat):Int);omega)) U ?_;rw [nH n i _ z2_];refine ah (cT (n / 256 ^ i) jA U U) U ?_;refine cF dq pg U U U U U (λb11=>?_);refine bV dq U U bm U dl_ dl_ U (U) z3_ U U (λa12 c12 xs12 hC12 hN12=>?_);obtain rfl:=hC12.u8;refine Ru 1 U (a_ (Rg (Ru 1 U (ah si_ U ?_))));refine Ru 1 U (a_ (⟨_,?_,_,?_,⟨i,_,_,_,U,U,U,U,⟨by omega,by simp;omega,by rw [he,be,List.append_assoc];rfl⟩⟩⟩))
  ·omega
  exact g7
 refine bA (Kp [6] U (Sr (Ru 2 U (a_ ?_))))
 (have hj0:j=0:=z2_);subst hj0;rw [show out=headB c t k n from by rw [he];simp [be]];exact dE ⟨_,[_],_,(ay U U),.cons .here .nil,_,U,_,_,U,U⟩
section
open Go Go.RowKit Go.ChangeShapes Go.WideShapes Go.Lib
theorem ly:prog.cellsOf 5=1:=by kernel_rfl
theorem bytes_u8:0<prog.bytesOf 5:=by rw [show prog.bytesOf 5=1 by kernel_rfl];decide
theorem rT (n:Nat):Opens prog (n+1) 22 (slR u8R 1) 1 (λl=>(l.map λ_=>1).sum+1):=iO Tryz.underlying22 ly bT bytes_u8 (opens_u8 Tryz.underlying5)
theorem tabs_laid {W : World} {l : List (String × DataW Unit)} (h : laidMet prog l W) (m3 : ("unicode/utf8.first", Go.Pinned.utf8First) ∈ l) (m4 : ("unicode/utf8.acceptRanges", acceptData) ∈ l) : Tabs (partOf W) := by
 obtain⟨g,t,cs,fuel,p,hg,hty,hvar,hd⟩:=laidMet.reads h m3;obtain rfl := Option.some.inj ((show prog.globalNamed "unicode/utf8.first" = some 1 by kernel_rfl).symm.trans hg);obtain rfl:=Option.some.inj ((show(prog.globals[1]?).map (·.type)=some 303 by kernel_rfl).symm.trans hty);rw [show Go.Pinned.utf8First=firstData by kernel_rfl] at hd;have hcs:=cells_of_tab Tryz.underlying303 Tryz.underlying5 ly cP hd;have h1:∀ c,c<256->W.cell? ⟨1,c,none⟩=some (.int .u8 (firstT c)):=λc hc=>by
  rw [World.var?_cell hg hvar c,<- Array.getElem?_toList,hcs];simp [firstTab,hc]
 obtain⟨g,t,cs,fuel,p,hg,hty,hvar,hd⟩:=laidMet.reads h m4;obtain rfl := Option.some.inj ((show prog.globalNamed "unicode/utf8.acceptRanges" = some 2 by kernel_rfl).symm.trans hg);obtain rfl:=Option.some.inj ((show(prog.globals[2]?).map (·.type)=some 306 by kernel_rfl).symm.trans hty);have h2:∀ i,i<16->W.cell? ⟨2,2*i,none⟩=some (.int .u8 (accLo i))/\W.cell? ⟨2,2*i+1,none⟩=some (.int .u8 (accHi i)):=λi hi=>by
  obtain⟨fuel',d,q,hdi,he⟩:=array_elem Tryz.underlying306 hd i hi;simp only [List.getElem?_map,List.getElem?_range hi,Option.map_some,aB] at hdi;subst hdi;have hc2:prog.cellsOf 305=2:=by kernel_rfl
  rw [hc2] at he;have hcs:=ints_of_struct Tryz.underlying305 (λj f hj=>by
   match j,hj with
   |0,hj=>simp at hj;subst hj;exact⟨Tryz.underlying5,U,ly⟩
   |1,hj=>simp at hj;subst hj;exact⟨Tryz.underlying5,U,ly⟩
   |j+2,hj=>simp at hj) (by rw [hc2];rfl) he
  have e0:=congrArg (·[0]?) hcs;have e1:=congrArg (·[1]?) hcs;simp only [List.getElem?_take,List.getElem?_drop] at e0 e1;constructor
  ·rw [World.var?_cell hg hvar (2*i),<- Array.getElem?_toList];simpa [Nat.mul_comm] using e0
  ·rw [World.var?_cell hg hvar (2*i+1),<- Array.getElem?_toList];simpa [Nat.mul_comm] using e1
 obtain⟨C1,k1,_⟩:=fE (h1 0 bT);obtain⟨C2,k2,_⟩:=fE (h2 0 bT).1;have same:∀ {b i v C},partOf W b=some C->W.cell? ⟨b,i,none⟩=some v->C[i]?=some v:=λhC hv=>by
  obtain⟨C',hC',hi⟩:=fE hv;rw [hC] at hC';cases hC';exact hi
 exact⟨C1,C2,k1,k2,λc hc=>same k1 (h1 c hc),λi hi=>⟨same k2 (h2 i hi).1,same k2 (h2 i hi).2⟩⟩
theorem finish {H:Type}{enc:TypeId×Value->H}{ts:List TypeId}{F:Nat}{f:Func}{s:ChangeSpec}{apart fresh handsOn again:Bool}{W:World}{args:Array Value}{ds gs:List (DataW H)}{before:List MemPlace}(hp:plainB prog ts=true) (hts:∀ t∈f.params.toList,t∈ts) (hres:f.resultTypes=#[4]) (hv:s.vars=[])
 (hfn:s.fn H (ds++gs)={ results:=[.lit (.bool true)],args:=ds }) (hW:DataW.Whole enc prog f.params.toList s.vars apart W args.toList ds gs before) (hF:Pure prog F args.toList (partOf W) (.bool true)) :
 Calls prog F args W λe W'=>∃ v,e=.returned v/\s.post enc prog f apart fresh handsOn again W args v W':=by
 have:=hF W (ok_start W);rw [Array.toArray_toList] at this;refine this.mono λe w' ⟨h',Lo,⟨u,he,hu,_,_⟩,hO⟩=>?_;subst hu;exact⟨.bool true,he,post_keep hp hts hres Tryz.underlying4 hv hfn hW hO.os hO.output hO.size (λb hb=>hO.old b hb (by simp [keys]))⟩
def layCells (cs:LV):Obj->Obj
 |.cells _ t frozen=>.cells cs.toArray t frozen
 |o=>o
noncomputable def laidWorld (os:Os):World :=
 { World.holding prog os ⟨#[],#[],[]⟩ with heap:=((World.holding prog os ⟨#[],#[],[]⟩).heap.modify 1 (layCells (firstTab.map λz=>Value.int .u8 z))).modify 2 (layCells ((List.range 16).flatMap λi=>[Value.int .u8 (accLo i),Value.int .u8 (accHi i)])) }
end
theorem oA {z:Array Value}{z0:Value}(hz:z=#[z0]) (n:Nat):madeCells z n=(List.replicate n z0).toArray:=by
 subst hz;apply Array.ext
 ·simp [madeCells]
 ·intro i h1 h2;simp [madeCells,Nat.mod_one]
def mkT (P:Program) (T:Nat):Option (Nat×Value×Nat) :=
 match P.underlying T with
 |some (.slice e)=>match P.info? e with
  |some i=>match i.zero with
   |some z=>match z.cells.toList with
    |[z0]=>if i.size=1 then some (e,z0,i.bytes) else none
    |_=>none
   |none=>none
  |none=>none
 |_=>none
theorem mkT_spec {P:Program}{T e bytes:Nat}{z0:Value}(h:mkT P T=some (e,z0,bytes)):P.underlying T=some (.slice e)/\∃ i z,P.info? e=some i/\i.zero=some z/\z.cells=#[z0]/\i.size=1/\i.bytes=bytes:=by
 unfold mkT at h;split at h<;>try cases h
 rename_i e' hT;split at h<;>try cases h
 rename_i i hi;split at h<;>try cases h
 rename_i z hz;split at h<;>try cases h
 rename_i z1 hzc;split at h<;>cases h;rename_i hs;exact⟨hT,i,z,hi,hz,by apply Array.ext';simpa using hzc,hs,U⟩
section
variable {f:Fr}{n:Post}{x:Nat->Post}{S:Sig}{h:Part}{L L':LE}{ops:Array Oper}{rest:LR}
variable {ty:TypeId}{pos:String}{af:Array Edge}{d:Nat}{v:Value}{T:TypeId}{xo yo:Operand}
theorem JL.make1 {e bytes m:Nat}{z0:Value}{k1 k2:IntKind}{p q:Int}(hT:mkT f.P T=some (e,z0,bytes)) (hx:ev S xo=some (.int k1 p)) (hy:ev S yo=some (.int k2 q)) (hp:p=(m:Int)) (hq:q=(m:Int)) (hb:bytes*m<=140737488355328) (hb1:Nat.blt 0 bytes=true) (hd:Nat.blt d f.m=true)
 (k:∀ b,JL f ops n x rest ((d,.slice (some ⟨b,0,none⟩) m m)::S) h (.row (some ⟨b,0,none⟩) m e 1 m (List.replicate m z0)::L)) :
 JL f ops n x (⟨some d,.makeSlice T xo yo,ty,pos,af,none⟩::rest) S h L:=λa w s=>by
 subst hp hq;obtain⟨hu,i,z,hi,hz,hzc,hs,hby⟩:=mkT_spec hT;have hb1':0<bytes:=by simpa using hb1
 have hmb:m<=bytes*m:=Nat.le_mul_of_pos_left _ hb1';have hbi:(i.bytes:Int)*(m:Int)<=281474976710656:=by
  rw [hby];have:((bytes*m:Nat):Int)<=281474976710656:=by omega
  rwa [Int.natCast_mul] at this
 have hr:=run_make (P:=f.P) w T e i z hu hi hz k1 k2 (m:Int) (m:Int) z2_ (Int.le_refl _) hbi z2_;simp only [Int.toNat_natCast,hs,Nat.mul_one,oA hzc] at hr;have hok:=(s.ok.alloc e (List.replicate m z0)).toRow (m:=m) (sz:=1) (by simp) (by simp only [maxLen];omega);refine d8 (v:=.slice (some ⟨w.heap.size,0,none⟩) m m) (w':=w.alloc (.cells (List.replicate m z0).toArray e)) U ?_ (k w.heap.size _ _ (s.put hd _ hok));simp [execOp,s.eval hx,s.eval hy,hr]
theorem JL.rowL {b t:Nat}{cs:LV}{l:LB}(u:Del (.blk b t cs) L L') (hc:cs=u8s l) (hl:l.length<=140737488355328) (k:JL f ops n x rest S h (.row (some ⟨b,0,none⟩) l.length t 1 l.length (u8s l)::L')):JL f ops n x rest S h L:=λac w s=>by
 subst hc;exact k ac w (s.with ((s.ok.perm u.perm).toRow (m:=l.length) (sz:=1) (by simp [u8s]) (by simp only [maxLen];omega)))
theorem kR (m:Nat):List.replicate m (Value.int .u8 0)=u8s (List.replicate m 0):=by simp [u8s]
theorem Ok.row_some {e:Env}{w:World}{a:OA}{c t sz m:Nat}{xs:LV}(k:Ok e h L w) (hm:Ent.row a c t sz m xs∈L) (h0:0<m):∃ g,a=some ⟨g,0,none⟩:=by
 have hown:w.ownsRow 0 t sz (.slice a m c) m xs:=k.own _ hm;rcases hown.2 with ⟨hv,hl⟩|⟨g,cap,cur,hv,_⟩
 ·omega
 ·injection hv with e1 e2 e3;exact⟨g,e1⟩
theorem RunV.index_at {e g ln c m:Nat}{k:IntKind}{i:Int}(hT:slT f.P T=some (e,1)) (hx:ev S xo=some (.slice (some ⟨g,0,none⟩) ln c)) (hy:ev S yo=some (.int k i)) (hi:i=(m:Int)) (h1:m<ln) :
 RunV f S h L (.indexAddr T xo yo) ty (.pointer (some ⟨g,m,none⟩)):=λac w s _ _ _ _=>by
 subst hi;obtain⟨hu,inf,hi,hs⟩:=fN hT;have h0:(0:Int)<=m:=by omega
 have h2:(m:Int)<ln:=by omega
 simp [execOp,s.eval hx,s.eval hy,Instr.indexAt,run_underlying hu,asIntOf,sizeOf,typeInfo,hi,hs,h1,Addr.add_lit]
theorem tk {w:World}{g c t m i:Nat}{xs:LV}(hk:Ok f.e h L w) (hm:Ent.row (some ⟨g,0,none⟩) c t 1 m xs∈L) (hi:i<xs.length):w.cell? ⟨g,i,none⟩=xs[i]?:=by
 have hown:w.ownsRow 0 t 1 (.slice (some ⟨g,0,none⟩) m c) m xs:=hk.own _ hm;have:=World.ownsRow.cells (g:=g) hown U i xs[i] (aW hi);rw [Addr.add_lit,Nat.zero_add] at this;rw [this,aW hi]
theorem RunV.rowload {g c t m i:Nat}{xs:LV}(hT:aggT f.P T=some none) (hx:ev S xo=some (.pointer (some ⟨g,i,none⟩))) (hm:Ent.row (some ⟨g,0,none⟩) c t 1 m xs∈L) (hv:xs[i]?=some v):RunV f S h L (.load T xo) ty v:=λac w s _ _ _ _=>by
 have hc:w.cell? ⟨g,i,none⟩=some v:=by rw [tk s.ok hm (List.getElem?_eq_some_iff.1 hv).1,hv]
 simp [execOp,s.eval hx,Instr.loadAt,Instr.sureAddr,loadVar,(f7 hT w).1,load,Sem.run,hc]
theorem JL.storeRow {g c t m i:Nat}{xs:LV}(hT:aggT f.P T=some none) (hx:ev S xo=some (.pointer (some ⟨g,i,none⟩))) (hy:ev S yo=some v) (hv:v.oneCell'=true) (u:Del (.row (some ⟨g,0,none⟩) c t 1 m xs) L L') (hi:i<xs.length)
 (k:JL f ops n x rest S h (.row (some ⟨g,0,none⟩) c t 1 m (xs.set i v)::L')):JL f ops n x (⟨none,.store T xo yo,ty,pos,af,none⟩::rest) S h L:=λa w s=>by
 have okp:=s.ok.perm u.perm;have hown:w.ownsRow 0 t 1 (.slice (some ⟨g,0,none⟩) m c) m xs:=okp.own _ (aK ..);have hcell:w.cell? ⟨g,i,none⟩=some xs[i]:=by rw [tk s.ok u.mem hi,aW hi]
 rcases hown.2 with ⟨hvv,_⟩|⟨g',cap,cur,hvv,hbg,hg,h1,h2,h3,h4⟩
 ·cases hvv
 ·injection hvv with e1 e2 e3;injection e1 with e1;injection e1 with e1;subst e1 e3;have hxl:xs.length=m:=by simpa using hown.1
  have hf:=frozen_of_row w g i _ t hg;have e1:w.setCell ⟨g,i,none⟩ v=w.setRow g (cur.setIfInBounds i v):=setCell_eq_setRow w g i _ t _ v hg;have hok:Ok f.e h (.row (some ⟨g,0,none⟩) c t 1 m (xs.set i v)::L') (w.setRow g (cur.setIfInBounds i v)):=by
   refine okp.turn U U U (by simp) (λb' _ hne=>setRow_other w g b' _ (λe=>hne (by rw [e];rfl))) ?_ (λb' hb'=>.inl hb');refine⟨by simpa using hown.1,.inr ⟨g,c,_,U,hbg,setRow_heap w g _ _ t _ hg,h1,h2,by simpa using h3,?_⟩⟩;have h4':cur.toList.take m=xs:=by simpa using h4
   simp only [Nat.mul_one,Array.toList_setIfInBounds];rw [List.take_set,h4']
  refine eW (w':=w.setRow g (cur.setIfInBounds i v)) U ?_ (k _ _ (s.with hok));have hcells:v.cells=#[v]:=by cases v<;>first|rfl|(simp [Value.oneCell'] at hv)
  have hst:(store (Addr.add ⟨g,i,none⟩ 0) v).run f.P w=.ok () (w.setRow g (cur.setIfInBounds i v)):=by
   rw [Addr.add_zero',run_store f.P w _ v _ hv,hcell,<- e1];simp [hf]
  simp [execOp,s.eval hx,s.eval hy,Instr.storeAt,Instr.sureAddr,storeVar,(f7 hT w).2,hcells,storeCells,hst]
end
section
variable {f:Fr}{n:Post}{x:Nat->Post}{S:Sig}{h:Part}{L L':LE}{ops:Array Oper}{rest:LR}
variable {ty:TypeId}{pos:String}{af:Array Edge}{d:Nat}{v:Value}{T T2:TypeId}{xo yo:Operand}
def over (xs:LV) (o:Nat) (cs:LV):LV:=xs.take o++cs++xs.drop (o+cs.length)
theorem ij {xs cs:LV}{o:Nat}(h:o+cs.length<=xs.length):(over xs o cs).length=xs.length:=by simp [over];omega
theorem take_over (l cs:LV) (o m:Nat) (hm:m<=l.length) (h:o+cs.length<=m):(l.take o++cs++l.drop (o+cs.length)).take m=over (l.take m) o cs:=by
 unfold over;have e1:(l.take m).take o=l.take o:=by rw [List.take_take,Nat.min_eq_left z2_]
 have e2:(l.take m).drop (o+cs.length)=(l.drop (o+cs.length)).take (m-(o+cs.length)):=by rw [List.drop_take]
 rw [e1,e2,List.take_append,aS (by simp;omega)];congr 2;simp;omega
end
section
variable {f:Fr}{n:Post}{x:Nat->Post}{S:Sig}{h:Part}{L L':LE}{ops:Array Oper}{rest:LR}
variable {ty:TypeId}{pos:String}{af:Array Edge}{d:Nat}{v:Value}{T:TypeId}{xo yo:Operand}
theorem rowA_cell {w:World}{g c t m sz i:Nat}{xs:LV}(hk:Ok f.e h L w) (hm:Ent.row (some ⟨g,0,none⟩) c t sz m xs∈L) (hi:i<xs.length):w.cell? ⟨g,i,none⟩=xs[i]?:=by
 have hown:w.ownsRow 0 t sz (.slice (some ⟨g,0,none⟩) m c) m xs:=hk.own _ hm;have:=World.ownsRow.cells (g:=g) hown U i xs[i] (aW hi);rw [Addr.add_lit,Nat.zero_add] at this;rw [this,aW hi]
theorem RunV.indexA {e g ln c m sz:Nat}{k:IntKind}{i:Int}(hT:slT f.P T=some (e,sz)) (hx:ev S xo=some (.slice (some ⟨g,0,none⟩) ln c)) (hy:ev S yo=some (.int k i)) (hi:i=(m:Int)) (h1:m<ln) :
 RunV f S h L (.indexAddr T xo yo) ty (.pointer (some ⟨g,m*sz,none⟩)):=λac w s _ _ _ _=>by
 subst hi;obtain⟨hu,inf,hi,hs⟩:=fN hT;have h0:(0:Int)<=m:=by omega
 have h2:(m:Int)<ln:=by omega
 simp [execOp,s.eval hx,s.eval hy,Instr.indexAt,run_underlying hu,asIntOf,sizeOf,typeInfo,hi,hs,h1,Addr.add_lit]
abbrev di:=@RunV.indexA
theorem RunV.rowA {g c t m sz o:Nat}{xs:LV}(hT:aggT f.P T=some (some sz)) (hx:ev S xo=some (.pointer (some ⟨g,o,none⟩))) (hm:Ent.row (some ⟨g,0,none⟩) c t sz m xs∈L) (ho:o+sz<=xs.length):RunV f S h L (.load T xo) ty (.agg ((xs.drop o).take sz).toArray):=λac w s _ _ _ _=>by
 have hcl:((xs.drop o).take sz).length=sz:=by simp;omega
 have hld:(loadCells ⟨g,o,none⟩ ((xs.drop o).take sz).length).run f.P w=.ok ((xs.drop o).take sz).toArray w:=run_loadCells_list (P:=f.P) w ⟨g,o,none⟩ _ (λj u hu=>by
  have hlt:j<sz:=by have:=(List.getElem?_eq_some_iff.1 hu).1;omega
  rw [Addr.add_lit,rowA_cell s.ok hm z2_];rw [List.getElem?_take,if_pos hlt,List.getElem?_drop] at hu;exact hu)
 rw [hcl] at hld;simp [execOp,s.eval hx,Instr.loadAt,Instr.sureAddr,loadVar,(dV hT w).1,(dV hT w).2,hld]
abbrev eG:=@RunV.rowA
theorem JL.storeRowA {g c t m sz o:Nat}{xs cs:LV}(hT:aggT f.P T=some (some sz)) (hx:ev S xo=some (.pointer (some ⟨g,o,none⟩))) (hy:ev S yo=some (.agg cs.toArray)) (h1:∀ v∈cs,v.oneCell'=true) (hl:cs.length=sz) (u:Del (.row (some ⟨g,0,none⟩) c t sz m xs) L L') (hi:o+sz<=xs.length)
 (k:JL f ops n x rest S h (.row (some ⟨g,0,none⟩) c t sz m (over xs o cs)::L')):JL f ops n x (⟨none,.store T xo yo,ty,pos,af,none⟩::rest) S h L:=λa w s=>by
 subst hl;have okp:=s.ok.perm u.perm;have hown:w.ownsRow 0 t cs.length (.slice (some ⟨g,0,none⟩) m c) m xs:=okp.own _ (aK ..);rcases hown.2 with ⟨hvv,_⟩|⟨g',cap,cur,hvv,hbg,hg,hh1,h2,h3,h4⟩
 ·cases hvv
 ·injection hvv with e1 e2 e3;injection e1 with e1;injection e1 with e1;subst e1 e3;have hxl:xs.length=m*cs.length:=by simpa using hown.1
  have hmc:m*cs.length<=cur.size:=by
   have:(cur.toList.take (m*cs.length)).length=m*cs.length:=by rw [h4,hxl]
   simp at this;omega
  have hst:=run_storeCells_at (P:=f.P) g o t cs 0 cur w hg z2_ h1;have hok:Ok f.e h (.row (some ⟨g,0,none⟩) c t cs.length m (over xs o cs)::L') (w.setRow g (cur.toList.take o++cs++cur.toList.drop (o+cs.length)).toArray):=by
   refine okp.turn U U U (by simp) (λb' _ hne=>setRow_other w g b' _ (λe=>hne (by rw [e];rfl))) ?_ (λb' hb'=>.inl hb');refine⟨by rw [ij z2_];simpa using hown.1,.inr ⟨g,c,_,U,hbg,setRow_heap w g _ _ t _ hg,hh1,h2,?_,?_⟩⟩
   ·have:=h3;simp at this |-;omega
   ·rw [<- hxl,take_over cur.toList cs o xs.length (by simpa [hxl] using hmc) z2_,hxl,h4]
  refine eW (w':=w.setRow g (cur.toList.take o++cs++cur.toList.drop (o+cs.length)).toArray) U ?_ (k _ _ (s.with hok));simp only [Nat.add_zero] at hst;have hsv:(storeVar T ⟨g,o,none⟩ (.agg cs.toArray)).run f.P w=.ok () (w.setRow g (cur.toList.take o++cs++cur.toList.drop (o+cs.length)).toArray):=by
   have hi2:=(dV hT w).2;unfold sizeOf typeInfo at hi2;cases hq:f.P.info? T with
   |none=>simp [hq] at hi2
   |some q =>
    simp [hq] at hi2;simp [storeVar,sizeOf,typeInfo,hq,Value.cells,hi2,hst]
  simp [execOp,s.eval hx,s.eval hy,Instr.storeAt,Instr.sureAddr,hsv]
theorem RunV.ownSub {b t o sz:Nat}{cs:LV}(hT:aggT f.P T=some (some sz)) (hx:ev S xo=some (.pointer (some ⟨b,o,none⟩))) (hm:Ent.blk b t cs∈L) (ho:o+sz<=cs.length):RunV f S h L (.load T xo) ty (.agg ((cs.drop o).take sz).toArray):=λac w s _ _ _ _=>by
 have hcl:((cs.drop o).take sz).length=sz:=by simp;omega
 have hld:(loadCells ⟨b,o,none⟩ ((cs.drop o).take sz).length).run f.P w=.ok ((cs.drop o).take sz).toArray w:=run_loadCells_list (P:=f.P) w ⟨b,o,none⟩ _ (λj u hu=>by
  have hlt:j<sz:=by have:=(List.getElem?_eq_some_iff.1 hu).1;omega
  rw [Addr.add_lit,lA s.ok hm];rw [List.getElem?_take,if_pos hlt,List.getElem?_drop] at hu;simpa using hu)
 rw [hcl] at hld;simp [execOp,s.eval hx,Instr.loadAt,Instr.sureAddr,loadVar,(dV hT w).1,(dV hT w).2,hld]
theorem JL.rowsm {l0:LR}{a:OA}{c t sz m:Nat}{xs:LV}(hm:Ent.row a c t sz m xs∈L) (h0:0<m) (k:∀ g,a=some ⟨g,0,none⟩->JL f ops n x l0 S h L):JL f ops n x l0 S h L:=λac w s=>by
 obtain⟨g,hg⟩:=s.ok.row_some hm h0;exact k g hg ac w s
end
theorem CellsR.set {α:Type}{R:Rep α}{sz:Nat}{h:Part}{xs cs:LV}{l:List α}{i:Nat}{a:α}(k:CellsR R sz h xs l) (hi:i<l.length) (hl:cs.length=sz) (hR:R h cs a):CellsR R sz h (over xs (i*sz) cs) (l.set i a):=by
 have hb:i*sz+sz<=l.length*sz:=by rw [<- Nat.succ_mul];exact bD sz hi
 have hxl:=k.1;refine⟨by rw [ij z2_,List.length_set];exact hxl,λj y hj=>?_⟩;have hjl:j<l.length:=by have:=(List.getElem?_eq_some_iff.1 hj).1;simpa using this
 by_cases hij:i=j
 ·subst hij;rw [List.getElem?_set_self hi] at hj;injection hj with hj;subst hj;have e:((over xs (i*sz) cs).drop (i*sz)).take sz=cs:=by
   unfold over;rw [List.append_assoc,List.drop_append_of_le_length (by simp;omega),List.drop_take,Nat.sub_self,List.take_zero,List.nil_append,List.take_append_of_le_length z2_,aS z2_]
  rw [e];exact hR
 ·rw [List.getElem?_set_ne hij] at hj;have:=k.2 j y hj;have e:((over xs (i*sz) cs).drop (j*sz)).take sz=(xs.drop (j*sz)).take sz:=by
   apply List.ext_getElem?;intro q;rw [List.getElem?_take,List.getElem?_take];split
   ·rename_i hq;rw [List.getElem?_drop,List.getElem?_drop];unfold over;rcases Nat.lt_or_gt_of_ne hij with h2|h2
    ·have:i*sz+sz<=j*sz:=by rw [<- Nat.succ_mul];exact bD sz h2
     rw [List.getElem?_append_right (by simp;omega),List.getElem?_drop];congr 1;simp;omega
    ·have:j*sz+sz<=i*sz:=by rw [<- Nat.succ_mul];exact bD sz h2
     rw [List.append_assoc,List.getElem?_append_left (by simp;omega),List.getElem?_take,if_pos z2_]
   ·rfl
  rw [e];exact this
theorem CellsR.at {α:Type}{R:Rep α}{sz:Nat}{h:Part}{xs:LV}{l:List α}{i:Nat}(k:CellsR R sz h xs l) (hi:i<l.length):R h ((xs.drop (i*sz)).take sz) l[i]/\i*sz+sz<=xs.length:=by
 refine⟨k.2 i _ (aW hi),?_⟩;rw [k.1,<- Nat.succ_mul];exact bD sz hi
def partsA:Nat->List (LV)->List (Nat×Value)
 |_,[]=>[]
 |k,c::r=>(k,.agg c.toArray)::partsA (k+1) r
theorem uo (sz:Nat):∀ (css:List LV) (A Z:LV) (k:Nat),A.length=k*sz->Z.length=css.length*sz->(∀ c∈css,c.length=sz) ->
 Instr.fill (λi=>some (i*sz,sz)) (A++Z).toArray (partsA k css)=some (A++css.flatten).toArray
 |[],A,Z,k,_,hZ,_=>by
  have:Z=[]:=List.eq_nil_of_length_eq_zero (by simpa using hZ);subst this;rfl
 |c::r,A,Z,k,hA,hZ,hc=>by
  have hc0:c.length=sz:=hc c (aK ..);simp only [aC,Nat.add_mul,Nat.one_mul] at hZ;have key:=gt (k*sz) c (Z.take sz) A (Z.drop sz) 0 (by simpa using hA) (by simp;omega);have ih:=uo sz r (A++c) (Z.drop sz) (k+1) (by simp [Nat.add_mul];omega) (by simp;omega) (λc' hc'=>hc c' (aP _ hc'));have hAZ:A++Z.take sz++Z.drop sz=A++Z:=by rw [List.append_assoc,List.take_append_drop]
  rw [hAZ] at key;have e2:A++(c::r).flatten=A++c++r.flatten:=by simp
  rw [e2,<- ih,<- key,partsA];simp only [Instr.fill,Value.cells,List.size_toArray,hc0,aU,ne_eq,not_true_eq_false,decide_false,Bool.false_or,gt_iff_lt,show ¬ A.length+Z.length<k*sz+sz by omega,c_,if_false];rw [<- Array.toList_zipIdx,Array.foldl_toList]
section
variable {f:Fr}{n:Post}{x:Nat->Post}{S:Sig}{h:Part}{L L':LE}{ops:Array Oper}{rest:LR}
variable {ty:TypeId}{pos:String}{af:Array Edge}{d:Nat}{v:Value}{T:TypeId}{xo yo:Operand}
theorem JL.litAll (css:List LV) {e sz bytes len:Nat}{ps:List (Nat×Operand)}{cs:LV}(hT:apT f.P T=some (e,sz,bytes)) (hp:evs S ps=some (partsA 0 css)) (hlen:len=css.length) (hl:∀ c∈css,c.length=sz) (hcs:css.flatten=cs) (hsz:Nat.ble (len*sz) 16777216=true) (hsz0:Nat.blt 0 (len*sz)=true) (hd:Nat.blt d f.m=true)
 (k:∀ b,JL f ops n x rest ((d,.slice (some ⟨b,0,none⟩) len len)::S) h (.blk b e cs::L)) :
 JL f ops n x (⟨some d,.buildSlice T len ps.toArray,ty,pos,af,none⟩::rest) S h L:=λa w s=>by
 subst hcs;obtain⟨hu,i,z,hi,hzz,hs,_,hzc,h0⟩:=gy hT;have hl':len*sz<=16777216:=by simpa using hsz
 have hl0:0<len*sz:=by simpa using hsz0
 have hmap:Array.map (λp:Nat×Operand=>(p.1,a.eval p.2)) ps.toArray=(partsA 0 css).toArray:=by
  have:=ip s hp;simp [this]
 have hf:=uo sz css [] ((List.range (len*sz)).map (λj=>z.cells[j % z.cells.size]!)) 0 (by simp) (by simp [hlen]) hl;simp only [List.nil_append] at hf;refine d8 (v:=.slice (some ⟨w.heap.size,0,none⟩) len len) (w':=w.alloc (.cells css.flatten.toArray e)) U ?_ (k w.heap.size _ _ (s.put hd _ (s.ok.alloc e css.flatten)));simp only [execOp,Instr.buildSlice,Sem.run_bind,run_underlying hu,Result.andThen,sizeOf,typeInfo];have hrow:(Array.range (len*sz)).map (λj=>z.cells[j % z.cells.size]!)=((List.range (len*sz)).map (λj=>z.cells[j % z.cells.size]!)).toArray:=by
  apply Array.ext<;>simp
 simp [hi,hs,show ¬ 16777216<len*sz by omega,show ¬ len*sz=0 by omega,zeroValue,typeInfo,hzz,newRow,newObj,Sem.run,hmap];rw [hrow,hf];simp [Sem.run]
def arZ (P:Program) (T:Nat):Option (LV×Nat) :=
 match P.info? T,P.underlying T with
 |some it,some (.array _ e)=>match it.zero,P.info? e with
  |some z,some ie=>some (z.cells.toList,ie.size)
  |_,_=>none
 |_,_=>none
theorem RunV.buildArr {zs cs:LV}{vs:List (Nat×Value)}{ps:List (Nat×Operand)}(hT:arZ f.P T=some (zs,1)) (hp:evs S ps=some vs) (hv:(vs.all λp=>p.2.oneCell'&&Nat.blt p.1 zs.length)=true) (hf:fill1 zs vs=cs) :
 RunV f S h L (.build T ps.toArray) ty (.agg cs.toArray):=λa w s _ _ _ _=>by
 have hb:f.P.built T vs=some cs.toArray:=by
  unfold arZ at hT;unfold Program.built;split at hT<;>try cases hT
  rename_i it nn e hi hu;split at hT<;>try cases hT
  rename_i z ie hz hie;simp only [aB,Prod.mk.injEq] at hT;obtain⟨rfl,h1⟩:=hT;simp only [hi,hu,hz,hie,h1];have:=oJ vs _ hv;rw [hf] at this;simpa using this
 have hm:Array.map (λp:Nat×Operand=>(p.1,a.eval p.2)) ps.toArray=vs.toArray:=by simp [ip s hp]
 have:=run_build (P:=f.P) w T vs.toArray cs.toArray (by simpa using hb);simp [execOp,hm,this]
end
def JH (f:Fr) (ops:Array Oper) (n:Post) (x:Nat->Post) (h0:Part) (L0:LE) (fuel:Nat) (listed:Array Bool):Post:=λS h L =>
 ∀ a w,Sat f.e f.m S h L a w->wpAnyH f.P .any ops (f.Q n x) (λw=>Ok f.e h0 L0 w) fuel listed a w
theorem Ok.bridge {e:Env}{h h0:Part}{Li L Lr:LE}(p:Parts Li L Lr) (hle:h0.le h) (h00:e.h0.le h0) (w:World) (k:Ok e h L w):Ok e h0 Li w:=(p.ok w k).shrink hle h00
section
variable {f:Fr}{n:Post}{x:Nat->Post}{S:Sig}{h h0:Part}{L L0:LE}{ops:Array Oper}{fuel i j d:Nat}{listed:Array Bool}
variable {q:Op}{ty:TypeId}{pos:String}{af:Array Edge}{v:Value}{o o2:Oper}
theorem J.held {id:Nat}{l:LR}(L0:LE) (N:Nat) (hm:f.P.follows .mixedOrders=true) (hN:l.length=N) (k:f.e.h0.le h->JH f l.toArray n x h L0 N (Array.replicate N false) S h L):J f (.region id l.toArray true) n x S h L:=λa w s=>by
 subst hN;refine wp_region_held (S:=λw=>Ok f.e h L0 w) hm ?_;have:=k s.ok.le a { w with drawn:=w.drawn+1 } (s.with (s.ok.drawn _));simpa using this
theorem JH.take (i:Nat) (hi:ops[i]?=some ⟨some d,q,ty,pos,af,none⟩) (hs:Region.noSelect ops=true) (hf:Region.free .any ops listed i=true) (hr:(Region.ready .any ops listed).contains i=true)
 (hp:∀ c S h L,f.p c S h L->f.p c [] h L) (hb:∀ w,Ok f.e h L w->Ok f.e h0 L0 w) (r:RunV f S h0 L0 q ty v) (hd:Nat.blt d f.m=true) (k:JH f ops n x h0 L0 fuel (listed.setIfInBounds i true) ((d,v)::S) h L) :
 JH f ops n x h0 L0 (fuel+1) listed S h L:=λa w s=>by
 refine wpAnyH_take (v:=v) hi hs hf hr (λc a w hq=>?_) ?_ (hb w s.ok) (k _ w (s.put hd v s.ok))
 ·obtain⟨S',h',L',s',k'⟩:=hq;refine⟨[],h',L',⟨?_,λs v hv=>by simp [look] at hv,?_,s'.ok⟩,hp _ _ _ _ k'⟩
  ·have:=s'.size;simpa [Act.put] using this
  ·have:=s'.ds;simpa [Act.put] using this
 ·exact .inl ⟨by simp [Region.wanted],λw' hw'=>r a w' (s.with hw') _ _ _ _⟩
theorem JH.takeE {V:Value->Prop}(i:Nat) (hi:ops[i]?=some ⟨some d,q,ty,pos,af,none⟩) (hs:Region.noSelect ops=true) (hf:Region.free .any ops listed i=true) (hr:(Region.ready .any ops listed).contains i=true)
 (hp:∀ c S h L,f.p c S h L->f.p c [] h L) (hb:∀ w,Ok f.e h L w->Ok f.e h0 L0 w) (r:RunE f S h0 L0 q ty V) (hd:Nat.blt d f.m=true) (k:∀ v,V v->JH f ops n x h0 L0 fuel (listed.setIfInBounds i true) ((d,v)::S) h L) :
 JH f ops n x h0 L0 (fuel+1) listed S h L:=by
 obtain⟨v,r,hv⟩:=r;exact JH.take i hi hs hf hr hp hb r hd (k v hv)
theorem sU {P:Program}{o:Oper}{a:Act}{w:World}{K K':Act->World->Prop}{Q Q':Exit->Act->World->Prop}(hK:∀ a w,K a w->K' a w) (hp:∀ c a w,Q (.panic c) a w->Q' (.panic c) a w) (ho:∀ a w,¬ Q .outgrown a w) (hh:o.wp P a w K Q):o.wp P a w K' Q':=by
 unfold Oper.wp at *;generalize (execOp a.eval o).run P w=r at *;cases r with
 |ok n w' =>
  cases n<;>simp only [Oper.upon] at hh |- <;>
   first
    |exact hK _ _ hh
    |exact Calls.mono hh (λe w'' he=>by cases e<;>first|exact hK _ _ he|exact hp _ _ _ he|exact(let ⟨a1,w1,h1⟩:=he;(ho a1 w1 h1).elim))
    |exact Rows.mono hh (λ_ _ he=>hK _ _ he)
    |exact hh
 |halt x w'=>cases x<;>simp only [Oper.upon] at hh |-<;>first|exact hp _ _ _ hh|exact(let ⟨a1,w1,h1⟩:=hh;(ho a1 w1 h1).elim)|exact hh
def One (f:Fr) (ops:Array Oper) (n:Post) (x:Nat->Post) (h0:Part) (L0:LE) (fuel:Nat) (listed:Array Bool) (i:Nat) (o:Oper):Post:=λS h L =>
 JL f ops (λS' h' L'=>(∀ w,Ok f.e h' L' w->Ok f.e h0 L0 w)/\JH f ops n x h0 L0 fuel (listed.setIfInBounds i true) S' h' L') x [o] S h L
theorem One.wp (hi:ops[i]?=some o) (k:One f ops n x h0 L0 fuel listed i o S h L) (a:Act) (w:World) (s:Sat f.e f.m S h L a w) :
 wpOp f.P ops (f.Q n x) i (λa' w'=>Ok f.e h0 L0 w'/\wpAnyH f.P .any ops (f.Q n x) (λw=>Ok f.e h0 L0 w) fuel (listed.setIfInBounds i true) a' w') a w:=by
 have hk:=k a w s;have fin:∀ a w,(f.Q (λS' h' L'=>(∀ w,Ok f.e h' L' w->Ok f.e h0 L0 w)/\JH f ops n x h0 L0 fuel (listed.setIfInBounds i true) S' h' L') x) .normal a w->Ok f.e h0 L0 w/\wpAnyH f.P .any ops (f.Q n x) (λw=>Ok f.e h0 L0 w) fuel (listed.setIfInBounds i true) a w:=λa w hq=>by
  obtain⟨S',h',L',s',hb,k'⟩:=hq;exact⟨hb w s'.ok,k' a w s'⟩
 unfold wpList at hk;unfold wpOp;simp only [hi];split
 ·rename_i hw;rw [if_pos hw] at hk;rcases hk with hk|⟨_,a',w',hh⟩
  ·exact .inl (sU (λa w hq=>fin a w (by simpa [wpList] using hq)) (λc a w hq=>hq) (λa w hh=>hh) hk)
  ·exact hh.elim
 ·rename_i hw;rw [if_neg hw] at hk;exact fin _ _ (by simpa [wpList] using hk)
theorem JH.all1 (i:Nat) (hr:Region.ready .any ops listed=[i]) (hi:ops[i]?=some o) (k:One f ops n x h0 L0 fuel listed i o S h L):JH f ops n x h0 L0 (fuel+1) listed S h L:=λa w s =>
 wpAnyH_all hr (by simp) λi' hi'=>by
  simp only [List.mem_singleton] at hi';subst hi';exact k.wp hi a w s
theorem JH.all2 (i j:Nat) (hr:Region.ready .any ops listed=[i,j]) (hi:ops[i]?=some o) (hj:ops[j]?=some o2) (k1:One f ops n x h0 L0 fuel listed i o S h L) (k2:One f ops n x h0 L0 fuel listed j o2 S h L):JH f ops n x h0 L0 (fuel+1) listed S h L:=λa w s =>
 wpAnyH_all hr (by simp) λi' hi'=>by
  simp only [List.mem_cons,List.not_mem_nil,or_false] at hi';rcases hi' with rfl|rfl
  ·exact k1.wp hi a w s
  ·exact k2.wp hj a w s
theorem JH.done (hr:Region.ready .any ops listed=[]) (k:n S h L):JH f ops n x h0 L0 fuel listed S h L:=λa w s=>wpAnyH_done hr ⟨S,h,L,s,k⟩ fuel
abbrev cy:=@JH.done
end
theorem br_ {e:Env}{h h0:Part}{L Li Lr:LE}(h00:e.h0.le h0) (p:Parts Li L Lr:=by repeat first|exact Parts.nil|exact Del.here|apply Del.there|apply Parts.cons) (q:h0.le h:=by first|exact aT _|assumption|(repeat (first|assumption|refine Part.le.trans z7_ ?_))):∀ w,Ok e h L w->Ok e h0 Li w:=Ok.bridge p q h00
section
variable {f:Fr}{n:Post}{x:Nat->Post}{S:Sig}{h h0:Part}{L L0:LE}{ops:Array Oper}{fuel d:Nat}{listed:Array Bool}{q:Op}{ty:TypeId}{pos:String}{af:Array Edge}{v:Value}{o:Oper}{j dj:Nat}{b:Bool}
theorem Tk (i:Nat) (hi:ops[i]?=some ⟨some d,q,ty,pos,af,none⟩) (r:RunV f S h0 L0 q ty v) (k:JH f ops n x h0 L0 fuel (listed.setIfInBounds i true) ((d,v)::S) h L) (hb:∀ w,Ok f.e h L w->Ok f.e h0 L0 w:=by exact br_ z7_) (hs:Region.noSelect ops=true:=by kernel_rfl) (hf:Region.free .any ops listed i=true:=by kernel_rfl) (hr:(Region.ready .any ops listed).contains i=true:=by kernel_rfl) (hp:∀ c S h L,f.p c S h L->f.p c [] h L:=by exact λ_ _ _ _ hh=>hh) (hd:Nat.blt d f.m=true:=by rfl):JH f ops n x h0 L0 (fuel+1) listed S h L:=JH.take i hi hs hf hr hp hb r hd k
theorem Te {V:Value->Prop}(i:Nat) (hi:ops[i]?=some ⟨some d,q,ty,pos,af,none⟩) (r:RunE f S h0 L0 q ty V) (k:∀ v,V v->JH f ops n x h0 L0 fuel (listed.setIfInBounds i true) ((d,v)::S) h L) (hb:∀ w,Ok f.e h L w->Ok f.e h0 L0 w:=by exact br_ z7_) (hs:Region.noSelect ops=true:=by kernel_rfl) (hf:Region.free .any ops listed i=true:=by kernel_rfl) (hr:(Region.ready .any ops listed).contains i=true:=by kernel_rfl) (hp:∀ c S h L,f.p c S h L->f.p c [] h L:=by exact λ_ _ _ _ hh=>hh) (hd:Nat.blt d f.m=true:=by rfl):JH f ops n x h0 L0 (fuel+1) listed S h L:=JH.takeE i hi hs hf hr hp hb r hd k
theorem Ta (i:Nat) (hi:ops[i]?=some o) (k:One f ops n x h0 L0 fuel listed i o S h L) (hr:Region.ready .any ops listed=[i]:=by kernel_rfl):JH f ops n x h0 L0 (fuel+1) listed S h L:=JH.all1 i hr hi k
end
section
variable {f:Fr}{S:Sig}{h:Part}{L:LE}{ty T:TypeId}{xo:Operand}
def fld1 (P:Program) (T i:Nat):Option Nat :=
 match P.underlying T with
 |some (.struct fs)=>match fs[i]? with
  |some g=>if aggT P g.type == some none then some g.offset else none
  |none=>none
 |_=>none
theorem RunV.field1 {i o:Nat}{cs:LV}{v:Value}(hT:fld1 f.P T i=some o) (hx:ev S xo=some (.agg cs.toArray)) (hv:cs[o]?=some v):RunV f S h L (.field T xo i) ty v:=λa w s _ _ _ _=>by
 unfold fld1 at hT;split at hT<;>try cases hT
 rename_i fs hu;split at hT<;>try cases hT
 rename_i g hg;split at hT<;>cases hT;rename_i he;have ⟨e1,e2⟩:=f7 (by simpa using he:aggT f.P g.type=some none) w;simp [execOp,s.eval hx,Instr.field,run_underlying hu,hg,part,e1,hv,asAgg]
end
theorem z4_ {p:Prop}(u:p:=by first|rfl|exact NdR.len5 (by assumption)):p:=u
theorem f9 {p:Prop}(u:p:=by first|rfl|assumption|exact NdR.len5 z7_):p:=u
theorem qW {p:Prop}(u:p:=by repeat (first|exact trivial|refine⟨rfl,?_⟩|refine⟨(by exact cV (by cases k<;>simp_all [okN,Nd.cls,Nd.tag,Nd.cons])),?_⟩)):p:=u
theorem f8 {p:Prop}(u:p:=by first|rfl|exact NdR.all1 z7_):p:=u
theorem z45_ {p:Prop}(u:p:=by repeat (first|exact trivial|refine⟨rfl,?_⟩|refine⟨(by exact cV (by cases kbad<;>simp_all)),?_⟩)):p:=u
theorem ca_109:callT prog 109=true:=by kernel_rfl
theorem qO:callT prog 110=true:=by kernel_rfl
theorem ca_111:callT prog 111=true:=by kernel_rfl
theorem ca_59:callT prog 59=true:=by kernel_rfl
theorem ca_87:callT prog 87=true:=by kernel_rfl
theorem eF:zeroT prog 35=some [.int .i64 0,.int .i64 0,.bool false,.slice none 0 0,.slice none 0 0]:=by kernel_rfl
theorem pC {h:Part}{w:World}(s:Sub h w) {a b:OA}{c d:Nat}{l r:LB}(hl:SlR u8R 1 h a c l) (hr:SlR u8R 1 h b d r) :
 (callFunc 144 #[.slice a l.length c,.slice b r.length d]).run prog w=.ok (.value (.int .i64 (Go.Lib.compareBytes l r))) w:=by
 rw [run_callFunc_extern func144 cP cP cP (e:=Extern.BytealgCompare.compare) cP,pB s hl hr];rfl
theorem eZ {a b:OA}{c d:Nat}{l r:LB}{h:Part}(hl:SlR u8R 1 h a c l) (hr:SlR u8R 1 h b d r):Pure prog 87 [.slice a l.length c,.slice b r.length d] h (.int .i64 (Go.Lib.compareBytes l r)):=by
 refine aM func87 U ntmps87 U (λe he=>?_);refine bg [(0,_),(1,_)] ⟨U,U,trivial⟩ ?_;refine Sr (Ru 1 U (a_ (Sr (Ru 2 U (ah (RunV.callX U (λw hw=>pC hw hl hr)) U ?_)))));exact Ru 1 U (Nk [4] U (aH (ay U U) U U))
def okN (c t:Int) (k:Bool) (bs:LB) (ks:LN):Bool :=
 mayB c t k&&(!(k&&decide (0<bs.length))&&(!(!k&&decide (0<ks.length))&&!(decide (c=0)&&(!k&&!valB t bs))))
def aboveB:Option (LB)->LB->Bool
 |none,_=>false
 |some l,b=>decide (0<Go.Lib.compareBytes l b)
mutual
def Nd.put:Nd->Option LB
 |.mk c t k bs ks=>if okN c t k bs ks then(Nd.putL (decide (c=0)&&decide (t=17)) ks none bs).map (λb=>headB c t k b.length++b) else none
def Nd.putL:Bool->LN->Option (LB)->LB->Option LB
 |_,[],_,acc=>some acc
 |set,x::r,last,acc=>match Nd.put x with
  |none=>none
  |some b=>if set&&aboveB last b then none else Nd.putL set r (some b) (acc++b)
end
theorem g9 (c t:Int) (k:Bool) (n:Nat):2<=(headB c t k n).length/\(headB c t k n).length<=8:=by
 have:=mg n;unfold headB lenB;split
 ·simp
 ·simp [jJ];omega
theorem Nd.put_len:∀ (n:Nat) (x:Nd) (b:LB),x.rk<=n->x.put=some b->2<=b.length/\b.length<=8*x.sz:=by
 intro n
 induction n with
 |zero=>intro x b hx;cases x;simp [Nd.rk] at hx
 |succ n ih =>
  intro x b hx hb;cases x with
  |mk c t k bs ks =>
   simp only [Nd.rk] at hx;have key:∀ (l:LN) (set:Bool) (last:Option LB) (acc b:LB),Nd.rkL l<=n->Nd.putL set l last acc=some b->b.length<=acc.length+8*Nd.szL l:=by
    intro l
    induction l with
    |nil=>intro set last acc b _ hb;simp only [Nd.putL,aB] at hb;subst hb;simp [Nd.szL]
    |cons y r ihr =>
     intro set last acc b hl hb;simp only [Nd.rkL] at hl;simp only [Nd.putL] at hb;split at hb
     ·cases hb
     ·rename_i b1 hb1;split at hb
      ·cases hb
      ·have h1:=ih y b1 z2_ hb1;have h2:=ihr _ _ _ _ z2_ hb;simp only [Nd.szL,aU] at h2 |-
       omega
   simp only [Nd.put] at hb;split at hb
   ·cases hp:Nd.putL (decide (c=0)&&decide (t=17)) ks none bs with
    |none=>simp [hp] at hb
    |some b1 =>
     simp only [hp,Option.map_some,aB] at hb;subst hb;have h1:=key ks _ _ _ _ z2_ hp;have h2:=g9 c t k b1.length;simp only [aU,Nd.sz];omega
   ·cases hb
abbrev dF:=@Nd.put_len
theorem Nd.szL_take (l:LN) (i:Nat) (h:i<l.length):Nd.szL (l.take (i+1))=Nd.szL (l.take i)+l[i].sz:=by
 rw [am h,Nd.szL_append];simp [Nd.szL]
theorem Nd.szL_take_le (l:LN) (i:Nat):Nd.szL (l.take i)<=Nd.szL l:=by
 have:=Nd.szL_append (l.take i) (l.drop i);rw [List.take_append_drop] at this;omega
def PutR (x:Nd) (bw:Nat) (d0 deep:Int):Value->Part->LE->Prop:=λv h' Lo =>
 ∃ (b:LB) (a:OA) (c:Nat) (d1:Int) (bad:Bool),v=.slice a b.length c/\SlR u8R 1 h' a c b/\Lo=[.blk bw 110 [.int .i64 d1,.bool bad]] /\
  (bad=true->x.put=none)/\(bad=false->x.put=some b/\d1=max d0 (deep+x.rk-1))
theorem Nd.putL_step (set:Bool) (ks:LN) (i:Nat) (last:Option LB) (acc:LB) (hi:i<ks.length) :
 Nd.putL set (ks.drop i) last acc=match Nd.put ks[i] with
  |none=>none
  |some b=>if set&&aboveB last b then none else Nd.putL set (ks.drop (i+1)) (some b) (acc++b):=by
 rw [aX hi];rfl
theorem lE (i:Nat) (l b:LB):aboveB (if i=0 then none else some l) b=(decide ((0:Int)<i)&&decide (0<Go.Lib.compareBytes l b)):=by
 by_cases h:i=0
 ·subst h;rfl
 ·rw [if_neg h,aj (show(0:Int)<i by omega)];rfl
theorem okN_may {c t:Int}{k:Bool}{bs:LB}{ks:LN}(h:okN c t k bs ks=true):(c=0\/c=2)/\0<=t/\t<=30:=by
 unfold okN mayB at h;simp only [Bool.and_eq_true,Bool.or_eq_true,ax] at h;obtain⟨⟨h1,h2⟩,_⟩:=h;exact⟨by rcases h2 with h2|h2;exact .inr h2;exact .inl h2.1,h1⟩
theorem put_fn:∀ (n:Nat) (x:Nd) (cs:LV) (h:Part) (bw:Nat) (d0 deep:Int),x.rk<=n->NdR h cs x->Tabs h->x.sz<=1073741824->0<=deep->deep+x.rk<=1099511627776 ->
 Fn prog 59 [.pointer (some ⟨bw,0,none⟩),.agg cs.toArray,.int .i64 deep] h [.blk bw 110 [.int .i64 d0,.bool false]] (Rets (PutR x bw d0 deep)):=by
 intro n
 induction n with
 |zero=>intro x cs h bw d0 deep hx;cases x;simp [Nd.rk] at hx
 |succ n ih =>
 intro x cs h bw d0 deep hx r hT hsz hd0 hd1;cases x with
 |mk c t k bs ks =>
 obtain⟨a,ca,b,cb,rfl,ha,hb⟩:=r.inv;have hl:=hb.big;have hl2:=ha.big;simp only [Nd.rk] at hx hd1;simp only [Nd.sz] at hsz;have hkr:∀ i (hi:i<ks.length),(ks[i].rk<=n/\ks[i].rk<=Nd.rkL ks)/\ks[i].sz<=Nd.szL ks:=λi hi=>⟨⟨by have:=Nd.rk_lt (aF hi);omega,Nd.rk_lt (aF hi)⟩,Nd.sz_le (aF hi)⟩;refine aM func59 U ntmps59 U (λe he=>?_);refine bg [(0,_),(1,_),(2,_)] ⟨U,U,U,trivial⟩ ?_;refine Sr (dh U U U (λb1=>?_));refine Ru 1 U (a_ (Sr (Ru 4 U (ah (aw dI U mm_ U) U ?_))));refine Ru 1 U (ah (RunV.max2 U U) U ?_);refine Ru 2 U (bK dI U U U dl_ fL ?_);refine Nk [6,4,0,2] U (az (az (cJ [(62,.bool (!okN c t k bs ks))] [(6,_),(4,_),(0,_),(2,_)] ⟨U,U,U,U,trivial⟩ ?_ ?_)))
 ·refine Rg (ah (bJ bP U mm_ z4_) U ?_);refine bh ca_109 U (pmay_fn z7_) U ?_;refine Ru 2 U (Bs 24 U (λhc3=>?_) λhc3=>?_)
  ·refine Ru 38 U (a_ (⟨U,U,?_⟩));exact qW
  refine Ru 1 U (aQ U U  (aw kC U mm_ U) U ?_);refine Ru 1 U (Bs 27 U (λhc4=>?_) λhc4=>?_)
  ·refine Ru 1 U (aQ U U  (aw dt U mm_ U) U ?_);refine Ru 5 U (Bs 34 U (λhc5=>?_) λhc5=>?_)
   ·refine Ru 28 U (a_ (⟨U,U,?_⟩));exact qW
   refine Ru 1 U (aQ U U  (aw kC U mm_ U) U ?_);refine Ru 2 U (Bs 38 U (λhc6=>?_) λhc6=>?_)
   ·refine Ru 1 U (aQ U U  (aw dz U mm_ U) U ?_);refine Ru 5 U (Bs 45 U (λhc7=>?_) λhc7=>?_)
    ·refine Ru 17 U (a_ (⟨U,U,?_⟩));exact qW
    refine Ru 1 U (aQ U U  (aw dI U mm_ U) U ?_);refine Ru 2 U (Bs 49 U (λhc8=>?_) λhc8=>?_)
    ·refine Ru 1 U (aQ U U  (aw kC U mm_ U) U ?_);refine Ru 3 U (Bs 54 U (λhc9=>?_) λhc9=>?_)
     ·refine Ru 1 U (aQ U U  (aw dI U mm_ U) U ?_);refine Ru 1 U (aQ U U  (aw dt U mm_ U) U ?_);refine cG U U  qO U (j7 z7_ z7_ z2_) U ?_;refine Ru 3 U (a_ (⟨U,U,?_⟩));exact qW
     refine Ru 8 U (a_ (⟨U,U,?_⟩));exact qW
    refine Ru 13 U (a_ (⟨U,U,?_⟩));exact qW
   refine Ru 8 U (aQ U U  (aw dI U mm_ U) U ?_);refine Ru 2 U (Bs 49 U (λhc11=>?_) λhc11=>?_)
   ·refine Ru 1 U (aQ U U  (aw kC U mm_ U) U ?_);refine Ru 3 U (Bs 54 U (λhc12=>?_) λhc12=>?_)
    ·refine Ru 1 U (aQ U U  (aw dI U mm_ U) U ?_);refine Ru 1 U (aQ U U  (aw dt U mm_ U) U ?_);refine cG U U  qO U (j7 z7_ z7_ z2_) U ?_;refine Ru 3 U (a_ (⟨U,U,?_⟩));exact qW
    refine Ru 8 U (a_ (⟨U,U,?_⟩));exact qW
   refine Ru 13 U (a_ (⟨U,U,?_⟩));exact qW
  refine Ru 8 U (aQ U U  (aw kC U mm_ U) U ?_);refine Ru 2 U (Bs 38 U (λhc14=>?_) λhc14=>?_)
  ·refine Ru 1 U (aQ U U  (aw dz U mm_ U) U ?_);refine Ru 5 U (Bs 45 U (λhc15=>?_) λhc15=>?_)
   ·refine Ru 17 U (a_ (⟨U,U,?_⟩));exact qW
   refine Ru 1 U (aQ U U  (aw dI U mm_ U) U ?_);refine Ru 2 U (Bs 49 U (λhc16=>?_) λhc16=>?_)
   ·refine Ru 1 U (aQ U U  (aw kC U mm_ U) U ?_);refine Ru 3 U (Bs 54 U (λhc17=>?_) λhc17=>?_)
    ·refine Ru 1 U (aQ U U  (aw dI U mm_ U) U ?_);refine Ru 1 U (aQ U U  (aw dt U mm_ U) U ?_);refine cG U U  qO U (j7 z7_ z7_ z2_) U ?_;refine Ru 3 U (a_ (⟨U,U,?_⟩));exact qW
    refine Ru 8 U (a_ (⟨U,U,?_⟩));exact qW
   refine Ru 13 U (a_ (⟨U,U,?_⟩));exact qW
  refine Ru 8 U (aQ U U  (aw dI U mm_ U) U ?_);refine Ru 2 U (Bs 49 U (λhc19=>?_) λhc19=>?_)
  ·refine Ru 1 U (aQ U U  (aw kC U mm_ U) U ?_);refine Ru 3 U (Bs 54 U (λhc20=>?_) λhc20=>?_)
   ·refine Ru 1 U (aQ U U  (aw dI U mm_ U) U ?_);refine Ru 1 U (aQ U U  (aw dt U mm_ U) U ?_);refine cG U U  qO U (j7 z7_ z7_ z2_) U ?_;refine Ru 3 U (a_ (⟨U,U,?_⟩));exact qW
   refine Ru 8 U (a_ (⟨U,U,?_⟩));exact qW
  refine Ru 13 U (a_ (⟨U,U,?_⟩));exact qW
 refine Cs U (λhc22=>?_) λhc22=>?_
 ·refine Sr (Ru 3 U (bK kC U U U dl_ fL ?_));exact Nk [6,4,0,2] U (Sr (Ru 1 U (a_ (dE ⟨_,[_],_,(ay U U),.cons dl_ .nil,_,U,[],none,0,_,true,U,bu,U,(λ_=>by simp only [Nd.put];rw [hc22];rfl),(λhh=>by cases hh)⟩))))
 have hok:okN c t k bs ks=true:=hc22;have hmm:=okN_may hok;refine aA (Sr (Ru 1 U (ah (aw dt U mm_ U) U ?_)));refine Ru 1 U (a_ (Sr (Ru 1 U (a_ (az (Sr (Ru 1 U (ah (aw dz U mm_ U) U ?_))))))));refine Ru 2 U (Nk [71,70,69,8,7,6,4,0,2] U (aJ (bM (λt_ S_ h_ L_=>∃ (g:Part) (i:Nat) (inB lb:LB) (ai la:OA) (ci lc:Nat) (d:Int),t_=ks.length-i/\S_=[(0,.pointer (some ⟨bw,0,none⟩)),(2,.int .i64 deep),(4,.pointer (some ⟨b1,0,none⟩)),(7,.slice ai inB.length ci),(8,.slice la lb.length lc),(69,.slice b ks.length cb),(70,.int .i64 ks.length),(71,.int .i64 i)]/\g=h_/\L_=[.blk bw 110 [.int .i64 d,.bool false],.blk b1 35 [.int .i64 c,.int .i64 t,.bool k,.slice a bs.length ca,.slice b ks.length cb]]/\(h.le g/\i<=ks.length/\SlR u8R 1 g ai ci inB/\SlR u8R 1 g la lc lb/\inB.length<=bs.length+8*Nd.szL (ks.take i)/\d=max (max d0 deep) (deep+Nd.rkL (ks.take i))/\Nd.putL (decide (c=0)&&decide (t=17)) ks none bs=Nd.putL (decide (c=0)&&decide (t=17)) (ks.drop i) (if i=0 then none else some lb) inB)) ⟨_,_,?_,⟨_,0,bs,[],_,_,_,_,_,U,U,U,U,⟨aT _,by omega,ha,bu,by omega,by simp [Nd.rkL];(try omega),U⟩⟩⟩ ?_)))
 ·exact z6_
 rintro _ _ _ _ ⟨g,i,inB,lb,ai,la,ci,lc,d,rfl,rfl,rfl,rfl,hhg,hi,hin,hla,hil,hd,hp⟩;have r:=r.mono hhg;have hT:=hT.mono hhg;have ha:=ha.mono hhg;have hb:=hb.mono hhg;have hst:=Nd.szL_take_le ks i;refine Sr (Ru 1 U (a_ (az (Cs U (λhc23=>?_) λhc23=>?_))))
 ·have hi':i<ks.length:=z2_;have hrt:=Nd.rkL_take ks i hi';have hzt:=Nd.szL_take ks i hi';have hst2:=Nd.szL_take_le ks (i+1);have hrz:=Nd.rkL_le_szL ks;have hrl:=Nd.rkL_le ks i;refine aA (az (aJ (Sr (Ru 1 U (cm (aI gJ U U z9_ z7_ U z2_) U ?_)))));rintro _ ⟨b24,o24,hi24,rfl,hE24⟩;refine cm (dw bP U z7_) U ?_;rintro _ ⟨_,rfl,hNd25⟩;refine bI eF U (λb26=>?_);refine Ru 1 U (aV bP U U dl_ f8 f9 z4_ ?_);refine a_ (Sr (Ru 1 U (ah (bJ bP U mm_ z4_) U ?_)));refine Ru 1 U (ah ai_ U ?_);refine d6 ca_59 U (ih (ks[i]'z2_) _ _ _ _ _ (hkr i z2_).1.1 z7_ hT (by have:=(hkr i z2_).2;omega) z2_ (by have:=(hkr i z2_).1.2;omega)) pt_ U ?_;rintro _ h27 Lo27 hle27 ⟨kb,ka,kc,kd,kbad,rfl,hkS,rfl,hkf,hkt⟩
  replace r:=r.mono hle27
  replace hT:=hT.mono hle27
  replace ha:=ha.mono hle27
  replace hb:=hb.mono hle27
  replace hhg:=hhg.mono hle27
  replace hin:=hin.mono hle27
  replace hla:=hla.mono hle27
  replace hNd25:=hNd25.mono hle27
  refine Ru 1 U (a_ (az (az (cJ [(104,.bool (kbad||((decide (c=0)&&decide (t=17))&&(decide ((0:Int)<i)&&decide (0<Go.Lib.compareBytes lb kb)))))] [(11,_),(80,_),(79,_),(78,_),(77,_),(76,_),(9,_),(10,_),(75,_),(74,_),(73,_),(72,_),(0,_),(2,_),(4,_),(7,_),(8,_),(69,_),(70,_),(71,_)] ⟨U,U,U,U,U,U,U,U,U,U,U,U,U,U,U,U,U,U,U,U,trivial⟩ ?_ ?_))))
  ·refine Rg (Ru 3 U (ah (aw kC U mm_ U) U ?_));refine Ru 1 U (Bs 85 U (λhc28=>?_) λhc28=>?_)
   ·refine Ru 19 U (a_ (⟨U,U,?_⟩));exact z45_
   refine Ru 1 U (aQ U U  (aw dI U mm_ U) U ?_);refine Ru 2 U (Bs 89 U (λhc29=>?_) λhc29=>?_)
   ·refine Ru 1 U (aQ U U  (aw dI U mm_ U) U ?_);refine Ru 3 U (Bs 94 U (λhc30=>?_) λhc30=>?_)
    ·refine Ru 4 U (Bs 98 U (λhc31=>?_) λhc31=>?_)
     ·refine Ru 2 U (cG U U  ca_87 U (eZ z7_ z7_) U ?_);refine Ru 3 U (a_ (⟨U,U,?_⟩));exact z45_
     refine Ru 6 U (a_ (⟨U,U,?_⟩));exact z45_
    refine Ru 10 U (a_ (⟨U,U,?_⟩));exact z45_
   refine Ru 15 U (a_ (⟨U,U,?_⟩));exact z45_
  refine Cs U (λhc33=>?_) λhc33=>?_
  ·have hz:Nd.putL (decide (c=0)&&decide (t=17)) ks none bs=none:=(by rw [hp,Nd.putL_step _ _ _ _ _ hi'];cases hkb:kbad with
    |true=>rw [hkf hkb]
    |false=>rw [(hkt hkb).1];show(if _ then _ else _)=_;rw [if_pos (by rw [lE];rw [hkb,Bool.false_or] at hc33;exact hc33)])
   refine Sr (Ru 3 U (bK kC U U U dl_ fL ?_));exact a_ (Sr (Ru 1 U (a_ (dE ⟨_,[_],_,(ay U U),.cons dl_ .nil,_,U,[],none,0,_,true,U,bu,U,(λ_=>by simp only [Nd.put];rw [hok,hz];rfl),(λhh=>by cases hh)⟩))))
  have hkb:kbad=false:=(by cases kbad<;>simp_all);subst hkb;have hkp:=(hkt U).1;have hkd:=(hkt U).2;have hkl:=dF _ _ kb (aL _) hkp;rw [Bool.false_or] at hc33;have hcz:=hc33;have hki:=hkr i hi';refine aA (Sr (Ru 5 U (cm (RunE.cut_full cY U U U z7_ U U U) U ?_)));rintro _ ⟨a34,rfl,hS34⟩;refine Ru 1 U (JL.appendFull dq U U z7_ U U z7_ U z2_ z3_ U U (λa35 c35 xs35 hC35 hN35=>?_));obtain rfl:=hC35.u8;refine Ru 1 U (cW (R:=u8R) (l:=inB++kb) dl_ bm U z3_ (λh36 hle36 hP36=>?_))
  replace r:=r.mono hle36
  replace hT:=hT.mono hle36
  replace ha:=ha.mono hle36
  replace hb:=hb.mono hle36
  replace hhg:=hhg.mono hle36
  replace hin:=hin.mono hle36
  replace hla:=hla.mono hle36
  replace hNd25:=hNd25.mono hle36
  replace hkS:=hkS.mono hle36
  refine a_ (Rg (Ru 2 U (a_ (Rg (JL.ents [.blk bw _ _,.blk b1 _ _] pt_ ?_)))));refine ah ai_ U ?_;refine Ru 1 U (a_ (⟨_,?_,_,?_,⟨_,i+1,inB++kb,kb,_,_,_,_,_,U,U,U,U,⟨by assumption,by omega,by assumption,by assumption,by rw [aU,hzt];omega,by rw [hkd,hd,hrt];omega,by rw [hp,Nd.putL_step _ _ _ _ _ hi',hkp];show(if _ then _ else _)=_;rw [if_neg (by rw [lE,hcz];decide),if_neg z2_]⟩⟩⟩))
  ·omega
  exact z6_
 refine bA (Kp [4,7] U (Sr (ah (bJ bP U mm_ z4_) U ?_)));refine Ru 2 U ?_;have hhl:=g9 c t k inB.length;have hst2:=Nd.szL_take_le ks i;refine d6 ca_111 U (head_fn r hmm.1 hmm.2 z2_) pt_ U ?_;rintro _ h37 Lo37 hle37 ⟨a37,c37,rfl,rfl⟩
 replace r:=r.mono hle37
 replace hT:=hT.mono hle37
 replace ha:=ha.mono hle37
 replace hb:=hb.mono hle37
 replace hhg:=hhg.mono hle37
 replace hin:=hin.mono hle37
 replace hla:=hla.mono hle37
 simp only [Nd.cls,Nd.tag,Nd.cons];refine Ru 1 U (bX dq U U bm U z7_ U dl_ z3_ U U (λa38 c38 xs38 hC38 hN38=>?_));obtain rfl:=hC38.u8;refine Ru 1 U (cW (R:=u8R) (l:=headB c t k inB.length++inB) dl_ bm U z3_ (λh39 hle39 hP39=>?_))
 replace r:=r.mono hle39
 replace hT:=hT.mono hle39
 replace ha:=ha.mono hle39
 replace hb:=hb.mono hle39
 replace hhg:=hhg.mono hle39
 replace hin:=hin.mono hle39
 replace hla:=hla.mono hle39
 refine Nk [6] U ?_;have hz:Nd.putL (decide (c=0)&&decide (t=17)) ks none bs=some inB:=by rw [hp,List.drop_of_length_le z2_];rfl
 exact dE ⟨_,[_],_,(ay U U),.cons dl_ .nil,_,U,headB c t k inB.length++inB,_,_,_,false,U,by assumption,U,(λhh=>by cases hh),(λ_=>⟨by simp only [Nd.put];rw [hok,hz];rfl,by rw [hd,aS z2_];simp only [Nd.rk];omega⟩)⟩
theorem dU:apT prog 33=some (35,5,72):=by kernel_rfl
theorem ca_24:callT prog 24=true:=by kernel_rfl
theorem vS:callT prog 62=true:=by kernel_rfl
theorem cv_2_5:convI prog 2 5=some .u8:=by kernel_rfl
theorem pl_110:plT prog 110=some ([.int .i64 0,.bool false],[(0,1),(1,1)]):=by kernel_rfl
theorem eR:plT prog 35=some ([.int .i64 0,.int .i64 0,.bool false,.slice none 0 0,.slice none 0 0],[(0,1),(1,1),(2,1),(3,1),(4,1)]):=by kernel_rfl
def Nd.wr (x:Nd):LB×Int:=match x.put with
 |none=>([],34)
 |some b=>if 32<x.rk then([],33) else if 16777216<b.length then([],2) else(b,0)
theorem sR {x:Nd}{cs:LV}{h:Part}(r:NdR h cs x) (hT:Tabs h) (hsz:x.sz<=1073741824) :
 FnR prog 19 [.agg cs.toArray] h (λv h'=>∃ a c,v=.tuple #[.slice a x.wr.1.length c,.int .i64 x.wr.2]/\SlR u8R 1 h' a c x.wr.1):=by
 have hrk:x.rk<=x.sz:=Nd.rk_le_sz _ x (aL _);have hr1:1<=x.rk:=by cases x;simp [Nd.rk]
 refine aM func19 U ntmps19 U (λe he=>?_);refine bg [(0,_)] ⟨U,trivial⟩ ?_;refine Sr (dh U U U (λb1=>?_));refine Ru 2 U (a_ (Sr (ah (bn (cs:=[.int .i64 0,.bool false]) pl_110 U U) U ?_)));refine dh U U U (λb2=>?_);refine Ru 1 U (a_ (Sr (Ru 1 U (ah (bJ bP U mm_ z4_) U ?_))));refine d6 ca_59 U (put_fn _ x _ _ _ _ _ (aL _) r hT hsz z2_ z2_) pt_ U ?_;rintro _ h3 Lo3 hle3 ⟨kb,ka,kc,kd,kbad,rfl,hkS,rfl,hkf,hkt⟩
 replace r:=r.mono hle3
 replace hT:=hT.mono hle3
 refine Ru 1 U (Nk [5,4,3,2] U (az (aJ (Sr (Ru 3 U (ah (aw kC U mm_ U) U ?_))))));refine Ru 1 U (a_ (Cs U (λhc4=>?_) λhc4=>?_))
 ·have hw:x.wr=([],34):=(by unfold Nd.wr;rw [hkf hc4]);refine Sr (Ru 2 U (Nk [3,2,5] U ?_));rw [hw];exact bj (b_ U U U) ⟨_,_,U,bu⟩
 have hkt:=hkt hc4;have hkp:=hkt.1;have hkd:=hkt.2;have hl:=hkS.big;refine Sr (Ru 3 U (ah (aw dI U mm_ U) U ?_));refine Ru 2 U (Nk [16,5,3,2] U (Cs U (λhc5=>?_) λhc5=>?_))
 ·have hw:x.wr=([],33):=(by unfold Nd.wr;rw [hkp];simp only;rw [if_pos z2_]);refine Sr (Ru 2 U (a_ ?_));rw [hw];exact bj (b_ U U U) ⟨_,_,U,bu⟩
 refine Sr (Ru 4 U (Nk [22,5,3,2] U (Cs U (λhc6=>?_) λhc6=>?_)))
 ·have hw:x.wr=([],2):=(by unfold Nd.wr;rw [hkp];simp only;rw [if_neg z2_,if_pos z2_]);refine Sr (Ru 2 U (a_ ?_));rw [hw];exact bj (b_ U U U) ⟨_,_,U,bu⟩
 have hw:x.wr=(kb,0):=(by unfold Nd.wr;rw [hkp];simp only;rw [if_neg z2_,if_neg z2_]);refine aA (Sr (Ru 3 U (Nk [3,2] U ?_)));rw [hw];exact bj (b_ U U U) ⟨_,_,U,hkS⟩
theorem tp {x:Nd}{cs:LV}{h:Part}(r:NdR h cs x) (hT:Tabs h) (hsz:x.sz<=1073741824):Pure prog 97 [.agg cs.toArray] h (.bool x.put.isSome):=by
 have hrk:x.rk<=x.sz:=Nd.rk_le_sz _ x (aL _);refine dY ?_;refine aM func97 U ntmps97 U (λe he=>?_);refine bg [(0,_)] ⟨U,trivial⟩ ?_;refine Sr (dh U U U (λb1=>?_));refine Ru 1 U (a_ (Sr (ah (bn (cs:=[.int .i64 0,.bool false]) pl_110 U U) U ?_)));refine dh U U U (λb2=>?_);refine Ru 1 U (a_ (Sr (Ru 1 U (ah (bJ bP U mm_ z4_) U ?_))));refine d6 ca_59 U (put_fn _ x _ _ _ _ _ (aL _) r hT hsz z2_ z2_) pt_ U ?_;rintro _ h3 Lo3 hle3 ⟨kb,ka,kc,kd,kbad,rfl,hkS,rfl,hkf,hkt⟩
 replace r:=r.mono hle3
 replace hT:=hT.mono hle3
 refine Nk [3,2] U (Sr (Ru 3 U (ah (aw kC U mm_ U) U ?_)));exact Ru 2 U (Nk [2] U (ew (ay U U) (by cases hb:kbad with|true=>rw [hkf hb];rfl|false=>rw [(hkt hb).1];rfl)))
theorem rP {t:Int}{a:OA}{c:Nat}{l:LB}{h:Part}(hl:SlR u8R 1 h a c l):FnR prog 24 [.int .i64 t,.slice a l.length c] h (λv h'=>∃ cs,v=.agg (List.toArray cs)/\NdR h' cs (.mk 0 t false l [])):=by
 have hb:=hl.big;refine aM func24 U ntmps24 U (λe he=>?_);refine bg [(0,_),(1,_)] ⟨U,U,trivial⟩ ?_;refine Sr (bI eF U (λb1=>?_));refine a_ (Sr (Ru 2 U (bZ 5 1 ?_)));refine bX dq U U (bQ (R:=u8R)) U z7_ U dl_ z3_ U U (λa2 c2 xs2 hC2 hN2=>?_);obtain rfl:=hC2.u8;refine cW (R:=u8R) (l:=l) dl_ bm U z3_ (λh3 hle3 hP3=>?_)
 replace hl:=hl.mono hle3
 refine ah (bn (cs:=[.int .i64 0,_,.bool false,_,.slice none 0 0]) eR U U) U ?_;refine aV bP U U dl_ f8 f9 z4_ ?_;exact Nk [4] U (bj (cr U U bP mm_ z4_) ⟨_,U,d_ z7_ bu⟩)
theorem Nd.len_le_szL (l:LN):l.length<=Nd.szL l:=by
 induction l with
 |nil=>simp
 |cons x r ih=>cases x;simp only [aC,Nd.szL,Nd.sz];omega
theorem pV:∀ (n:Nat) (ks:LN) (a:OA) (c:Nat) (h:Part),Nd.rkL ks<=n->SlR NdR 5 h a c ks->Nd.szL ks<=1099511627776 ->
 FnR prog 62 [.slice a ks.length c] h (λv h'=>∃ a' c',v=.slice a' ks.length c'/\SlR NdR 5 h' a' c' ks):=by
 intro n
 induction n with
 |zero =>
  intro ks a c h hx;cases ks with
  |cons x r=>cases x;simp [Nd.rkL,Nd.rk] at hx
  |nil =>
   intro hk _;have hx:(0:Nat)=0:=rfl;refine aM func62 U ntmps62 U (λe he=>?_);refine bg [(0,_)] ⟨U,trivial⟩ ?_;refine Sr (Ru 1 U (a_ ?_));refine Sr (Ru 1 U (a_ (az (Sr (Ru 3 U (a_ (aJ (bM (λt_ S_ h_ L_=>∃ (i:Nat),t_=0-i/\S_=[(3,.slice none 0 0),(6,.slice a ([]:LN).length c),(7,.int .i64 0),(8,.int .i64 0)]/\h=h_/\L_=[]/\(True)) ⟨_,_,?_,⟨0,U,U,U,U,trivial⟩⟩ ?_))))))))
   ·exact z6_
   rintro _ _ _ _ ⟨i,rfl,rfl,rfl,rfl,-⟩;refine Sr (Ru 1 U (a_ (az (Cs U (λhc1=>?_) λhc1=>?_))))
   ·exfalso;simp at hc1 --done
   exact bA (Kp [3] U (Sr (Ru 2 U (a_ (bj (ay U U) ⟨_,_,U,bu⟩)))))
 |succ n ih =>
  intro ks a c h hx hk hsz;have hl:=hk.big;have hlz:=Nd.len_le_szL ks;have hz:∀ i (hi:i<ks.length),ks[i].rk<=n+1/\ks[i].sz<=Nd.szL ks:=λi hi=>⟨by have:=Nd.rk_lt (aF hi);omega,Nd.sz_le (aF hi)⟩;refine aM func62 U ntmps62 U (λe he=>?_);refine bg [(0,_)] ⟨U,trivial⟩ ?_;refine Sr (Ru 1 U (a_ (Sr (Ru 1 U (a_ (az (Sr (bZ 35 5 ?_))))))));refine Ru 3 U (a_ (aJ (bM (λt_ S_ h_ L_=>∃ (g:Part) (i:Nat) (ao:OA) (co:Nat) (xs:LV),t_=ks.length-i/\S_=[(3,.slice ao (ks.take i).length co),(6,.slice a ks.length c),(7,.int .i64 ks.length),(8,.int .i64 i)]/\g=h_/\L_=[.row ao co 35 5 (ks.take i).length xs]/\(h.le g/\i<=ks.length/\CellsR NdR 5 g xs (ks.take i))) ⟨_,_,?_,⟨_,0,_,_,_,U,U,U,U,⟨aT _,by omega,bQ⟩⟩⟩ ?_)))
  ·exact z6_
  rintro _ _ _ _ ⟨g,i,ao,co,xs,rfl,rfl,rfl,rfl,hhg,hi,hC⟩;have hk:=hk.mono hhg;refine Sr (Ru 1 U (a_ (az (Cs U (λhc1=>?_) λhc1=>?_))))
  ·have hi':i<ks.length:=z2_;have hzi:=hz i hi';obtain⟨kc,kt,kk,kbs,kks,hkx⟩:∃ c t k bs ks',ks[i]=.mk c t k bs ks':=(by cases ks[i];exact⟨_,_,_,_,_,U⟩);have hke:ks.take i++[.mk kc kt kk kbs kks]=ks.take (i+1):=(by rw [<- hkx,am hi']);have htl:(ks.take i).length<=ks.length:=(by simp;omega);refine aA (az (aJ (Sr (cm (aI gJ U U z9_ z7_ U z2_) U ?_))));rintro _ ⟨b2,o2,hi2,rfl,hE2⟩;refine cm (dw bP U z7_) U ?_;rintro _ ⟨_,rfl,hNdx⟩;rw [hkx] at hNdx hzi;obtain⟨ka,kca,kb,kcb,rfl,hka,hkb⟩:=hNdx.inv;simp only [Nd.rk,Nd.sz] at hzi;have hkal:=hka.big;refine bI eF U (λb4=>?_);refine aV bP U U dl_ f8 f9 z4_ ?_;refine a_ (Sr (Ru 1 U (ah (aw dt U mm_ U) U ?_)));refine bZ 5 1 ?_;refine bX dq U U (bQ (R:=u8R)) U z7_ U dl_ z3_ U U (λa5 c5 xs5 hC5 hN5=>?_);obtain rfl:=hC5.u8;refine cW (R:=u8R) (l:=kbs) dl_ bm U z3_ (λh6 hle6 hP6=>?_)
   replace hk:=hk.mono hle6
   replace hhg:=hhg.mono hle6
   replace hC:=hC.mono hle6
   replace hka:=hka.mono hle6
   replace hkb:=hkb.mono hle6
   refine Ru 1 U (bK dt U U U dl_ fL ?_);refine a_ (Sr (Ru 1 U (ah (aw dz U mm_ U) U ?_)));refine bL vS U (ih kks _ _ _ z2_ z7_ z2_) U ?_;rintro _ h7 hle7 ⟨a7,c7,rfl,hS7⟩
   replace hk:=hk.mono hle7
   replace hhg:=hhg.mono hle7
   replace hC:=hC.mono hle7
   replace hka:=hka.mono hle7
   replace hkb:=hkb.mono hle7
   replace hP6:=hP6.mono hle7
   refine Ru 1 U (bK dz U U U dl_ fL ?_);refine a_ (Rg (Ru 1 U (ah (bJ bP U mm_ z4_) U ?_)));refine JL.litA dU U z4_ U U (λb8=>?_);refine bV dU U U z7_ U dl_ dl_ z4_ ((d_ z7_ z7_:NdR _ _ (.mk kc kt kk kbs kks))) z3_ U U (λa9 c9 xs9 hC9 hN9=>?_);rw [hke] at *;refine Ru 1 U (a_ (Rg (JL.ents [.row _ _ _ _ _ _] pt_ ?_)));refine ah ai_ U ?_;refine Ru 1 U (a_ (⟨_,?_,_,?_,⟨_,i+1,_,_,_,U,U,U,U,⟨by assumption,by omega,by assumption⟩⟩⟩))
   ·omega
   exact z6_
  refine bA (Kp [3] U (Sr (Ru 1 U ?_)));have hke:ks.take i=ks:=aS z2_;rw [hke] at hC |-;refine cW (R:=NdR) dl_ z7_ U hl (λh9 hle9 hS9=>?_)
  exact Ru 1 U (a_ (bj (ay U U) ⟨_,_,U,hS9⟩))
theorem cons_fn {cl t:Int}{ks:LN}{a:OA}{c:Nat}{h:Part}(hk:SlR NdR 5 h a c ks) (hz:Nd.szL ks<=1099511627776) :
 FnR prog 23 [.int .i64 cl,.int .i64 t,.slice a ks.length c] h (λv h'=>∃ cs,v=.agg (List.toArray cs)/\NdR h' cs (.mk cl t true [] ks)):=by
 refine aM func23 U ntmps23 U (λe he=>?_);refine bg [(0,_),(1,_),(2,_)] ⟨U,U,U,trivial⟩ ?_;refine Sr (bI eF U (λb1=>?_));refine a_ (Sr (Ru 3 U (bL vS U (pV _ _ _ _ _ (aL _) z7_ z2_) U ?_)));rintro _ h2 hle2 ⟨a2,c2,rfl,hS2⟩
 replace hk:=hk.mono hle2
 refine ah (bn (cs:=[_,_,_,.slice none 0 0,_]) eR U U) U ?_;refine aV bP U U dl_ f8 f9 z4_ ?_;exact Nk [6] U (bj (cr U U bP mm_ z4_) ⟨_,U,d_ bu z7_⟩)
def ibytes (n:Int):Nat->LB
 |0=>[]
 |k+1=>UInt8.ofNat ((n / 256 ^ k) % 256).toNat::ibytes n k
def stripB:LB->LB
 |[]=>[]
 |x::r=>if leastB (x::r) then x::r else stripB r
def intB (n:Int):LB:=stripB (ibytes n 8)
theorem shrI_cast (n:Int) (j:Nat) (e:Int) (he:e=8*(j:Int)):n / 2 ^ e.toNat=n / 256 ^ j:=by
 subst he;have h1:(8*(j:Int)).toNat=8*j:=by omega
 have h2:(256:Int) ^ j=2 ^ (8*j):=by rw [Int.pow_mul];rfl
 rw [h1,h2]
theorem RunV.toByteI {f:Fr}{S:Sig}{h:Part}{L:LE}{ty:TypeId}{x:Operand}{p:Int}{src dst:TypeId}{k:IntKind}(hc:convI f.P src dst=some .u8) (hx:ev S x=some (.int k p)):RunV f S h L (.convert src dst x) ty (.int .u8 ((UInt8.ofNat (p % 256).toNat).toNat:Int)):=by
 have:=cL (f:=f) (h:=h) (L:=L) (ty:=ty) hc hx;have e:IntKind.u8.wrap p=((UInt8.ofNat (p % 256).toNat).toNat:Int):=by rw [IntKind.wrap_u8];simp;omega
 rwa [e] at this
theorem qf {l:LB}(h:leastB l=false) (h0:1<=l.length):2<=l.length:=by
 unfold leastB at h;rw [if_neg z2_] at h;split at h
 ·cases h
 ·omega
theorem lQ {l:LB}(h:leastB l=false):stripB l=stripB (l.drop 1):=by
 cases l with
 |nil=>rfl
 |cons x r=>simp only [stripB];rw [if_neg (by rw [h];decide)];rfl
theorem gI {l:LB}(h:leastB l=true):stripB l=l:=by
 cases l with
 |nil=>rfl
 |cons x r=>simp only [stripB];rw [if_pos h]
theorem dL (n:Int) (k:Nat):(ibytes n k).length=k:=by
 induction k with
 |zero=>rfl
 |succ k ih=>simp [ibytes,ih]
theorem int_fn {n:Int}{h:Part}:FnR prog 25 [.int .i64 n] h (λv h'=>∃ cs,v=.agg (List.toArray cs)/\NdR h' cs (.mk 0 2 false (intB n) [])):=by
 refine aM func25 U ntmps25 U (λe he=>?_);refine bg [(0,_)] ⟨U,trivial⟩ ?_;refine Sr (bI eF U (λb1=>?_));refine a_ (Sr (Ru 1 U (a_ (az (Sr (bZ 5 1 ?_))))));refine Ru 1 U (a_ (aJ (bM (λt_ S_ h_ L_=>∃ (j:Nat) (out:LB) (a:OA) (c:Nat),t_=9+j/\S_=[(0,.int .i64 n),(2,.pointer (some ⟨b1,0,none⟩)),(3,.slice a out.length c),(4,.int .i64 ((j:Int)-1))]/\h=h_/\L_=[.row a c 5 1 out.length (u8s out),.blk b1 35 [.int .i64 0,.int .i64 0,.bool false,.slice none 0 0,.slice none 0 0]]/\(j<=8/\out.length=8-j/\ibytes n 8=out++ibytes n j)) ⟨_,_,?_,⟨8,[],none,0,U,U,U,U,⟨by omega,U,U⟩⟩⟩ ?_)))
 ·exact g7
 rintro _ _ _ _ ⟨j,out,a,c,rfl,rfl,rfl,rfl,hj,hol,he⟩;refine az (Sr (Ru 2 U (a_ (Cs U (λhc2=>?_) λhc2=>?_))))
 ·obtain⟨i,rfl⟩:∃ i,j=i+1:=⟨j-1,by omega⟩;refine aA (az (aJ (Rg (Ru 3 U (ah jM U ?_)))));refine ah (RunV.shr U U z2_ (by show _<=((64:Nat):Int);omega)) U ?_;rw [shrI_cast n i _ z2_];refine ah (RunV.toByteI cv_2_5 U) U ?_;refine cF dq pg U U U U U (λb3=>?_);refine bV dq U U bm U dl_ dl_ U (U) z3_ U U (λa4 c4 xs4 hC4 hN4=>?_);obtain rfl:=hC4.u8;refine Ru 1 U (a_ (Rg (Ru 1 U (ah si_ U ?_))));refine Ru 1 U (a_ (⟨_,?_,_,?_,⟨i,_,_,_,U,U,U,U,⟨by omega,by simp;omega,by rw [he,ibytes,List.append_assoc];rfl⟩⟩⟩))
  ·omega
  exact g7
 have hj0:j=0:=z2_;subst hj0;have hob:out=ibytes n 8:=(by rw [he];simp [ibytes]);refine J.pub (R:=u8R) (l:=out) dl_ bm U z2_ (λh9 hle9 hS9=>?_);refine bA (Kp [2,3] U (az (aJ (bM (λt_ S_ h_ L_=>∃ (g:Part) (l:LB) (a:OA) (c:Nat),t_=l.length+5/\S_=[(2,.pointer (some ⟨b1,0,none⟩)),(3,.slice a l.length c)]/\g=h_/\L_=[.blk b1 35 [.int .i64 0,.int .i64 0,.bool false,.slice none 0 0,.slice none 0 0]]/\(h.le g/\SlR u8R 1 g a c l/\1<=l.length/\intB n=stripB l)) ⟨_,_,?_,⟨_,out,_,_,U,U,U,U,⟨by assumption,by assumption,by omega,by rw [hob];rfl⟩⟩⟩ ?_))))
 ·exact z6_
 rintro _ _ _ _ ⟨g,l,a,c,rfl,rfl,rfl,rfl,hhg,hl,hll,hs⟩;refine az (Sr (Ru 1 U (bh ca_63 U (oD z7_) U ?_)));refine Ru 1 U (a_ (Cs U (λhc6=>?_) λhc6=>?_))
 ·have hl2:=qf hc6 hll;have hsd:=lQ hc6;refine aA (aJ (Rg (Ru 1 U (cm (ei cY U U (show _=((1:Nat):Int) from rfl) z7_ U z2_) U ?_))));rintro _ ⟨a7,c7,rfl,hS7⟩;refine Ru 1 U (a_ (⟨_,?_,_,?_,⟨_,l.drop 1,_,_,U,U,U,U,⟨by assumption,by assumption,by simp;omega,by rw [hs,hsd]⟩⟩⟩))
  ·simp;omega
  exact z6_
 have hi9:intB n=l:=(by rw [hs,gI hc6]);refine bA (Sr (Ru 1 U (bL ca_24 U (rP z7_) U ?_)));rintro _ h8 hle8 ⟨w8,rfl,hNd8⟩
 replace hl:=hl.mono hle8
 replace hhg:=hhg.mono hle8
 refine aV bP U U dl_ f8 f9 z4_ ?_;refine Nk [2] U ?_;rw [hi9];exact bj (cr U U bP mm_ z4_) ⟨_,U,by assumption⟩
abbrev bi:=@List.getD_eq_getElem?_getD
def decGo:LB->Nat->Bool->Option (List Nat)
 |[],_,fresh=>if fresh then some [] else none
 |c::r,n,fresh=>if(fresh&&decide (c.toNat=128))||decide (72057594037927935<n) then none
  else if 127<c.toNat then decGo r (n*128+c.toNat % 128) false else(decGo r 0 true).map (λl=>(n*128+c.toNat % 128)::l)
def refGo:LB->Nat->Nat->Option (List Nat)
 |[],_,_=>some []
 |c::r,n,long=>if 9<long+1\/9223372036854775808<=n*128+c.toNat % 128 then none
  else if 128<=c.toNat then refGo r (n*128+c.toNat % 128) (long+1) else(refGo r 0 0).map (λl=>(n*128+c.toNat % 128)::l)
def hiF:Nat->Nat->LB
 |0,_=>[]
 |f+1,n=>if n=0 then [] else hiF f (n / 128)++[UInt8.ofNat (n % 128+128)]
def hiB (n:Nat):LB:=hiF 10 n
def b128 (n:Nat):LB:=hiB (n / 128)++[UInt8.ofNat (n % 128)]
def enc:List Nat->LB
 |[]=>[]
 |n::r=>b128 n++enc r
theorem hiF_up:∀ (f n:Nat),n<128 ^ f->hiF (f+1) n=hiF f n
 |0,n,h=>by have:n=0:=(by simpa using h);subst this;rfl
 |f+1,n,h=>by
  rw [hiF];conv=>rhs;rw [hiF]
  rw [hiF_up f (n / 128) (by rw [Nat.pow_succ] at h;omega)]
theorem oH (n:Nat) (h:n<128 ^ 10) (h0:n≠0):hiB n=hiB (n / 128)++[UInt8.ofNat (n % 128+128)]:=by
 have e:hiB (n / 128)=hiF 9 (n / 128):=hiF_up 9 _ (by simp only [Nat.reducePow] at h |-;omega);rw [e];show hiF 10 n=_;rw [hiF,if_neg h0]
theorem byte_hi {c:UInt8}{n:Nat}(h:127<c.toNat):(n*128+c.toNat % 128) % 128+128=c.toNat/\(n*128+c.toNat % 128) / 128=n:=by
 have:=UInt8.toNat_lt c;omega
theorem oU:∀ (b:LB) (n:Nat) (fresh:Bool) (l:List Nat),(fresh=true->n=0)->(fresh=false->0<n)->decGo b n fresh=some l->hiB n++b=enc l/\∀ x∈l,x<9223372036854775808
 |[],n,fresh,l,h0,h1,h=>by
  cases fresh with
  |false=>simp [decGo] at h
  |true=>simp [decGo] at h;subst h;rw [h0 rfl];exact⟨U,by simp⟩
 |c::r,n,fresh,l,h0,h1,h=>by
  have hc:=UInt8.toNat_lt c;rw [decGo] at h;split at h
  ·cases h
  ·rename_i hg;simp only [Bool.or_eq_true,Bool.and_eq_true,ax,not_or,not_and] at hg;split at h
   ·rename_i hh;have hn:n*128+c.toNat % 128≠0:=by
     cases fresh with
     |false=>have:=h1 U;omega
     |true=>have:=hg.1 U;omega
    obtain⟨e1,e2⟩:=oU r _ false l (λx=>by cases x) (λ_=>by omega) h;refine⟨?_,e2⟩;have hb:=byte_hi (n:=n) hh;rw [oH _ (by simp only [Nat.reducePow];omega) hn,hb.1,hb.2] at e1;rw [<- e1];simp
   ·rename_i hh;rw [Option.map_eq_some_iff] at h;obtain⟨l',hl',rfl⟩:=h;obtain⟨e1,e2⟩:=oU r 0 true l' (λ_=>rfl) (λx=>by cases x) hl';have e3:(n*128+c.toNat % 128) / 128=n:=by omega
    have e4:(n*128+c.toNat % 128) % 128=c.toNat:=by omega
    refine⟨?_,λx hx=>?_⟩
    ·rw [enc,<- e1,b128,e3,e4];simp [show hiB 0=[] from rfl]
    ·rcases List.mem_cons.1 hx with rfl|hx
     ·omega
     ·exact e2 x hx
theorem dec_hi:∀ (f y:Nat) (t:LB),y<128 ^ f->y<9223372036854775808->decGo (hiF f y++t) 0 true=decGo t y (decide (y=0))
 |0,y,t,h,_=>by have:y=0:=(by simpa using h);subst this;rfl
 |f+1,y,t,h,h2=>by
  rw [hiF];split
  ·rename_i h0;subst h0;rfl
  ·rename_i h0;rw [List.append_assoc,dec_hi f (y / 128) _ (by rw [Nat.pow_succ] at h;omega) z2_];simp only [List.cons_append,List.nil_append,decGo];have e:(UInt8.ofNat (y % 128+128)).toNat=y % 128+128:=by rw [UInt8.toNat_ofNat'];omega
   rw [e,if_neg,if_pos z2_]
   ·rw [show y / 128*128+(y % 128+128) % 128=y by omega,au h0]
   ·simp only [Bool.or_eq_true,Bool.and_eq_true,ax,not_or,not_and];omega
theorem dec_b128 (x:Nat) (r:LB) (h:x<9223372036854775808):decGo (b128 x++r) 0 true=(decGo r 0 true).map (x::·):=by
 unfold b128 hiB;rw [List.append_assoc,dec_hi 10 (x / 128) _ (by simp only [Nat.reducePow];omega) z2_];simp only [List.cons_append,List.nil_append,decGo];have e:(UInt8.ofNat (x % 128)).toNat=x % 128:=by rw [UInt8.toNat_ofNat'];omega
 rw [e,if_neg,if_neg z2_]
 ·rw [show x / 128*128+x % 128 % 128=x by omega]
 ·simp only [Bool.or_eq_true,Bool.and_eq_true,ax,not_or,not_and];omega
theorem so:∀ (l:List Nat),(∀ x∈l,x<9223372036854775808)->decGo (enc l) 0 true=some l
 |[],_=>rfl
 |n::r,h=>by
  rw [enc,dec_b128 _ _ (h n (aK ..)),so r (λx hx=>h x (aP _ hx))];rfl
theorem sA:∀ (b:LB) (n long:Nat) (fresh:Bool) (l:List Nat),(fresh=true->n=0/\long=0)->(fresh=false->128 ^ (long-1)<=n/\1<=long)->decGo b n fresh=some l->refGo b n long=some l
 |[],n,long,fresh,l,h0,h1,h=>by
  cases fresh with
  |false=>simp [decGo] at h
  |true=>simpa [decGo,refGo] using h
 |c::r,n,long,fresh,l,h0,h1,h=>by
  have hc:=UInt8.toNat_lt c;rw [decGo] at h;rw [refGo];split at h
  ·cases h
  ·rename_i hg;simp only [Bool.or_eq_true,Bool.and_eq_true,ax,not_or,not_and] at hg;have hlong:long<=8:=by
    cases fresh with
    |true=>have:=h0 U;omega
    |false =>
     obtain⟨q1,q2⟩:=h1 U;rcases Nat.lt_or_ge 8 long with h9|h9
     ·have:(128:Nat) ^ 8<=128 ^ (long-1):=Nat.pow_le_pow_right bT z2_;simp only [Nat.reducePow] at this;omega
     ·exact h9
   rw [if_neg z2_];split at h
   ·rename_i hh;rw [if_pos z2_];refine sA r _ (long+1) false l (λx=>by cases x) (λ_=>⟨?_,by omega⟩) h;rw [Nat.add_sub_cancel];cases fresh with
    |true=>have:=h0 U;have:=hg.1 U;rw [(h0 U).2];simp only [Nat.pow_zero];omega
    |false =>
     obtain⟨q1,q2⟩:=h1 U;obtain⟨j,rfl⟩:∃ j,long=j+1:=⟨long-1,by omega⟩;rw [Nat.add_sub_cancel] at q1;rw [Nat.pow_succ];omega
   ·rename_i hh;rw [if_neg z2_];rw [Option.map_eq_some_iff] at h;obtain⟨l',hl',rfl⟩:=h;rw [sA r 0 0 true l' (λ_=>⟨U,U⟩) (λx=>by cases x) hl'];rfl
theorem ref_lt:∀ (b:LB) (n long:Nat) (l:List Nat),refGo b n long=some l->(∀ x∈l,x<9223372036854775808)/\l.length<=b.length
 |[],n,long,l,h=>by simp [refGo] at h;subst h;simp
 |c::r,n,long,l,h=>by
  rw [refGo] at h;split at h
  ·cases h
  ·split at h
   ·have:=ref_lt r _ _ l h;exact⟨this.1,by simp;omega⟩
   ·rw [Option.map_eq_some_iff] at h;obtain⟨l',hl',rfl⟩:=h;have:=ref_lt r _ _ l' hl';refine⟨λx hx=>?_,by simp;omega⟩;rcases List.mem_cons.1 hx with rfl|hx
    ·omega
    ·exact this.1 x hx
def refO (b:LB):Option (List Nat):=match refGo b 0 0 with
 |none=>none
 |some l=>if l≠[]/\enc l=b then some l else none
def decO (b:LB):Option (List Nat):=match decGo b 0 true with
 |none=>none
 |some l=>if l=[] then none else some l
theorem refO_decO (b:LB):refO b=decO b:=by
 unfold refO decO;cases hd:decGo b 0 true with
 |some l =>
  have h1:=sA b 0 0 true l (λ_=>⟨U,U⟩) (λx=>by cases x) hd;have h2:=(oU b 0 true l (λ_=>rfl) (λx=>by cases x) hd).1;rw [h1];simp only [<- h2];by_cases hl:l=[]
  ·simp [hl]
  ·simp [hl,show hiB 0=[] from rfl]
 |none =>
  cases hr:refGo b 0 0 with
  |none=>rfl
  |some l =>
   simp only;rw [if_neg];rintro⟨_,he⟩;have:=so l (ref_lt b 0 0 l hr).1;rw [he,hd] at this;cases this
def tail46:List Nat->LB
 |[]=>[]
 |n::r=>[46]++dgs n 1++tail46 r
def txtO:List Nat->LB
 |[]=>[]
 |n::r=>dgs (min (n / 40) 2) 1++[46]++dgs (n-40*min (n / 40) 2) 1++tail46 r
theorem jY:∀ (b out:LB) (n:Nat) (fresh:Bool),oidGo b out n fresh false=(decGo b n fresh).map (out++tail46 ·)
 |[],out,n,fresh=>by cases fresh<;>simp [oidGo,decGo,tail46]
 |c::r,out,n,fresh=>by
  rw [oidGo,decGo];split
  ·rfl
  ·split
   ·exact jY r out _ _
   ·simp only [c_,if_false];rw [jY,Option.map_map];congr 1
    funext l
    simp [tail46]
theorem me:∀ (b out:LB) (n:Nat) (fresh:Bool),oidGo b out n fresh true=match decGo b n fresh with|none=>none|some l=>if l=[] then none else some (out++txtO l)
 |[],out,n,fresh=>by cases fresh<;>simp [oidGo,decGo]
 |c::r,out,n,fresh=>by
  rw [oidGo,decGo];split
  ·rfl
  ·split
   ·exact me r out _ _
   ·rw [if_pos U,jY];cases decGo r 0 true with
    |none=>rfl
    |some l=>simp [txtO]
theorem oh (b:LB):oidT b=(decO b).map txtO:=by
 unfold oidT decO;rw [me];cases decGo b 0 true with
 |none=>rfl
 |some l=>by_cases h:l=[]<;>simp [h]
def dig (c:UInt8):Bool:=decide (48<=c.toNat/\c.toNat<=57)
def numV (s:LB):Nat:=s.foldl (λv c=>v*10+(c.toNat-48)) 0
def numBad (s:LB):Bool:=decide (s.length=0\/19<s.length\/1<s.length/\(s.getD 0 0).toNat=48)
def numB (s:LB):Option Nat:=if numBad s||!s.all dig then none else if numV s<9223372036854775808 then some (numV s) else none
def numsGo:LB->LB->Option (List Nat)
 |[],cur=>(numB cur).map ([·])
 |c::r,cur=>if c=46 then(match numB cur with
  |none=>none
  |some n=>(numsGo r []).map (n::·)) else numsGo r (cur++[c])
def oidOk (l:List Nat):Bool:=decide (2<=l.length)&&(decide (l.getD 0 0=2/\l.getD 1 0<9223372036854775728)||decide (l.getD 0 0<2/\l.getD 1 0<40))
def oidB (s:LB):Option LB:=match numsGo s [] with
 |none=>none
 |some l=>if oidOk l then some (enc ((40*l.getD 0 0+l.getD 1 0)::l.drop 2)) else none
theorem jl (s:LB) (c:UInt8):numV (s++[c])=numV s*10+(c.toNat-48):=by simp [numV]
theorem dgo_num:∀ (f n len k:Nat),1<=len->n<10 ^ f->n<10 ^ k->numV (dgo f n len 1)=n/\(dgo f n len 1).all dig=true/\(dgo f n len 1).length<=k/\(n=0->dgo f n len 1=[])/\(0<n->0<(dgo f n len 1).length/\((dgo f n len 1).getD 0 0).toNat≠48)
 |0,n,len,k,h1,h,hk=>by
  have:n=0:=by simpa using h
  subst this;simp [dgo,numV]
 |f+1,n,len,k,h1,h,hk=>by
  rw [dgo];by_cases h0:0<n
  ·rw [if_pos (.inl h0)];obtain⟨j,rfl⟩:∃ j,k=j+1:=⟨k-1,by
    cases k with
    |zero=>simp at hk;omega
    |succ k=>rfl⟩
   rw [Nat.pow_succ] at h hk;obtain⟨i1,i2,i3,i4,i5⟩:=dgo_num f (n / 10) (len+1) j z2_ z2_ z2_;have e:(UInt8.ofNat (48+n % 10)).toNat=48+n % 10:=by rw [UInt8.toNat_ofNat'];omega
   refine⟨by rw [jl,i1,e];omega,by simp [i2,dig,e];omega,by simp;omega,λh=>by omega,λ_=>⟨by simp,?_⟩⟩;by_cases hn:0<n / 10
   ·have:=i5 hn;rw [bi,List.getElem?_append_left this.1,<- bi];exact this.2
   ·rw [i4 z2_];show(UInt8.ofNat (48+n % 10)).toNat≠48;omega
  ·have:n=0:=by omega
   subst this;rw [if_neg z2_];simp [numV]
theorem dgs_num (n:Nat) (h:n<9223372036854775808):numB (dgs n 1)=some n/\(dgs n 1).all dig=true:=by
 unfold dgs;rw [dgo,if_pos (.inr bT)];obtain⟨i1,i2,i3,i4,i5⟩:=dgo_num 19 (n / 10) 1 18 (aL _) (by simp only [Nat.reducePow];omega) (by simp only [Nat.reducePow];omega);have e:(UInt8.ofNat (48+n % 10)).toNat=48+n % 10:=by rw [UInt8.toNat_ofNat'];omega
 rw [show 0+1=1 from rfl];have hall:(dgo 19 (n / 10) 1 1++[UInt8.ofNat (48+n % 10)]).all dig=true:=by simp [i2,dig,e];omega
 have hnv:numV (dgo 19 (n / 10) 1 1++[UInt8.ofNat (48+n % 10)])=n:=by rw [jl,i1,e];omega
 refine⟨?_,hall⟩;unfold numB;have hb:numBad (dgo 19 (n / 10) 1 1++[UInt8.ofNat (48+n % 10)])=false:=by
  refine au ?_;simp only [aU,aC,aG];rintro(h1|h1|⟨h1,h2⟩)
  ·omega
  ·omega
  ·have hp:0<n / 10:=by
    rcases Nat.eq_zero_or_pos (n / 10) with h0|h0
    ·rw [i4 h0] at h1;simp at h1
    ·exact h0
   have:=i5 hp;rw [bi,List.getElem?_append_left this.1,<- bi] at h2;exact this.2 h2
 rw [hb,hall,if_neg bT,hnv,if_pos h]
theorem go:∀ (s cur r:LB),s.all dig=true->numsGo (s++r) cur=numsGo r (cur++s)
 |[],cur,r,_=>by simp
 |c::s,cur,r,h=>by
  simp only [List.all_cons,Bool.and_eq_true] at h;have hc:c≠46:=by
   rintro rfl;have:=h.1;simp [dig] at this
  simp only [List.cons_append,numsGo];rw [if_neg hc,go s _ r h.2];simp
theorem pY (n:Nat) (r:LB) (h:n<9223372036854775808):numsGo (dgs n 1++[46]++r) []=(numsGo r []).map (n::·):=by
 have:=dgs_num n h;rw [List.append_assoc,go _ _ _ this.2,List.nil_append];simp only [List.cons_append,List.nil_append,numsGo,if_pos];rw [this.1]
theorem pX:∀ (n:Nat) (l:List Nat),n<9223372036854775808->(∀ x∈l,x<9223372036854775808)->numsGo (dgs n 1++tail46 l) []=some (n::l)
 |n,[],h,_=>by
  have:=dgs_num n h;rw [tail46,go _ _ _ this.2,List.nil_append,numsGo,this.1];rfl
 |n,m::r,h,hl=>by
  rw [tail46];have:=pY n (dgs m 1++tail46 r) h;rw [List.append_assoc] at this;rw [List.append_assoc,this,pX m r (hl m (aK ..)) (λx hx=>hl x (aP _ hx))];rfl
theorem tN (l:List Nat) (h:∀ x∈l,x<9223372036854775808):oidB (txtO l)=if l=[] then none else some (enc l):=by
 cases l with
 |nil=>rfl
 |cons n r =>
  have hn:=h n (aK ..);have hr:=λx hx=>h x (aP n hx);have e:=pY (min (n / 40) 2) (dgs (n-40*min (n / 40) 2) 1++tail46 r) z2_;rw [pX _ r z2_ hr] at e;have et:txtO (n::r)=dgs (min (n / 40) 2) 1++[46]++(dgs (n-40*min (n / 40) 2) 1++tail46 r):=by rw [txtO];simp only [List.append_assoc]
  unfold oidB;rw [et,e];simp only [Option.map_some];have hok:oidOk (min (n / 40) 2::(n-40*min (n / 40) 2)::r)=true:=by
   unfold oidOk;simp only [Bool.and_eq_true,Bool.or_eq_true,ax];refine⟨by simp,?_⟩;show(min (n / 40) 2=2/\n-40*min (n / 40) 2<9223372036854775728)\/(min (n / 40) 2<2/\n-40*min (n / 40) 2<40);omega
  rw [if_pos hok,if_neg (by simp)];congr 2;show _::r=n::r;congr 1;show 40*(min (n / 40) 2)+(n-40*min (n / 40) 2)=n;omega
theorem refO_oidT (b:LB):oidT b=(refO b).map txtO:=by rw [oh,refO_decO]
theorem jF (b:UInt8) (r:LB) (h:b.toNat<128):chr (b::r)=b.toNat/\wid (b::r)=1:=by
 have e:Go.Lib.decodeL (b::r)=(b.toNat,1):=by
  unfold Go.Lib.decodeL;rw [Go.Lib.decode_at];have e0:(⟨(b::r).toArray⟩:ByteArray).get! 0=b:=by rw [get!_list];rfl
  rw [e0];unfold Go.Lib.decodeN;rw [if_pos h]
 exact⟨by show(Go.Lib.decodeL (b::r)).1=_;rw [e],by show(Go.Lib.decodeL (b::r)).2=_;rw [e]⟩
theorem chr_low (b:UInt8) (r:LB) (h:chr (b::r)<128):b.toNat<128:=by
 rcases Nat.lt_or_ge b.toNat 128 with hb|hb
 ·exact hb
 ·exfalso;have e:chr (b::r)=(Go.Lib.decodeL (b::r)).1:=rfl;rw [e] at h;unfold Go.Lib.decodeL at h;rw [Go.Lib.decode_at] at h;have e0:(⟨(b::r).toArray⟩:ByteArray).get! 0=b:=by rw [get!_list];rfl
  rw [e0] at h;unfold Go.Lib.decodeN at h;rw [if_neg z2_] at h;split at h
  ·split at h<;>simp only at h<;>omega
  ·split at h
   ·split at h<;>simp only at h<;>omega
   ·split at h
    ·split at h<;>simp only at h<;>omega
    ·simp only at h;omega
theorem chr_dig (s:LB) (p:Nat) (hp:p<s.length):(48<=chr (s.drop p)/\chr (s.drop p)<=57<->48<=byteAt s p/\byteAt s p<=57)/\(48<=chr (s.drop p)/\chr (s.drop p)<=57->chr (s.drop p)=byteAt s p/\wid (s.drop p)=1):=by
 have e:s.drop p=s[p]::s.drop (p+1):=aX hp;have eb:=bY s p hp;rw [e];constructor
 ·constructor
  ·intro h;have h1:=chr_low s[p] (s.drop (p+1)) z2_;rw [(jF _ _ h1).1,eb] at h;exact h
  ·intro h;rw [(jF _ _ z2_).1,eb];exact h
 ·intro h;have h1:=chr_low s[p] (s.drop (p+1)) z2_;rw [(jF _ _ h1).1,(jF _ _ h1).2,eb];exact⟨U,U⟩
theorem rY (a b:LB):numV a<=numV (a++b):=by
 have key:∀ (l:LB) (v:Nat),v<=l.foldl (λv (c:UInt8)=>v*10+(c.toNat-48)) v:=by
  intro l
  induction l with
  |nil=>intro v;exact aL _
  |cons c l ih=>intro v;exact Nat.le_trans (show v<=v*10+(c.toNat-48) by omega) (ih _)
 unfold numV;rw [List.foldl_append];exact key _ _
theorem pZ (s:LB) (p:Nat):numV (s.take p)<=numV s:=by
 conv=>rhs;rw [<- List.take_append_drop p s]
 exact rY _ _
theorem numV_ge (c:UInt8) (hc:49<=c.toNat):∀ (r:LB),10 ^ r.length<=numV (c::r):=by
 have key:∀ (l:LB) (v:Nat),v*10 ^ l.length<=l.foldl (λv (c:UInt8)=>v*10+(c.toNat-48)) v:=by
  intro l
  induction l with
  |nil=>intro v;simp
  |cons c l ih =>
   intro v;refine Nat.le_trans ?_ (ih _);rw [aC,Nat.pow_succ,<- Nat.mul_assoc,Nat.mul_right_comm];exact bD _ (show v*10<=v*10+(c.toNat-48) by omega)
 intro r;have:=key r (c.toNat-48);unfold numV;rw [List.foldl_cons];simp only [Nat.zero_mul,Nat.zero_add];refine Nat.le_trans ?_ this;exact Nat.le_mul_of_pos_left _ z2_
def numP (s:LB):Nat×Bool:=match numB s with|some v=>(v,true)|none=>(0,false)
theorem numP_bad {s:LB}(h:s.length=0\/1<s.length/\byteAt s 0=48):numP s=(0,false):=by
 have hb:numBad s=true:=aj (by unfold byteAt at h;omega);simp [numP,numB,hb]
theorem tP {s:LB}{p:Nat}(hp:p<s.length) (h:¬ (48<=byteAt s p/\byteAt s p<=57)):numP s=(0,false):=by
 have hb:s.all dig=false:=by
  rw [List.all_eq_false];refine⟨s[p],aF _,?_⟩;have e:=bY s p hp;unfold dig;rw [au z2_];decide
 simp [numP,numB,hb]
theorem n5 (s:LB) (i:Nat) (h:i<s.length):numV (s.take (i+1))=numV (s.take i)*10+(byteAt s i-48):=by
 rw [am h,jl,bY s i h]
theorem all_take1 (s:LB) (i:Nat) (h:i<s.length):(s.take (i+1)).all dig=((s.take i).all dig&&decide (48<=byteAt s i/\byteAt s i<=57)):=by
 rw [am h,List.all_append];simp [dig,bY s i h]
theorem numP_big {s:LB}{p:Nat}(hp:p<s.length) (h:9223372036854775808<=numV (s.take p)*10+(byteAt s p-48)):numP s=(0,false):=by
 have h1:=pZ s (p+1);rw [n5 s p hp] at h1;unfold numP numB;by_cases hb:(numBad s||!s.all dig)=true
 ·rw [if_pos hb]
 ·rw [if_neg hb,if_neg z2_]
theorem tQ {s:LB}(h0:¬ (s.length=0\/1<s.length/\byteAt s 0=48)) (hd:s.all dig=true) (hv:numV s<9223372036854775808):numP s=(numV s,true):=by
 have hl:s.length<=19:=by
  rcases Nat.lt_or_ge 19 s.length with hl|hl
  ·exfalso;cases s with
   |nil=>simp at hl
   |cons c r =>
    simp only [aC] at hl h0;have hc:dig c=true:=by simp only [List.all_cons,Bool.and_eq_true] at hd;exact hd.1
    unfold dig at hc;have hc':=of_decide_eq_true hc;have e:byteAt (c::r) 0=c.toNat:=rfl;rw [e] at h0;have:=numV_ge c z2_ r;have h2:10 ^ 19<=10 ^ r.length:=Nat.pow_le_pow_right bT z2_;simp only [Nat.reducePow] at h2;omega
  ·exact hl
 have hb:numBad s=false:=au (by unfold byteAt at h0;omega);unfold numP numB;rw [hb,hd,if_neg bT,if_pos hv]
theorem numP_lt (s:LB):(numP s).1<9223372036854775808:=by
 unfold numP numB;split<;>rename_i h
 ·split at h
  ·cases h
  ·split at h
   ·cases h;assumption
   ·cases h
 ·decide
theorem uh:hiB 0=[]:=rfl
theorem hiB_k (n k:Nat) (hn:n<9223372036854775808) (h0:n / 128 ^ k≠0):hiB (n / 128 ^ k)=hiB (n / 128 ^ (k+1))++[UInt8.ofNat (n / 128 ^ k % 128+128)]:=by
 have hlt:n / 128 ^ k<=n:=Nat.div_le_self _ _;rw [oH _ (by simp only [Nat.reducePow];omega) h0,Nat.div_div_eq_div_mul,Nat.pow_succ]
theorem b128_eq (n:Nat):b128 n=hiB (n / 128 ^ (0+1))++[UInt8.ofNat (n % 128)]:=by
 unfold b128;simp
theorem mZ:∀ (a cur r:LB),(∀ c∈a,c≠46)->numsGo (a++46::r) cur=match numB (cur++a) with|none=>none|some n=>(numsGo r []).map (n::·)
 |[],cur,r,_=>by
  simp only [List.nil_append,List.append_nil,numsGo,if_true]<;>(cases numB cur<;>rfl)
 |c::a,cur,r,h=>by
  simp only [List.cons_append,numsGo];rw [if_neg (h c (aK ..)),mZ a _ r (λx hx=>h x (aP _ hx))];simp
theorem mf:∀ (a cur:LB),(∀ c∈a,c≠46)->numsGo a cur=(numB (cur++a)).map ([·])
 |[],cur,_=>by simp [numsGo]
 |c::a,cur,h=>by
  simp only [numsGo];rw [if_neg (h c (aK ..)),mf a _ (λx hx=>h x (aP _ hx))];simp
theorem numP_some {s:LB}{v:Nat}(h:numP s=(v,true)):numB s=some v:=by
 unfold numP at h;split at h
 ·cases h;assumption
 ·cases h
theorem numP_none {s:LB}{v:Nat}(h:numP s=(v,false)):numB s=none:=by
 unfold numP at h;split at h
 ·cases h
 ·assumption
theorem ut:∀ (s:LB),(Go.Lib.indexByte s 46=-1/\∀ c∈s,c≠46)\/∃ k,k<s.length/\Go.Lib.indexByte s 46=(k:Int)/\s=s.take k++46::s.drop (k+1)/\∀ c∈s.take k,c≠46
 |[]=>.inl ⟨U,by simp⟩
 |c::r=>by
  rw [Go.Lib.indexByte];split
  ·rename_i hc;have hc:=eq_of_beq hc;subst hc;exact .inr ⟨0,by simp,by simp,by simp,by simp⟩
  ·rename_i hc;have hc:c≠46:=λe=>hc (by rw [e];rfl);rcases ut r with ⟨h1,h2⟩|⟨k,h1,h2,h3,h4⟩
   ·rw [h1];refine .inl ⟨U,λx hx=>?_⟩;rcases List.mem_cons.1 hx with rfl|hx
    ·exact hc
    ·exact h2 x hx
   ·rw [h2];refine .inr ⟨k+1,by simp;omega,?_,?_,λx hx=>?_⟩
    ·rw [if_neg (by simp)];simp
    ·simp only [List.take_succ_cons,List.drop_succ_cons,List.cons_append];rw [<- h3]
    ·simp only [List.take_succ_cons] at hx;rcases List.mem_cons.1 hx with rfl|hx
     ·exact hc
     ·exact h4 x hx
def Wd (r:Option Nat):Fence:={ Fence.wide with round:=r }
def noDefer:LR->Bool
 |[]=>true
 |o::l=>(match o.op with|.defer _=>false|_=>true)&&noDefer l
theorem sk {P:Program}{ops:Array Oper}{Q:Exit->Act->World->Prop}(hQ:¬ LetsOut Q) (r:Option Nat):∀ (l:LR) (a:Act) (w:World),noDefer l=true->wpList P ops Q l a w->wpListIn (Wd r) 0 P ops Q l a w
 |[],_,_,_,h=>h
 |o::l,a,w,hn,h=>by
  have ih:=λa w=>sk (P:=P) (ops:=ops) hQ r l a w (by simp only [noDefer,Bool.and_eq_true] at hn;exact hn.2);have hd:∀ c,o.op≠.defer c:=λc hc=>by simp [noDefer,hc] at hn
  have hsem:∀ ro,o.semAt ro a.eval=execOp a.eval o:=λro=>Oper.semAt_eq _ _ _ hd;unfold wpList at h;unfold wpListIn;split at h
  ·rename_i hw;rw [if_pos hw];rcases h with h|⟨_,h⟩
   ·refine⟨λ_ _=>trivial,?_⟩;rw [hsem];unfold Oper.wp at h;generalize (execOp a.eval o).run P w=res at h |-
    cases res with
    |ok nx w' =>
     cases nx with
     |value v=>exact ih _ _ h
     |skip=>exact ih _ _ h
     |defer d=>exact ih _ _ h
     |enter f args =>
      refine⟨(λhh=>by cases hh),?_⟩;have hc:CallsIn Fence.wide 0 P f args w' (λe w''=>match e with
       |.returned v=>wpListIn (Wd r) 0 P ops Q l (a.put o.dst v) w''
       |.panicked chain=>Q (.panic chain) a w''
       |.outgrown=>LetsOut Q):=callsIn_wide.2 (Calls.mono h λe w'' hh=>by
       cases e with
       |returned v=>exact ih _ _ hh
       |panicked c=>exact hh
       |outgrown=>exact hh)
      exact⟨trivial,λcs hr=>by
       obtain⟨e,w'',fr,hR,rest⟩:=hc.2 cs (room_wide _);refine⟨e,w'',fr,?_,rest⟩;cases e<;>exact hR⟩
     |row row args =>
      refine⟨(λhh=>by cases hh),?_⟩;exact λc cs hr=>by
       obtain⟨v,w'',hR,hs⟩:=h c cs;exact⟨v,w'',ih _ _ hR,stepsIn_wide.2 hs⟩
     |_=>exact h.elim
    |halt hl w' =>
     cases hl with
     |panic v=>exact h
     |_=>exact h.elim
   ·exact absurd h hQ
  ·rename_i hw;rw [if_neg hw];exact⟨λ_ _=>trivial,ih _ _ h⟩
theorem Fr.noOut (f:Fr) (n:Post) (x:Nat->Post):¬ LetsOut (f.Q n x):=λ⟨_,_,h⟩=>h
def JI (f:Fr) (ops:Array Oper) (n:Post) (x:Nat->Post) (l:LR):Post:=λS h L=>∀ a w,Sat f.e f.m S h L a w->wpListIn Fence.wide 0 f.P ops (f.Q n x) l a w
def JR (f:Fr) (l:Nat) (c:Code) (n:Post) (x:Nat->Post):Post:=λS h L=>∀ a w,Sat f.e f.m S h L a w->c.wpIn (Wd (some l)) 0 f.P (f.Q n x) a w
def Loop.after (r:Loop) (b:Bool):Loop:={ r with state:=bif b then .ready else .done,pending:=bif b then none else some .ret }
def Rd (P:Program) (l:Nat) (r:Loop) (v:Value) (h:Part) (Li:LE) (R:Bool->Part->LE->Prop):Prop :=
 ∀ w,Ok ⟨w,(·∈keys (.obj l (.loop r)::Li)),h,[]⟩ h (.obj l (.loop r)::Li) w->∀ p,r.params=#[p] ->
  RoundIn Fence.wide 0 P l r.fn (r.tmps.setIfInBounds p v) r.assign r.body w λe w'=>∃ b h' Lo,e=.returned (.bool b)/\R b h' Lo/\Ok ⟨w,(·∈keys (.obj l (.loop r)::Li)),h,[]⟩ h' (.obj l (.loop (Loop.after r b))::Lo) w'
section
variable {f:Fr}{n:Post}{x:Nat->Post}{S:Sig}{h:Part}{L Li Lr:LE}{ops:Array Oper}{rest:LR}
variable {ty:TypeId}{pos:String}{af:Array Edge}{d:Nat}
theorem J.regionI {id:Nat}{l:LR}(k:JI f l.toArray n x l S h L):J f (.region id l.toArray false) n x S h L:=λa w s=>(wpIn_wide (n:=0)).1 (wpIn_region_lit (k a w s))
theorem JI.of {l:LR}(hn:noDefer l=true) (k:JL f ops n x l S h L):JI f ops n x l S h L:=λa w s=>sk (f.noOut n x) none l a w hn (k a w s)
theorem JI.op {q:Op}{v:Value}(r:RunV f S h L q ty v) (hd:Nat.blt d f.m=true) (k:JI f ops n x rest ((d,v)::S) h L):JI f ops n x (⟨some d,q,ty,pos,af,none⟩::rest) S h L:=λa w s=>by
 unfold wpListIn;rw [if_pos (by simp [Region.wanted])];refine⟨λ_ _=>trivial,?_⟩;have hr:(Oper.semAt Fence.wide.round a.eval ⟨some d,q,ty,pos,af,none⟩).run f.P w=.ok (.value v) w:=r a w s _ _ _ _;rw [hr];exact k _ w (s.put hd v s.ok)
theorem JI.yield {l:Nat}{r:Loop}{v:Value}{vo fo:Operand}{ts:Array TypeId}{p0:Tmp}{R:Bool->Part->LE->Prop}(hf:ev S fo=some (.func (.yield l) #[] #[])) (hv:ev S vo=some v) (hp:r.params=#[p0])
 (p:Parts (.obj l (.loop r)::Li) L Lr) (c:Rd f.P l r v h Li R) (hd:Nat.blt d f.m=true)
 (k:∀ b h' Lo,h.le h'->R b h' Lo->JI f ops n x rest ((d,.bool b)::S) h' (.obj l (.loop (Loop.after r b))::(Lo++Lr))) :
 JI f ops n x (⟨some d,.call { callee:=.value fo,args:=#[vo],argTypes:=ts },ty,pos,af,none⟩::rest) S h L:=λa w s=>by
 unfold wpListIn;rw [if_pos (by simp [Region.wanted])];refine⟨λ_ _=>trivial,?_⟩;have okp:=s.ok.perm p.perm;have hl:w.heap[l]?=some (.loop r):=okp.own (.obj l (.loop r)) (by simp);have hy:=run_yield (P:=f.P) (args:=#[v]) hl (by rw [hp];rfl);have hr:(Oper.semAt Fence.wide.round a.eval ⟨some d,.call { callee:=.value fo,args:=#[vo],argTypes:=ts },ty,pos,af,none⟩).run f.P w=.ok (.round l r.fn (r.tmps.setIfInBounds p0 v) r.assign r.body) w:=by
  show(execOp a.eval ⟨some d,.call { callee:=.value fo,args:=#[vo],argTypes:=ts },ty,pos,af,none⟩).run f.P w=_;rw [hp] at hy;simpa [execOp,resolve,s.eval hf,s.eval hv,Deferred.ofValue,invoke] using hy
 rw [hr];refine⟨(λhh=>by cases hh),(c w okp.enter p0 hp).mono λe w' hh=>?_⟩;obtain⟨b,h',Lo,rfl,hR,hO⟩:=hh;have okc:=okp.call hO;exact k b h' Lo hO.le hR _ _ (s.put hd (.bool b) okc)
variable {l:Nat}
theorem JR.weak {c:Code}(S':Sig) (hw:Weak S' S) (k:JR f l c n x S' h L):JR f l c n x S h L:=λa w s=>k a w (s.weak hw)
theorem JR.skip (k:n S h L):JR f l .skip n x S h L:=λ_ _ s=>wpIn_skip ⟨_,_,_,s,k⟩
theorem JR.seq {c d:Code}(k:JR f l c (JR f l d n x) x S h L):JR f l (.seq c d) n x S h L:=λa w s=>by
 refine wpIn_seq (wpIn_mono (k a w s) (λex a' w' q=>?_));cases ex with
 |normal=>obtain⟨S',h',L',s',k'⟩:=q;exact k' a' w' s'
 |_=>exact q
theorem JR.ret (k:f.r S h L):JR f l .ret n x S h L:=λ_ _ s=>wpIn_ret ⟨_,_,_,s,k⟩
theorem JR.region {id:Nat}{os:LR}(hn:noDefer os=true) (k:JL f os.toArray n x os S h L):JR f l (.region id os.toArray false) n x S h L:=λa w s=>wpIn_region_lit (sk (f.noOut n x) (some l) os a w hn (k a w s))
theorem JR.bsplit {c:Code}(t:Nat) {b:Bool}(ht:look S t=some (.bool b)) (k1:b=true->JR f l c n x ((t,.bool true)::S) h L) (k2:b=false->JR f l c n x ((t,.bool false)::S) h L):JR f l c n x S h L:=λa w s=>by
 cases hb:b with
 |true=>exact k1 hb a w (s.bool ht hb)
 |false=>exact k2 hb a w (s.bool ht hb)
theorem JR.cond_t {t:Operand}{c d:Code}(ht:ev S t=some (.bool true)) (k1:JR f l c n x S h L):JR f l (.cond t c d) n x S h L:=λa w s=>wpIn_cond_true (s.eval ht) (k1 a w s)
theorem JR.cond_f {t:Operand}{c d:Code}(ht:ev S t=some (.bool false)) (k1:JR f l d n x S h L):JR f l (.cond t c d) n x S h L:=λa w s=>wpIn_cond_false (s.eval ht) (k1 a w s)
theorem JR.cs {b:Bool}{p q:Prop}{c d:Code}{t:Nat}(ht:look S t=some (.bool b)) [s:Sp b p q] (k1:p->JR f l c n x ((t,.bool true)::S) h L) (k2:q->JR f l d n x ((t,.bool false)::S) h L):JR f l (.cond (.tmp t) c d) n x S h L :=
 JR.bsplit t ht (λhb=>JR.cond_t (by simp [ev,look]) (k1 (s.t hb))) (λhb=>JR.cond_f (by simp [ev,look]) (k2 (s.f hb)))
theorem JR.sr {d:Code}{id:Nat}{os:LR}(hn:noDefer os=true) (k:JL f os.toArray (JR f l d n x) x os S h L):JR f l (.seq (.region id os.toArray false) d) n x S h L:=JR.seq (JR.region hn k)
theorem JR.kp {S':Sig}{c:Code}(ks:List Nat) (hk:keepS ks S=some S') (k:JR f l c n x S' h L):JR f l c n x S h L:=JR.weak S' (fS hk) k
theorem JR.nk {S':Sig}{c:Code}{x':Nat->Post}(ks:List Nat) (hk:keepS ks S=some S') (k:JR f l c n x S' h L):JL f ops (JR f l c n x) x' [] S h L:=a_ (JR.weak S' (fS hk) k)
theorem JR.block {id:Nat}{c:Code}(k:JR f l c n (λi=>bif Nat.beq i id then n else x i) S h L) (hid:Nat.blt id 1000000=true:=by rfl):JR f l (.block id c) n x S h L:=λa w s=>by
 refine wpIn_block (wpIn_mono (k a w s) (λex a' w' q=>?_));cases ex with
 |exit i =>
  obtain⟨S',h',L',s',k',hi⟩:=q;simp only [Exit.inBlock];cases hb:Nat.beq i id with
  |true =>
   have:i=id:=aq hb;simp only [hb,cond_true] at k';rw [if_pos this];exact⟨S',h',L',s',k'⟩
  |false =>
   have:i≠id:=Nat.ne_of_beq_eq_false hb;simp only [hb,cond_false] at k';rw [if_neg this];exact⟨S',h',L',s',k',hi⟩
 |goto l =>
  obtain⟨S',h',L',s',k'⟩:=q;have hlt:id<1000000:=by simpa using hid
  have hne:Nat.beq (l+1000000) id=false:=by
   cases hb:Nat.beq (l+1000000) id with
   |true=>have:=aq hb;omega
   |false=>rfl
  simp only [hne,cond_false] at k';exact⟨S',h',L',s',k'⟩
 |_=>exact q
def Slots (m:Nat) (S:Sig) (tmps:Array Value):Prop:=tmps.size=m/\∀ s v,look S s=some v->tmps[s]?=some v
theorem Ok.putObj {e:Env}{b:Nat}{o:Obj}{w:World}(k:Ok e h (.obj b o::L) w) (o':Obj):Ok e h (.obj b o'::L) (w.putObj b o'):=by
 have hl:w.heap[b]?=some o:=k.own _ (aK ..);refine k.turn U U U (by simp) (λb' _ hne=>World.putObj_heap_other (λe=>hne (by rw [e];rfl))) (World.putObj_heap_same (Array.getElem?_eq_some_iff.1 hl).1) (λb' hb'=>.inl hb')
theorem Rd.intro {P:Program}{r:Loop}{v:Value}{m:Nat}{A B:Code}{pp:Tmp}{R:Bool->Part->LE->Prop}(hA:r.assign=A) (hB:r.body=B) (hs:r.state=.ready) (hpe:r.pending=none) (hpp:r.params=#[pp]) (hlt:Nat.blt pp m=true) (ht:Slots m S r.tmps)
 (k:∀ e:Env,e.ds=[]->∃ N:Post,JR ⟨P,e,m,λ_ _ _=>False,λ_ _ _ _=>False⟩ l A (λS1 h1 L1=>h1=h/\L1=.obj l (.loop r)::Li/\N S1 h1 (.obj l (.loop { r with state:=.busy })::Li)) NoExit ((pp,v)::S) h (.obj l (.loop r)::Li) /\
  ∀ S1,N S1 h (.obj l (.loop { r with state:=.busy })::Li) ->
   JR ⟨P,e,m,λ_ h' L'=>∃ Lo Lr,Parts (.obj l (.loop { r with state:=.busy })::Lo) L' Lr/\R false h' Lo,λ_ _ _ _=>False⟩ l B (λ_ h' L'=>∃ Lo Lr,Parts (.obj l (.loop { r with state:=.busy })::Lo) L' Lr/\R true h' Lo) NoExit S1 h (.obj l (.loop { r with state:=.busy })::Li)) :
 Rd P l r v h Li R:=λw hw p hp=>by
 rw [hpp] at hp;cases hp;obtain⟨N,kA,kB⟩:=k ⟨w,(·∈keys (.obj l (.loop r)::Li)),h,[]⟩ U;have hlt':pp<m:=by simpa using hlt
 have s0:Sat ⟨w,(·∈keys (.obj l (.loop r)::Li)),h,[]⟩ m ((pp,v)::S) h (.obj l (.loop r)::Li) { tmps:=r.tmps.setIfInBounds pp v,defers:=[] } w:=by
  have s1:Sat ⟨w,(·∈keys (.obj l (.loop r)::Li)),h,[]⟩ m S h (.obj l (.loop r)::Li) { tmps:=r.tmps,defers:=[] } w:=⟨ht.1,λs v hv=>ht.2 s v hv,U,hw⟩;have:=s1.put hlt v s1.ok;simpa [Act.put] using this
 refine roundIn_of_wpIn trivial ?_;rw [hA,hB];refine wpIn_mono (kA _ _ s0) (λex a1 w1 q=>?_);cases ex with
 |normal =>
  obtain⟨S1,h1,L1,s1,rfl,rfl,hN⟩:=q;have hl1:w1.heap[l]?=some (.loop r):=s1.ok.own (.obj l (.loop r)) (by simp);refine⟨_,run_beginRound hl1 hs,?_⟩;refine wpIn_mono (kB S1 hN _ _ (s1.with (s1.ok.putObj _))) (λex2 a2 w2 q2=>?_);have fin:∀ (b:Bool) (jump:Option Code) (h':Part) (Lo Lr L2:LE) (S2:Sig),jump=(bif b then none else some .ret)->Sat ⟨w,(·∈keys (.obj l (.loop r)::Li)),h1,[]⟩ m S2 h' L2 a2 w2->Parts (.obj l (.loop { r with state:=.busy })::Lo) L2 Lr->R b h' Lo ->
   ∃ v w',(Instr.endRound l jump).run P w2=.ok v w'/\∃ b h' Lo,Ending.returned v=.returned (.bool b)/\R b h' Lo/\Ok ⟨w,(·∈keys (.obj l (.loop r)::Li)),h1,[]⟩ h' (.obj l (.loop (Loop.after r b))::Lo) w':=by
   intro b jump h' Lo Lr L2 S2 hj s2 hp hR;have ok2:=(s2.ok.perm hp.perm).drop (L':=.obj l (.loop { r with state:=.busy })::Lo) (by simp);have hl2:w2.heap[l]?=some (.loop { r with state:=.busy }):=ok2.own (.obj l (.loop { r with state:=.busy })) (by simp);refine⟨_,_,run_endRound jump hl2,b,h',Lo,?_,hR,?_⟩
   ·subst hj;cases b<;>rfl
   ·have:=ok2.putObj (.loop (Loop.after r b));subst hj;cases b<;>exact this
  cases ex2 with
  |normal=>obtain⟨S2,h',L2,s2,Lo,Lr,hp,hR⟩:=q2;exact fin true none h' Lo Lr L2 S2 U s2 hp hR
  |ret=>obtain⟨S2,h',L2,s2,Lo,Lr,hp,hR⟩:=q2;exact fin false (some .ret) h' Lo Lr L2 S2 U s2 hp hR
  |exit i=>obtain⟨_,_,_,_,hh⟩:=q2;exact hh.1.elim
  |panic c=>obtain⟨_,_,_,_,hh⟩:=q2;exact hh.elim
  |goto i=>obtain⟨_,_,_,_,hh⟩:=q2;exact hh.elim
  |outgrown=>exact q2.elim
 |ret=>obtain⟨_,_,_,_,hh⟩:=q;exact hh.elim
 |exit i=>obtain⟨_,_,_,_,hh⟩:=q;exact hh.1.elim
 |panic c=>obtain⟨_,_,_,_,hh⟩:=q;exact hh.elim
 |goto i=>obtain⟨_,_,_,_,hh⟩:=q;exact hh.elim
 |outgrown=>exact q.elim
def JG (f:Fr) (c:Code) (Q:Exit->Act->World->Prop):Post:=λS h L=>∀ a w,Sat f.e f.m S h L a w->c.wp f.P Q a w
def Fr.calm (f:Fr):Fr:=⟨f.P,f.e,f.m,λ_ _ _=>False,λ_ _ _ _=>False⟩
def JN (f:Fr) (Q:Exit->Act->World->Prop):Post:=λS h L=>∀ a w,Sat f.e f.m S h L a w->Q .normal a w
def JE (f:Fr) (Q:Exit->Act->World->Prop):Post:=λS h L=>∀ a w,Sat f.e f.m S h L a w->Q .ret a w
theorem JG.seq {c d:Code}{Q:Exit->Act->World->Prop}(k:J f.calm c (JG f d Q) NoExit S h L):JG f (.seq c d) Q S h L:=λa w s=>by
 refine wp_seq (wpm (k a w s) (λex a' w' q=>?_));cases ex with
 |normal=>obtain⟨S',h',L',s',k'⟩:=q;exact k' a' w' s'
 |exit i=>obtain⟨_,_,_,_,hh⟩:=q;exact hh.1.elim
 |ret=>obtain⟨_,_,_,_,hh⟩:=q;exact hh.elim
 |panic c=>obtain⟨_,_,_,_,hh⟩:=q;exact hh.elim
 |goto i=>obtain⟨_,_,_,_,hh⟩:=q;exact hh.elim
 |outgrown=>exact q.elim
def Fr.mark (f:Fr) (D:Nat):Fr:=⟨f.P,{ f.e with ds:=[{ target:=.collected D,args:=#[] }] },f.m,f.r,f.p⟩
def Loop.new (fn:Nat) (tmps:Array Value) (ps:Array Tmp) (A B:Code) (D:Nat):Loop:={ state:=.ready,pending:=none,fn:=fn,tmps:=tmps,params:=ps,assign:=A,body:=B,defers:=D }
theorem Ok.allocObj {e:Env}{w:World}(k:Ok e h L w) (o:Obj):Ok e h (.obj w.heap.size o::L) (w.alloc o):=by
 have keepOld:∀ b,b<w.heap.size->(w.alloc o).heap[b]?=w.heap[b]?:=λb hb=>Below.heap_alloc _ _ _ hb;refine⟨k.os,k.tape,k.output,by have:=k.size;simp;omega,λb hb hm=>?_,λb c hc=>?_,k.le,k.fresh,λx hx=>?_,λb hb=>?_,?_⟩
 ·rw [keepOld b (Nat.lt_of_lt_of_le hb k.size)];exact k.old b hb hm
 ·obtain⟨t',fr,he⟩:=k.sub b c hc;exact⟨t',fr,by rw [keepOld b (k.sub.lt hc)];exact he⟩
 ·cases hx with
  |head=>exact World.alloc_heap_new w _
  |tail _ hx=>exact Ent.keep (k.own x hx) λb hb=>keepOld b (Ent.lt (k.own x hx) hb)
 ·simp only [keys,List.filterMap_cons,Ent.key,List.mem_cons] at hb;rcases hb with rfl|hb
  ·refine⟨?_,.inl k.size⟩;cases hh:h w.heap.size with
   |none=>rfl
   |some c=>have:=k.sub.lt hh;omega
  ·exact k.key b hb
 ·simp only [keys,List.filterMap_cons,Ent.key];exact List.nodup_cons.2 ⟨λhm=>by have:=k.klt hm;omega,k.nodup⟩
theorem Ok.dsx {e:Env}{w:World}(k:Ok e h L w) (ds:List Deferred):Ok { e with ds:=ds } h L w:=⟨k.os,k.tape,k.output,k.size,k.old,k.sub,k.le,k.fresh,k.own,k.key,k.nodup⟩
theorem JG.range {g:Operand}{pp:Tmp}{A B:Code}{gf:Nat}{lb:LV}{Q:Exit->Act->World->Prop}(hg:ev S g=some (.func (.func gf) #[] lb.toArray)) (hF:callT f.P gf=true) (hds:f.e.ds=[])
 (k:∀ (D l fn:Nat) (tmps:Array Value),Slots f.m S tmps->∃ (Li Lr:LE) (R:Bool->Part->LE->Prop),Parts Li L Lr /\
  Fn f.P gf (.func (.yield l) #[] #[]::lb) h (.obj l (.loop (Loop.new fn tmps #[pp] A B D))::Li) (Rets λ_ h' Lo=>∃ b Lo',Lo=.obj l (.loop (Loop.after (Loop.new fn tmps #[pp] A B D) b))::Lo'/\R b h' Lo') /\
  (∀ h' Lo,h.le h'->R true h' Lo->JN (f.mark D) Q S h' (.obj D (.deferred (some []))::(Lo++Lr))) /\
  (∀ h' Lo,h.le h'->R false h' Lo->JE (f.mark D) Q S h' (.obj D (.deferred (some []))::(Lo++Lr)))) :
 JG f (.rangeFunc g #[pp] A B) Q S h L:=λa w s=>by
 refine(wpIn_wide (n:=0)).1 (wpIn_rangeFunc λfn _=>?_);have hda:a.defers=[]:=by rw [s.ds,hds]
 obtain⟨Li,Lr,R,hp,hc,kt,kf⟩:=k w.heap.size (w.heap.size+1) fn a.tmps ⟨s.size,s.slot⟩;have ok1:=s.ok.allocObj (.deferred (some []));have ok2:=ok1.allocObj (.loop (Loop.new fn a.tmps #[pp] A B w.heap.size));rw [World.size_alloc] at ok2;have hw2:∃ w2,w2=((w.alloc (.deferred (some []))).alloc (.loop (Loop.new fn a.tmps #[pp] A B w.heap.size))):=⟨_,U⟩;obtain⟨w2,hw2⟩:=hw2;rw [<- hw2] at ok2;refine⟨w.heap.size+1,[{ target:=.collected w.heap.size,args:=#[] }],w2,{ target:=.fn (.func gf) lb.toArray,args:=#[.func (.yield (w.heap.size+1)) #[] #[]] },w2,gf,#[.func (.yield (w.heap.size+1)) #[] #[]]++lb.toArray,w2,
  by rw [hw2];exact run_enterLoop_outer _ _ _ _ _,?_,λ_ _=>trivial,?_,(λhh=>by cases hh),?_⟩
 ·simp only [resolve,s.eval hg];simp [go_sem,Deferred.ofValue,Sem.run_pure,Act.eval]
 ·simp [invoke,fl hF]
 ·have hin:(w.heap.size+1)=(w.heap.size+1):=rfl;have okp:Ok f.e h ((.obj (w.heap.size+1) (.loop (Loop.new fn a.tmps #[pp] A B w.heap.size))::Li)++(.obj w.heap.size (.deferred (some []))::Lr)) w2:=by
   refine ok2.perm ?_;have:=hp.perm;refine List.Perm.cons _ ?_;refine(List.Perm.cons _ this).trans ?_;exact List.perm_middle.symm
  have hcc:=hc _ okp.enter;have e0:(#[.func (.yield (w.heap.size+1)) #[] #[]]++lb.toArray:Array Value)=(.func (.yield (w.heap.size+1)) #[] #[]::lb).toArray:=by simp
  rw [e0];refine callsIn_wide.2 (hcc.mono λe w' hh=>?_);obtain⟨h',Lo,⟨v,rfl,b,Lo',rfl,hR⟩,hO⟩:=hh;have okc:=okp.call hO;have hl:w'.heap[w.heap.size+1]?=some (.loop (Loop.after (Loop.new fn a.tmps #[pp] A B w.heap.size) b)):=okc.own (.obj _ _) (by simp);have okd:Ok f.e h' (.obj w.heap.size (.deferred (some []))::(Lo'++Lr)) (w'.putObj (w.heap.size+1) (.loop { Loop.after (Loop.new fn a.tmps #[pp] A B w.heap.size) b with state:=.exhausted })):=by
   have:=(okc.putObj (.loop { Loop.after (Loop.new fn a.tmps #[pp] A B w.heap.size) b with state:=.exhausted })).drop (L':=Lo'++(.obj w.heap.size (.deferred (some []))::Lr)) (by simp);exact this.perm List.perm_middle
  have sat:Sat (f.mark w.heap.size).e (f.mark w.heap.size).m S h' (.obj w.heap.size (.deferred (some []))::(Lo'++Lr)) { a with defers:=[{ target:=.collected w.heap.size,args:=#[] }]++a.defers } (w'.putObj (w.heap.size+1) (.loop { Loop.after (Loop.new fn a.tmps #[pp] A B w.heap.size) b with state:=.exhausted })) :=
   ⟨s.size,s.slot,by simp [Fr.mark,hda],okd.dsx _⟩
  refine⟨_,_,run_endLoop hl (by cases b<;>simp [Loop.after]),?_⟩;cases b with
  |true =>
   exact kt h' Lo' hO.le hR _ _ sat
  |false =>
   exact wpIn_ret (kf h' Lo' hO.le hR _ _ sat)
end
section
variable {f:Fr}{S:Sig}{h:Part}{L:LE}
theorem JG.block {id:Nat}{c:Code}{Q:Exit->Act->World->Prop}(k:JG f c (Exit.inBlock id Q) S h L):JG f (.block id c) Q S h L:=λa w s=>wp_block (k a w s)
theorem JG.split {c d:Code}{Q:Exit->Act->World->Prop}(k:JG f c (Exit.then (λa w=>d.wp f.P Q a w) Q) S h L):JG f (.seq c d) Q S h L:=λa w s=>wp_seq (k a w s)
theorem JN.blk {id:Nat}{d:Code}{Q:Exit->Act->World->Prop}(k:JG f d Q S h L):JN f (Exit.inBlock id (Exit.then (λa w=>d.wp f.P Q a w) Q)) S h L:=λa w s=>k a w s
theorem JE.blk {id:Nat}{d:Code}{Q:Exit->Act->World->Prop}(k:JE f Q S h L):JE f (Exit.inBlock id (Exit.then (λa w=>d.wp f.P Q a w) Q)) S h L:=λa w s=>k a w s
end
def EndM (w0:World) (h:Part) (Li:LE) (R:Ending->Part->LE->Prop):Ending->World->Prop:=λe w'=>∃ h' Lo,R e h' Lo/\Ok ⟨w0,(·∈keys Li),h,[]⟩ h' Lo w'
def EnvM (w0:World) (h:Part) (Li:LE) (D:Nat):Env:=⟨w0,(·∈keys Li),h,[{ target:=.collected D,args:=#[] }]⟩
def RetD (P:Program) (w0:World) (h:Part) (Li:LE) (D m:Nat) (fn:Func) (R:Ending->Part->LE->Prop):Post:=λS h' L'=>∃ L1 v Lo Lr,Del (.obj D (.deferred (some []))) L' L1/\RetV P (EnvM w0 h Li D) m fn S h' (.obj D (.deferred none)::L1) v/\Parts Lo L1 Lr/\R (.returned v) h' Lo
theorem Fn.introM {P:Program}{F m:Nat}{fn:Func}{c:Code}{args:LV}{h:Part}{Li:LE}{R:Ending->Part->LE->Prop}(hf:P.funcs[F]?=some fn) (hb:fn.body=some c) (hm:fn.ntmps=m) (hl:Nat.ble args.length m=true)
 (k:∀ w0,JG ⟨P,⟨w0,(·∈keys Li),h,[]⟩,m,λ_ _ _=>False,λ_ _ _ _=>False⟩ c (bodyPostM Fence.wide 0 P fn (EndM w0 h Li R)) (argSig 0 args) h Li):Fn P F args h Li R:=λw hw=>by
 have hl':args.length<=m:=by simpa using hl
 have hs:Sat ⟨w,(·∈keys Li),h,[]⟩ m (argSig 0 args) h Li ⟨args.toArray++Array.replicate (fn.ntmps-args.toArray.size) undef,[]⟩ w:=by
  refine⟨by simp [hm];omega,λs v hv=>?_,U,hw⟩;obtain⟨_,h2⟩:=fK _ _ _ _ hv;have hlt:=(List.getElem?_eq_some_iff.1 h2).1;simp only [Nat.sub_zero] at h2 hlt;rw [Array.getElem?_append_left (by simpa using hlt)];simpa using h2
 exact(callsIn_wide (n:=0)).1 (callsIn_of_wp_marks hf hb trivial (wpIn_wide.2 (k w _ w hs)))
theorem RetD.end_ {P:Program}{w0:World}{h:Part}{Li:LE}{D m:Nat}{fn:Func}{R:Ending->Part->LE->Prop}{a':Act}{w':World} :
 (∃ S h' L',Sat (EnvM w0 h Li D) m S h' L' a' w'/\RetD P w0 h Li D m fn R S h' L')->LeavesInM Fence.wide 0 P fn a'.tmps (EndM w0 h Li R) a'.defers .returning w':=by
 rintro⟨S,h',L',s',L1,v,Lo,Lr,u,hv,hp,hR⟩;have hd:a'.defers=[{ target:=.collected D,args:=#[] }]:=s'.ds;rw [hd];have okp:=s'.ok.perm u.perm;have hK:w'.heap[D]?=some (.deferred (some [])):=okp.own (.obj D _) (by simp);have ok2:=okp.putObj (.deferred none);refine⟨by simp,.inl ⟨D,_,U,run_takeDeferred hK,v,hv _ _ (s'.with ok2),h',Lo,hR,?_⟩⟩;exact hp.ok _ ((ok2.drop (L':=L1) (by simp)).dsx [])
theorem JE.of {P:Program}{w0:World}{h h1:Part}{Li L:LE}{D m:Nat}{fn:Func}{R:Ending->Part->LE->Prop}{S:Sig}{r:Post}{p:List PanicEntry->Post}(k:RetD P w0 h Li D m fn R S h1 L) :
 JE (Fr.mark ⟨P,⟨w0,(·∈keys Li),h,[]⟩,m,r,p⟩ D) (bodyPostM Fence.wide 0 P fn (EndM w0 h Li R)) S h1 L:=λa w s=>RetD.end_ ⟨S,h1,L,s,k⟩
theorem JG.ofJ {P:Program}{w0:World}{h h1:Part}{Li L:LE}{D m:Nat}{fn:Func}{c:Code}{R:Ending->Part->LE->Prop}{S:Sig}{r:Post}{p:List PanicEntry->Post}
 (k:J ⟨P,EnvM w0 h Li D,m,RetD P w0 h Li D m fn R,λ_ _ _ _=>False⟩ c (RetD P w0 h Li D m fn R) NoExit S h1 L) :
 JG (Fr.mark ⟨P,⟨w0,(·∈keys Li),h,[]⟩,m,r,p⟩ D) c (bodyPostM Fence.wide 0 P fn (EndM w0 h Li R)) S h1 L:=λa w s=>by
 refine wpm (k a w s) (λex a' w' q=>?_);cases ex with
 |normal=>exact RetD.end_ q
 |ret=>exact RetD.end_ q
 |panic c=>obtain⟨_,_,_,_,hh⟩:=q;exact hh.elim
 |exit i=>obtain⟨_,_,_,_,hh⟩:=q;exact hh.1.elim
 |goto l=>obtain⟨_,_,_,_,hh⟩:=q;exact hh.elim
 |outgrown=>exact False.elim q
theorem tY {P:Program}{e:Env}{h:Part}{L:LE}{w:World}{b T t:Nat}{v:Value}(hk:Ok e h L w) (hT:aggT P T=some none) (hm:Ent.blk b t [v]∈L):(loadVar T ⟨b,0,none⟩).run P w=.ok v w:=by
 have hb:w.heap[b]?=some (.cells [v].toArray t (0,0)):=hk.own _ hm;have hc:w.cell? ⟨b,0,none⟩=some v:=by rw [cell_of_row w b 0 _ t _ hb];rfl
 simp [loadVar,(f7 hT w).1,load,Sem.run,hc]
theorem RetV.cellv2 {P:Program}{e:Env}{m:Nat}{fn:Func}{S:Sig}{h:Part}{L:LE}{t T b bt t' T' b' bt':Nat}{v v':Value}(hr:fn.results=#[.cell t T,.cell t' T']) (hv:look S t=some (.pointer (some ⟨b,0,none⟩))) (hT:aggT P T=some none) (hm:Ent.blk b bt [v]∈L)
 (hv':look S t'=some (.pointer (some ⟨b',0,none⟩))) (hT':aggT P T'=some none) (hm':Ent.blk b' bt' [v']∈L):RetV P e m fn S h L (.tuple #[v,v']):=λa w s=>by
 simp [results,hr,s.slot t _ hv,s.slot t' _ hv',asAddr,tY s.ok hT hm,tY s.ok hT' hm']
theorem uZ {p:Prop}(u:p:=by repeat (first|exact trivial|refine⟨rfl,?_⟩|refine⟨(by exact cV (by first|exact decide_eq_decide.2 z2_|exact(aj z2_).symm|exact(au z2_).symm)),?_⟩)):p:=u
theorem z36_ {p:Prop}(u:p:=by repeat (first|exact trivial|refine⟨rfl,?_⟩|refine⟨(by exact cV (by first|exact decide_eq_decide.2 (by simp only [<- List.length_eq_zero_iff] at *;omega)|exact(aj (by simp only [<- List.length_eq_zero_iff] at *;omega)).symm|exact(au (by simp only [<- List.length_eq_zero_iff] at *;omega)).symm)),?_⟩)):p:=u
theorem jB:convI prog 21 161=some .u64:=by kernel_rfl
theorem vz {s:LB}{h:Part}(hs:s.length<=140737488355328):Pure prog 116 [.string ⟨s.toArray⟩] h (.tuple #[.int .u64 ((numP s).1:Nat),.bool (numP s).2]):=by
 have hcl:=chr_le;refine aM func116 U ntmps116 U (λe he=>?_);refine bg [(0,_)] ⟨U,trivial⟩ ?_;refine Sr (Ru 2 U (a_ (az (az (cJ [(18,.bool (decide (s.length=0\/1<s.length/\byteAt s 0=48)))] [(3,_),(2,_),(0,_)] ⟨U,U,U,trivial⟩ ?_ ?_)))))
 ·refine Rg (Ru 1 U (ah (RunV.eqlS U U) U ?_));refine Ru 1 U (Bs 9 U (λhc1=>?_) λhc1=>?_)
  ·refine Ru 9 U (a_ (⟨U,U,?_⟩));exact z36_
  refine Ru 1 U (aQ U U  (cD dC U) U ?_);refine Ru 2 U (Bs 13 U (λhc2=>?_) λhc2=>?_)
  ·refine Ru 1 U (aQ U U  (bH dC U U (show _=((0:Nat):Int) from rfl) z2_) U ?_);refine Ru 3 U (a_ (⟨U,U,?_⟩));exact z36_
  refine Ru 5 U (a_ (⟨U,U,?_⟩));exact z36_
 refine Cs U (λhc3=>?_) λhc3=>?_
 ·have hnb:=numP_bad hc3;exact Sr (Ru 2 U (a_ (aH (u:=.tuple #[.int .u64 0,.bool false]) (b_ U U U) (by rw [hnb];rfl) U)))
 refine aA (Sr (Ru 1 U (a_ (az (Sr (Ru 1 U (JL.range dC U U (λb4=>?_))))))));refine a_ (aJ (bM (λt_ S_ h_ L_=>∃ (p:Nat),t_=s.length-p/\S_=[(0,.string ⟨s.toArray⟩),(4,.int .u64 (numV (s.take p):Nat)),(20,.pointer (some ⟨b4,0,none⟩))]/\h=h_/\L_=[.it b4 s p]/\(p<=s.length/\(s.take p).all dig=true/\numV (s.take p)<9223372036854775808)) ⟨_,_,?_,⟨0,U,U,U,U,⟨by omega,by simp,by simp [numV]⟩⟩⟩ ?_))
 ·repeat (first|exact trivial|refine⟨rfl,?_⟩|refine⟨(by first|exact cQ z2_|(rw [hcb.2])),?_⟩)
 rintro _ _ _ _ ⟨p,rfl,rfl,rfl,rfl,hp,hd,hv⟩;have hw:=jN (s.drop p);have hch:=chr_le (s.drop p);refine Sr (JL.next U dl_ U (λhx5=>?_) (λhx5=>?_))
 ·refine Ru 1 U (a_ (az ?_));refine aY U (aA (aJ (Sr (Ru 2 U (a_ (az (az (cJ [(38,.bool (decide (¬ (48<=chr (s.drop p)/\chr (s.drop p)<=57)\/(9223372036854775807-(chr (s.drop p)-48)) / 10<numV (s.take p))))] [(6,_),(23,_),(22,_),(21,_),(0,_),(4,_),(20,_)] ⟨U,U,U,U,U,U,U,trivial⟩ ?_ ?_))))))))
  ·refine Rg (Ru 3 U (Bs 26 U (λhc6=>?_) λhc6=>?_))
   ·refine Ru 12 U (a_ (⟨U,U,?_⟩));exact uZ
   refine Ru 4 U (Bs 30 U (λhc7=>?_) λhc7=>?_)
   ·refine Ru 8 U (a_ (⟨U,U,?_⟩));exact uZ
   refine Ru 2 U (aQ U U  (by first|exact RunV.sub_i32 rfl rfl z2_ z2_|exact dW rfl rfl) U ?_);refine aQ U U  (by first|exact dJ jB rfl z2_ z2_|exact cL jB rfl) U ?_;refine aQ U U  (by first|exact RunV.sub_u64 rfl rfl z2_ z2_|exact dW rfl rfl) U ?_;refine aQ U U  z35_ U ?_;refine Ru 2 U (a_ (⟨U,U,?_⟩));exact uZ
  refine Cs U (λhc8=>?_) λhc8=>?_
  ·have hfin:numP s=(0,false):=(by have hcd:=chr_dig s p z2_;rcases hc8 with hq|hq;exact tP z2_ (λhh=>hq (hcd.1.2 hh));by_cases hw2:48<=chr (s.drop p)/\chr (s.drop p)<=57;exact numP_big (p:=p) z2_ (by have:=(hcd.2 hw2).1;omega);exact tP z2_ (λhh=>hw2 (hcd.1.2 hh)));refine Sr (Ru 2 U (a_ ?_))
   first|exact aH (u:=.tuple #[.int .u64 0,.bool false]) (b_ rfl rfl rfl) (by rw [hfin];rfl) rfl|(have hpe:s.take p=s:=aS z2_;have hfin:numP s=(numV s,true):=tQ z7_ (by rw [<- hpe];exact hd) (by rw [<- hpe];exact hv);rw [hpe];exact aH (u:=.tuple #[.int .u64 (numV s:Nat),.bool true]) (b_ rfl rfl rfl) (by rw [hfin]) rfl)
  have hdg:48<=chr (s.drop p)/\chr (s.drop p)<=57:=z2_;have hcd:=chr_dig s p z2_;have hcb:=hcd.2 hdg;have hbd:=hcd.1.1 hdg;have hst:=n5 s p z2_;have hal:=all_take1 s p z2_;refine aA (Rg (Ru 1 U (ah (by first|exact RunV.mul_u64 rfl rfl z2_ z2_|exact RunV.mul rfl rfl) U ?_)));refine Ru 1 U (ah (by first|exact RunV.sub_i32 rfl rfl z2_ z2_|exact dW rfl rfl) U ?_);refine ah (by first|exact dJ jB rfl z2_ z2_|exact cL jB rfl) U ?_;refine ah (by first|exact RunV.add_u64 rfl rfl z2_ z2_|exact RunV.add rfl rfl) U ?_;refine Ru 1 U (a_ ?_);rw [hcb.2];refine⟨_,?_,_,?_,⟨p+1,U,U,U,U,⟨by omega,by rw [hal,hd,aj hbd];rfl,by omega⟩⟩⟩
  ·omega
  repeat (first|exact trivial|refine⟨rfl,?_⟩|refine⟨(by first|exact cQ z2_|(rw [hcb.2])),?_⟩)
 refine Ru 1 U (a_ (az (dA U ?_)));refine bA (Sr (Ru 3 U (Nk [3,2] U ?_)))
 first|exact aH (u:=.tuple #[.int .u64 0,.bool false]) (b_ rfl rfl rfl) (by rw [hfin];rfl) rfl|(have hpe:s.take p=s:=aS z2_;have hfin:numP s=(numV s,true):=tQ z7_ (by rw [<- hpe];exact hd) (by rw [<- hpe];exact hv);rw [hpe];exact aH (u:=.tuple #[.int .u64 (numV s:Nat),.bool true]) (b_ rfl rfl rfl) (by rw [hfin]) rfl)
theorem shr_cast7 (n j:Nat) (e:Int) (he:e=7*(j:Int)):(n:Int) / 2 ^ e.toNat=((n / 128 ^ j:Nat):Int):=by
 subst he;have h1:(7*(j:Int)).toNat=7*j:=by omega
 have h2:(128:Nat) ^ j=2 ^ (7*j):=by rw [Nat.pow_mul]
 rw [h1,h2];simp
set_option maxRecDepth 100000 in
theorem or128_:∀ m:Fin 256,bits .or .u8 (m.val:Int) 128=((UInt8.ofNat (m.val % 128+128)).toNat:Int):=by decide
theorem RunV.or128 {f:Fr}{S:Sig}{h:Part}{L:LE}{ty T yt:TypeId}{x y:Operand}(m:Nat) (hx:ev S x=some (.int .u8 ((UInt8.ofNat m).toNat:Int))) (hy:ev S y=some (.int .u8 128)):RunV f S h L (.binOp .or T x y yt) ty (.int .u8 ((UInt8.ofNat (m % 128+128)).toNat:Int)):=by
 have:=RunV.or_ (f:=f) (h:=h) (L:=L) (ty:=ty) (T:=T) (yt:=yt) hx hy;have e:=or128_ ⟨(UInt8.ofNat m).toNat,(UInt8.ofNat m).toNat_lt⟩;simp only at e;rw [e] at this;have e2:(UInt8.ofNat m).toNat % 128=m % 128:=by rw [UInt8.toNat_ofNat'];omega
 rw [e2] at this;exact this
theorem RunV.and127 {f:Fr}{S:Sig}{h:Part}{L:LE}{ty T yt:TypeId}{x y:Operand}(m:Nat) (hx:ev S x=some (.int .u8 ((UInt8.ofNat m).toNat:Int))) (hy:ev S y=some (.int .u8 127)):RunV f S h L (.binOp .and T x y yt) ty (.int .u8 ((UInt8.ofNat (m % 128)).toNat:Int)):=by
 have:=RunV.maskb_u8 (f:=f) (h:=h) (L:=L) (ty:=ty) (T:=T) (yt:=yt) 7 128 hx hy bT bT bT;have e2:((UInt8.ofNat m).toNat:Int) % 128=((UInt8.ofNat (m % 128)).toNat:Int):=by rw [UInt8.toNat_ofNat',UInt8.toNat_ofNat'];omega
 rw [e2] at this;exact this
theorem oput_fn {a:OA}{c:Nat}{l:LB}{n:Nat}{h:Part}(hn:n<9223372036854775808) (hb:l.length<=70368744177664) :
 Fn prog 117 [.slice a l.length c,.int .u64 n] h [.row a c 5 1 l.length (u8s l)]
  (Rets λv _ Lo=>∃ a' c',v=.slice a' (l++b128 n).length c'/\Lo=[.row a' c' 5 1 (l++b128 n).length (u8s (l++b128 n))]):=by
 have hp0:∀ k,n / 128 ^ (k+1)=n / 128 ^ k / 128:=λk=>by rw [Nat.div_div_eq_div_mul,Nat.pow_succ]
 have hp9:∀ k,9<=k->n / 128 ^ k=0:=λk hk=>by
  refine Nat.div_eq_of_lt (Nat.lt_of_lt_of_le (show n<128 ^ 9 by simp only [Nat.reducePow];omega) (Nat.pow_le_pow_right bT hk))
 refine aM func117 U ntmps117 U (λe he=>?_);refine bg [(0,_),(1,_)] ⟨U,U,trivial⟩ ?_;refine Sr ?_;refine Ru 1 U (a_ (Sr (Ru 1 U (a_ (az (Sr (Ru 1 U (ah (RunV.shr_u64 128 U U bT bT bT) U ?_))))))));refine Ru 1 U (a_ (aJ (bM (λt_ S_ h_ L_=>∃ (k:Nat),t_=10-k/\S_=[(0,.slice a l.length c),(1,.int .u64 n),(5,.int .i64 k),(6,.int .u64 (n / 128 ^ (k+1):Nat))]/\h=h_/\L_=[.row a c 5 1 l.length (u8s l)]/\(k<=9/\(k=0\/n / 128 ^ k≠0))) ⟨_,_,?_,⟨0,U,U,U,U,⟨by omega,.inl U⟩⟩⟩ ?_)))
 ·exact g7
 rintro _ _ _ _ ⟨k,rfl,rfl,rfl,rfl,hk,hk0⟩;have hq:=hp0 (k+1);have hq9:=hp9 (k+1);refine az (Sr (Ru 2 U (a_ (Cs U (λhc1=>?_) λhc1=>?_))))
 ·refine aA (az (aJ (Rg (Ru 1 U (ah ai_ U ?_)))));refine Ru 1 U (a_ (Rg (Ru 1 U (ah (RunV.shr_u64 128 U U bT bT bT) U ?_))));refine Ru 1 U (a_ (⟨_,?_,_,?_,⟨k+1,U,U,U,U,⟨by omega,.inr z2_⟩⟩⟩))
  ·omega
  exact g7
 have hz0:n / 128 ^ (k+1)=0:=Nat.eq_zero_of_not_pos (λhh=>hc1 (Int.natCast_pos.2 hh));refine bA (az (aJ (bM (λt_ S_ h_ L_=>∃ (j:Nat) (out:LB) (a9:OA) (q:Nat),t_=j+1/\S_=[(0,.slice a9 out.length q),(1,.int .u64 n),(5,.int .i64 j)]/\h=h_/\L_=[.row a9 q 5 1 out.length (u8s out)]/\(j<=9/\(j=0\/n / 128 ^ j≠0)/\out.length<=l.length+10-j/\out=l++hiB (n / 128 ^ (j+1)))) ⟨_,_,?_,⟨k,_,_,_,U,U,U,U,⟨by omega,by assumption,by omega,by rw [hz0,uh,List.append_nil]⟩⟩⟩ ?_)))
 ·repeat (first|exact trivial|refine⟨rfl,?_⟩|refine⟨(by exact eB z2_),?_⟩)
 rintro _ _ _ _ ⟨j,out,a9,q,rfl,rfl,rfl,rfl,hj,hj0,hol,he⟩;refine az (Sr (Ru 2 U (a_ (Cs U (λhc2=>?_) λhc2=>?_))))
 ·obtain⟨i,rfl⟩:∃ i,j=i+1:=⟨j-1,by omega⟩;have hst:=hiB_k n (i+1) hn z2_;have hq:=hp0 i;refine aA (az (aJ (Rg (Ru 3 U (ah jM U ?_)))));refine ah (RunV.shr U U z2_ (by show _<=((64:Nat):Int);omega)) U ?_;refine ah (cT (n / 128 ^ (i+1)) fV U (shr_cast7 n (i+1) _ z2_)) U ?_;refine ah (RunV.or128 (n / 128 ^ (i+1)) U U) U ?_;refine cF dq pg U U U U U (λb3=>?_);refine bV dq U U bm U dl_ dl_ U (U) z3_ U U (λa4 c4 xs4 hC4 hN4=>?_);obtain rfl:=hC4.u8;refine Ru 1 U (a_ (Rg (Ru 1 U (ah si_ U ?_))));refine Ru 1 U (a_ (⟨_,?_,_,?_,⟨i,_,_,_,U,U,U,U,⟨by omega,by omega,by simp;omega,by rw [hst,<- List.append_assoc,<- he]⟩⟩⟩))
  ·omega
  repeat (first|exact trivial|refine⟨rfl,?_⟩|refine⟨(by exact eB z2_),?_⟩)
 have hj0:j=0:=z2_;subst hj0;refine bA (Sr (Ru 2 U (ah (cT n fV U U) U ?_)));refine ah (RunV.and127 n U U) U ?_;refine cF dq pg U U U U U (λb5=>?_);refine bV dq U U bm U dl_ dl_ U (U) z3_ U U (λa6 c6 xs6 hC6 hN6=>?_);obtain rfl:=hC6.u8;refine Ru 1 U (Nk [4] U ?_);rw [b128_eq,<- List.append_assoc,<- he];exact dE ⟨_,[_],_,(ay U U),.cons .here .nil,_,U,_,_,U,U⟩
theorem sindex_fn {s:LB}{h:Part}:Pure prog 223 [.string ⟨s.toArray⟩,.string ⟨#[46]⟩] h (.int .i64 (Go.Lib.indexByte s 46)) :=
 Pure.lib λw hw=>(Tryz.strings_Index_one ⟨s.toArray⟩ 46 w).mono λe w' ⟨he,hb⟩=>by
  subst hb;exact⟨he,Below.refl _ _⟩
theorem ag_9:aggT prog 9=some none:=by kernel_rfl
theorem ca_168:callT prog 168=true:=by kernel_rfl
theorem ca_223:callT prog 223=true:=by kernel_rfl
theorem rm {s sep:LB}{k:Int}{h:Part}:Fn prog 168 [.string ⟨s.toArray⟩,.string ⟨sep.toArray⟩,.int .i64 k] h [] (Rets λv h' Lo=>h'=h/\∃ b1 b2 b3,v=.func (.func 222) #[] #[.pointer (some ⟨b2,0,none⟩),.pointer (some ⟨b1,0,none⟩),.pointer (some ⟨b3,0,none⟩)] /\
 Lo=[.blk b3 3 [.int .i64 k],.blk b2 9 [.string ⟨sep.toArray⟩],.blk b1 9 [.string ⟨s.toArray⟩]]):=by
 refine aM func168 U ntmps168 U (λe he=>?_);refine bg [(0,_),(1,_),(2,_)] ⟨U,U,U,trivial⟩ ?_;refine Sr (dh U U U (λb1=>?_));refine dh U U U (λb2=>?_);refine dh U U U (λb3=>?_);refine Ru 1 U (a_ (Sr (ah (RunV.makeFunc (os1:=[]) U U) U ?_)));exact Ru 1 U (Nk [6] U (dE ⟨_,[_,_,_],_,(ay U U),.cons .here (.cons .here (.cons .here .nil)),_,U,U,_,_,_,U,U⟩))
theorem sN {s sep:LB}{h:Part}:Fn prog 115 [.string ⟨s.toArray⟩,.string ⟨sep.toArray⟩] h [] (Rets λv h' Lo=>h'=h/\∃ b1 b2 b3,v=.func (.func 222) #[] #[.pointer (some ⟨b2,0,none⟩),.pointer (some ⟨b1,0,none⟩),.pointer (some ⟨b3,0,none⟩)] /\
 Lo=[.blk b3 3 [.int .i64 0],.blk b2 9 [.string ⟨sep.toArray⟩],.blk b1 9 [.string ⟨s.toArray⟩]]):=by
 refine aM func115 U ntmps115 U (λe he=>?_);refine bg [(0,_),(1,_)] ⟨U,U,trivial⟩ ?_;refine Sr (Ru 1 U (a_ (Sr (Ru 2 U (d6 ca_168 U (rm) pt_ U ?_)))));rintro _ h1 Lo1 hle1 ⟨rfl,b1,b2,b3,rfl,rfl⟩;exact Ru 1 U (Nk [4] U (dE ⟨_,[_,_,_],_,(ay U U),.cons .here (.cons .here (.cons .here .nil)),_,U,U,_,_,_,U,U⟩))
def OI (b2 b3 b4:Nat) (us:List UInt64) (L:LE):Prop:=∃ a c xs,(∀ h,CellsR u64R 1 h xs us)/\L=[.blk b4 157 [.slice a us.length c],.row a c 161 1 us.length xs,.blk b2 22 [.slice none 0 0],.blk b3 30 [.int .i64 0]]
def OBad (b2 b3:Nat) (L:LE):Prop:=L=[.blk b2 22 [.slice none 0 0],.blk b3 30 [.int .i64 20]]
def PR (b2 b3 b4:Nat) (us:List UInt64) (s:LB) (h:Part) (b:Bool) (h':Part) (L:LE):Prop :=
 (b=true/\h'=h/\∃ v:UInt64,numB s=some v.toNat/\OI b2 b3 b4 (us++[v]) L)\/(b=false/\h'=h/\numB s=none/\OBad b2 b3 L)
theorem Parts.app:∀ (A B:LE),Parts A (A++B) B
 |[],_=>.nil
 |_::A,B=>.cons .here (Parts.app A B)
theorem vX {r:Loop}(h1:r.state=.ready) (h2:r.pending=none):Loop.after r true=r:=by
 cases r;simp only at h1 h2;subst h1 h2;rfl
def ER (b2 b3 b4:Nat) (s:LB) (h:Part) (b:Bool) (h':Part) (L:LE):Prop :=
 (b=true/\h'=h/\∃ us:List UInt64,numsGo s []=some (us.map (·.toNat))/\us.length<=s.length+1/\OI b2 b3 b4 us L)\/(b=false/\h'=h/\numsGo s []=none/\OBad b2 b3 L)
theorem iter_fn {l b2 b3 b4 b5 b6 b7 p0:Nat}{r:Loop}{s:LB}{h:Part}(hp:r.params=#[p0]) (hst:r.state=.ready) (hpe:r.pending=none) (hs:s.length<=100000000000)
 (hrd:∀ (us:List UInt64) (t:LB) (a:OA) (c:Nat) (xs:LV),us.length<=100000000001->t.length<=100000000000->(∀ h,CellsR u64R 1 h xs us) ->
  Rd prog l r (.string ⟨t.toArray⟩) h [.blk b4 157 [.slice a us.length c],.row a c 161 1 us.length xs,.blk b2 22 [.slice none 0 0],.blk b3 30 [.int .i64 0]] (PR b2 b3 b4 us t h)) :
 Fn prog 222 [.func (.yield l) #[] #[],.pointer (some ⟨b6,0,none⟩),.pointer (some ⟨b5,0,none⟩),.pointer (some ⟨b7,0,none⟩)] h
  (.obj l (.loop r)::[.blk b7 3 [.int .i64 0],.blk b6 9 [.string ⟨[46].toArray⟩],.blk b5 9 [.string ⟨s.toArray⟩],.blk b4 157 [.slice none 0 0],.row none 0 161 1 0 [],.blk b2 22 [.slice none 0 0],.blk b3 30 [.int .i64 0]])
  (Rets λ_ h' Lo=>∃ b Lo',Lo=.obj l (.loop (Loop.after r b))::Lo'/\ER b2 b3 b4 s h b h' Lo'):=by
 have hm:=Go.Lib.indexByte_ge;refine aM func222 U ntmps222 U (λe he=>?_);refine bg [(0,_),(1,_),(2,_),(3,_)] ⟨U,U,U,U,trivial⟩ ?_;refine az (Sr (ah (aw ag_9 U mm_ U) U ?_));refine ah (cD dC U) U ?_;refine Ru 1 U (a_ (Cs U (λhc1=>?_) λhc1=>?_))
 ·exfalso;simp at hc1
 refine aA (az (aJ (bM (λt_ S_ h_ L_=>∃ (us:List UInt64) (rest:LB) (a:OA) (c:Nat) (xs:LV),t_=rest.length+1/\S_=[(0,.func (.yield l) #[] #[]),(1,.pointer (some ⟨b6,0,none⟩)),(2,.pointer (some ⟨b5,0,none⟩)),(3,.pointer (some ⟨b7,0,none⟩))]/\h=h_/\L_=.obj l (.loop r)::[.blk b7 3 [.int .i64 0],.blk b6 9 [.string ⟨[46].toArray⟩],.blk b5 9 [.string ⟨rest.toArray⟩],.blk b4 157 [.slice a us.length c],.row a c 161 1 us.length xs,.blk b2 22 [.slice none 0 0],.blk b3 30 [.int .i64 0]]/\((∀ h,CellsR u64R 1 h xs us)/\numsGo s []=(numsGo rest []).map (us.map (·.toNat)++·)/\us.length+rest.length<=s.length)) ⟨_,_,?_,⟨[],s,none,0,[],U,U,U,U,⟨λ_=>bQ,by simp,by simp⟩⟩⟩ ?_)))
 ·exact z6_
 rintro _ _ _ _ ⟨us,rest,a,c,xs,rfl,rfl,rfl,rfl,hxs,hng,hul⟩;have hds:=ut rest;have hmr:=hm rest 46;refine aJ (Sr (ah (aw ag_9 U mm_ U) U ?_));refine ah (aw ag_9 U mm_ U) U ?_;refine bh ca_223 U (sindex_fn) U ?_;refine Ru 1 U (a_ (az (Sr (Ru 2 U (a_ (Cs U (λhc3=>?_) λhc3=>?_))))))
 ·have hnd:∀ c∈rest,c≠46:=(by rcases hds with hh|⟨k,_,hk,_⟩;exact hh.2;omega);have hlast:=mf rest [] hnd;rw [List.nil_append] at hlast;refine bA (Kp [0,2] U (J.regionI ?_));refine JI.op (aO U) U ?_;refine JI.op (aw ag_9 U mm_ U) U ?_;refine JI.yield U U z7_ pt_ (hrd us rest _ _ _ z2_ z2_ hxs) U ?_;rintro _ h4 Lo4 hle4 hRF;refine JI.of U ?_;refine a_ ?_
  (rcases hRF with ⟨rfl,rfl,v,hv,hOI⟩|⟨rfl,rfl,hn,hBad⟩;exact⟨_,_,_,(eo rfl),.cons .here (Parts.app _ _),_,rfl,true,_,rfl,.inl ⟨rfl,rfl,us++[v],by rw [hng,hlast,hv];simp,by simp;omega,hOI⟩⟩;exact⟨_,_,_,(eo U),.cons .here (Parts.app _ _),_,U,false,_,U,.inr ⟨U,U,by rw [hng,hlast,hn];rfl,hBad⟩⟩)
 obtain⟨k,hk1,hk2,hk3,hk4⟩:∃ k,k<rest.length/\Go.Lib.indexByte rest 46=(k:Int)/\rest=rest.take k++46::rest.drop (k+1)/\∀ c∈rest.take k,c≠46:=(by rcases hds with ⟨hh,_⟩|hh;omega;exact hh);rw [hk2] at hc3;rw [hk2];have hcut:=mZ (rest.take k) [] (rest.drop (k+1)) hk4;rw [<- hk3,List.nil_append] at hcut;refine aA (Sr (ah (aw ag_9 U mm_ U) U ?_));refine Ru 1 U (ah (aw dI U mm_ U) U ?_);refine ah ai_ U ?_;refine ah (RunV.strCut_h (m:=k) dC U U z2_ z2_) U ?_;refine Ru 1 U (a_ (az (az (J.regionI ?_))));refine JI.op (aO U) U ?_;refine JI.op (aO U) U ?_;refine JI.yield U U z7_ pt_ (hrd us (rest.take k) _ _ _ z2_ (by simp;omega) hxs) U ?_;rintro _ h5 Lo5 hle5 hR;refine JI.of U ?_;refine Ru 1 U (a_ (Cs U (λhc6=>?_) λhc6=>?_))
 ·obtain⟨rfl,rfl,hn,hBad⟩:=hR.resolve_left (λhh=>by rw [hh.1] at hc6;cases hc6);exact dE ⟨_,_,_,(eo U),.cons .here (Parts.app _ _),_,U,false,_,U,.inr ⟨U,U,by rw [hng,hcut,hn];rfl,hBad⟩⟩
 obtain⟨rfl,rfl,v,hv,xa,xc,xxs,hxs2,rfl⟩:=hR.resolve_right (λhh=>by rw [hh.1] at hc6;cases hc6);rw [vX hst hpe];refine aA (Rg (ah (aw ag_9 U mm_ U) U ?_));refine Ru 1 U (ah (aw ag_9 U mm_ U) U ?_);refine ah (cD dC U) U ?_;refine ah (RunV.add_i64 (p:=(k:Int)) (q:=1) U U z2_ z2_) U ?_;refine ah (RunV.strCut_l (m:=k+1) dC U U z2_ z2_) U ?_;refine bK ag_9 U U U dl_ fL ?_;refine JL.ents (.obj l (.loop r)::[.blk b7 3 [.int .i64 0],.blk b6 9 [.string ⟨[46].toArray⟩],.blk b5 9 [.string ⟨(rest.drop (k+1)).toArray⟩],.blk b4 157 [.slice xa (us++[v]).length xc],.row xa xc 161 1 (us++[v]).length xxs,.blk b2 22 [.slice none 0 0],.blk b3 30 [.int .i64 0]]) pt_ ?_;refine a_ (⟨_,?_,_,?_,⟨us++[v],rest.drop (k+1),_,_,_,U,U,U,U,⟨hxs2,by rw [hng,hcut,hv];simp [Function.comp_def],by simp;omega⟩⟩⟩)
 ·simp;omega
 exact z6_
def LeaveP (P:Program) (e:Env) (m:Nat) (fn:Func) (R:Ending->World->Prop) (d:Deferred) (u:FrameMode):Post:=λS h L=>∀ a w,Sat e m S h L a w->Leaves P fn a.tmps R [d] u w
def FnEnd (w0:World) (h:Part) (Li:LE) (R:Ending->Part->LE->Prop):Ending->World->Prop:=λe w'=>∃ h' Lo,R e h' Lo/\Ok ⟨w0,(·∈keys Li),h,[]⟩ h' Lo w'
theorem Ok.ds {e:Env}{h:Part}{L:LE}{w:World}(k:Ok e h L w) (ds:List Deferred):Ok { e with ds:=ds } h L w:=⟨k.os,k.tape,k.output,k.size,k.old,k.sub,k.le,k.fresh,k.own,k.key,k.nodup⟩
theorem Fn.introD {P:Program}{F m D t5 id:Nat}{fn:Func}{r0 rest:Code}{caps:Array Operand}{ty ty':TypeId}{pos pos':String}{af af':Array Edge}{args:LV}{h:Part}{Li:LE}{R:Ending->Part->LE->Prop}
 (hf:P.funcs[F]?=some fn) (hb:fn.body=some (.seq r0 (.seq (.region id #[⟨some t5,.makeFunc (.func D) #[] caps,ty,pos,af,none⟩,⟨none,.defer { callee:=.value (.tmp t5),args:=#[],argTypes:=#[] },ty',pos',af',none⟩] false) rest)))
 (hm:fn.ntmps=m) (hl:Nat.ble args.length m=true) (ht:Nat.blt t5 m=true)
 (k:∀ w0,J ⟨P,⟨w0,(·∈keys Li),h,[]⟩,m,λ_ _ _=>False,λ_ _ _ _=>False⟩ r0
  (λS1 h1 L1=>∃ vs,evl S1 caps.toList=some vs /\
   J ⟨P,⟨w0,(·∈keys Li),h,[⟨.fn (.func D) vs.toArray,#[]⟩]⟩,m,LeaveP P ⟨w0,(·∈keys Li),h,[⟨.fn (.func D) vs.toArray,#[]⟩]⟩ m fn (FnEnd w0 h Li R) ⟨.fn (.func D) vs.toArray,#[]⟩ .returning,
    λc=>LeaveP P ⟨w0,(·∈keys Li),h,[⟨.fn (.func D) vs.toArray,#[]⟩]⟩ m fn (FnEnd w0 h Li R) ⟨.fn (.func D) vs.toArray,#[]⟩ (.panicking c)⟩ rest
    (LeaveP P ⟨w0,(·∈keys Li),h,[⟨.fn (.func D) vs.toArray,#[]⟩]⟩ m fn (FnEnd w0 h Li R) ⟨.fn (.func D) vs.toArray,#[]⟩ .returning) NoExit ((t5,.func (.func D) #[] vs.toArray)::S1) h1 L1) NoExit (argSig 0 args) h Li):Fn P F args h Li R:=λw hw=>by
 have hl':args.length<=m:=by simpa using hl
 refine calls_of_wp_defers hf hb ?_;have hs:Sat ⟨w,(·∈keys Li),h,[]⟩ m (argSig 0 args) h Li ⟨args.toArray++Array.replicate (fn.ntmps-args.toArray.size) undef,[]⟩ w:=by
  refine⟨by simp [hm];omega,λs v hv=>?_,U,hw⟩;obtain⟨_,h2⟩:=fK _ _ _ _ hv;have hlt:=(List.getElem?_eq_some_iff.1 h2).1;simp only [Nat.sub_zero] at h2 hlt;rw [Array.getElem?_append_left (by simpa using hlt)];simpa using h2
 refine wp_seq (wpm (k w _ w hs) (λex a' w' q=>?_));cases ex with
 |normal =>
  obtain⟨S1,h1,L1,s1,vs,hvs,k1⟩:=q;show Code.wp P _ _ a' w';refine wp_seq ?_;have hcap:caps.map a'.eval=vs.toArray:=by
   have:=eD s1 hvs;rw [<- this];apply Array.ext';simp
  have hreg:=wp_region_lit (P:=P) (id:=id) (Q:=Exit.then (λa2 w2=>rest.wp P (bodyPostD P fn (FnEnd w h Li R)) a2 w2) (bodyPostD P fn (FnEnd w h Li R))) (a:=a') (w:=w')
   (l:=[⟨some t5,.makeFunc (.func D) #[] caps,ty,pos,af,none⟩,⟨none,.defer { callee:=.value (.tmp t5),args:=#[],argTypes:=#[] },ty',pos',af',none⟩]) ?_
  ·exact hreg
  ·refine d8 (v:=.func (.func D) #[] vs.toArray) (w':=w') U ?_ ?_
   ·simp [execOp,Instr.makeFunc,hcap]
   ·unfold wpList;rw [if_pos (by simp [Region.wanted])];refine .inl ?_;have s2:=s1.put ht (.func (.func D) #[] vs.toArray) s1.ok;have ht5:(a'.put (some t5) (.func (.func D) #[] vs.toArray)).eval (.tmp t5)=.func (.func D) #[] vs.toArray:=s2.eval (x:=.tmp t5) (by simp [ev,look]);have hr:(execOp (a'.put (some t5) (.func (.func D) #[] vs.toArray)).eval ⟨none,.defer { callee:=.value (.tmp t5),args:=#[],argTypes:=#[] },ty',pos',af',none⟩).run P w'=.ok (.defer ⟨.fn (.func D) vs.toArray,#[]⟩) w':=by
     simp [execOp,resolve,ht5,Deferred.ofValue]
    simp only [Oper.wp,hr,Oper.upon];unfold wpList;show Code.wp P rest _ _ w';have s3:Sat ⟨w,(·∈keys Li),h,[⟨.fn (.func D) vs.toArray,#[]⟩]⟩ m ((t5,.func (.func D) #[] vs.toArray)::S1) h1 L1 ({ a'.put (some t5) (.func (.func D) #[] vs.toArray) with defers:=⟨.fn (.func D) vs.toArray,#[]⟩::(a'.put (some t5) (.func (.func D) #[] vs.toArray)).defers }.put none undef) w':=by
     exact⟨by simpa [Act.put] using s2.size,λs v hv=>by simpa [Act.put] using s2.slot s v hv,by have:=s2.ds;simpa [Act.put] using this,s2.ok.ds _⟩
    refine wpm (k1 _ _ s3) (λex2 a2 w2 q2=>?_);cases ex2 with
    |normal=>obtain⟨S,h',L',s',hh⟩:=q2;have:=hh _ _ s';have e1:=s'.ds;simp only [bodyPostD,e1];exact this
    |ret=>obtain⟨S,h',L',s',hh⟩:=q2;have:=hh _ _ s';have e1:=s'.ds;simp only [bodyPostD,e1];exact this
    |panic c=>obtain⟨S,h',L',s',hh⟩:=q2;have:=hh _ _ s';have e1:=s'.ds;simp only [bodyPostD,e1];exact this
    |exit i=>obtain⟨_,_,_,_,hh⟩:=q2;exact hh.1.elim
    |goto l=>obtain⟨_,_,_,_,hh⟩:=q2;exact hh.elim
    |outgrown=>exact False.elim q2
 |ret=>obtain⟨_,_,_,_,hh⟩:=q;exact hh.elim
 |panic c=>obtain⟨_,_,_,_,hh⟩:=q;exact hh.elim
 |exit i=>obtain⟨_,_,_,_,hh⟩:=q;exact hh.1.elim
 |goto l=>obtain⟨_,_,_,_,hh⟩:=q;exact hh.elim
 |outgrown=>exact False.elim q
theorem J.pfalse {P:Program}{e:Env}{m:Nat}{r:Post}{p:List PanicEntry->Post}{c:Code}{n:Post}{x:Nat->Post}{S:Sig}{h:Part}{L:LE}(k:J ⟨P,e,m,r,λ_ _ _ _=>False⟩ c n x S h L):J ⟨P,e,m,r,p⟩ c n x S h L:=λa w s =>
 wpm (k a w s) (λex a' w' q=>by
  cases ex with
  |panic c=>obtain⟨_,_,_,_,hh⟩:=q;exact hh.elim
  |_=>exact q)
inductive Asks:FrameMode->Value->FrameMode->Prop where
 |none:Asks .returning .nilIface .returning
 |some {v:Value}:Asks (.panicking [{ v:=v,recovered:=false }]) v (.panicking [{ v:=v,recovered:=true }])
theorem ni {P:Program}{D id t3 t2 m:Nat}{fn:Func}{rest:Code}{ty ty':TypeId}{pos pos':String}{af af':Array Edge}{e:Env}{h:Part}{L:LE}{w:World}{vs:LV}{x:Value}{u u':FrameMode}{post:Post}
 (hf:P.funcs[D]?=some fn) (hb:fn.body=some (.seq (.region id #[⟨some t3,.call { callee:=.builtin .recover,args:=#[],argTypes:=#[] },ty,pos,af,none⟩,⟨some t2,.assign (.tmp t3),ty',pos',af',none⟩] false) rest))
 (hm:fn.ntmps=m) (hr:fn.results=#[]) (hl:Nat.ble vs.length m=true) (ht3:Nat.blt t3 m=true) (ht2:Nat.blt t2 m=true) (hu:Asks u x u')
 (ok:Ok e h L w) (he:e.ds=[])
 (k:J ⟨P,e,m,λ_ _ _=>False,λ_ _ _ _=>False⟩ rest post NoExit ((t2,x)::(t3,x)::argSig 0 vs) h L) :
 CallsD P D vs.toArray u w (λe1 u1 w1=>(∃ v,e1=.returned v)/\u1=u'/\∃ S h1 L1,post S h1 L1/\Ok e h1 L1 w1):=by
 have hl':vs.length<=m:=by simpa using hl
 refine callsD_of_wpS hf hb (λc₀ cs hc=>wpS_seq (wpS_region ?_));have s0:Sat e m (argSig 0 vs) h L ⟨vs.toArray++Array.replicate (fn.ntmps-vs.toArray.size) undef,[]⟩ w:=by
  refine⟨by simp [hm];omega,λs v hv=>?_,by simp [he],ok⟩;obtain⟨_,h2⟩:=fK _ _ _ _ hv;have hlt:=(List.getElem?_eq_some_iff.1 h2).1;simp only [Nat.sub_zero] at h2 hlt;rw [Array.getElem?_append_left (by simpa using hlt)];simpa using h2
 generalize (⟨vs.toArray++Array.replicate (fn.ntmps-vs.toArray.size) undef,[]⟩:Act)=a0 at s0 |-
 have s1:=s0.put ht3 x s0.ok;have s2:=s1.put ht2 x s1.ok;have hx:(a0.put (some t3) x).eval (.tmp t3)=x:=s1.eval (x:=.tmp t3) (by simp [ev,look]);have fin:∀ cs',cs'={ c₀ with mode:=u' }::cs->rest.wpS P (bodyPostS P fn c₀ cs (λe1 u1 w1=>(∃ v,e1=.returned v)/\u1=u'/\∃ S h1 L1,post S h1 L1/\Ok e h1 L1 w1)) ((a0.put (some t3) x).put (some t2) x) cs' w:=λcs' hcs=>by
  refine wpS_of_wp (wpm (k _ _ s2) (λex a' w' q=>?_));cases ex with
  |normal =>
   obtain⟨S,h1,L1,s',hh⟩:=q;have hd:=s'.ds;simp only at hd;exact⟨by rw [hd,he],u',hcs,.tuple #[],results_none hr _ _ _,⟨_,U⟩,U,S,h1,L1,hh,s'.ok⟩
  |ret=>obtain⟨_,_,_,_,hh⟩:=q;exact hh.elim
  |panic c=>obtain⟨_,_,_,_,hh⟩:=q;exact hh.elim
  |exit i=>obtain⟨_,_,_,_,hh⟩:=q;exact hh.1.elim
  |goto l=>obtain⟨_,_,_,_,hh⟩:=q;exact hh.elim
  |outgrown=>exact False.elim q
 have hex:∀ a:Act,(execOp a.eval ⟨some t3,.call { callee:=.builtin .recover,args:=#[],argTypes:=#[] },ty,pos,af,none⟩).run P w=.ok .recover w:=λa=>by
  simp [execOp,resolve,invoke,builtin]
 have hex2:(execOp (a0.put (some t3) x).eval ⟨some t2,.assign (.tmp t3),ty',pos',af',none⟩).run P w=.ok (.value x) w:=by simp [execOp,hx]
 show wpOpsS P _ _ [0,1] a0 (c₀::cs) w;cases hu with
 |none =>
  have hrec:recoverD (c₀::cs)=none:=by simp [recoverD,hc]
  simp only [wpOpsS,List.getElem?_toArray,List.getElem?_cons_zero,List.getElem?_cons_succ,Region.wanted,hex,hrec,hex2,Oper.upon,if_true];exact fin _ (by rw [<- hc])
 |some =>
  have hrec:recoverD (c₀::cs)=some (x,{ c₀ with mode:=.panicking [{ v:=x,recovered:=true }] }::cs):=by simp [recoverD,hc]
  simp only [wpOpsS,List.getElem?_toArray,List.getElem?_cons_zero,List.getElem?_cons_succ,Region.wanted,hex,hrec,hex2,Oper.upon,if_true];exact fin _ U
section
variable {f:Fr}{n:Post}{x:Nat->Post}{S:Sig}{h h0:Part}{L L0:LE}{ops:Array Oper}{fuel d:Nat}{listed:Array Bool}
variable {q:Op}{ty:TypeId}{pos:String}{af:Array Edge}{v:Value}{j dj:Nat}{b:Bool}
theorem JH.put_ (hp:∀ c S h L,f.p c S h L->f.p c [] h L) {c:_}(a:Act) (w:World) (hq:f.Q n x (.panic c) (a.put (some d) v) w):f.Q n x (.panic c) a w:=by
 obtain⟨S',h',L',s',k'⟩:=hq;refine⟨[],h',L',⟨?_,λs v hv=>by simp [look] at hv,?_,s'.ok⟩,hp _ _ _ _ k'⟩
 ·have:=s'.size;simpa [Act.put] using this
 ·have:=s'.ds;simpa [Act.put] using this
theorem JH.takeG (i:Nat) (hi:ops[i]?=some ⟨some d,q,ty,pos,af,some (j,b)⟩) (hj:(ops[j]?).bind (·.dst)=some dj) (hsl:look S dj=some (.bool b)) (hs:Region.noSelect ops=true) (hf:Region.free .any ops listed i=true) (hr:(Region.ready .any ops listed).contains i=true)
 (hp:∀ c S h L,f.p c S h L->f.p c [] h L) (hb:∀ w,Ok f.e h L w->Ok f.e h0 L0 w) (r:RunV f S h0 L0 q ty v) (hd:Nat.blt d f.m=true) (k:JH f ops n x h0 L0 fuel (listed.setIfInBounds i true) ((d,v)::S) h L) :
 JH f ops n x h0 L0 (fuel+1) listed S h L:=λa w s=>by
 refine wpAnyH_take (v:=v) hi hs hf hr (λc a w hq=>JH.put_ hp a w hq) ?_ (hb w s.ok) (k _ w (s.put hd v s.ok));exact .inl ⟨by simp [Region.wanted,dK s hj hsl],λw' hw'=>r a w' (s.with hw') _ _ _ _⟩
theorem JH.skip (i:Nat) (hi:ops[i]?=some ⟨some d,q,ty,pos,af,some (j,b)⟩) (hj:(ops[j]?).bind (·.dst)=some dj) (hsl:look S dj=some (.bool (!b))) (hs:Region.noSelect ops=true) (hf:Region.free .any ops listed i=true) (hr:(Region.ready .any ops listed).contains i=true)
 (hp:∀ c S h L,f.p c S h L->f.p c [] h L) (hb:∀ w,Ok f.e h L w->Ok f.e h0 L0 w) (hd:Nat.blt d f.m=true) (k:JH f ops n x h0 L0 fuel (listed.setIfInBounds i true) ((d,undef)::S) h L) :
 JH f ops n x h0 L0 (fuel+1) listed S h L:=λa w s=>by
 refine wpAnyH_take (v:=undef) hi hs hf hr (λc a w hq=>JH.put_ hp a w hq) ?_ (hb w s.ok) (k _ w (s.put hd undef s.ok));exact .inr ⟨by simp [Region.wanted,dK s hj hsl],U⟩
theorem Bh (t:Nat) {c:Bool}{p r:Prop}(ht:look S t=some (.bool c)) [s:Sp c p r] (k1:p->JH f ops n x h0 L0 fuel listed ((t,.bool true)::S) h L) (k2:r->JH f ops n x h0 L0 fuel listed ((t,.bool false)::S) h L):JH f ops n x h0 L0 fuel listed S h L:=λa w s2=>by
 cases hb:c with
 |true=>exact k1 (s.t hb) a w (s2.bool ht hb)
 |false=>exact k2 (s.f hb) a w (s2.bool ht hb)
end
section
variable {f:Fr}{n:Post}{x:Nat->Post}{S:Sig}{h h0:Part}{L L0:LE}{ops:Array Oper}{fuel d:Nat}{listed:Array Bool}{q:Op}{ty:TypeId}{pos:String}{af:Array Edge}{v:Value}{o:Oper}{j dj:Nat}{b:Bool}
theorem TG (i:Nat) (hi:ops[i]?=some ⟨some d,q,ty,pos,af,some (j,b)⟩) (hj:(ops[j]?).bind (·.dst)=some dj) (hsl:look S dj=some (.bool b)) (r:RunV f S h0 L0 q ty v) (k:JH f ops n x h0 L0 fuel (listed.setIfInBounds i true) ((d,v)::S) h L) (hb:∀ w,Ok f.e h L w->Ok f.e h0 L0 w:=by exact br_ z7_) (hs:Region.noSelect ops=true:=by kernel_rfl) (hf:Region.free .any ops listed i=true:=by kernel_rfl) (hr:(Region.ready .any ops listed).contains i=true:=by kernel_rfl) (hp:∀ c S h L,f.p c S h L->f.p c [] h L:=by exact λ_ _ _ _ hh=>hh) (hd:Nat.blt d f.m=true:=by rfl):JH f ops n x h0 L0 (fuel+1) listed S h L:=JH.takeG i hi hj hsl hs hf hr hp hb r hd k
theorem Ts (i:Nat) (hi:ops[i]?=some ⟨some d,q,ty,pos,af,some (j,b)⟩) (hj:(ops[j]?).bind (·.dst)=some dj) (hsl:look S dj=some (.bool (!b))) (k:JH f ops n x h0 L0 fuel (listed.setIfInBounds i true) ((d,undef)::S) h L) (hb:∀ w,Ok f.e h L w->Ok f.e h0 L0 w:=by exact br_ z7_) (hs:Region.noSelect ops=true:=by kernel_rfl) (hf:Region.free .any ops listed i=true:=by kernel_rfl) (hr:(Region.ready .any ops listed).contains i=true:=by kernel_rfl) (hp:∀ c S h L,f.p c S h L->f.p c [] h L:=by exact λ_ _ _ _ hh=>hh) (hd:Nat.blt d f.m=true:=by rfl):JH f ops n x h0 L0 (fuel+1) listed S h L:=JH.skip i hi hj hsl hs hf hr hp hb hd k
end
theorem ez:aggT prog 157=some none:=by kernel_rfl
theorem dy:aggT prog 161=some none:=by kernel_rfl
theorem mI:aggT prog 30=some none:=by kernel_rfl
theorem gC:apT prog 157=some (161,1,8):=by kernel_rfl
theorem ca_115:callT prog 115=true:=by kernel_rfl
theorem ca_116:callT prog 116=true:=by kernel_rfl
theorem ca_117:callT prog 117=true:=by kernel_rfl
theorem dk:slT prog 157=some (161,1):=by kernel_rfl
theorem zr_157:zeroT prog 157=some [.slice none 0 0]:=by kernel_rfl
theorem lF:zeroT prog 161=some [.int .u64 0]:=by kernel_rfl
theorem zr_22:zeroT prog 22=some [.slice none 0 0]:=by kernel_rfl
theorem zr_30:zeroT prog 30=some [.int .i64 0]:=by kernel_rfl
theorem Slots.weak {m:Nat}{S S':Sig}{t:Array Value}(k:Slots m S t) (hw:Weak S' S):Slots m S' t:=⟨k.1,λs v hv=>k.2 s v (hw.look hv)⟩
theorem hiF_len:∀ (f n:Nat),(hiF f n).length<=f
 |0,_=>by simp [hiF]
 |f+1,n=>by
  rw [hiF];split
  ·simp
  ·have:=hiF_len f (n / 128);simp;omega
theorem pb (n:Nat):(b128 n).length<=11:=by
 have:=hiF_len 10 (n / 128);unfold b128 hiB;simp;omega
theorem sq (a b:List Nat):enc (a++b)=enc a++enc b:=by
 induction a with
 |nil=>rfl
 |cons x r ih=>simp only [List.cons_append,enc,ih,List.append_assoc]
theorem enc_lenY (a:List Nat):(enc a).length<=11*a.length:=by
 induction a with
 |nil=>simp [enc]
 |cons x r ih=>have:=pb x;simp only [enc,aU,aC];omega
theorem numB_lt {s:LB}{v:Nat}(h:numB s=some v):v<9223372036854775808:=by
 unfold numB at h;split at h
 ·cases h
 ·split at h
  ·cases h;assumption
  ·cases h
theorem jj:∀ (s cur:LB) (l:List Nat),numsGo s cur=some l->∀ x∈l,x<9223372036854775808
 |[],cur,l,h,x,hx=>by
  rw [numsGo,Option.map_eq_some_iff] at h;obtain⟨v,hv,rfl⟩:=h;simp at hx;subst hx;exact numB_lt hv
 |c::r,cur,l,h,x,hx=>by
  rw [numsGo] at h;split at h
  ·split at h
   ·cases h
   ·rename_i n hn;rw [Option.map_eq_some_iff] at h;obtain⟨l',hl',rfl⟩:=h;rcases List.mem_cons.1 hx with rfl|hx
    ·exact numB_lt hn
    ·exact jj r [] l' hl' x hx
  ·exact jj r _ l h x hx
def OR_ (s:LB):Value->Part->Prop:=λv h'=>∃ a c,v=.tuple #[.slice a ((oidB s).getD []).length c,.int .i64 (if(oidB s).isSome then 0 else 20)]/\SlR u8R 1 h' a c ((oidB s).getD [])
theorem round_rd {l D fn q2 q3 q4:Nat}{tmps:Array Value}{h:Part}(ht:Slots 79 [(2,.pointer (some ⟨q2,0,none⟩)),(3,.pointer (some ⟨q3,0,none⟩)),(4,.pointer (some ⟨q4,0,none⟩))] tmps) {A B:Code}{r0 r1 r2 rest:Code}{g:Operand}
 (hcode:Tryz.f61.body=some (.seq r0 (.seq r1 (.seq (.seq r2 (.block 0 (.rangeFunc g #[13] A B))) rest))))
 (us:List UInt64) (t:LB) (a:OA) (c:Nat) (xs:LV) (hus:us.length<=100000000001) (htl:t.length<=100000000000) (hxs:∀ h,CellsR u64R 1 h xs us) :
 Rd prog l (Loop.new fn tmps #[13] A B D) (.string ⟨t.toArray⟩) h [.blk q4 157 [.slice a us.length c],.row a c 161 1 us.length xs,.blk q2 22 [.slice none 0 0],.blk q3 30 [.int .i64 0]] (PR q2 q3 q4 us t h):=by
 have hc2:=hcode;unfold Tryz.f61 at hc2;simp only [aB,Code.seq.injEq,Code.block.injEq,Code.rangeFunc.injEq] at hc2;obtain⟨-,-,⟨-,-,-,-,hA,hB⟩,-⟩:=hc2;have hx1:=hxs h;have hnl:=numP_lt t;refine Rd.intro (m:=79) hA.symm hB.symm U U U U ht (λe he=>⟨λS1 _ _=>S1=[(5,.string ⟨t.toArray⟩),(13,.string ⟨t.toArray⟩),(2,.pointer (some ⟨q2,0,none⟩)),(3,.pointer (some ⟨q3,0,none⟩)),(4,.pointer (some ⟨q4,0,none⟩))],?_,?_⟩)
 ·refine JR.region U ?_;refine ah (bS U) U ?_;exact a_ ⟨U,U,U⟩
 ·rintro _ rfl;refine JR.block ?_;refine JR.sr U ?_;refine Ru 1 U (bh ca_116 U (vz z2_) U ?_);refine Ru 5 U (JR.nk [7,6,2,3,4] U ?_);refine JR.seq ?_;refine JR.sr U ?_;refine Ru 2 U (a_ (JR.cs U (λhc2=>?_) λhc2=>?_))
  ·have hnb:numB t=none:=numP_none (v:=(numP t).1) (Prod.ext U (by simpa using hc2));refine JR.sr U ?_;refine bK dt U U U dl_ fL ?_;refine bK mI U U U dl_ fL ?_;exact a_ (JR.ret ⟨[.blk q2 22 [.slice none 0 0],.blk q3 30 [.int .i64 20]],_,pt_,.inr ⟨U,U,hnb,U⟩⟩)
  have hnb:numB t=some (numP t).1:=numP_some (Prod.ext U (by simpa using hc2));have hvv:(UInt64.ofNat (numP t).1).toNat=(numP t).1:=(by rw [UInt64.toNat_ofNat'];omega);refine JR.skip ?_;refine JR.kp [6,4] U ?_;refine JR.region U ?_;refine ah (aw ez U mm_ U) U ?_;refine Ru 1 U (cF gC lF U U U U U (λb3=>?_));refine bV gC U U z7_ U dl_ dl_ U ((show u64R _ [.int .u64 ((numP t).1:Nat)] (UInt64.ofNat (numP t).1) by unfold u64R;rw [hvv])) z3_ U U (λa4 c4 xs4 hC4 hN4=>?_);refine bK ez U U U dl_ fL ?_;exact a_ (⟨[.blk q4 157 [_],.row _ _ 161 1 _ _,.blk q2 22 [.slice none 0 0],.blk q3 30 [.int .i64 0]],_,pt_,.inl ⟨U,U,UInt64.ofNat (numP t).1,by rw [hnb,hvv],_,_,_,λ_=>hC4,U⟩⟩)
theorem obytes_fn {s:LB}{h:Part}(hs:s.length<=100000000000):FnR prog 61 [.string ⟨s.toArray⟩] h (OR_ s):=by
 refine Fn.introM (m:=79) func61 U ntmps61 U (λw0=>?_);refine JG.seq ?_;refine J.region ?_;refine bI zr_22 U (λq2=>?_);refine bI zr_30 U (λq3=>?_);refine a_ (JG.seq ?_);refine J.region ?_;refine bI zr_157 U (λq4=>?_);refine bZ 161 1 ?_;refine a_ (JG.split ?_);refine JG.seq ?_;refine J.region ?_;refine Ru 1 U (d6 ca_115 U (sN (s:=s) (sep:=[46])) pt_ U ?_);rintro _ h1 Lo1 hle1 ⟨rfl,q5,q6,q7,rfl,rfl⟩;refine a_ (JG.block ?_);refine JG.range (lb:=[.pointer (some ⟨q6,0,none⟩),.pointer (some ⟨q5,0,none⟩),.pointer (some ⟨q7,0,none⟩)]) U cP U (λD l fn tmps ht=>⟨[.blk q7 3 [.int .i64 0],.blk q6 9 [.string ⟨[46].toArray⟩],.blk q5 9 [.string ⟨s.toArray⟩],.blk q4 157 [.slice none 0 0],.row none 0 161 1 0 [],.blk q2 22 [.slice none 0 0],.blk q3 30 [.int .i64 0]],[],ER q2 q3 q4 s h1,pt_,?_,?_,?_⟩)
 ·exact iter_fn U U U hs (λus t a c xs h2 h3 h4=>round_rd (ht.weak ⟨U,U,U,trivial⟩) U us t a c xs h2 h3 h4)
 ·rintro h2 Lo hle2 hE;obtain⟨-,rfl,us,hng,hul,ua,uc,uxs,huxs,rfl⟩:=hE.resolve_right (λhh=>by cases hh.1);refine JN.blk (JG.ofJ ?_);have hob:oidB s=if oidOk (us.map (·.toNat)) then some (enc ((40*(us.map (·.toNat)).getD 0 0+(us.map (·.toNat)).getD 1 0)::(us.map (·.toNat)).drop 2)) else none:=by unfold oidB;rw [hng]
  by_cases hu2:us.length<2
  ·have hz:oidB s=none:=by rw [hob,if_neg];unfold oidOk;rw [au (by simp;omega),Bool.false_and];decide
   refine az (Sr (ah (aw ez U mm_ U) U ?_));refine Ru 3 U (Bs 28 U (λhc1=>?_) λhc1=>?_)
   rotate_left
   ·exfalso;omega
   refine Ru 29 U (Nk [57,2,3,4] U (aY U (Sr (bK dt U U U dl_ fL ?_))));refine bK mI U U U dl_ fL ?_;exact a_ (dE ⟨_,_,[],_,by repeat (first|exact Del.here|apply Del.there),(RetV.cellv2 U U dt mm_ U mI mm_),.nil,_,U,U,none,0,by rw [hz];rfl,by rw [hz];exact bu⟩)
  ·obtain⟨x,y,t,rfl⟩:∃ x y t,us=x::y::t:=by
    match us,hu2 with
    |x::y::t,_=>exact⟨x,y,t,U⟩
    |[],hh=>exact absurd (by simp) hh
    |[_],hh=>exact absurd (by simp) hh
   have hxl:=x.toNat_lt;have hyl:=y.toNat_lt;have htl:t.length<=100000000000:=by simp at hul;omega
   have hx0:(x::y::t)[0]=x:=rfl;have hy1:(x::y::t)[1]=y:=rfl;have hnl:((x::y::t).length:Int)=t.length+2:=by simp;omega
   have hok:oidOk ((x::y::t).map (·.toNat))=decide ((x.toNat=2/\y.toNat<9223372036854775728)\/(x.toNat<2/\y.toNat<40)):=by
    unfold oidOk;rw [aj (by simp),Bool.true_and,<- Bool.decide_or];rfl
   rw [hok] at hob;refine J.pub (R:=u64R) (l:=x::y::t) dl_ (huxs _) U (by simp;omega) (λh9 hle9 hU=>?_);refine J.ents [.obj D (.deferred (some [])),.blk q4 157 [.slice ua (x::y::t).length uc],.blk q2 22 [.slice none 0 0],.blk q3 30 [.int .i64 0]] pt_ ?_;refine az (az (cJ [(57,.bool (decide (¬ ((x.toNat=2/\y.toNat<9223372036854775728)\/(x.toNat<2/\y.toNat<40)))))] [(2,_),(3,_),(4,_)] ⟨U,U,U,trivial⟩ ?_ ?_))
   ·refine Rg (ah (aw ez U mm_ U) U ?_);refine Ru 3 U (Bs 28 U (λhc1=>?_) λhc1=>?_)
    ·exfalso;(rw [hnl] at hc1;omega)
    refine aQ U U  (aw ez U mm_ U) U ?_;refine cH U U  (aI dk U U (show _=((0:Nat):Int) from rfl) z7_ U z2_) U ?_;rintro _ ⟨b2,o2,hi2,rfl,hE2⟩;refine aQ U U  (bU (y:=x) dy U z7_) U ?_;refine Ru 3 U (Bs 34 U (λhc3=>?_) λhc3=>?_)
    ·refine Ru 23 U (a_ (⟨U,U,?_⟩));exact uZ
    refine aQ U U  (aw ez U mm_ U) U ?_;refine cH U U  (aI dk U U (show _=((0:Nat):Int) from rfl) z7_ U z2_) U ?_;rintro _ ⟨b4,o4,hi4,rfl,hE4⟩;refine aQ U U  (bU (y:=x) dy U z7_) U ?_;refine Ru 2 U (Bs 39 U (λhc5=>?_) λhc5=>?_)
    ·refine aQ U U  (aw ez U mm_ U) U ?_;refine cH U U  (aI dk U U (show _=((1:Nat):Int) from rfl) z7_ U z2_) U ?_;rintro _ ⟨b6,o6,hi6,rfl,hE6⟩;refine aQ U U  (bU (y:=y) dy U z7_) U ?_;refine Ru 4 U (Bs 46 U (λhc7=>?_) λhc7=>?_)
     ·refine Ru 11 U (a_ (⟨U,U,?_⟩));exact uZ
     refine aQ U U  (aw ez U mm_ U) U ?_;refine cH U U  (aI dk U U (show _=((0:Nat):Int) from rfl) z7_ U z2_) U ?_;rintro _ ⟨b8,o8,hi8,rfl,hE8⟩;refine aQ U U  (bU (y:=x) dy U z7_) U ?_;refine Ru 2 U (Bs 51 U (λhc9=>?_) λhc9=>?_)
     ·refine aQ U U  (aw ez U mm_ U) U ?_;refine cH U U  (aI dk U U (show _=((1:Nat):Int) from rfl) z7_ U z2_) U ?_;rintro _ ⟨b10,o10,hi10,rfl,hE10⟩;refine aQ U U  (bU (y:=y) dy U z7_) U ?_;refine Ru 3 U (a_ (⟨U,U,?_⟩));exact uZ
     refine Ru 6 U (a_ (⟨U,U,?_⟩));exact uZ
    refine Ru 7 U (aQ U U  (aw ez U mm_ U) U ?_);refine cH U U  (aI dk U U (show _=((0:Nat):Int) from rfl) z7_ U z2_) U ?_;rintro _ ⟨b11,o11,hi11,rfl,hE11⟩;refine aQ U U  (bU (y:=x) dy U z7_) U ?_;refine Ru 2 U (Bs 51 U (λhc12=>?_) λhc12=>?_)
    ·refine aQ U U  (aw ez U mm_ U) U ?_;refine cH U U  (aI dk U U (show _=((1:Nat):Int) from rfl) z7_ U z2_) U ?_;rintro _ ⟨b13,o13,hi13,rfl,hE13⟩;refine aQ U U  (bU (y:=y) dy U z7_) U ?_;refine Ru 3 U (a_ (⟨U,U,?_⟩));exact uZ
    refine Ru 6 U (a_ (⟨U,U,?_⟩));exact uZ
   refine Cs U (λhc14=>?_) λhc14=>?_
   ·have hz:oidB s=none:=(by rw [hob,au hc14];rfl);refine Sr (bK dt U U U dl_ fL ?_);refine bK mI U U U dl_ fL ?_;exact a_ (dE ⟨_,_,[],_,by repeat (first|exact Del.here|apply Del.there),(RetV.cellv2 U U dt mm_ U mI mm_),.nil,_,U,U,none,0,by rw [hz];rfl,by rw [hz];exact bu⟩)
   obtain⟨nv,hnv⟩:∃ nv,nv=40*x.toNat+y.toNat:=⟨_,U⟩;have hz:oidB s=some (enc (nv::t.map (·.toNat))):=(by rw [hob,aj z2_,hnv];rfl);refine aA (az (J.held ([.blk q4 157 [.slice ua (x::y::t).length uc]]) 10 cM U (λh00=>?_)));refine Tk 0 U (aw ez U mm_ U) ?_;refine Te 1 U (aI dk U U (show _=((0:Nat):Int) from rfl) z7_ U z2_) ?_;rintro _ ⟨b15,o15,hi15,rfl,hE15⟩;refine Tk 2 U (bU (y:=x) dy U z7_) ?_;refine Tk 3 U (RunV.mul_u64 U U z2_ z2_) ?_;refine Tk 4 U (aw ez U mm_ U) ?_;refine Te 5 U (aI dk U U (show _=((1:Nat):Int) from rfl) z7_ U z2_) ?_;rintro _ ⟨b16,o16,hi16,rfl,hE16⟩;refine Tk 6 U (bU (y:=y) dy U z7_) ?_;refine Tk 7 U (RunV.add_u64 U U z2_ z2_) ?_;refine Ta 8 U ?_;unfold One;refine bZ 5 1 ?_;rw [show(40:Int)*(x.toNat:Int)+(y.toNat:Int)=(nv:Int) by omega];refine d6 ca_117 U (oput_fn (a:=none) (c:=0) (l:=[]) (n:=nv) z2_ (by simp)) pt_ U ?_;rintro _ h17 Lo17 hle17 ⟨pa17,pc17,rfl,rfl⟩
   replace hU:=hU.mono hle17
   refine a_ ⟨(br_ h00),?_⟩;refine Tk 9 U (bS U) ?_;refine cy cP ?_;refine Kp [8,2,3,4] U (az (Sr (ah (aw ez U mm_ U) U ?_)));refine cm (ei dk U U (show _=((2:Nat):Int) from rfl) hU U z2_) U ?_;rintro _ ⟨ta,tc,rfl,hT⟩
   replace hT:SlR u64R 1 _ ta tc t:=hT
   refine Ru 1 U ?_;rw [show((x::y::t).drop 2).length=t.length from rfl];refine Ru 1 U (a_ (aJ (bM (λt_ S_ h_ L_=>∃ (g:Part) (i:Nat) (out:LB) (ao:OA) (co:Nat),t_=t.length-i+1/\S_=[(2,.pointer (some ⟨q2,0,none⟩)),(3,.pointer (some ⟨q3,0,none⟩)),(8,.slice ao out.length co),(68,.slice ta t.length tc),(69,.int .i64 t.length),(70,.int .i64 i)]/\g=h_/\L_=[.row ao co 5 1 out.length (u8s out),.obj D (.deferred (some [])),.blk q4 157 [.slice ua (x::y::t).length uc],.blk q2 22 [.slice none 0 0],.blk q3 30 [.int .i64 0]]/\(h9.le g/\SlR u64R 1 g ta tc t/\i<=t.length/\out=enc (nv::(t.take i).map (·.toNat))/\out.length<=11*(i+1))) ⟨_,_,?_,⟨_,0,b128 nv,_,_,U,U,U,U,⟨by assumption,hT,by omega,by simp [enc],by have:=pb nv;simp;omega⟩⟩⟩ ?_)))
   ·exact z6_
   rintro _ _ _ _ ⟨g,i,out,ao,co,rfl,rfl,rfl,rfl,hhg,hT,hi,ho,hol⟩;have hlast:SlR u64R 1 _ ta tc t:=hT;refine Sr (Ru 1 U (a_ (az (Cs U (λhc19=>?_) λhc19=>?_))))
   ·have hti:t[i].toNat<9223372036854775808:=jj _ _ _ hng _ (List.mem_map.2 ⟨t[i],by simp,U⟩);have hbl:=pb t[i].toNat;have hso:out++b128 t[i].toNat=enc (nv::(t.take (i+1)).map (·.toNat)):=(by rw [am z2_,List.map_append,<- List.cons_append,sq,<- ho];simp [enc]);refine aA (az (aJ (Sr (cm (aI dk U U z9_ z7_ U z2_) U ?_))));rintro _ ⟨b20,o20,hi20,rfl,hE20⟩;refine ah (bU dy U z7_) U ?_;refine Ru 1 U (a_ (Rg (Ru 2 U (d6 ca_117 U (oput_fn (n:=t[i].toNat) hti z2_) pt_ U ?_))));rintro _ h22 Lo22 hle22 ⟨pa22,pc22,rfl,rfl⟩
    replace hT:=hT.mono hle22
    replace hhg:=hhg.mono hle22
    refine Ru 1 U (a_ (Rg (ah ai_ U ?_)));refine Ru 1 U (a_ (⟨_,?_,_,?_,⟨_,i+1,_,_,_,U,U,U,U,⟨by assumption,by assumption,by omega,hso,by simp;omega⟩⟩⟩))
    ·omega
    exact z6_
   have hof:(oidB s).getD []=out:=(by rw [hz,ho,aS z2_];rfl);have hos:(if(oidB s).isSome=true then(0:Int) else 20)=0:=(by rw [hz];rfl);refine bA (Kp [2,3,8] U (Sr (cW (R:=u8R) (l:=out) dl_ bm U z2_ (λhp hlep hSp=>?_))));refine Ru 1 U (bK dt U U U dl_ fL ?_);refine bK mI U U U dl_ fL ?_;exact a_ (dE ⟨_,_,[],_,by repeat (first|exact Del.here|apply Del.there),(RetV.cellv2 U U dt mm_ U mI mm_),.nil,_,U,U,_,_,by rw [hof,hos],by rw [hof];exact hSp⟩)
 ·rintro h2 Lo hle2 hE;obtain⟨-,rfl,hng,rfl⟩:=hE.resolve_left (λhh=>by cases hh.1);have hz:oidB s=none:=by unfold oidB;rw [hng]
  refine JE.blk (JE.of ⟨_,_,[],_,.here,RetV.cellv2 U U dt mm_ U mI mm_,.nil,_,U,U,none,0,by rw [hz];rfl,by rw [hz];exact bu⟩)
theorem nj:callT prog 189=true:=by kernel_rfl
theorem ni_197:niT prog 197=true:=by kernel_rfl
theorem fQ:plT prog 102=some ([.int .i64 0,.int .i64 0],[(0,1),(1,1)]):=by kernel_rfl
theorem pl_197:plT prog 197=some ([.int .i64 0,.int .i64 0],[(0,2)]):=by kernel_rfl
def gvn (at_ c:Int):Value:=.iface 197 (.agg #[.int .i64 at_,.int .i64 c])
theorem fm {ok:Bool}{e from_:Int}{bf:Nat}{h:Part}:Fn prog 145 [.bool ok,.int .i64 e,.pointer (some ⟨bf,0,none⟩)] h [.blk bf 3 [.int .i64 from_]] (FailR ok (gvn from_ e) bf 3 [.int .i64 from_]):=by
 refine aM func145 U ntmps145 U (λe he=>?_);refine bg [(0,_),(1,_),(2,_)] ⟨U,U,U,trivial⟩ ?_;refine Sr (Ru 2 U (a_ (Cs U (λhc1=>?_) λhc1=>?_)))
 ·refine Rg (ah (aw dI U mm_ U) U ?_);refine Ru 1 U (ah (bn (cs:=[_,_]) fQ U U) U ?_);refine ah (bn (cs:=[_,_]) pl_197 U U) U ?_;refine ah (RunV.makeInterface ni_197 U) U ?_;refine JL.panic U ?_;exact⟨_,_,.cons .here .nil,.inr ⟨hc1,U,U⟩⟩
 exact aA (⟨_,_,_,(eo U),.cons .here .nil,.inl ⟨hc1,U,U⟩⟩)
theorem hY {ok:Bool}{e from_:Int}{bf:Nat}{h:Part}:Fn prog 189 [.bool ok,.int .i64 e,.pointer (some ⟨bf,0,none⟩)] h [.blk bf 3 [.int .i64 from_]] (FailR ok (gvn from_ e) bf 3 [.int .i64 from_]):=by
 refine aM func189 U ntmps189 U (λe he=>?_);refine bg [(0,_),(1,_),(2,_)] ⟨U,U,U,trivial⟩ ?_;refine Sr (Ru 2 U (a_ (Cs U (λhc1=>?_) λhc1=>?_)))
 ·refine Rg (ah (aw dI U mm_ U) U ?_);refine Ru 1 U (ah (bn (cs:=[_,_]) fQ U U) U ?_);refine ah (bn (cs:=[_,_]) pl_197 U U) U ?_;refine ah (RunV.makeInterface ni_197 U) U ?_;refine JL.panic U ?_;exact⟨_,_,.cons .here .nil,.inr ⟨hc1,U,U⟩⟩
 exact aA (⟨_,_,_,(eo U),.cons .here .nil,.inl ⟨hc1,U,U⟩⟩)
def beval (l:LB):Nat:=l.foldl (λa b=>a*256+b.toNat) 0
def rdS (l:LB) (p e:Nat):Except Int (Nat×Nat) :=
 if ¬ p<e then .error 30 else if byteAt l p<128 then .ok (byteAt l p,p+1)
 else if ¬ (1<=byteAt l p-128/\byteAt l p-128<=4) then .error 32
 else if ¬ (byteAt l p-128<=e-(p+1)) then .error 30
 else if ¬ (128<=beval ((l.drop (p+1)).take (byteAt l p-128))/\0<beval ((l.drop (p+1)).take (byteAt l p-128)) / 256 ^ (byteAt l p-128-1)) then .error 32
 else .ok (beval ((l.drop (p+1)).take (byteAt l p-128)),p+1+(byteAt l p-128))
def SizeR (s:Except Int (Nat×Nat)) (from_:Int) (br:Nat) (b:Value):Ending->Part->LE->Prop:=λe _ Lo =>
 match s with
 |.ok (n,q)=>e=.returned (.int .i64 n)/\Lo=[.blk br 138 [b,.int .i64 q]]
 |.error c=>e=.panicked [{ v:=gvn from_ c,recovered:=false }]/\Lo=[]
theorem kw (l:LB) (i:Nat) (h:i<l.length):beval (l.take (i+1))=beval (l.take i)*256+l[i].toNat:=by
 rw [am h];unfold beval;rw [List.foldl_append];rfl
theorem lB (l:LB) (i:Nat):beval (l.take i)<256 ^ i:=by
 induction i with
 |zero=>simp [beval]
 |succ i ih =>
  by_cases h:i<l.length
  ·rw [kw l i h];have:=l[i].toNat_lt;have e:(256:Nat) ^ (i+1)=256 ^ i*256:=Nat.pow_succ ..;omega
  ·rw [aS z2_];rw [aS z2_] at ih;have e:(256:Nat) ^ (i+1)=256 ^ i*256:=Nat.pow_succ ..;omega
theorem tH (i:Nat) (h:i<=3):(256:Nat) ^ i<=16777216:=by
 have:i=0\/i=1\/i=2\/i=3:=by omega
 rcases this with rfl|rfl|rfl|rfl<;>decide
theorem size_rd {l:LB}{p en:Nat}{from_:Int}{br:Nat}{ab:OA}{cb:Nat}{h:Part}(hl:SlR u8R 1 h ab cb l) (he:en<=l.length) :
 Fn prog 146 [.pointer (some ⟨br,0,none⟩),.int .i64 from_,.int .i64 en] h [.blk br 138 [.slice ab l.length cb,.int .i64 p]] (SizeR (rdS l p en) from_ br (.slice ab l.length cb)):=by
 have hb:=hl.big;have hen:=he;refine aM func146 U ntmps146 U (λe he=>?_);refine bg [(0,_),(1,_),(2,_)] ⟨U,U,U,trivial⟩ ?_;have hh0:=aT h;refine Sr (dh U U U (λb1=>?_));refine Ru 1 U (a_ (Sr (ah (RunV.makeFunc (os1:=[]) (os2:=[.tmp 4]) U U) U ?_)));refine Ru 1 U (a_ (Sr (Ru 4 U (ah (aw dI U mm_ U) U ?_))));refine Ru 2 U (JL.fail nj U U (hY) dl_ U (λhc2 h2 hle2=>?_) (λhc2 h2 hle2=>?_))
 ·try simp only [ax,decide_eq_false_iff_not,Bool.not_eq_eq_eq_not,Bool.not_true,Bool.not_false,ne_eq,Decidable.not_not] at hc2
  exact⟨[],_,.nil,by unfold rdS;rw [if_pos z2_];exact⟨U,U⟩⟩
 try simp only [ax,decide_eq_false_iff_not,Bool.not_eq_eq_eq_not,Bool.not_true,Bool.not_false,ne_eq,Decidable.not_not] at hc2
 replace hl:=hl.mono hle2
 replace hh0:=hh0.mono hle2
 refine Nk [7,6,0,2] U (az (de cM cP ?_));refine Rq 3 U ?_;refine cq (aw dt U mm_ U) U ?_;refine Rq 3 U ?_;refine cq (aw dI U mm_ U) U ?_;refine du (aI cY U U z9_ z7_ U z2_) U ?_;rintro _ ⟨b3,o3,hi3,rfl,hE3⟩;refine cq (bv ff U z7_) U ?_;refine cq lH U ?_;refine Rq 1 U ?_;refine Nq [8,7,6,0,2] U ?_;refine Sr ?_;have hpl:p<l.length:=z2_;have hbt:=bY l p hpl;have hlt:=cx l p;refine Ru 3 U (ah (aw dI U mm_ U) U ?_);refine ah ai_ U ?_;refine Ru 2 U (bK dI U U U dl_ fL ?_);refine Nk [8,7,6,0,2] U (az (Sr (Ru 2 U (a_ (Cs U (λhc5=>?_) λhc5=>?_)))))
 ·exact Sr (Ru 2 U (Nk [6,8,7,0,2] U (dE ⟨_,[_],_,(ay U U),.cons .here .nil,by unfold rdS;rw [if_neg z2_,if_pos z2_];exact⟨by rw [hbt],by simp⟩⟩)))
 refine aA (Sr (Ru 1 U (ah si_ U ?_)));refine Ru 1 U (Nk [9,8,7,6,0,2] U (Sr (Ru 4 U (Bs 47 U (λhc6=>?_) λhc6=>?_))))
 ·refine Ru 3 U (JL.fail nj U U (hY) dl_ U (λhc7 h7 hle7=>?_) (λhc7 h7 hle7=>?_))
  ·try simp only [ax,decide_eq_false_iff_not,Bool.not_eq_eq_eq_not,Bool.not_true,Bool.not_false,ne_eq,Decidable.not_not] at hc7
   exact⟨[],_,.nil,by unfold rdS;rw [if_neg z2_,if_neg z2_,if_pos z2_];exact⟨U,U⟩⟩
  try simp only [ax,decide_eq_false_iff_not,Bool.not_eq_eq_eq_not,Bool.not_true,Bool.not_false,ne_eq,Decidable.not_not] at hc7
  replace hl:=hl.mono hle7
  replace hh0:=hh0.mono hle7
  refine Nk [9,8,7,6,0,2] U (Sr (Ru 6 U (ah (aw dI U mm_ U) U ?_)));refine ah si_ U ?_;refine Ru 1 U (JL.fail nj U U (hY) dl_ U (λhc8 h8 hle8=>?_) (λhc8 h8 hle8=>?_))
  ·try simp only [ax,decide_eq_false_iff_not,Bool.not_eq_eq_eq_not,Bool.not_true,Bool.not_false,ne_eq,Decidable.not_not] at hc8
   exact⟨[],_,.nil,by unfold rdS;rw [if_neg z2_,if_neg z2_,if_neg z2_,if_pos z2_];exact⟨U,U⟩⟩
  try simp only [ax,decide_eq_false_iff_not,Bool.not_eq_eq_eq_not,Bool.not_true,Bool.not_false,ne_eq,Decidable.not_not] at hc8
  replace hl:=hl.mono hle8
  replace hh0:=hh0.mono hle8
  refine Nk [9,8,7,6,0] U (Sr ?_);obtain⟨kk,hkk⟩:∃ kk:Nat,byteAt l p=128+kk:=⟨byteAt l p-128,by omega⟩;refine Ru 1 U (a_ (az (az (de cM cP ?_))));refine Rq 3 U ?_;refine cq (aw dt U mm_ U) U ?_;refine Rq 3 U ?_;refine cq (aw dI U mm_ U) U ?_;refine Rq 3 U ?_;refine cq (aw dI U mm_ U) U ?_;refine Rq 1 U ?_;refine cq ai_ U ?_;refine du (eJ (m:=p+1) (m':=p+1+kk) cY U U U z2_ z2_ z7_ U z2_ z2_) U ?_;rintro _ ⟨as_,cs_,rfl,hSs⟩;rw [show p+1+kk-(p+1)=kk by omega] at *;obtain⟨sub,hsub⟩:∃ sub,sub=(l.drop (p+1)).take kk:=⟨_,U⟩;rw [<- hsub] at hSs |-;have hsl:sub.length=kk:=(by rw [hsub];simp;omega)
  refine Rq 2 U ?_;refine Nq [78,77,76,8,9,7,6,0] U ?_;refine aJ (bM (λt_ S_ h_ L_=>∃ (g:Part) (i:Nat),t_=kk-i/\S_=[(0,.pointer (some ⟨br,0,none⟩)),(7,.func (.func 189) #[] #[.pointer (some ⟨b1,0,none⟩)]),(8,.int .i64 (beval (sub.take i))),(9,.int .i64 ((l[p].toNat:Int)-128)),(76,.slice as_ sub.length cs_),(77,.int .i64 sub.length),(78,.int .i64 i)]/\g=h_/\L_=[.blk b1 3 [.int .i64 from_],.blk br 138 [.slice ab l.length cb,.int .i64 (p+1)]]/\(h.le g/\SlR u8R 1 g as_ cs_ sub/\i<=kk)) ⟨_,_,?_,⟨_,0,U,U,U,U,⟨by assumption,by assumption,by omega⟩⟩⟩ ?_)
  ·repeat (first|exact trivial|refine⟨rfl,?_⟩|refine⟨(by exact cQ (by first|rfl|omega)),?_⟩)
  rintro _ _ _ _ ⟨g,i,rfl,rfl,rfl,rfl,hhg,hSs,hi⟩;have hbl:=lB sub i;refine Sr (Ru 1 U (a_ (az (Cs U (λhc10=>?_) λhc10=>?_))))
  ·have h256:=tH i z2_;have hst:=kw sub i z2_;have hsb:=(sub[i]'z2_).toNat_lt;refine aA (az (aJ (Sr (cm (aI cY U U z9_ z7_ U z2_) U ?_))));rintro _ ⟨b11,o11,hi11,rfl,hE11⟩;refine ah (bv ff U z7_) U ?_;refine Ru 1 U (a_ (Rg (Ru 1 U (ah (by first|exact RunV.shl_i64 256 rfl rfl bT bT bT z2_ z2_|exact RunV.shl rfl rfl bT bT) U ?_))));refine Ru 1 U (ah lH U ?_);refine ah (RunV.join_i64 8 256 U U bT z2_ z2_ z2_ z2_ z2_ z2_) U ?_;refine Ru 1 U (a_ (Rg (ah ai_ U ?_)));refine Ru 1 U (a_ (⟨_,?_,_,?_,⟨_,i+1,U,U,U,U,⟨by assumption,by assumption,by omega⟩⟩⟩))
   ·omega
   repeat (first|exact trivial|refine⟨rfl,?_⟩|refine⟨(by exact cQ (by first|rfl|omega)),?_⟩)
  refine bA (Kp [0,7,8,9] U (Sr ?_));have hv:beval ((l.drop (p+1)).take (byteAt l p-128))=beval (sub.take i):=(by rw [hkk,show 128+kk-128=kk by omega,<- hsub,aS z2_]);have hsh:=nH (beval (sub.take i)) (byteAt l p-128-1) (8*((l[p].toNat:Int)-128-1)) z2_;refine Ru 4 U (Bs 91 U (λhc13=>?_) λhc13=>?_)
  ·refine Ru 2 U (aQ U U  si_ U ?_);refine aQ U U  jM U ?_;refine aQ U U  (RunV.shr U U z2_ (by show _<=((64:Nat):Int);omega)) U ?_;rw [hsh];refine Ru 2 U (JL.fail nj U U (hY) dl_ U (λhc14 h14 hle14=>?_) (λhc14 h14 hle14=>?_))
   ·try simp only [ax,decide_eq_false_iff_not,Bool.not_eq_eq_eq_not,Bool.not_true,Bool.not_false,ne_eq,Decidable.not_not] at hc14
    exact⟨[],_,.nil,by unfold rdS;rw [if_neg z2_,if_neg z2_,if_neg z2_,if_neg z2_,if_pos (by rw [hv];omega)];exact⟨U,U⟩⟩
   try simp only [ax,decide_eq_false_iff_not,Bool.not_eq_eq_eq_not,Bool.not_true,Bool.not_false,ne_eq,Decidable.not_not] at hc14
   replace hhg:=hhg.mono hle14
   replace hSs:=hSs.mono hle14
   refine Nk [0,8,9] U (Sr (Ru 3 U (ah (aw dI U mm_ U) U ?_)));refine Ru 1 U (ah ai_ U ?_);refine Ru 2 U (bK dI U U U dl_ fL ?_);exact Nk [8] U (Sr (Ru 2 U (a_ (dE ⟨_,[_],_,(ay U U),.cons dl_ .nil,by unfold rdS;rw [if_neg z2_,if_neg z2_,if_neg z2_,if_neg z2_,if_neg (by rw [hv];omega)];exact⟨by rw [hv],by simp;omega⟩⟩))))
  refine Ru 7 U (JL.fail nj U U (hY) dl_ U (λhc15 h15 hle15=>?_) (λhc15=>by cases hc15));exact⟨[],_,.nil,by unfold rdS;rw [if_neg z2_,if_neg z2_,if_neg z2_,if_neg z2_,if_pos (by rw [hv];omega)];exact⟨U,U⟩⟩
 refine Ru 3 U (JL.fail nj U U (hY) dl_ U (λhc16 h16 hle16=>?_) (λhc16=>by cases hc16));exact⟨[],_,.nil,by unfold rdS;rw [if_neg z2_,if_neg z2_,if_pos z2_];exact⟨U,U⟩⟩
theorem SizeR.out {s:Except Int (Nat×Nat)}{fr:Int}{br:Nat}{b:Value}{h:Part}{Lo:LE}(k:SizeR s fr br b .outgrown h Lo):False:=by
 unfold SizeR at k;split at k<;>cases k.1
theorem SizeR.pan {s:Except Int (Nat×Nat)}{fr:Int}{br:Nat}{b:Value}{h:Part}{Lo:LE}{ch:List PanicEntry}(k:SizeR s fr br b (.panicked ch) h Lo):∃ c,s=.error c/\ch=[{ v:=gvn fr c,recovered:=false }]:=by
 unfold SizeR at k;split at k
 ·cases k.1
 ·rename_i c;have:=k.1;injection this with e;exact⟨c,U,e⟩
theorem SizeR.ret {s:Except Int (Nat×Nat)}{fr:Int}{br:Nat}{b v:Value}{h:Part}{Lo:LE}(k:SizeR s fr br b (.returned v) h Lo):∃ n q:Nat,s=.ok (n,q)/\v=.int .i64 n/\Lo=[.blk br 138 [b,.int .i64 q]]:=by
 unfold SizeR at k;split at k
 ·rename_i n q;have:=k.1;injection this with e;exact⟨n,q,U,e,k.2⟩
 ·cases k.1
theorem mU {l:LB}{p en n q:Nat}(h:rdS l p en=.ok (n,q)):p<q/\q<=en:=by
 unfold rdS at h;split at h
 ·cases h
 ·split at h
  ·cases h;omega
  ·split at h
   ·cases h
   ·split at h
    ·cases h
    ·split at h
     ·cases h
     ·injection h with h;injection h with h1 h2;omega
end Go.Proofs.YtojokloclmcloaaGreatDoor
