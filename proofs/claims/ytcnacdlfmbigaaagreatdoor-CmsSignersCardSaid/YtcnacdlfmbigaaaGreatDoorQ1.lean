/- Walks: the program's texts: the calendar, characters; Walks: the program's texts: characters, object identifiers; Walks: the program's texts: digits, object identifiers; Walks: the program's rules of nodes: tags, values, heads; The arguments of this seat's laws: nodes, bytes, numbers; the library's tables; make; append of what was made; rows of the call's own, cell by cell; a callee that only reads what is owned; 'copy' into a row of the call's own; Elements of several cells in rows of the call's own: loaded and stored whole; Rows written out whose elements are structs or arrays; arrays written out; places in arrays; Regions that draw their order, and whose operations make or write memory; Parts of structs that are values; Walks: the program writes nodes; Walks: the program writes and makes nodes; Plain: numbers of an object identifier, out of bytes and texts; Plain: what is said of one text's number, character by character; of a number's digits of 128, from the top down; A range over a function: the loop's record is an entry of the call's own; the iterator is a call that is handed it; a call of yield is a round, walked in the same state as the loop's head. No program in sight; Walks: the program's object identifiers: one number, a number's digits, the parts of a text one after the other; Walks: the program's object identifiers: the parts of a text, one after the other; A function that defers one call of a closure of its own, right after it has made its result variables; Guarded operations in regions that draw their order; Walks: the program's object identifiers: text.OidBytes. -/
import Derived.Test.YtcnacdlfmbigaaaGreatDoorShelf
import Derived.Lib.LaidU8
import Derived.Laws.MakeOwn
import Derived.Laws.CopyRow
import Derived.Lib.MakeNoZero
import Derived.OrdersHeld
import Derived.RangeFuncRecord
import Derived.TacticsIn
import Derived.Recover
import Derived.Test.YtcnacdlfmbigaaaGreatDoorQ0
set_option linter.unusedSimpArgs false
set_option linter.unusedVariables false
set_option linter.constructorNameAsVariable false
namespace Go.Proofs.YtcnacdlfmbigaaaGreatDoor
open Go Go.RowKit
section
abbrev an:=@decide_eq_true
abbrev am:=@decide_eq_false
theorem z6_ {p:Prop}(u:p:=by (try rw [e1] at *);(try rw [e2] at *);(first|rw [pl_f1 z2_]|rw [pl_f2 z2_ z2_]|rw [pl_f3 (i+1) z2_ z2_ (by simp only [micOk,hm,Bool.true_and];rw [if_pos z2_];exact am z2_)]|(have h6:i=6:=z2_;subst h6;have hpm:plM s=micI s 6:=if_neg z2_;rw [pl_t1 z2_ z2_ z2_ hm,hpm];simp [momV,hcz])|(have hpm:plM s=0:=if_pos z2_;rw [pl_t0 z2_ z2_,hpm];simp [momV,hcz]));all_goals rfl):p:=u
theorem j8 {p:Prop}(u:p:=by first|exact RunV.convb_i64 cv_5_3 rfl|exact RunV.conv_i64 cv_5_3 rfl z2_ z2_|exact cD cv_5_3 rfl):p:=u
theorem sv {p:Prop}(u:p:=by first|(have hm:momOk y s=false:=am z2_;rw [momV,hm];rfl)|(have hk2:(twoI s 0).toNat-1=k:=by omega);have hm:momOk y s=true:=an z2_;rw [momV,hm,momT,hk2];rfl):p:=u
theorem im {p:Prop}(u:p:=by first|exact RunV.mul_i64 rfl rfl z2_ z2_|exact RunV.mul rfl rfl):p:=u
theorem ky {p:Prop}(u:p:=by first|exact RunV.quo_i64 rfl rfl z2_ z2_ z2_|exact RunV.quo rfl rfl z2_):p:=u
theorem z26_ {p:Prop}(u:p:=by rw [← hy] at *;first|(have hm:psOk s=false:=(by unfold psOk;simp_all);rw [psT,hm];rfl)|(have hm:psOk s=true:=(by unfold psOk;rw [an z2_];simp_all);rw [psT,hm];simp_all [momV])):p:=u
theorem oe {p:Prop}(u:p:=by first|exact RunV.rem_i64 rfl rfl z2_ z2_|exact RunV.rem rfl rfl z2_):p:=u
end
section
theorem gm:callT Tryz.prog 243=true:=by kernel_rfl
theorem nV:callT Tryz.prog 244=true:=by kernel_rfl
theorem ca_256:callT Tryz.prog 256=true:=by kernel_rfl
theorem ca_257:callT Tryz.prog 257=true:=by kernel_rfl
theorem ca_265:callT Tryz.prog 265=true:=by kernel_rfl
theorem cv_5_3:convI Tryz.prog 5 3=some .i64:=by kernel_rfl
theorem d_:Tryz.prog.underlying 9=some .string:=by kernel_rfl
def leapB (y:Int):Bool:=decide (y % 4=0)&&(decide (y % 100≠0)||decide (y % 400=0))
theorem leap_fn (y:Int) (h:Part) (h0:0≤y):Pure Tryz.prog 265 [.int .i64 y] h (.bool (leapB y)):=by
 refine aG Tryz.func265 rfl Tryz.ntmps265 rfl (fun e he=>?_)
 refine aU [(0,_)] ⟨rfl,trivial⟩ ?_
 refine Sr (Ru 1 rfl (a_ (Sr (Ru 1 rfl (ae oe rfl ?_)))))
 refine Ru 2 rfl (Bs 6 rfl (fun hc1=>?_) fun hc1=>?_)
 ·refine Ru 1 rfl (aH rfl rfl  oe rfl ?_)
  refine Ru 2 rfl (Bs 10 rfl (fun hc2=>?_) fun hc2=>?_)
  ·exact Ru 6 rfl (Nk [2] rfl (az (au rfl rfl) (by simp [leapB, *]) rfl))
  refine Ru 1 rfl (aH rfl rfl  oe rfl ?_)
  exact Ru 4 rfl (Nk [2] rfl (az (au rfl rfl) (by simp [leapB, *]) rfl))
 exact Ru 10 rfl (Nk [2] rfl (az (au rfl rfl) (by simp [leapB, *]) rfl))
def monthI (y m:Int):Int:=if m=2 then(if leapB y then 29 else 28) else if m=4∨m=6∨m=9∨m=11 then 30 else 31
theorem qF (y m:Int) (h:Part) (h0:0≤y):Pure Tryz.prog 256 [.int .i64 y,.int .i64 m] h (.int .i64 (monthI y m)):=by
 refine aG Tryz.func256 rfl Tryz.ntmps256 rfl (fun e he=>?_)
 refine aU [(0,_),(1,_)] ⟨rfl,rfl,trivial⟩ ?_
 refine Sr (Ru 1 rfl (a_ ?_))
 refine aw (Sr (Ru 1 rfl (a_ (aE (Sr (Ru 2 rfl (a_ (Cs rfl (fun hc1=>?_) fun hc1=>?_))))))))
 ·refine aw (Sr (Ru 1 rfl (aV ca_265 rfl (leap_fn _ _ z2_) rfl ?_)))
  refine Nk [9,4] rfl (Cs rfl (fun hc3=>?_) fun hc3=>?_)
  ·exact Sr (Ru 1 rfl (a_ (az (au rfl rfl) (by simp [monthI, *]) rfl)))
  exact ax (Sr (Ru 1 rfl (a_ (az (au rfl rfl) (by simp [monthI, *]) rfl))))
 refine aw (Sr (Ru 2 rfl (Nk [10,5,4] rfl (Cs rfl (fun hc4=>?_) fun hc4=>?_))))
 ·exact ax (aM rfl (Sr (Ru 1 rfl (a_ (az (au rfl rfl) (by simp [monthI, *]) rfl)))))
 refine Sr (Ru 2 rfl (a_ (Cs rfl (fun hc5=>?_) fun hc5=>?_)))
 ·exact ax (Kp [10,4] rfl (aM rfl (Sr (Ru 1 rfl (a_ (az (au rfl rfl) (by simp [monthI, *]) rfl))))))
 refine Sr (Ru 2 rfl (Nk [10,5,4] rfl (Cs rfl (fun hc6=>?_) fun hc6=>?_)))
 ·exact ax (aM rfl (Sr (Ru 1 rfl (a_ (az (au rfl rfl) (by simp [monthI, *]) rfl)))))
 refine Rg (Ru 2 rfl (a_ (Cs rfl (fun hc7=>?_) fun hc7=>?_)))
 ·exact Sr (Ru 1 rfl (Nk [4] rfl (az (au rfl rfl) (by simp [monthI, *]) rfl)))
 exact ax (Kp [4] rfl (Sr (Ru 1 rfl (a_ (az (au rfl rfl) (by simp [monthI, *]) rfl)))))
theorem fi (y m:Int):28≤monthI y m∧monthI y m≤31:=by unfold monthI;repeat' split<;>omega
def beforeI (y:Int):Int:=if y=0 then 0 else 365*y+(y-1) / 4-(y-1) / 100+(y-1) / 400+1
theorem before_fn (y:Int) (h:Part) (h0:0≤y) (h1:y≤1000000):Pure Tryz.prog 257 [.int .i64 y] h (.int .i64 (beforeI y)):=by
 refine aG Tryz.func257 rfl Tryz.ntmps257 rfl (fun e he=>?_)
 refine aU [(0,_)] ⟨rfl,trivial⟩ ?_
 refine Sr (Ru 1 rfl (a_ (aw (Sr (Ru 2 rfl (a_ (Cs rfl (fun hc1=>?_) fun hc1=>?_)))))))
 ·exact Sr (Ru 1 rfl (a_ (az (au rfl rfl) (by simp [beforeI, *]) rfl)))
 refine ax (Sr (Ru 1 rfl (ae si_ rfl ?_)))
 refine Ru 1 rfl (Nk [3,2] rfl (Sr (Ru 1 rfl (ae ai_ rfl ?_))))
 refine ae im rfl ?_
 refine Ru 1 rfl (ae ky rfl ?_)
 refine ae ai_ rfl ?_
 refine Ru 1 rfl (ae ky rfl ?_)
 refine ae si_ rfl ?_
 refine Ru 1 rfl (ae ky rfl ?_)
 refine ae ai_ rfl ?_
 refine ae ai_ rfl ?_
 exact Ru 1 rfl (Nk [2] rfl (az (au rfl rfl) (by simp [beforeI, *]) rfl))
theorem lp (y:Int) (h0:0≤y) (h1:y≤1000000):0≤beforeI y∧beforeI y≤366000001:=by unfold beforeI;split<;>omega
def twoI (s:List UInt8) (i:Nat):Int :=
 if byteAt s i<48∨57<byteAt s i∨byteAt s (i+1)<48∨57<byteAt s (i+1) then -1048576 else(byteAt s i-48:Int)*10+(byteAt s (i+1)-48:Int)
theorem two_fn (s:List UInt8) (i:Int) (h:Part) (h0:0≤i) (h1:i+1<s.length) (h2:s.length≤140737488355328):Pure Tryz.prog 243 [.string ⟨s.toArray⟩,.int .i64 i] h (.int .i64 (twoI s i.toNat)):=by
 have e3:(i+1).toNat=i.toNat+1:=by omega
 have b1:=bK s i.toNat;have b2:=bK s (i.toNat+1)
 refine aG Tryz.func243 rfl Tryz.ntmps243 rfl (fun e he=>?_)
 refine aU [(0,_),(1,_)] ⟨rfl,rfl,trivial⟩ ?_
 refine Sr (Ru 1 rfl (a_ (aw (Sr (Ru 2 rfl (ae (bj d_ rfl rfl eD z2_) rfl ?_))))))
 refine Ru 2 rfl (Bs 9 rfl (fun hc1=>?_) fun hc1=>?_)
 ·exact Ru 19 rfl (Nk [28,4,0,1] rfl (aM rfl (Sr (Ru 1 rfl (a_ (az (au rfl rfl) (by congr 1;rw [e3] at *;unfold twoI;first|rw [if_pos z2_]|rw [if_neg z2_]) rfl))))))
 refine Ru 2 rfl (aH rfl rfl  (bj d_ rfl rfl eD z2_) rfl ?_)
 refine Ru 3 rfl (Bs 15 rfl (fun hc2=>?_) fun hc2=>?_)
 ·exact Ru 13 rfl (Nk [28,4,0,1] rfl (aM rfl (Sr (Ru 1 rfl (a_ (az (au rfl rfl) (by congr 1;rw [e3] at *;unfold twoI;first|rw [if_pos z2_]|rw [if_neg z2_]) rfl))))))
 refine Ru 2 rfl (aH rfl rfl  ai_ rfl ?_)
 refine aH rfl rfl  (bj d_ rfl rfl eD z2_) rfl ?_
 refine Ru 3 rfl (Bs 22 rfl (fun hc3=>?_) fun hc3=>?_)
 ·exact Ru 6 rfl (Nk [28,4,0,1] rfl (aM rfl (Sr (Ru 1 rfl (a_ (az (au rfl rfl) (by congr 1;rw [e3] at *;unfold twoI;first|rw [if_pos z2_]|rw [if_neg z2_]) rfl))))))
 refine Ru 2 rfl (aH rfl rfl  ai_ rfl ?_)
 refine aH rfl rfl  (bj d_ rfl rfl eD z2_) rfl ?_
 refine Ru 2 rfl (Nk [28,4,0,1] rfl (Cs rfl (fun hc4=>?_) fun hc4=>?_))
 ·exact Sr (Ru 1 rfl (a_ (az (au rfl rfl) (by congr 1;rw [e3] at *;unfold twoI;first|rw [if_pos z2_]|rw [if_neg z2_]) rfl)))
 refine ax (aw (cT cK cY ?_))
 refine Rq 2 rfl ?_
 refine bR (bj d_ rfl rfl eD z2_) rfl ?_
 refine bR (by first|exact RunV.sub_u8 rfl rfl z2_ z2_|exact dx rfl rfl) rfl ?_
 refine bR j8 rfl ?_
 refine bR im rfl ?_
 refine Rq 2 rfl ?_
 refine bR ai_ rfl ?_
 refine bR (bj d_ rfl rfl eD z2_) rfl ?_
 refine bR (by first|exact RunV.sub_u8 rfl rfl z2_ z2_|exact dx rfl rfl) rfl ?_
 refine bR j8 rfl ?_
 refine bR ai_ rfl ?_
 refine Rq 1 rfl ?_
 refine Nq [4] rfl ?_
 exact az (au rfl rfl) (by congr 1;rw [e3] at *;unfold twoI;first|rw [if_pos z2_]|rw [if_neg z2_]) rfl
theorem ku (s:List UInt8) (i:Nat) (h:Part) (h1:i+1<s.length) (h2:s.length≤140737488355328):Pure Tryz.prog 243 [.string ⟨s.toArray⟩,.int .i64 (i:Nat)] h (.int .i64 (twoI s i)) :=
 (two_fn s i h z2_ z2_ h2).cast (by simp)
theorem dA (s:List UInt8) (i:Nat):(twoI s i=-1048576∨0≤twoI s i)∧twoI s i≤99:=by
 have:=bK s i;have:=bK s (i+1)
 unfold twoI;split<;>omega
def mdays (y:Int):Nat→Int
 |0=>0
 |k+1=>mdays y k+monthI y (k+1)
theorem m6 (y:Int) (k:Nat):0≤mdays y k∧mdays y k≤31*k:=by
 induction k with
 |zero=>simp [mdays]
 |succ k ih=>have:=fi y (k+1);simp only [mdays];omega
def momOk (y:Int) (s:List UInt8):Bool :=
 decide (0≤y∧1≤twoI s 0∧twoI s 0≤12∧1≤twoI s 2∧twoI s 2≤monthI y (twoI s 0)∧0≤twoI s 4∧twoI s 4≤23∧0≤twoI s 6∧twoI s 6≤59∧0≤twoI s 8∧twoI s 8≤59)
def momT (y:Int) (s:List UInt8):Int :=
 -62167219200+(beforeI y+(twoI s 2-1)+mdays y ((twoI s 0).toNat-1))*86400+(twoI s 4*3600+twoI s 6*60+twoI s 8)
def momV (y:Int) (s:List UInt8):Int:=if momOk y s then momT y s else 0
theorem fK (y:Int) (s:List UInt8) (h:Part) (h1:y≤1000000) (h2:s.length=10):Pure Tryz.prog 244 [.int .i64 y,.string ⟨s.toArray⟩] h (.tuple #[.int .i64 (momV y s),.bool (momOk y s)]):=by
 have w0:=dA s 0;have w2:=dA s 2;have w4:=dA s 4;have w6:=dA s 6;have w8:=dA s 8
 have w1:=fi y (twoI s 0)
 refine aG Tryz.func244 rfl Tryz.ntmps244 rfl (fun e he=>?_)
 refine aU [(0,_),(1,_)] ⟨rfl,rfl,trivial⟩ ?_
 refine Sr (Ru 2 rfl (a_ (aw (Sr (Ru 2 rfl (a_ (Cs rfl (fun hc1=>?_) fun hc1=>?_)))))))
 ·exact Sr (Ru 2 rfl (Nk [5,4,0,1] rfl (az (aS rfl rfl rfl) sv rfl)))
 refine ax (Sr (Ru 1 rfl (aV gm rfl (ku s 0 _ z2_ z2_) rfl ?_)))
 refine Ru 1 rfl (aV gm rfl (ku s 2 _ z2_ z2_) rfl ?_)
 refine Ru 1 rfl (aV gm rfl (ku s 4 _ z2_ z2_) rfl ?_)
 refine Ru 1 rfl (aV gm rfl (ku s 6 _ z2_ z2_) rfl ?_)
 refine Ru 1 rfl (aV gm rfl (ku s 8 _ z2_ z2_) rfl ?_)
 refine Ru 5 rfl (Nk [10,9,8,7,6,5,4,0] rfl (aw (Sr (Ru 3 rfl (Bs 27 rfl (fun hc7=>?_) fun hc7=>?_)))))
 ·exact Ru 38 rfl (Nk [65,10,9,8,7,6,5,4,0] rfl (aM rfl (Sr (Ru 2 rfl (a_ (az (aS rfl rfl rfl) sv rfl))))))
 refine Ru 4 rfl (Bs 31 rfl (fun hc8=>?_) fun hc8=>?_)
 ·exact Ru 34 rfl (Nk [65,10,9,8,7,6,5,4,0] rfl (aM rfl (Sr (Ru 2 rfl (a_ (az (aS rfl rfl rfl) sv rfl))))))
 refine Ru 4 rfl (Bs 35 rfl (fun hc9=>?_) fun hc9=>?_)
 ·exact Ru 30 rfl (Nk [65,10,9,8,7,6,5,4,0] rfl (aM rfl (Sr (Ru 2 rfl (a_ (az (aS rfl rfl rfl) sv rfl))))))
 refine Ru 3 rfl (cE rfl rfl  ca_256 rfl (qF _ _ _ z2_) rfl ?_)
 refine Ru 3 rfl (Bs 42 rfl (fun hc11=>?_) fun hc11=>?_)
 ·exact Ru 23 rfl (Nk [65,10,9,8,7,6,5,4,0] rfl (aM rfl (Sr (Ru 2 rfl (a_ (az (aS rfl rfl rfl) sv rfl))))))
 refine Ru 4 rfl (Bs 46 rfl (fun hc12=>?_) fun hc12=>?_)
 ·exact Ru 19 rfl (Nk [65,10,9,8,7,6,5,4,0] rfl (aM rfl (Sr (Ru 2 rfl (a_ (az (aS rfl rfl rfl) sv rfl))))))
 refine Ru 4 rfl (Bs 50 rfl (fun hc13=>?_) fun hc13=>?_)
 ·exact Ru 15 rfl (Nk [65,10,9,8,7,6,5,4,0] rfl (aM rfl (Sr (Ru 2 rfl (a_ (az (aS rfl rfl rfl) sv rfl))))))
 refine Ru 4 rfl (Bs 54 rfl (fun hc14=>?_) fun hc14=>?_)
 ·exact Ru 11 rfl (Nk [65,10,9,8,7,6,5,4,0] rfl (aM rfl (Sr (Ru 2 rfl (a_ (az (aS rfl rfl rfl) sv rfl))))))
 refine Ru 4 rfl (Bs 58 rfl (fun hc15=>?_) fun hc15=>?_)
 ·exact Ru 7 rfl (Nk [65,10,9,8,7,6,5,4,0] rfl (aM rfl (Sr (Ru 2 rfl (a_ (az (aS rfl rfl rfl) sv rfl))))))
 refine Ru 4 rfl (Bs 62 rfl (fun hc16=>?_) fun hc16=>?_)
 ·exact Ru 3 rfl (Nk [65,10,9,8,7,6,5,4,0] rfl (aM rfl (Sr (Ru 2 rfl (a_ (az (aS rfl rfl rfl) sv rfl))))))
 refine Ru 3 rfl (Nk [65,10,9,8,7,6,5,4,0] rfl (Cs rfl (fun hc17=>?_) fun hc17=>?_))
 ·exact Sr (Ru 2 rfl (a_ (az (aS rfl rfl rfl) sv rfl)))
 refine ax (Sr (Ru 1 rfl (aV ca_257 rfl (before_fn _ _ z2_ z2_) rfl ?_)))
 refine Ru 1 rfl (ae si_ rfl ?_)
 have hbb:=lp y z2_ z2_
 refine ae ai_ rfl ?_
 refine Ru 1 rfl (Nk [11,10,9,8,6,5,4,0] rfl (aw (Sr (Ru 1 rfl (a_ (aE (bC (fun t_ S_ h_ L_=>∃ (k:Nat),t_=13-k∧S_=[(0,.int .i64 y),(6,.int .i64 (twoI s 0)),(8,.int .i64 (twoI s 4)),(9,.int .i64 (twoI s 6)),(10,.int .i64 (twoI s 8)),(11,.int .i64 (beforeI y+(twoI s 2-1)+mdays y k)),(12,.int .i64 (k+1:Nat))]∧h=h_∧L_=[]∧(k<twoI s 0)) ⟨_,_,?_,⟨0,rfl,rfl,rfl,rfl,by omega⟩⟩ ?_)))))))
 ·repeat (first|exact trivial|refine⟨rfl,?_⟩|refine⟨(by exact dH (by simp [mdays]<;>omega)),?_⟩)
 rintro _ _ _ _ ⟨k,rfl,rfl,rfl,rfl,hk⟩
 have hmd:=m6 y k;have hmb:=fi y (k+1:Nat)
 refine aw (Sr (Ru 3 rfl (a_ (Cs rfl (fun hc19=>?_) fun hc19=>?_))))
 ·refine ax (aw (aE (Rg (Ru 3 rfl (aV ca_256 rfl (qF _ _ _ z2_) rfl ?_)))))
  refine ae ai_ rfl ?_
  refine Ru 1 rfl (a_ (Rg (Ru 1 rfl (ae ai_ rfl ?_))))
  refine Ru 1 rfl (a_ (⟨_,?_,_,?_,⟨k+1,rfl,rfl,rfl,rfl,by omega⟩⟩))
  ·omega
  repeat (first|exact trivial|refine⟨rfl,?_⟩|refine⟨(by exact dH (by simp [mdays]<;>omega)),?_⟩)
 refine bx (Kp [8,9,10,11] rfl (Sr (Ru 1 rfl (ae im rfl ?_))))
 refine ae ai_ rfl ?_
 refine Ru 1 rfl (ae im rfl ?_)
 refine Ru 1 rfl (ae im rfl ?_)
 refine ae ai_ rfl ?_
 refine Ru 1 rfl (ae ai_ rfl ?_)
 refine ae ai_ rfl ?_
 exact Ru 2 rfl (Nk [5,4] rfl (az (aS rfl rfl rfl) sv rfl))
def psY (s:List UInt8):Int:=if 0≤twoI s 0 then(if twoI s 0+1900<1950 then twoI s 0+1900+100 else twoI s 0+1900) else twoI s 0
def psOk (s:List UInt8):Bool:=decide (s.length=13∧byteAt s 12=90)&&momOk (psY s) ((s.drop 2).take 10)
def psT (s:List UInt8):Int:=if psOk s then momT (psY s) ((s.drop 2).take 10) else 0
theorem pshort_fn (s:List UInt8) (h:Part) (h2:s.length≤140737488355328):Pure Tryz.prog 203 [.string ⟨s.toArray⟩] h (.tuple #[.int .i64 (psT s),.int .i64 (if psOk s then 0 else 21)]):=by
 have w0:=dA s 0
 refine aG Tryz.func203 rfl Tryz.ntmps203 rfl (fun e he=>?_)
 refine aU [(0,_)] ⟨rfl,trivial⟩ ?_
 refine Sr (Ru 2 rfl (a_ (aw (Sr (Ru 1 rfl (ae (bY d_ rfl) rfl ?_))))))
 refine Ru 2 rfl (Bs 10 rfl (fun hc1=>?_) fun hc1=>?_)
 ·exact Ru 4 rfl (Nk [14,3,2,0] rfl (aM rfl (Sr (Ru 2 rfl (a_ (az (aS rfl rfl rfl) (by have hm:psOk s=false:=(by unfold psOk;rw [am z2_];rfl);rw [psT,hm];rfl) rfl))))))
 refine Ru 1 rfl (aH rfl rfl  (bj d_ rfl rfl (show _=((12:Nat):Int) from rfl) z2_) rfl ?_)
 refine Ru 2 rfl (Nk [14,3,2,0] rfl (Cs rfl (fun hc2=>?_) fun hc2=>?_))
 ·exact Sr (Ru 2 rfl (a_ (az (aS rfl rfl rfl) (by have hm:psOk s=false:=(by unfold psOk;rw [am z2_];rfl);rw [psT,hm];rfl) rfl)))
 refine ax (Sr (Ru 1 rfl (aV gm rfl (ku s 0 _ z2_ z2_) rfl ?_)))
 refine Ru 1 rfl (a_ (aw (Sr (Ru 2 rfl (Nk [18,4,3,2,0] rfl (Cs rfl (fun hc4=>?_) fun hc4=>?_))))))
 ·refine Sr (Ru 1 rfl (ae ai_ rfl ?_))
  refine Ru 1 rfl (Nk [4,3,2,0] rfl (Sr (Ru 2 rfl (a_ (Cs rfl (fun hc5=>?_) fun hc5=>?_)))))
  ·have hy:psY s=twoI s 0+1900+100:=by unfold psY;rw [if_pos z2_,if_pos z2_]
   refine Rg (Ru 1 rfl (ae ai_ rfl ?_))
   refine Ru 1 rfl (Nk [4,3,2,0] rfl (Sr (Ru 2 rfl (ae (bU d_ rfl rfl rfl (show _=((2:Nat):Int) from rfl) (show _=((12:Nat):Int) from rfl) z2_ z2_) rfl ?_))))
   refine aV nV rfl (fK _ ((s.drop 2).take 10) _ z2_ (by simp;omega)) rfl ?_
   refine Ru 5 rfl (Nk [6,5,3,2] rfl (aw (Sr (Ru 2 rfl (a_ (Cs rfl (fun hc7=>?_) fun hc7=>?_))))))
   ·exact Sr (Ru 2 rfl (Nk [3,2,5] rfl (az (aS rfl rfl rfl) z26_ rfl)))
   exact ax (Sr (Ru 3 rfl (Nk [3,2] rfl (az (aS rfl rfl rfl) z26_ rfl))))
  have hy:psY s=twoI s 0+1900:=by unfold psY;rw [if_pos z2_,if_neg z2_]
  refine ax (Sr (Ru 2 rfl (ae (bU d_ rfl rfl rfl (show _=((2:Nat):Int) from rfl) (show _=((12:Nat):Int) from rfl) z2_ z2_) rfl ?_)))
  refine aV nV rfl (fK _ ((s.drop 2).take 10) _ z2_ (by simp;omega)) rfl ?_
  refine Ru 5 rfl (Nk [6,5,3,2] rfl (aw (Sr (Ru 2 rfl (a_ (Cs rfl (fun hc9=>?_) fun hc9=>?_))))))
  ·exact Sr (Ru 2 rfl (Nk [3,2,5] rfl (az (aS rfl rfl rfl) z26_ rfl)))
  exact ax (Sr (Ru 3 rfl (Nk [3,2] rfl (az (aS rfl rfl rfl) z26_ rfl))))
 have hy:psY s=twoI s 0:=by unfold psY;rw [if_neg z2_]
 refine ax (Sr (Ru 2 rfl (ae (bU d_ rfl rfl rfl (show _=((2:Nat):Int) from rfl) (show _=((12:Nat):Int) from rfl) z2_ z2_) rfl ?_)))
 refine aV nV rfl (fK _ ((s.drop 2).take 10) _ z2_ (by simp;omega)) rfl ?_
 refine Ru 5 rfl (Nk [6,5,3,2] rfl (aw (Sr (Ru 2 rfl (a_ (Cs rfl (fun hc11=>?_) fun hc11=>?_))))))
 ·exact Sr (Ru 2 rfl (Nk [3,2,5] rfl (az (aS rfl rfl rfl) z26_ rfl)))
 exact ax (Sr (Ru 3 rfl (Nk [3,2] rfl (az (aS rfl rfl rfl) z26_ rfl))))
def micI (s:List UInt8):Nat→Int
 |0=>0
 |k+1=>micI s k*10+(if 15+k+1<s.length then(byteAt s (15+k):Int)-48 else 0)
def micOk (s:List UInt8):Nat→Bool
 |0=>true
 |k+1=>micOk s k&&(if 15+k+1<s.length then decide (48≤byteAt s (15+k)∧byteAt s (15+k)≤57) else true)
theorem micI_bd (s:List UInt8) (k:Nat) (h:micOk s k=true):0≤micI s k∧micI s k<10 ^ k:=by
 induction k with
 |zero=>simp [micI]
 |succ k ih =>
  simp only [micOk,Bool.and_eq_true] at h
  obtain⟨h1,h2⟩:=h
  have:=ih h1
  have e:(10:Int) ^ (k+1)=10 ^ k*10:=Int.pow_succ ..
  simp only [micI]
  split at h2
  ·rename_i hh
   rw [if_pos hh]
   have:=of_decide_eq_true h2
   omega
  ·rename_i hh
   rw [if_neg hh]
   omega
def plOk (s:List UInt8):Bool :=
 decide (15≤s.length∧s.length≤22∧byteAt s (s.length-1)=90)&&((decide (s.length=15)||(decide (byteAt s 14=46∧s.length≠16∧byteAt s (s.length-2)≠48)&&micOk s 6))&&momOk (twoI s 0*100+twoI s 2) ((s.drop 4).take 10))
def plM (s:List UInt8):Int:=if s.length=15 then 0 else micI s 6
theorem pl_f1 {s:List UInt8}(h:¬ (15≤s.length∧s.length≤22∧byteAt s (s.length-1)=90)):plOk s=false:=by
 unfold plOk;rw [am h];rfl
theorem pl_f2 {s:List UInt8}(h1:s.length≠15) (h:¬ (byteAt s 14=46∧s.length≠16∧byteAt s (s.length-2)≠48)):plOk s=false:=by
 unfold plOk;rw [am h1,am h];simp
theorem qH {s:List UInt8}(k:Nat):∀ j,micOk s (k+j)=true→micOk s k=true
 |0,h=>h
 |j+1,h=>qH k j (by rw [← Nat.add_assoc,micOk,Bool.and_eq_true] at h;exact h.1)
theorem pl_f3 {s:List UInt8}(k:Nat) (h1:s.length≠15) (hk:k≤6) (h:micOk s k=false):plOk s=false:=by
 have h6:micOk s 6=false:=by
  cases hh:micOk s 6 with
  |false=>rfl
  |true=>have:=qH k (6-k) (by rw [show k+(6-k)=6 by omega];exact hh);rw [h] at this;cases this
 unfold plOk;rw [am h1,h6];simp
theorem pl_t0 {s:List UInt8}(h:15≤s.length∧s.length≤22∧byteAt s (s.length-1)=90) (h1:s.length=15):plOk s=momOk (twoI s 0*100+twoI s 2) ((s.drop 4).take 10):=by
 unfold plOk;rw [an h,an h1];rfl
theorem pl_t1 {s:List UInt8}(h:15≤s.length∧s.length≤22∧byteAt s (s.length-1)=90) (h1:s.length≠15) (h2:byteAt s 14=46∧s.length≠16∧byteAt s (s.length-2)≠48) (h3:micOk s 6=true):plOk s=momOk (twoI s 0*100+twoI s 2) ((s.drop 4).take 10):=by
 unfold plOk;rw [an h,am h1,an h2,h3];rfl
theorem plong_fn (s:List UInt8) (h:Part) (h2:s.length≤140737488355328):Pure Tryz.prog 204 [.string ⟨s.toArray⟩] h (.tuple #[.int .i64 (if plOk s then momT (twoI s 0*100+twoI s 2) ((s.drop 4).take 10) else 0),.int .i64 (if plOk s then plM s else 0),.int .i64 (if plOk s then 0 else 21)]):=by
 have w0:=dA s 0
 have w2:=dA s 2
 have e1:((s.length:Int)-1).toNat=s.length-1:=by omega
 have e2:((s.length:Int)-2).toNat=s.length-2:=by omega
 have bd:=fun k=>bK s k
 refine aG Tryz.func204 rfl Tryz.ntmps204 rfl (fun e he=>?_)
 refine aU [(0,_)] ⟨rfl,trivial⟩ ?_
 refine Sr (Ru 3 rfl (a_ (Sr (Ru 1 rfl (ae (bY d_ rfl) rfl ?_)))))
 refine Ru 1 rfl (a_ (aw (Sr (Ru 3 rfl (Bs 15 rfl (fun hc1=>?_) fun hc1=>?_)))))
 ·exact Ru 10 rfl (Nk [25,5,4,3,2,0] rfl (aM rfl (Sr (Ru 3 rfl (a_ (az (bM rfl rfl rfl rfl) z6_ rfl))))))
 refine Ru 4 rfl (Bs 19 rfl (fun hc2=>?_) fun hc2=>?_)
 ·exact Ru 6 rfl (Nk [25,5,4,3,2,0] rfl (aM rfl (Sr (Ru 3 rfl (a_ (az (bM rfl rfl rfl rfl) z6_ rfl))))))
 refine Ru 2 rfl (aH rfl rfl  si_ rfl ?_)
 refine aH rfl rfl  (bj d_ rfl rfl eD z2_) rfl ?_
 refine Ru 2 rfl (Nk [25,5,4,3,2,0] rfl (Cs rfl (fun hc3=>?_) fun hc3=>?_))
 ·exact Sr (Ru 3 rfl (Nk [4,3,2,5,0] rfl (az (bM rfl rfl rfl rfl) z6_ rfl)))
 refine ax (Sr (Ru 1 rfl (a_ (aw (Sr (Ru 2 rfl (a_ (Cs rfl (fun hc4=>?_) fun hc4=>?_))))))))
 ·refine aw (Sr (Ru 1 rfl (ae (bj d_ rfl rfl (show _=((14:Nat):Int) from rfl) z2_) rfl ?_)))
  refine Ru 2 rfl (Bs 31 rfl (fun hc5=>?_) fun hc5=>?_)
  ·exact Ru 10 rfl (Nk [41,6,5,4,3,2,0] rfl (aM rfl (Sr (Ru 3 rfl (a_ (az (bM rfl rfl rfl rfl) z6_ rfl))))))
  refine Ru 4 rfl (Bs 35 rfl (fun hc6=>?_) fun hc6=>?_)
  ·exact Ru 6 rfl (Nk [41,6,5,4,3,2,0] rfl (aM rfl (Sr (Ru 3 rfl (a_ (az (bM rfl rfl rfl rfl) z6_ rfl))))))
  refine Ru 2 rfl (aH rfl rfl  si_ rfl ?_)
  refine aH rfl rfl  (bj d_ rfl rfl eD z2_) rfl ?_
  refine Ru 2 rfl (Nk [41,6,5,4,3,2,0] rfl (Cs rfl (fun hc7=>?_) fun hc7=>?_))
  ·exact Sr (Ru 3 rfl (Nk [4,3,2,6,5,0] rfl (az (bM rfl rfl rfl rfl) z6_ rfl)))
  refine ax (Sr (Ru 1 rfl (a_ (aE (bC (fun t_ S_ h_ L_=>∃ (i:Nat),t_=6-i∧S_=[(0,.string ⟨s.toArray⟩),(5,.int .i64 s.length),(6,.int .i64 (micI s i)),(42,.int .i64 i)]∧h=h_∧L_=[]∧(i≤6∧micOk s i=true)) ⟨_,_,?_,⟨0,rfl,rfl,rfl,rfl,⟨by omega,rfl⟩⟩⟩ ?_)))))
  ·repeat (first|exact trivial|refine⟨rfl,?_⟩|refine⟨(by exact dH (by simp [micI]<;>omega)),?_⟩)
  rintro _ _ _ _ ⟨i,rfl,rfl,rfl,rfl,hi,hm⟩
  have hb:=micI_bd s i hm;have e3:((15:Int)+i).toNat=15+i:=z2_;have hp:(10:Int) ^ i≤1000000:=(by have:i=0∨i=1∨i=2∨i=3∨i=4∨i=5∨i=6:=z2_;rcases this with rfl|rfl|rfl|rfl|rfl|rfl|rfl<;>decide);have hbd:=bd (15+i)
  refine Sr (Ru 1 rfl (a_ (aw (Cs rfl (fun hc8=>?_) fun hc8=>?_))))
  ·refine ax (aw (aE (Sr (Ru 2 rfl (a_ (Sr (Ru 1 rfl (ae im rfl ?_))))))))
   refine Ru 1 rfl (a_ (Sr (Ru 1 rfl (ae ai_ rfl ?_))))
   refine Ru 1 rfl (ae si_ rfl ?_)
   refine Ru 1 rfl (a_ (Cs rfl (fun hc9=>?_) fun hc9=>?_))
   ·refine Sr (Ru 2 rfl (ae ai_ rfl ?_))
    refine ae (bj d_ rfl rfl eD z2_) rfl ?_
    rw [e3]
    refine Ru 1 rfl (a_ (aw (Sr (Ru 3 rfl (Bs 58 rfl (fun hc10=>?_) fun hc10=>?_)))))
    ·exact Ru 3 rfl (a_ (aM rfl (Sr (Ru 3 rfl (a_ (az (bM rfl rfl rfl rfl) z6_ rfl))))))
    refine Ru 3 rfl (a_ (Cs rfl (fun hc11=>?_) fun hc11=>?_))
    ·exact Sr (Ru 3 rfl (Nk [4,3,2,61,60,59,58,57,56,8,55,54,53,52,51,50,49,48,47,6,46,45,7,44,43,0,5,42] rfl (az (bM rfl rfl rfl rfl) z6_ rfl)))
    refine ax (Kp [61,60,59,58,57,56,8,55,54,53,52,51,50,49,48,47,6,46,45,7,44,43,0,5,42] rfl (Rg (Ru 2 rfl (ae (by first|exact RunV.sub_u8 rfl rfl z2_ z2_|exact dx rfl rfl) rfl ?_))))
    refine ae j8 rfl ?_
    refine ae ai_ rfl ?_
    refine Ru 1 rfl (a_ (Rg (ae ai_ rfl ?_)))
    refine Ru 1 rfl (a_ (⟨_,?_,_,?_,⟨i+1,rfl,rfl,rfl,rfl,⟨by omega,by simp only [micOk,hm,Bool.true_and];first|(rw [if_pos z2_];exact an z2_)|rw [if_neg z2_]⟩⟩⟩))
    ·omega
    repeat (first|exact trivial|refine⟨rfl,?_⟩|refine⟨(by exact dH (by simp [micI]<;>omega)),?_⟩)
   refine ax (Rg (ae ai_ rfl ?_))
   refine Ru 1 rfl (a_ (⟨_,?_,_,?_,⟨i+1,rfl,rfl,rfl,rfl,⟨by omega,by simp only [micOk,hm,Bool.true_and];first|(rw [if_pos z2_];exact an z2_)|rw [if_neg z2_]⟩⟩⟩))
   ·omega
   repeat (first|exact trivial|refine⟨rfl,?_⟩|refine⟨(by exact dH (by simp [micI]<;>omega)),?_⟩)
  refine bx (aw (cT cK cY ?_))
  refine Rq 1 rfl ?_
  refine di gm rfl (ku s 0 _ z2_ z2_) rfl ?_
  refine bR im rfl ?_
  refine Rq 1 rfl ?_
  refine di gm rfl (ku s 2 _ z2_ z2_) rfl ?_
  refine bR ai_ rfl ?_
  refine Rq 1 rfl ?_
  refine bR (bU d_ rfl rfl rfl (show _=((4:Nat):Int) from rfl) (show _=((14:Nat):Int) from rfl) z2_ z2_) rfl ?_
  refine di nV rfl (fK _ ((s.drop 4).take 10) _ z2_ (by simp;omega)) rfl ?_
  refine Rq 5 rfl ?_
  refine Nq [10,9,6] rfl ?_
  refine aw (Sr (Ru 2 rfl (a_ (Cs rfl (fun hc15=>?_) fun hc15=>?_))))
  ·have hcz:=hc15
   exact Sr (Ru 3 rfl (a_ (az (bM rfl rfl rfl rfl) z6_ rfl)))
  have hcz:=hc15
  exact ax (Sr (Ru 5 rfl (Nk [4,3,2] rfl (az (bM rfl rfl rfl rfl) z6_ rfl))))
 refine ax (Kp [6,4,3,2,0] rfl (aw (cT cK cY ?_)))
 refine Rq 1 rfl ?_
 refine di gm rfl (ku s 0 _ z2_ z2_) rfl ?_
 refine bR im rfl ?_
 refine Rq 1 rfl ?_
 refine di gm rfl (ku s 2 _ z2_ z2_) rfl ?_
 refine bR ai_ rfl ?_
 refine Rq 1 rfl ?_
 refine bR (bU d_ rfl rfl rfl (show _=((4:Nat):Int) from rfl) (show _=((14:Nat):Int) from rfl) z2_ z2_) rfl ?_
 refine di nV rfl (fK _ ((s.drop 4).take 10) _ z2_ (by simp;omega)) rfl ?_
 refine Rq 5 rfl ?_
 refine Nq [10,9,6,4,3,2] rfl ?_
 refine aw (Sr (Ru 2 rfl (a_ (Cs rfl (fun hc19=>?_) fun hc19=>?_))))
 ·have hcz:=hc19
  exact Sr (Ru 3 rfl (Nk [4,3,2,9,6] rfl (az (bM rfl rfl rfl rfl) z6_ rfl)))
 have hcz:=hc19
 exact ax (Sr (Ru 5 rfl (Nk [4,3,2] rfl (az (bM rfl rfl rfl rfl) z6_ rfl))))
end
section
theorem z22_ {p:Prop}(u:p:=by repeat (first|exact trivial|refine⟨rfl,?_⟩|refine⟨(by exact cy (by first|exact decide_eq_decide.2 z2_|exact(am z2_).symm|exact(an z2_).symm|simp_all)),?_⟩)):p:=u
end
section
theorem ca_190:callT Tryz.prog 190=true:=by kernel_rfl
def Tabs (h:Part):Prop:=∃ C1 C2,h 1=some C1∧h 2=some C2∧(∀ c,c<256→C1[c]?=some (.int .u8 (Go.Lib.firstT c))) ∧
 (∀ i,i<16→C2[2*i]?=some (.int .u8 (Go.Lib.accLo i))∧C2[2*i+1]?=some (.int .u8 (Go.Lib.accHi i)))
theorem Tabs.mono {h h':Part}(k:Tabs h) (hle:h.le h'):Tabs h':=by
 obtain⟨C1,C2,h1,h2,h3⟩:=k
 exact⟨C1,C2,hle _ _ h1,hle _ _ h2,h3⟩
theorem Tabs.tabs {h:Part}(k:Tabs h) {w:World}(s:Sub h w):Go.Lib.Utf8Tabs 1 2 w:=by
 obtain⟨C1,C2,h1,h2,h3,h4⟩:=k
 exact⟨fun c hc=>s.cell h1 (h3 c hc),fun i hi=>⟨s.cell h2 (h4 i hi).1,s.cell h2 (h4 i hi).2⟩⟩
theorem mr (s:List UInt8) (hs:s≠[]):Go.Lib.decodeGo ⟨s.toArray⟩=(chr s,wid s):=by
 unfold Go.Lib.decodeGo
 rw [j9,if_neg (fun h=>hs (List.length_eq_zero_iff.1 h))]
 rfl
theorem decode_fn (s:List UInt8) (h:Part) (hT:Tabs h) (hs:s≠[]):Pure Tryz.prog 190 [.string ⟨s.toArray⟩] h (.tuple #[.int .i32 (chr s),.int .i64 (wid s)]) :=
 Pure.lib fun w hw=>(Tryz.utf8_DecodeRuneInString ⟨s.toArray⟩ w (hT.tabs hw)).mono fun e w' ⟨he,hb⟩=>by
  rw [mr s hs] at he
  exact⟨he,hb⟩
def runes (ok:Nat→Nat→Bool):List UInt8→Nat→Bool
 |[],_=>true
 |_::r,k+1=>runes ok r k
 |b::r,0=>ok (chr (b::r)) (wid (b::r))&&runes ok r (wid (b::r)-1)
theorem kD (ok:Nat→Nat→Bool):∀ (l:List UInt8) (k:Nat),runes ok l k=runes ok (l.drop k) 0
 |[],k=>by cases k<;>simp [runes]
 |b::r,0=>rfl
 |b::r,k+1=>by simp only [runes,List.drop_succ_cons];exact kD ok r k
theorem eH (ok:Nat→Nat→Bool) (s:List UInt8) (p:Nat) (h:s.length≤p):runes ok (s.drop p) 0=true:=by
 rw [List.drop_of_length_le h];rfl
theorem bP (ok:Nat→Nat→Bool) (s:List UInt8) (p:Nat) (h:p<s.length):runes ok (s.drop p) 0=(ok (chr (s.drop p)) (wid (s.drop p))&&runes ok (s.drop (p+wid (s.drop p))) 0):=by
 have e:s.drop p=s[p]::s.drop (p+1):=aT h
 have hw:=io (s.drop p)
 rw [← List.drop_drop]
 generalize s.drop p=q at *
 subst e
 simp only [runes]
 rw [kD]
 congr 2
 cases hk:wid (s[p]::s.drop (p+1)) with
 |zero=>omega
 |succ k=>simp only [Nat.add_sub_cancel,List.drop_succ_cons]
theorem ia5_fn (s:List UInt8) (h:Part) (h2:s.length≤140737488355328):Pure Tryz.prog 144 [.string ⟨s.toArray⟩] h (.bool (runes (fun c _=>decide (c≤127)) s 0)):=by
 refine aG Tryz.func144 rfl Tryz.ntmps144 rfl (fun e he=>?_)
 refine aU [(0,_)] ⟨rfl,trivial⟩ ?_
 refine Sr (Ru 1 rfl (a_ (aw (Sr (Ru 1 rfl (JL.range d_ rfl rfl (fun b1=>?_)))))))
 refine a_ (aE (bC (fun t_ S_ h_ L_=>∃ (p:Nat),t_=s.length-p∧S_=[(6,.pointer (some ⟨b1,0,none⟩))]∧h=h_∧L_=[.it b1 s p]∧(runes (fun c _=>decide (c≤127)) s 0=runes (fun c _=>decide (c≤127)) (s.drop p) 0)) ⟨_,_,?_,⟨0,rfl,rfl,rfl,rfl,rfl⟩⟩ ?_))
 ·exact z7_
 rintro _ _ _ _ ⟨p,rfl,rfl,rfl,rfl,he⟩
 have hw:=io (s.drop p)
 refine Sr (JL.next rfl dl_ rfl (fun hx2=>?_) (fun hx2=>?_))
 ·refine Ru 1 rfl (a_ (aw (aM rfl ?_)))
  refine ax (aE (Sr (Ru 2 rfl (a_ (Sr (Ru 2 rfl (a_ (Cs rfl (fun hc3=>?_) fun hc3=>?_))))))))
  ·exact Sr (Ru 1 rfl (a_ (az (au rfl rfl) (by first|(exfalso;omega)|(rw [he,eH _ _ _ z2_])|(rw [he,bP _ s p z2_,am z2_];rfl)) rfl)))
  refine ax (⟨_,?_,_,?_,⟨p+wid (s.drop p),rfl,rfl,rfl,rfl,by rw [he,bP _ s p z2_,an z2_];rfl⟩⟩)
  ·omega
  exact z7_
 refine Ru 1 rfl (a_ (aw (dy rfl ?_)))
 exact bx (Sr (Ru 1 rfl (a_ (az (au rfl rfl) (by first|(exfalso;omega)|(rw [he,eH _ _ _ z2_])|(rw [he,bP _ s p z2_,am z2_];rfl)) rfl))))
def prC (c:Nat):Bool:=decide (65≤c∧c≤90∨97≤c∧c≤122∨48≤c∧c≤57∨c=32∨c=39∨c=40∨c=41∨c=43∨c=44∨c=45∨c=46∨c=47∨c=58∨c=61∨c=63)
theorem iW (s:List UInt8) (h:Part) (h2:s.length≤140737488355328):Pure Tryz.prog 143 [.string ⟨s.toArray⟩] h (.bool (runes (fun c _=>prC c) s 0)):=by
 refine aG Tryz.func143 rfl Tryz.ntmps143 rfl (fun e he=>?_)
 refine aU [(0,_)] ⟨rfl,trivial⟩ ?_
 refine Sr (Ru 1 rfl (a_ (aw (Sr (Ru 1 rfl (JL.range d_ rfl rfl (fun b1=>?_)))))))
 refine a_ (aE (bC (fun t_ S_ h_ L_=>∃ (p:Nat),t_=s.length-p∧S_=[(6,.pointer (some ⟨b1,0,none⟩))]∧h=h_∧L_=[.it b1 s p]∧(runes (fun c _=>prC c) s 0=runes (fun c _=>prC c) (s.drop p) 0)) ⟨_,_,?_,⟨0,rfl,rfl,rfl,rfl,rfl⟩⟩ ?_))
 ·exact z7_
 rintro _ _ _ _ ⟨p,rfl,rfl,rfl,rfl,he⟩
 have hw:=io (s.drop p)
 refine Sr (JL.next rfl dl_ rfl (fun hx2=>?_) (fun hx2=>?_))
 ·refine Ru 1 rfl (a_ (aw (aM rfl ?_)))
  refine ax (aE (Sr (Ru 2 rfl (a_ (aE (aw (aw (cj [(10,.bool (decide (65≤chr (s.drop p)∧chr (s.drop p)≤90)))] [(4,_),(9,_),(8,_),(7,_),(6,_)] ⟨rfl,rfl,rfl,rfl,rfl,trivial⟩ ?_ ?_))))))))
  ·refine Rg (Ru 3 rfl (Bs 13 rfl (fun hc3=>?_) fun hc3=>?_))
   ·refine Ru 4 rfl (a_ (⟨rfl,rfl,?_⟩))
    exact z22_
   refine Ru 4 rfl (a_ (⟨rfl,rfl,?_⟩))
   exact z22_
  refine Cs rfl (fun hc4=>?_) fun hc4=>?_
  ·refine ax (aM rfl (ax (⟨_,?_,_,?_,⟨p+wid (s.drop p),rfl,rfl,rfl,rfl,by rw [he,bP _ s p z2_,prC,an z2_,Bool.true_and]⟩⟩)))
   ·omega
   exact z7_
  refine aw (cj [(10,.bool (decide (97≤chr (s.drop p)∧chr (s.drop p)≤122)))] [(4,_),(9,_),(8,_),(7,_),(6,_)] ⟨rfl,rfl,rfl,rfl,rfl,trivial⟩ ?_ ?_)
  ·refine Rg (Ru 3 rfl (Bs 19 rfl (fun hc5=>?_) fun hc5=>?_))
   ·refine Ru 4 rfl (a_ (⟨rfl,rfl,?_⟩))
    exact z22_
   refine Ru 4 rfl (a_ (⟨rfl,rfl,?_⟩))
   exact z22_
  refine Cs rfl (fun hc6=>?_) fun hc6=>?_
  ·refine ax (aM rfl (ax (⟨_,?_,_,?_,⟨p+wid (s.drop p),rfl,rfl,rfl,rfl,by rw [he,bP _ s p z2_,prC,an z2_,Bool.true_and]⟩⟩)))
   ·omega
   exact z7_
  refine cj [(10,.bool (decide (48≤chr (s.drop p)∧chr (s.drop p)≤57)))] [(4,_),(9,_),(8,_),(7,_),(6,_)] ⟨rfl,rfl,rfl,rfl,rfl,trivial⟩ ?_ ?_
  ·refine Rg (Ru 3 rfl (Bs 25 rfl (fun hc7=>?_) fun hc7=>?_))
   ·refine Ru 4 rfl (a_ (⟨rfl,rfl,?_⟩))
    exact z22_
   refine Ru 4 rfl (a_ (⟨rfl,rfl,?_⟩))
   exact z22_
  refine Cs rfl (fun hc8=>?_) fun hc8=>?_
  ·refine ax (⟨_,?_,_,?_,⟨p+wid (s.drop p),rfl,rfl,rfl,rfl,by rw [he,bP _ s p z2_,prC,an z2_,Bool.true_and]⟩⟩)
   ·omega
   exact z7_
  refine aw (Sr (Ru 3 rfl (a_ (Cs rfl (fun hc9=>?_) fun hc9=>?_))))
  ·refine ax (aM rfl (ax (⟨_,?_,_,?_,⟨p+wid (s.drop p),rfl,rfl,rfl,rfl,by rw [he,bP _ s p z2_,prC,an z2_,Bool.true_and]⟩⟩)))
   ·omega
   exact z7_
  refine Sr (Ru 3 rfl (a_ (Cs rfl (fun hc10=>?_) fun hc10=>?_)))
  ·refine ax (aM rfl (ax (⟨_,?_,_,?_,⟨p+wid (s.drop p),rfl,rfl,rfl,rfl,by rw [he,bP _ s p z2_,prC,an z2_,Bool.true_and]⟩⟩)))
   ·omega
   exact z7_
  refine Sr (Ru 3 rfl (Nk [29,35,34,33,32,31,30,10,4,9,8,7,6] rfl (Cs rfl (fun hc11=>?_) fun hc11=>?_)))
  ·refine ax (aM rfl (ax (⟨_,?_,_,?_,⟨p+wid (s.drop p),rfl,rfl,rfl,rfl,by rw [he,bP _ s p z2_,prC,an z2_,Bool.true_and]⟩⟩)))
   ·omega
   exact z7_
  refine Sr (Ru 3 rfl (a_ (Cs rfl (fun hc12=>?_) fun hc12=>?_)))
  ·refine ax (aM rfl (ax (⟨_,?_,_,?_,⟨p+wid (s.drop p),rfl,rfl,rfl,rfl,by rw [he,bP _ s p z2_,prC,an z2_,Bool.true_and]⟩⟩)))
   ·omega
   exact z7_
  refine Sr (Ru 3 rfl (a_ (Cs rfl (fun hc13=>?_) fun hc13=>?_)))
  ·refine ax (Kp [29,39,38,37,36,35,34,33,32,31,30,10,4,9,8,7,6] rfl (aM rfl (ax (⟨_,?_,_,?_,⟨p+wid (s.drop p),rfl,rfl,rfl,rfl,by rw [he,bP _ s p z2_,prC,an z2_,Bool.true_and]⟩⟩))))
   ·omega
   exact z7_
  refine Sr (Ru 3 rfl (Nk [29,41,40,39,38,37,36,35,34,33,32,31,30,10,4,9,8,7,6] rfl (Cs rfl (fun hc14=>?_) fun hc14=>?_)))
  ·refine ax (aM rfl (ax (⟨_,?_,_,?_,⟨p+wid (s.drop p),rfl,rfl,rfl,rfl,by rw [he,bP _ s p z2_,prC,an z2_,Bool.true_and]⟩⟩)))
   ·omega
   exact z7_
  refine Sr (Ru 3 rfl (a_ (Cs rfl (fun hc15=>?_) fun hc15=>?_)))
  ·refine ax (aM rfl (ax (⟨_,?_,_,?_,⟨p+wid (s.drop p),rfl,rfl,rfl,rfl,by rw [he,bP _ s p z2_,prC,an z2_,Bool.true_and]⟩⟩)))
   ·omega
   exact z7_
  refine Sr (Ru 3 rfl (a_ (Cs rfl (fun hc16=>?_) fun hc16=>?_)))
  ·refine ax (Kp [29,45,44,43,42,41,40,39,38,37,36,35,34,33,32,31,30,10,4,9,8,7,6] rfl (aM rfl (ax (⟨_,?_,_,?_,⟨p+wid (s.drop p),rfl,rfl,rfl,rfl,by rw [he,bP _ s p z2_,prC,an z2_,Bool.true_and]⟩⟩))))
   ·omega
   exact z7_
  refine Sr (Ru 3 rfl (Nk [29,47,46,45,44,43,42,41,40,39,38,37,36,35,34,33,32,31,30,10,4,9,8,7,6] rfl (Cs rfl (fun hc17=>?_) fun hc17=>?_)))
  ·refine ax (aM rfl (ax (⟨_,?_,_,?_,⟨p+wid (s.drop p),rfl,rfl,rfl,rfl,by rw [he,bP _ s p z2_,prC,an z2_,Bool.true_and]⟩⟩)))
   ·omega
   exact z7_
  refine Sr (Ru 3 rfl (a_ (Cs rfl (fun hc18=>?_) fun hc18=>?_)))
  ·refine ax (aM rfl (ax (⟨_,?_,_,?_,⟨p+wid (s.drop p),rfl,rfl,rfl,rfl,by rw [he,bP _ s p z2_,prC,an z2_,Bool.true_and]⟩⟩)))
   ·omega
   exact z7_
  refine Sr (Ru 3 rfl (a_ (Cs rfl (fun hc19=>?_) fun hc19=>?_)))
  ·refine ax (Kp [29,51,50,49,48,47,46,45,44,43,42,41,40,39,38,37,36,35,34,33,32,31,30,10,4,9,8,7,6] rfl (aM rfl (ax (⟨_,?_,_,?_,⟨p+wid (s.drop p),rfl,rfl,rfl,rfl,by rw [he,bP _ s p z2_,prC,an z2_,Bool.true_and]⟩⟩))))
   ·omega
   exact z7_
  refine Rg (Ru 3 rfl (Nk [29,53,52,51,50,49,48,47,46,45,44,43,42,41,40,39,38,37,36,35,34,33,32,31,30,10,4,9,8,7,6] rfl (Cs rfl (fun hc20=>?_) fun hc20=>?_)))
  ·refine ax (⟨_,?_,_,?_,⟨p+wid (s.drop p),rfl,rfl,rfl,rfl,by rw [he,bP _ s p z2_,prC,an z2_,Bool.true_and]⟩⟩)
   ·omega
   exact z7_
  exact Sr (Ru 1 rfl (a_ (az (au rfl rfl) (by first|(exfalso;omega)|(rw [he,eH _ _ _ z2_])|(rw [he,bP _ s p z2_,prC,am z2_];rfl)) rfl)))
 refine Ru 1 rfl (a_ (aw (dy rfl ?_)))
 exact bx (Sr (Ru 1 rfl (a_ (az (au rfl rfl) (by first|(exfalso;omega)|(rw [he,eH _ _ _ z2_])|(rw [he,bP _ s p z2_,prC,am z2_];rfl)) rfl))))
theorem utf8_fn (s:List UInt8) (h:Part) (hT:Tabs h) (h2:s.length≤140737488355328):Pure Tryz.prog 142 [.string ⟨s.toArray⟩] h (.bool (runes (fun c n=>!decide (c=65533∧n=1)) s 0)):=by
 refine aG Tryz.func142 rfl Tryz.ntmps142 rfl (fun e he=>?_)
 refine aU [(0,_)] ⟨rfl,trivial⟩ ?_
 refine Sr (Ru 1 rfl (a_ (aw (Sr (Ru 1 rfl (JL.range d_ rfl rfl (fun b1=>?_)))))))
 refine a_ (aE (bC (fun t_ S_ h_ L_=>∃ (p:Nat),t_=s.length-p∧S_=[(0,.string ⟨s.toArray⟩),(8,.pointer (some ⟨b1,0,none⟩))]∧h=h_∧L_=[.it b1 s p]∧(runes (fun c n=>!decide (c=65533∧n=1)) s 0=runes (fun c n=>!decide (c=65533∧n=1)) (s.drop p) 0)) ⟨_,_,?_,⟨0,rfl,rfl,rfl,rfl,rfl⟩⟩ ?_))
 ·exact z7_
 rintro _ _ _ _ ⟨p,rfl,rfl,rfl,rfl,he⟩
 have hw:=io (s.drop p)
 refine Sr (JL.next rfl dl_ rfl (fun hx2=>?_) (fun hx2=>?_))
 ·refine Ru 1 rfl (a_ (aw (aM rfl ?_)))
  refine ax (aE (Sr (Ru 4 rfl (a_ (Sr (Ru 2 rfl (a_ (Cs rfl (fun hc3=>?_) fun hc3=>?_))))))))
  ·refine Sr (Ru 2 rfl (ae (RunV.strCut_l d_ rfl rfl eD z2_) rfl ?_))
   refine aV ca_190 rfl (decode_fn (s.drop p) _ hT (by intro hh;have:=congrArg List.length hh;simp at this;omega)) rfl ?_
   refine Ru 5 rfl (a_ (Sr (Ru 2 rfl (a_ (Cs rfl (fun hc5=>?_) fun hc5=>?_)))))
   ·exact Sr (Ru 1 rfl (a_ (az (au rfl rfl) (by first|(exfalso;omega)|(rw [he,eH _ _ _ z2_])|(rw [he,bP _ s p z2_,an z2_];rfl)) rfl)))
   refine ax (⟨_,?_,_,?_,⟨p+wid (s.drop p),rfl,rfl,rfl,rfl,by rw [he,bP _ s p z2_,am z2_];rfl⟩⟩)
   ·omega
   exact z7_
  refine ax (⟨_,?_,_,?_,⟨p+wid (s.drop p),rfl,rfl,rfl,rfl,by rw [he,bP _ s p z2_,am z2_];rfl⟩⟩)
  ·omega
  exact z7_
 refine Ru 1 rfl (a_ (aw (dy rfl ?_)))
 exact bx (Sr (Ru 1 rfl (a_ (az (au rfl rfl) (by first|(exfalso;omega)|(rw [he,eH _ _ _ z2_])|(rw [he,bP _ s p z2_,an z2_];rfl)) rfl))))
end
section
abbrev bh:=@List.length_nil
theorem z4_ {p:Prop}(u:p:=by first|omega|(simp only [aX,aA,bh];omega)):p:=u
theorem fc {p:Prop}(u:p:=by first|rfl|(simp;omega)):p:=u
theorem z37_ {p:Prop}(u:p:=by first|exact RunV.quo_u64 rfl rfl z2_ z2_ z2_|exact RunV.quo rfl rfl z2_):p:=u
theorem z47_ {p:Prop}(u:p:=by first|(have hz:oidT l=none:=(by rw [he,List.drop_of_length_le z2_,oidGo];simp [*]);rw [hz];rfl)|(have hz:oidT l=some out:=(by rw [he,List.drop_of_length_le z2_,oidGo];simp [*]);rw [hz];rfl)):p:=u
end
section
theorem cP:apT Tryz.prog 25=some (5,1,1):=by kernel_rfl
theorem ar_291:arT Tryz.prog 291=some (20,1):=by kernel_rfl
theorem ca_206:callT Tryz.prog 206=true:=by kernel_rfl
theorem eZ:convI Tryz.prog 194 5=some .u8:=by kernel_rfl
theorem e9:convI Tryz.prog 5 194=some .u64:=by kernel_rfl
theorem zr_291:zeroT Tryz.prog 291=some [.int .u8 0,.int .u8 0,.int .u8 0,.int .u8 0,.int .u8 0,.int .u8 0,.int .u8 0,.int .u8 0,.int .u8 0,.int .u8 0,.int .u8 0,.int .u8 0,.int .u8 0,.int .u8 0,.int .u8 0,.int .u8 0,.int .u8 0,.int .u8 0,.int .u8 0,.int .u8 0]:=by kernel_rfl
theorem mC:zeroT Tryz.prog 5=some [.int .u8 0]:=by kernel_rfl
def dgo:Nat→Nat→Nat→Nat→List UInt8
 |0,_,_,_=>[]
 |f+1,n,len,least=>if 0<n∨len<least then dgo f (n / 10) (len+1) least++[UInt8.ofNat (48+n % 10)] else []
def dgs (n least:Nat):List UInt8:=dgo 20 n 0 least
theorem dgo_end {f n len least:Nat}(h:¬ (0<n∨len<least)):dgo f n len least=[]:=by
 cases f with
 |zero=>rfl
 |succ f=>simp only [dgo];rw [if_neg h]
theorem dgo_len:∀ f n len least,(dgo f n len least).length≤f
 |0,_,_,_=>aD _
 |f+1,n,len,least=>by
  simp only [dgo];split
  ·have:=dgo_len f (n / 10) (len+1) least;simp;omega
  ·simp
theorem fQ (n least:Nat):(dgs n least).length≤20:=dgo_len _ _ _ _
theorem ei {n:Nat}(h:n<256):((UInt8.ofNat n).toNat:Int)=n:=by simp;omega
theorem ml {α:Type}(l:List α) (j:Nat) (x:α) (h:j<l.length):(l.set j x).drop j=x::l.drop (j+1):=by
 rw [aT (by simpa using h),List.getElem_set_self]
 congr 1
 apply List.ext_getElem?
 intro i
 simp [List.getElem?_set,show ¬ j=j+1+i by omega]
theorem digits_fn {a:Option Addr}{c:Nat}{l:List UInt8}{n least:Nat}{h:Part}(hn:n<18446744073709551616) (hl:least≤20) (hb:l.length≤70368744177664) :
 Fn Tryz.prog 206 [.slice a l.length c,.int .u64 n,.int .i64 least] h [.row a c 5 1 l.length (u8s l)]
  (Rets fun v _ Lo=>∃ a' c',v=.slice a' (l++dgs n least).length c'∧Lo=[.row a' c' 5 1 (l++dgs n least).length (u8s (l++dgs n least))]):=by
 refine aG Tryz.func206 rfl Tryz.ntmps206 rfl (fun e he=>?_)
 refine aU [(0,_),(1,_),(2,_)] ⟨rfl,rfl,rfl,trivial⟩ ?_
 refine Sr (Ru 1 rfl (a_ (Sr (bu zr_291 rfl (fun b1=>?_)))))
 refine a_ (Sr (Ru 1 rfl (a_ (aw (aE (bC (fun t_ S_ h_ L_=>∃ (k m:Nat) (bs:List UInt8),t_=m+k∧S_=[(0,.slice a l.length c),(1,.int .u64 m),(2,.int .i64 least),(7,.pointer (some ⟨b1,0,none⟩)),(8,.int .i64 k)]∧h=h_∧L_=[.blk b1 291 (u8s bs),.row a c 5 1 l.length (u8s l)]∧(k≤20∧bs.length=20∧m≤n∧m<10 ^ k∧dgs n least=dgo k m (20-k) least++bs.drop k)) ⟨_,_,?_,⟨20,n,List.replicate 20 0,rfl,rfl,rfl,rfl,⟨by omega,rfl,by omega,by omega,by simp [dgs]⟩⟩⟩ ?_))))))
 ·repeat (first|exact trivial|refine⟨rfl,?_⟩|refine⟨(by exact dH z2_),?_⟩)
 rintro _ _ _ _ ⟨k,m,bs,rfl,rfl,rfl,rfl,hk,hbs,hmn,hm,he⟩
 have hul:(u8s bs).length=20:=by rw [iq,hbs]
 refine aw (aw (cj [(16,.bool (decide (0<m∨20-k<least)))] [(0,_),(1,_),(2,_),(7,_),(8,_)] ⟨rfl,rfl,rfl,rfl,rfl,trivial⟩ ?_ ?_))
 ·refine Rg (Ru 3 rfl (Bs 11 rfl (fun hc2=>?_) fun hc2=>?_))
  ·refine Ru 5 rfl (a_ (⟨rfl,rfl,?_⟩))
   exact z22_
  refine Ru 1 rfl (aH rfl rfl  si_ rfl ?_)
  refine Ru 3 rfl (a_ (⟨rfl,rfl,?_⟩))
  exact z22_
 refine Cs rfl (fun hc3=>?_) fun hc3=>?_
 ·obtain⟨j,rfl⟩:∃ j,k=j+1:=⟨k-1,by have:k≠0:=(by rintro rfl;simp at hm;omega);omega⟩
  refine ax (aE (Sr (Ru 1 rfl (ae si_ rfl ?_))))
  refine Ru 1 rfl (a_ (Sr (Ru 2 rfl (ae (by first|exact RunV.rem_u64 rfl rfl z2_ z2_|exact RunV.rem rfl rfl z2_) rfl ?_))))
  refine ae (by first|exact RunV.add_u64 rfl rfl z2_ z2_|exact RunV.add rfl rfl) rfl ?_
  refine ae (by first|exact RunV.conv_u8 eZ rfl z2_ z2_|exact cD eZ rfl) rfl ?_
  refine ae (RunV.indexArr ar_291 rfl rfl eD z2_) rfl ?_
  refine bn eu rfl rfl rfl dl_ fc ?_
  refine a_ (Rg (Ru 1 rfl (ae z37_ rfl ?_)))
  refine Ru 1 rfl (a_ ?_)
  rw [show(((j+1:Nat):Int)-1).toNat=j by omega,show(48+(m:Int) % 10)=((UInt8.ofNat (48+m % 10)).toNat:Int) by rw [ei z2_];omega,ou]
  refine⟨_,?_,_,?_,⟨j,m / 10,bs.set j (UInt8.ofNat (48+m % 10)),rfl,rfl,rfl,rfl,⟨by omega,by simp [hbs],by omega,by rw [Nat.pow_succ] at hm;omega,by rw [he,dgo,if_pos hc3,List.append_assoc,show 20-(j+1)+1=20-j by omega,ml bs j _ z2_];rfl⟩⟩⟩
  ·omega
  repeat (first|exact trivial|refine⟨rfl,?_⟩|refine⟨(by exact dH z2_),?_⟩)
 refine bx (Sr (Ru 2 rfl ?_))
 have hdl:(bs.drop k).length≤20:=(by simp;omega);have hd:dgs n least=bs.drop k:=by rw [he,dgo_end z2_];rfl
 refine JL.pubB (R:=u8R) (sz:=1) dl_ aW z2_ (fun h4 hle4 hB4=>?_)
 refine cg (RunE.cutArr ar_291 rfl rfl eD hB4 z2_ z2_) rfl ?_
 rintro _ ⟨a4,c4,rfl,hS4⟩
 refine cw cP rfl rfl aW rfl z5_ rfl dl_ z4_ rfl rfl (fun a5 c5 xs5 hC5 hN5=>?_)
 obtain rfl:=hC5.u8
 refine Ru 1 rfl (Nk [6] rfl ?_)
 rw [← hd];exact dm ⟨_,[_],_,(au rfl rfl),.cons .here .nil,_,rfl,_,_,rfl,rfl⟩
theorem iH {a:Option Addr}{c:Nat}{l:List UInt8}{n least:Nat}{N Q:Int}{h:Part}(hN:N=(n:Int)) (hQ:Q=(least:Int)) (hn:n<18446744073709551616) (hl:least≤20) (hb:l.length≤70368744177664) :
 Fn Tryz.prog 206 [.slice a l.length c,.int .u64 N,.int .i64 Q] h [.row a c 5 1 l.length (u8s l)]
  (Rets fun v _ Lo=>∃ a' c',v=.slice a' (l++dgs n least).length c'∧Lo=[.row a' c' 5 1 (l++dgs n least).length (u8s (l++dgs n least))]):=by
 subst hN hQ
 exact digits_fn hn hl hb
def oidGo:List UInt8→List UInt8→Nat→Bool→Bool→Option (List UInt8)
 |[],out,_,fresh,first=>if !fresh||first then none else some out
 |c::r,out,n,fresh,first =>
  if(fresh&&decide (c.toNat=128))||decide (72057594037927935<n) then none
  else if 127<c.toNat then oidGo r out (n*128+c.toNat % 128) false first
  else if first then oidGo r (out++dgs (min ((n*128+c.toNat % 128) / 40) 2) 1++[46]++dgs (n*128+c.toNat % 128-40*min ((n*128+c.toNat % 128) / 40) 2) 1) 0 true false
  else oidGo r (out++[46]++dgs (n*128+c.toNat % 128) 1) 0 true false
def oidT (b:List UInt8):Option (List UInt8):=oidGo b [] 0 true true
theorem oT {a0:Option Addr}{c0:Nat}{l:List UInt8}{h:Part}(hl:SlR u8R 1 h a0 c0 l) (hb:l.length≤1073741824) :
 Fn Tryz.prog 164 [.slice a0 l.length c0] h [] (Rets fun u _ _=>u=.tuple #[.string ⟨((oidT l).getD []).toArray⟩,.int .i64 (if(oidT l).isSome then 0 else 20)]):=by
 refine aG Tryz.func164 rfl Tryz.ntmps164 rfl (fun e he=>?_)
 refine aU [(0,_)] ⟨rfl,trivial⟩ ?_
 refine Sr (Ru 2 rfl (a_ ?_))
 refine Sr (Ru 1 rfl (a_ (Sr (Ru 3 rfl (a_ (aw (Sr (bZ 5 1 ?_))))))))
 refine Ru 3 rfl (a_ (aE (bC (fun t_ S_ h_ L_=>∃ (g:Part) (i:Nat) (out:List UInt8) (n:Nat) (fresh first:Bool) (a:Option Addr) (c:Nat),t_=l.length-i∧S_=[(4,.slice a out.length c),(5,.int .u64 n),(6,.bool fresh),(7,.bool first),(11,.slice a0 l.length c0),(12,.int .i64 l.length),(13,.int .i64 i)]∧g=h_∧L_=[.row a c 5 1 out.length (u8s out)]∧(h.le g∧i≤l.length∧n≤9223372036854775807∧out.length≤41*i∧oidT l=oidGo (l.drop i) out n fresh first)) ⟨_,_,?_,⟨_,0,[],0,true,true,none,0,rfl,rfl,rfl,rfl,⟨aO _,by omega,by omega,by simp,rfl⟩⟩⟩ ?_)))
 ·repeat (first|exact trivial|refine⟨rfl,?_⟩|refine⟨(by exact cm (by simp<;>omega)),?_⟩)
 rintro _ _ _ _ ⟨g,i,out,n,fresh,first,a,c,rfl,rfl,rfl,rfl,hhg,hi,hn,ho,he⟩
 have hl:=hl.mono hhg
 refine Sr (Ru 1 rfl (a_ (aw (Cs rfl (fun hc1=>?_) fun hc1=>?_))))
 ·refine ax (aw (aE (Sr (cg (aC cA rfl rfl eD z5_ rfl z2_) rfl ?_))))
  rintro _ ⟨b2,o2,hi2,rfl,hE2⟩
  have e1:decide ((l[i].toNat:Int)=128)=decide (l[i].toNat=128):=decide_eq_decide.2 z2_;have e2:decide ((72057594037927935:Int)<n)=decide (72057594037927935<n):=decide_eq_decide.2 z2_
  refine ae (aZ eu rfl z5_) rfl ?_
  refine Ru 1 rfl (a_ (aw (aw (cj [(25,.bool ((fresh&&decide ((l[i].toNat:Int)=128))||decide ((72057594037927935:Int)<n)))] [(9,_),(16,_),(15,_),(14,_),(4,_),(5,_),(6,_),(7,_),(11,_),(12,_),(13,_)] ⟨rfl,rfl,rfl,rfl,rfl,rfl,rfl,rfl,rfl,rfl,rfl,trivial⟩ ?_ ?_))))
  ·refine Rg (Ru 2 rfl (Bs 18 rfl (fun hc4=>?_) fun hc4=>?_))
   ·refine Ru 4 rfl (Bs 22 rfl (fun hc5=>?_) fun hc5=>?_)
    ·refine Ru 3 rfl (a_ (⟨rfl,rfl,?_⟩))
     repeat (first|exact trivial|refine⟨rfl,?_⟩|refine⟨(by exact cy (by cases fresh<;>simp_all)),?_⟩)
    refine Ru 3 rfl (a_ (⟨rfl,rfl,?_⟩))
    repeat (first|exact trivial|refine⟨rfl,?_⟩|refine⟨(by exact cy (by cases fresh<;>simp_all)),?_⟩)
   refine Ru 7 rfl (a_ (⟨rfl,rfl,?_⟩))
   repeat (first|exact trivial|refine⟨rfl,?_⟩|refine⟨(by exact cy (by cases fresh<;>simp_all)),?_⟩)
  refine Cs rfl (fun hc6=>?_) fun hc6=>?_
  ·rw [e1,e2] at hc6;have hcz:=hc6
   exact Sr (Ru 2 rfl (a_ (J.retV (aS rfl rfl rfl) (by have hz:oidT l=none:=(by rw [he,aT z2_,oidGo,if_pos hcz]);rw [hz];rfl))))
  rw [e1,e2] at hc6;have hcz:=hc6;have hnn:¬ 72057594037927935<n:=(by intro hh;rw [an hh] at hc6;simp at hc6);have hdr:=aT hi2
  refine ax (Sr (Ru 1 rfl (ae (by first|exact RunV.shl_u64 128 rfl rfl bJ bJ bJ z2_ z2_|exact RunV.shl rfl rfl bJ bJ) rfl ?_)))
  refine Ru 1 rfl (ae (by first|exact RunV.maskb_u8 7 128 rfl rfl bJ bJ bJ|exact RunV.mask_u8 7 128 rfl rfl bJ bJ bJ z2_ z2_|exact RunV.and_ rfl rfl) rfl ?_)
  refine ae (by first|exact RunV.convb_u64 e9 rfl|exact cX e9 rfl z2_ z2_|exact cD e9 rfl) rfl ?_
  refine ae (RunV.join_u64 7 128 rfl rfl bJ z2_ z2_ z2_ z2_ z2_ z2_) rfl ?_
  refine Ru 2 rfl (a_ (aw (Sr (Ru 2 rfl (a_ (Cs rfl (fun hc7=>?_) fun hc7=>?_))))))
  ·refine bx (Rg (ae ai_ rfl ?_))
   refine Ru 1 rfl (a_ (⟨_,?_,_,?_,⟨_,i+1,out,n*128+l[i].toNat % 128,false,first,a,c,rfl,rfl,rfl,rfl,⟨by assumption,by omega,by omega,by omega,by rw [he,hdr,oidGo,if_neg (by rw [hcz];decide),if_pos z2_]⟩⟩⟩))
   ·omega
   repeat (first|exact trivial|refine⟨rfl,?_⟩|refine⟨(by exact cm (by simp<;>omega)),?_⟩)
  refine ax (aw (Sr (Ru 1 rfl (a_ (Cs rfl (fun hc8=>?_) fun hc8=>?_)))))
  ·subst hc8;obtain⟨m2,hm2⟩:∃ m2:Nat,m2=n*128+l[i].toNat % 128-40*min ((n*128+l[i].toNat % 128) / 40) 2:=⟨_,rfl⟩
   refine Sr (Ru 1 rfl (ae z37_ rfl ?_))
   refine ae (RunV.min2 rfl rfl) rfl ?_
   refine Ru 1 rfl (Nk [10,37,36,35,34,33,32,6,5,31,30,29,28,27,26,25,9,16,15,14,4,7,11,12,13] rfl (Sr (Ru 2 rfl (de ca_206 rfl (iH (n:=min ((n*128+l[i].toNat % 128) / 40) 2) (least:=1) (by split<;>omega) rfl z2_ z2_ z2_) pt_ rfl ?_))))
   rintro _ h9 Lo9 hle9 ⟨a9,c9,rfl,rfl⟩
   replace hl:=hl.mono hle9
   replace hhg:=hhg.mono hle9
   refine Ru 1 rfl (a_ (Sr (Ru 2 rfl (ae (by first|exact RunV.mul_u64 rfl rfl z2_ z2_|exact RunV.mul rfl rfl) rfl ?_))))
   refine ae (by first|exact RunV.sub_u64 rfl rfl z2_ z2_|exact dx rfl rfl) rfl ?_
   refine Ru 1 rfl (a_ (Rg (Ru 1 rfl (a_ (Sr ?_)))))
   have hdl2:=fQ m2 1;have hdl:=fQ (min ((n*128+l[i].toNat % 128) / 40) 2) 1
   refine Ru 1 rfl (ct cP mC rfl rfl rfl rfl rfl (fun b10=>?_))
   refine bV cP rfl rfl aW rfl dl_ dl_ rfl ((show u8R _ [.int .u8 46] 46 from rfl)) z4_ rfl rfl (fun a11 c11 xs11 hC11 hN11=>?_)
   obtain rfl:=hC11.u8
   refine Ru 1 rfl (de ca_206 rfl (iH (n:=m2) (least:=1) (by (try split)<;>omega) rfl z2_ z2_ (by simp;omega)) pt_ rfl ?_)
   rintro _ h12 Lo12 hle12 ⟨a12,c12,rfl,rfl⟩
   replace hl:=hl.mono hle12
   replace hhg:=hhg.mono hle12
   refine Ru 1 rfl (a_ (Rg (Ru 2 rfl (Nk [6,5,4,49,48,47,46,45,7,44,43,42,41,40,39,38,10,37,36,35,34,33,32,31,30,29,28,27,26,25,9,16,15,14,11,12,13] rfl (Rg (ae ai_ rfl ?_))))))
   refine Ru 1 rfl (a_ (⟨_,?_,_,?_,⟨_,i+1,_,0,true,false,_,_,rfl,rfl,rfl,rfl,⟨by assumption,by omega,by omega,by simp;omega,by rw [he,hdr,oidGo,if_neg (by rw [hcz];decide),if_neg z2_];subst hm2;simp [*]⟩⟩⟩))
   ·omega
   repeat (first|exact trivial|refine⟨rfl,?_⟩|refine⟨(by exact cm (by simp<;>omega)),?_⟩)
  subst hc8;obtain⟨m2,hm2⟩:∃ m2:Nat,m2=n*128+l[i].toNat % 128:=⟨_,rfl⟩
  refine ax (Kp [34,33,32,6,5,31,30,29,28,27,26,25,9,16,15,14,4,7,11,12,13] rfl (Sr ?_))
  have hdl2:=fQ m2 1;have hdl:=fQ (min ((n*128+l[i].toNat % 128) / 40) 2) 1
  refine Ru 1 rfl (ct cP mC rfl rfl rfl rfl rfl (fun b13=>?_))
  refine bV cP rfl rfl aW rfl dl_ dl_ rfl ((show u8R _ [.int .u8 46] 46 from rfl)) z4_ rfl rfl (fun a14 c14 xs14 hC14 hN14=>?_)
  obtain rfl:=hC14.u8
  refine Ru 1 rfl (de ca_206 rfl (iH (n:=m2) (least:=1) (by (try split)<;>omega) rfl z2_ z2_ (by simp;omega)) pt_ rfl ?_)
  rintro _ h15 Lo15 hle15 ⟨a15,c15,rfl,rfl⟩
  replace hl:=hl.mono hle15
  replace hhg:=hhg.mono hle15
  refine Ru 1 rfl (a_ (Rg (Ru 2 rfl (a_ (Rg (ae ai_ rfl ?_))))))
  refine Ru 1 rfl (a_ (⟨_,?_,_,?_,⟨_,i+1,_,0,true,false,_,_,rfl,rfl,rfl,rfl,⟨by assumption,by omega,by omega,by simp;omega,by rw [he,hdr,oidGo,if_neg (by rw [hcz];decide),if_neg z2_];subst hm2;simp [*]⟩⟩⟩))
  ·omega
  repeat (first|exact trivial|refine⟨rfl,?_⟩|refine⟨(by exact cm (by simp<;>omega)),?_⟩)
 refine bx (Kp [4,6,7] rfl (aw (Sr (Ru 3 rfl (Bs 53 rfl (fun hc16=>?_) fun hc16=>?_)))))
 ·exact Ru 2 rfl (Nk [55,4] rfl (aM rfl (Sr (Ru 2 rfl (a_ (J.retV (aS rfl rfl rfl) z47_))))))
 refine Ru 2 rfl (Nk [55,4] rfl (Cs rfl (fun hc17=>?_) fun hc17=>?_))
 ·exact Sr (Ru 2 rfl (a_ (J.retV (aS rfl rfl rfl) z47_)))
 refine ax (Sr (Ru 1 rfl (cM (R:=u8R) (l:=out) dl_ aW rfl z2_ (fun hp hlep hSp=>?_))))
 refine ae (cG dq rfl z5_ rfl) rfl ?_
 exact Ru 2 rfl (Nk [3,2] rfl (J.retV (aS rfl rfl rfl) z47_))
end
section
theorem z1_ {p:Prop}(u:p:=by first|(rw [pS (by omega),← e0 (by omega)];(congr 1;first|exact(an (by omega)).symm|exact(am (by omega)).symm|exact decide_eq_decide.2 (by omega)|(rw [← decide_not];exact decide_eq_decide.2 (by omega))))|(rw [pS (by omega)];(congr 1;first|exact(an (by omega)).symm|exact(am (by omega)).symm|exact decide_eq_decide.2 (by omega)|(rw [← decide_not];exact decide_eq_decide.2 (by omega))))|rw [mE (by omega)]|(rw [jr (by omega),bitsB,← e0,← e1,an (by omega)];done)|(rw [jr (by omega),bitsB,← e0,← e1];congr 1;exact decide_eq_decide.2 ⟨fun hh=>⟨by omega,.inr (by exact_mod_cast hh)⟩,fun⟨_,hh⟩=>by exact_mod_cast hh.resolve_left (by omega)⟩)|(rw [jr (by omega),bitsB,← e0 (by omega),am (by omega)];done)|(rw [jr (by omega),bitsB,am (by omega)];done)|(rw [valB_5 (by omega)];(congr 1;first|exact(an (by omega)).symm|exact(am (by omega)).symm|exact decide_eq_decide.2 (by omega)|(rw [← decide_not];exact decide_eq_decide.2 (by omega))))|(rw [valB_6 (by omega)];cases (oidT l).isSome<;>rfl)|rw [oq (by omega)]|rw [om (by omega)]|rw [oj (by omega)]|(rw [valB_23 (by omega)];cases psOk l<;>rfl)|(rw [valB_24 (by omega)];cases plOk l<;>rfl)|rw [valB_0 (by omega)]):p:=u
theorem gp {p:Prop}(u:p:=by repeat (first|exact trivial|refine⟨rfl,?_⟩|refine⟨(by exact cm z2_),?_⟩)):p:=u
theorem z31_ {p:Prop}(u:p:=by rw [leastB,if_neg z2_,if_neg z2_,← e0,← e1];(congr 1;first|exact(an z2_).symm|exact(am z2_).symm|exact decide_eq_decide.2 z2_|(rw [← decide_not];exact decide_eq_decide.2 z2_))):p:=u
end
section
theorem ca_142:callT Tryz.prog 142=true:=by kernel_rfl
theorem ca_143:callT Tryz.prog 143=true:=by kernel_rfl
theorem ca_144:callT Tryz.prog 144=true:=by kernel_rfl
theorem ca_164:callT Tryz.prog 164=true:=by kernel_rfl
theorem ca_202:callT Tryz.prog 202=true:=by kernel_rfl
theorem ca_203:callT Tryz.prog 203=true:=by kernel_rfl
theorem ca_204:callT Tryz.prog 204=true:=by kernel_rfl
theorem ca_85:callT Tryz.prog 85=true:=by kernel_rfl
theorem ib:convI Tryz.prog 3 5=some .u8:=by kernel_rfl
theorem kP {a0:Option Addr}{c0:Nat}{l:List UInt8}{h:Part}(hl:SlR u8R 1 h a0 c0 l) (hb:l.length≤1073741824) :
 Pure Tryz.prog 164 [.slice a0 l.length c0] h (.tuple #[.string ⟨((oidT l).getD []).toArray⟩,.int .i64 (if(oidT l).isSome then 0 else 20)]):=Pure.ofV (oT hl hb)
theorem s9 (t:Int):form t=0∨form t=1∨form t=2:=by
 unfold form
 split
 ·exact .inr (.inr rfl)
 ·split
  ·exact .inr (.inl rfl)
  ·exact .inl rfl
theorem known_fn (t:Int) (h:Part):Pure Tryz.prog 202 [.int .i64 t] h (.tuple #[.bool (decide (form t≠0)),.bool (decide (form t=2))]):=by
 refine aG Tryz.func202 rfl Tryz.ntmps202 rfl (fun e he=>?_)
 refine aU [(0,_)] ⟨rfl,trivial⟩ ?_
 refine Sr (Ru 2 rfl (a_ (aw ?_)))
 refine Sr (Ru 1 rfl (a_ (aE (aw (Sr (Ru 2 rfl (a_ (Cs rfl (fun hc1=>?_) fun hc1=>?_))))))))
 ·exact ax (aM rfl (Sr (Ru 2 rfl (Nk [3,2] rfl (az (aS rfl rfl rfl) gN rfl)))))
 refine Rg (Ru 2 rfl (Nk [5,4,3,2] rfl (Cs rfl (fun hc2=>?_) fun hc2=>?_)))
 ·exact Sr (Ru 2 rfl (Nk [3,2] rfl (az (aS rfl rfl rfl) gN rfl)))
 refine aw (Sr (Ru 2 rfl (a_ (Cs rfl (fun hc3=>?_) fun hc3=>?_))))
 ·exact ax (Kp [8,3,2] rfl (aM rfl (Sr (Ru 2 rfl (a_ (az (aS rfl rfl rfl) gN rfl))))))
 refine Sr (Ru 2 rfl (Nk [8,4,3,2] rfl (Cs rfl (fun hc4=>?_) fun hc4=>?_)))
 ·exact ax (aM rfl (Sr (Ru 2 rfl (Nk [3,2] rfl (az (aS rfl rfl rfl) gN rfl)))))
 refine Sr (Ru 2 rfl (a_ (Cs rfl (fun hc5=>?_) fun hc5=>?_)))
 ·exact ax (Kp [8,3,2] rfl (aM rfl (Sr (Ru 2 rfl (a_ (az (aS rfl rfl rfl) gN rfl))))))
 refine Sr (Ru 2 rfl (Nk [8,4,3,2] rfl (Cs rfl (fun hc6=>?_) fun hc6=>?_)))
 ·exact ax (aM rfl (Sr (Ru 2 rfl (Nk [3,2] rfl (az (aS rfl rfl rfl) gN rfl)))))
 refine Sr (Ru 2 rfl (a_ (Cs rfl (fun hc7=>?_) fun hc7=>?_)))
 ·exact ax (Kp [8,3,2] rfl (aM rfl (Sr (Ru 2 rfl (a_ (az (aS rfl rfl rfl) gN rfl))))))
 refine Sr (Ru 2 rfl (Nk [8,4,3,2] rfl (Cs rfl (fun hc8=>?_) fun hc8=>?_)))
 ·exact ax (aM rfl (Sr (Ru 2 rfl (Nk [3,2] rfl (az (aS rfl rfl rfl) gN rfl)))))
 refine Sr (Ru 2 rfl (a_ (Cs rfl (fun hc9=>?_) fun hc9=>?_)))
 ·exact ax (Kp [8,3,2] rfl (aM rfl (Sr (Ru 2 rfl (a_ (az (aS rfl rfl rfl) gN rfl))))))
 refine Sr (Ru 2 rfl (Nk [8,4,3,2] rfl (Cs rfl (fun hc10=>?_) fun hc10=>?_)))
 ·exact ax (aM rfl (Sr (Ru 2 rfl (Nk [3,2] rfl (az (aS rfl rfl rfl) gN rfl)))))
 refine Sr (Ru 2 rfl (a_ (Cs rfl (fun hc11=>?_) fun hc11=>?_)))
 ·exact ax (Kp [8,3,2] rfl (aM rfl (Sr (Ru 2 rfl (a_ (az (aS rfl rfl rfl) gN rfl))))))
 refine Sr (Ru 2 rfl (Nk [8,4,3,2] rfl (Cs rfl (fun hc12=>?_) fun hc12=>?_)))
 ·exact ax (aM rfl (Sr (Ru 2 rfl (Nk [3,2] rfl (az (aS rfl rfl rfl) gN rfl)))))
 refine Sr (Ru 2 rfl (a_ (Cs rfl (fun hc13=>?_) fun hc13=>?_)))
 ·exact ax (Kp [8,3,2] rfl (aM rfl (Sr (Ru 2 rfl (a_ (az (aS rfl rfl rfl) gN rfl))))))
 refine Rg (Ru 2 rfl (Nk [8,3,2] rfl (Cs rfl (fun hc14=>?_) fun hc14=>?_)))
 ·exact Sr (Ru 2 rfl (a_ (az (aS rfl rfl rfl) gN rfl)))
 exact ax (Sr (Ru 2 rfl (a_ (az (aS rfl rfl rfl) gN rfl))))
theorem oP {x:Nd}{cs:List Value}{h:Part}(r:NdR h cs x):Pure Tryz.prog 159 [.agg cs.toArray] h (.bool (mayB x.cls x.tag x.cons)):=by
 cases x with
 |mk c t k bs ks =>
 obtain⟨a,ca,b,cb,rfl,ha,hb⟩:=r.inv
 simp only [Nd.cls,Nd.tag,Nd.cons]
 have hf:=s9 t
 refine aG Tryz.func159 rfl Tryz.ntmps159 rfl (fun e he=>?_)
 refine aU [(0,_)] ⟨rfl,trivial⟩ ?_
 refine Sr (d8 rfl rfl rfl (fun b1=>?_))
 refine Ru 1 rfl (a_ (aw (Sr (Ru 1 rfl (ae (aq cZ rfl mm_ rfl) rfl ?_)))))
 refine Ru 2 rfl (Bs 8 rfl (fun hc2=>?_) fun hc2=>?_)
 ·exact Ru 4 rfl (Nk [12,2,1] rfl (aM rfl (Sr (Ru 1 rfl (a_ (az (au rfl rfl) (by rcases hf with hf|hf|hf<;>cases k<;>simp_all [mayB]<;>omega) rfl))))))
 refine Ru 1 rfl (aH rfl rfl  (aq cZ rfl mm_ rfl) rfl ?_)
 refine Ru 2 rfl (Nk [12,2,1] rfl (Cs rfl (fun hc3=>?_) fun hc3=>?_))
 ·exact Sr (Ru 1 rfl (a_ (az (au rfl rfl) (by rcases hf with hf|hf|hf<;>cases k<;>simp_all [mayB]<;>omega) rfl)))
 refine ax (aw (Sr (Ru 1 rfl (ae (aq cZ rfl mm_ rfl) rfl ?_))))
 refine a_ (aE (Sr (Ru 2 rfl (a_ (Cs rfl (fun hc4=>?_) fun hc4=>?_)))))
 ·exact Sr (Ru 1 rfl (Nk [2] rfl (az (au rfl rfl) (by rcases hf with hf|hf|hf<;>cases k<;>simp_all [mayB]<;>omega) rfl)))
 refine Sr (Ru 2 rfl (Nk [17,2,1] rfl (Cs rfl (fun hc5=>?_) fun hc5=>?_)))
 ·refine Sr (Ru 1 rfl (ae (aq cZ rfl mm_ rfl) rfl ?_))
  refine aV ca_202 rfl (known_fn _ _) rfl ?_
  refine Ru 5 rfl (Nk [4,3,2,1] rfl (Sr (Ru 2 rfl (Bs 26 rfl (fun hc7=>?_) fun hc7=>?_))))
  ·refine Ru 2 rfl (aH rfl rfl  (aq j7 rfl mm_ rfl) rfl ?_)
   refine aH rfl rfl  (RunV.eqlB un_4 rfl rfl) rfl ?_
   exact Ru 2 rfl (Nk [2] rfl (az (au rfl rfl) (by rcases hf with hf|hf|hf<;>cases k<;>simp_all [mayB]<;>omega) rfl))
  exact Ru 6 rfl (Nk [2] rfl (az (au rfl rfl) (by rcases hf with hf|hf|hf<;>cases k<;>simp_all [mayB]<;>omega) rfl))
 exact ax (Sr (Ru 1 rfl (a_ (az (au rfl rfl) (by rcases hf with hf|hf|hf<;>cases k<;>simp_all [mayB]<;>omega) rfl))))
def leastB (b:List UInt8):Bool:=if b.length=0 then false else if b.length=1 then true else decide (¬ (byteAt b 0=0∧byteAt b 1<128∨byteAt b 0=255∧127<byteAt b 1))
theorem ma {a:Option Addr}{c:Nat}{l:List UInt8}{h:Part}(hl:SlR u8R 1 h a c l):Pure Tryz.prog 85 [.slice a l.length c] h (.bool (leastB l)):=by
 have hb:=hl.le63
 refine aG Tryz.func85 rfl Tryz.ntmps85 rfl (fun e he=>?_)
 refine aU [(0,_)] ⟨rfl,trivial⟩ ?_
 refine Sr (Ru 1 rfl (a_ (aw (aE (Sr (Ru 4 rfl (a_ (Cs rfl (fun hc1=>?_) fun hc1=>?_))))))))
 ·exact Sr (Ru 1 rfl (Nk [2,0] rfl (az (au rfl rfl) (by rw [leastB,if_pos z2_]) rfl)))
 refine Sr (Ru 4 rfl (Nk [7,2,0] rfl (Cs rfl (fun hc2=>?_) fun hc2=>?_)))
 ·exact Sr (Ru 1 rfl (a_ (az (au rfl rfl) (by rw [leastB,if_neg z2_,if_pos z2_]) rfl)))
 refine ax (Sr ?_)
 have e0:=bv l 0 z2_;have e1:=bv l 1 z2_
 refine Ru 1 rfl (cg (aC cA rfl rfl (show _=((0:Nat):Int) from rfl) z5_ rfl z2_) rfl ?_)
 rintro _ ⟨b3,o3,hi3,rfl,hE3⟩
 refine ae (aZ eu rfl z5_) rfl ?_
 refine Ru 2 rfl (Bs 15 rfl (fun hc5=>?_) fun hc5=>?_)
 ·refine Ru 1 rfl (cr rfl rfl  (aC cA rfl rfl (show _=((1:Nat):Int) from rfl) z5_ rfl z2_) rfl ?_)
  rintro _ ⟨b6,o6,hi6,rfl,hE6⟩
  refine aH rfl rfl  (aZ eu rfl z5_) rfl ?_
  refine Ru 3 rfl (Bs 21 rfl (fun hc8=>?_) fun hc8=>?_)
  ·exact Ru 13 rfl (Nk [2] rfl (az (au rfl rfl) z31_ rfl))
  refine Ru 1 rfl (cr rfl rfl  (aC cA rfl rfl (show _=((0:Nat):Int) from rfl) z5_ rfl z2_) rfl ?_)
  rintro _ ⟨b9,o9,hi9,rfl,hE9⟩
  refine aH rfl rfl  (aZ eu rfl z5_) rfl ?_
  refine Ru 2 rfl (Bs 26 rfl (fun hc11=>?_) fun hc11=>?_)
  ·refine Ru 1 rfl (cr rfl rfl  (aC cA rfl rfl (show _=((1:Nat):Int) from rfl) z5_ rfl z2_) rfl ?_)
   rintro _ ⟨b12,o12,hi12,rfl,hE12⟩
   refine aH rfl rfl  (aZ eu rfl z5_) rfl ?_
   exact Ru 5 rfl (Nk [2] rfl (az (au rfl rfl) z31_ rfl))
  exact Ru 8 rfl (Nk [2] rfl (az (au rfl rfl) z31_ rfl))
 refine Ru 7 rfl (cr rfl rfl  (aC cA rfl rfl (show _=((0:Nat):Int) from rfl) z5_ rfl z2_) rfl ?_)
 rintro _ ⟨b14,o14,hi14,rfl,hE14⟩
 refine aH rfl rfl  (aZ eu rfl z5_) rfl ?_
 refine Ru 2 rfl (Bs 26 rfl (fun hc16=>?_) fun hc16=>?_)
 ·refine Ru 1 rfl (cr rfl rfl  (aC cA rfl rfl (show _=((1:Nat):Int) from rfl) z5_ rfl z2_) rfl ?_)
  rintro _ ⟨b17,o17,hi17,rfl,hE17⟩
  refine aH rfl rfl  (aZ eu rfl z5_) rfl ?_
  exact Ru 5 rfl (Nk [2] rfl (az (au rfl rfl) z31_ rfl))
 exact Ru 8 rfl (Nk [2] rfl (az (au rfl rfl) z31_ rfl))
def bitsB (b:List UInt8):Bool:=decide (¬ (b.length=0∨7<byteAt b 0∨b.length=1∧0<byteAt b 0)∧(byteAt b 0=0∨byteAt b (b.length-1) % 2 ^ byteAt b 0=0))
def valB (t:Int) (b:List UInt8):Bool :=
 if t=1 then decide (b.length=1∧(byteAt b 0=0∨byteAt b 0=255)) else if t=2∨t=10 then leastB b else if t=3 then bitsB b else if t=5 then decide (b.length=0)
 else if t=6 then(oidT b).isSome else if t=12 then runes (fun c n=>!decide (c=65533∧n=1)) b 0 else if t=19 then runes (fun c _=>prC c) b 0 else if t=22 then runes (fun c _=>decide (c≤127)) b 0
 else if t=23 then psOk b else if t=24 then plOk b else true
theorem pS {t:Int}{b:List UInt8}(h:t=1):valB t b=decide (b.length=1∧(byteAt b 0=0∨byteAt b 0=255)):=by
 unfold valB;rw [if_pos z2_]
theorem mE {t:Int}{b:List UInt8}(h:t=2∨t=10):valB t b=leastB b:=by
 unfold valB;rw [if_neg z2_];rw [if_pos z2_]
theorem jr {t:Int}{b:List UInt8}(h:t=3):valB t b=bitsB b:=by
 unfold valB;rw [if_neg z2_];rw [if_neg z2_];rw [if_pos z2_]
theorem valB_5 {t:Int}{b:List UInt8}(h:t=5):valB t b=decide (b.length=0):=by
 unfold valB;rw [if_neg z2_];rw [if_neg z2_];rw [if_neg z2_];rw [if_pos z2_]
theorem valB_6 {t:Int}{b:List UInt8}(h:t=6):valB t b=(oidT b).isSome:=by
 unfold valB;rw [if_neg z2_];rw [if_neg z2_];rw [if_neg z2_];rw [if_neg z2_];rw [if_pos z2_]
theorem oq {t:Int}{b:List UInt8}(h:t=12):valB t b=runes (fun c n=>!decide (c=65533∧n=1)) b 0:=by
 unfold valB;rw [if_neg z2_];rw [if_neg z2_];rw [if_neg z2_];rw [if_neg z2_];rw [if_neg z2_];rw [if_pos z2_]
theorem om {t:Int}{b:List UInt8}(h:t=19):valB t b=runes (fun c _=>prC c) b 0:=by
 unfold valB;rw [if_neg z2_];rw [if_neg z2_];rw [if_neg z2_];rw [if_neg z2_];rw [if_neg z2_];rw [if_neg z2_];rw [if_pos z2_]
theorem oj {t:Int}{b:List UInt8}(h:t=22):valB t b=runes (fun c _=>decide (c≤127)) b 0:=by
 unfold valB;rw [if_neg z2_];rw [if_neg z2_];rw [if_neg z2_];rw [if_neg z2_];rw [if_neg z2_];rw [if_neg z2_];rw [if_neg z2_];rw [if_pos z2_]
theorem valB_23 {t:Int}{b:List UInt8}(h:t=23):valB t b=psOk b:=by
 unfold valB;rw [if_neg z2_];rw [if_neg z2_];rw [if_neg z2_];rw [if_neg z2_];rw [if_neg z2_];rw [if_neg z2_];rw [if_neg z2_];rw [if_neg z2_];rw [if_pos z2_]
theorem valB_24 {t:Int}{b:List UInt8}(h:t=24):valB t b=plOk b:=by
 unfold valB;rw [if_neg z2_];rw [if_neg z2_];rw [if_neg z2_];rw [if_neg z2_];rw [if_neg z2_];rw [if_neg z2_];rw [if_neg z2_];rw [if_neg z2_];rw [if_neg z2_];rw [if_pos z2_]
theorem valB_0 {t:Int}{b:List UInt8}(h:¬ (t=1∨t=2∨t=10∨t=3∨t=5∨t=6∨t=12∨t=19∨t=22∨t=23∨t=24)):valB t b=true:=by
 unfold valB;rw [if_neg z2_];rw [if_neg z2_];rw [if_neg z2_];rw [if_neg z2_];rw [if_neg z2_];rw [if_neg z2_];rw [if_neg z2_];rw [if_neg z2_];rw [if_neg z2_];rw [if_neg z2_]
theorem pow2_7 (n:Nat) (h:n≤7):(1:Int)≤2 ^ n∧(2:Int) ^ n≤128:=by
 have:n=0∨n=1∨n=2∨n=3∨n=4∨n=5∨n=6∨n=7:=by omega
 rcases this with rfl|rfl|rfl|rfl|rfl|rfl|rfl|rfl<;>decide
theorem gQ {t:Int}{a:Option Addr}{c:Nat}{l:List UInt8}{h:Part}(hl:SlR u8R 1 h a c l) (hT:Tabs h) (hb:l.length≤1073741824):Pure Tryz.prog 160 [.int .i64 t,.slice a l.length c] h (.bool (valB t l)):=by
 have e0:=fun hh=>bv l 0 hh
 refine aG Tryz.func160 rfl Tryz.ntmps160 rfl (fun e he=>?_)
 refine aU [(0,_),(1,_)] ⟨rfl,rfl,trivial⟩ ?_
 refine Sr (Ru 1 rfl (a_ ?_))
 refine aw (Sr (Ru 1 rfl (a_ (aE (Sr (Ru 2 rfl (a_ (Cs rfl (fun hc1=>?_) fun hc1=>?_))))))))
 ·refine Sr (Ru 4 rfl (Bs 18 rfl (fun hc2=>?_) fun hc2=>?_))
  ·refine Ru 1 rfl (cr rfl rfl  (aC cA rfl rfl (show _=((0:Nat):Int) from rfl) z5_ rfl z2_) rfl ?_)
   rintro _ ⟨b3,o3,hi3,rfl,hE3⟩
   refine aH rfl rfl  (aZ eu rfl z5_) rfl ?_
   refine Ru 2 rfl (Bs 23 rfl (fun hc5=>?_) fun hc5=>?_)
   ·exact Ru 7 rfl (Nk [4] rfl (az (au rfl rfl) z1_ rfl))
   refine Ru 1 rfl (cr rfl rfl  (aC cA rfl rfl (show _=((0:Nat):Int) from rfl) z5_ rfl z2_) rfl ?_)
   rintro _ ⟨b6,o6,hi6,rfl,hE6⟩
   refine aH rfl rfl  (aZ eu rfl z5_) rfl ?_
   exact Ru 4 rfl (Nk [4] rfl (az (au rfl rfl) z1_ rfl))
  exact Ru 12 rfl (Nk [4] rfl (az (au rfl rfl) z1_ rfl))
 refine aw (Sr (Ru 2 rfl (Nk [30,12,4,1] rfl (Cs rfl (fun hc8=>?_) fun hc8=>?_))))
 ·refine ax (aM rfl (Sr (Ru 1 rfl (aV ca_85 rfl (ma z5_) rfl ?_))))
  exact Ru 1 rfl (Nk [4] rfl (az (au rfl rfl) z1_ rfl))
 refine Rg (Ru 2 rfl (a_ (Cs rfl (fun hc10=>?_) fun hc10=>?_)))
 ·refine Sr (Ru 1 rfl (aV ca_85 rfl (ma z5_) rfl ?_))
  exact Ru 1 rfl (Nk [4] rfl (az (au rfl rfl) z1_ rfl))
 refine Sr (Ru 2 rfl (Nk [35,12,4,1] rfl (Cs rfl (fun hc12=>?_) fun hc12=>?_)))
 ·refine aw (Sr (Ru 4 rfl (Bs 40 rfl (fun hc13=>?_) fun hc13=>?_)))
  ·exact Ru 16 rfl (Nk [56,4,1] rfl (aM rfl (Sr (Ru 1 rfl (a_ (az (au rfl rfl) z1_ rfl))))))
  refine Ru 1 rfl (cr rfl rfl  (aC cA rfl rfl (show _=((0:Nat):Int) from rfl) z5_ rfl z2_) rfl ?_)
  rintro _ ⟨b14,o14,hi14,rfl,hE14⟩
  refine aH rfl rfl  (aZ eu rfl z5_) rfl ?_
  refine Ru 3 rfl (Bs 46 rfl (fun hc16=>?_) fun hc16=>?_)
  ·exact Ru 10 rfl (Nk [56,4,1] rfl (aM rfl (Sr (Ru 1 rfl (a_ (az (au rfl rfl) z1_ rfl))))))
  refine Ru 4 rfl (Bs 50 rfl (fun hc17=>?_) fun hc17=>?_)
  ·refine Ru 1 rfl (cr rfl rfl  (aC cA rfl rfl (show _=((0:Nat):Int) from rfl) z5_ rfl z2_) rfl ?_)
   rintro _ ⟨b18,o18,hi18,rfl,hE18⟩
   refine aH rfl rfl  (aZ eu rfl z5_) rfl ?_
   refine Ru 3 rfl (Nk [56,4,1] rfl (Cs rfl (fun hc20=>?_) fun hc20=>?_))
   ·exact Sr (Ru 1 rfl (a_ (az (au rfl rfl) z1_ rfl)))
   refine ax (aw (cT cK cY ?_))
   have e0:=bv l 0 z2_;have e1:=bv l (l.length-1) z2_;have hp:=pow2_7 (l[0]'z2_).toNat z2_
   refine Rq 1 rfl ?_
   refine dE (aC cA rfl rfl (show _=((0:Nat):Int) from rfl) z5_ rfl z2_) rfl ?_
   rintro _ ⟨b21,o21,hi21,rfl,hE21⟩
   refine bR (aZ eu rfl z5_) rfl ?_
   refine Rq 2 rfl ?_
   refine Bq 61 rfl (fun hc23=>?_) fun hc23=>?_
   ·refine Rq 15 rfl ?_
    refine Nq [4] rfl ?_
    exact az (au rfl rfl) z1_ rfl
   refine Rq 3 rfl ?_
   refine cW rfl rfl  si_ rfl ?_
   refine JQ.opeg rfl rfl  (aC (m:=l.length-1) cA rfl rfl z2_ z5_ rfl z2_) rfl ?_
   rintro _ ⟨b24,o24,hi24,rfl,hE24⟩
   refine cW rfl rfl  (aZ eu rfl z5_) rfl ?_
   refine Rq 1 rfl ?_
   refine JQ.opeg rfl rfl  (aC cA rfl rfl (show _=((0:Nat):Int) from rfl) z5_ rfl z2_) rfl ?_
   rintro _ ⟨b26,o26,hi26,rfl,hE26⟩
   refine cW rfl rfl  (aZ eu rfl z5_) rfl ?_
   refine cW rfl rfl  (RunV.shl_u8 ((2:Int) ^ (l[0]'z2_).toNat) rfl rfl z2_ z2_ (by simp) z2_ z2_) rfl ?_
   refine cW rfl rfl  (RunV.sub_u8 rfl rfl z2_ z2_) rfl ?_
   refine cW rfl rfl  (RunV.maskb_u8 (l[0]'z2_).toNat ((2:Int) ^ (l[0]'z2_).toNat) rfl rfl z2_ rfl z2_) rfl ?_
   refine Rq 3 rfl ?_
   refine Nq [4] rfl ?_
   exact az (au rfl rfl) z1_ rfl
  refine Ru 6 rfl (Nk [56,4,1] rfl (dy rfl ?_))
  refine ax (aw (cT cK cY ?_))
  have e0:=bv l 0 z2_;have e1:=bv l (l.length-1) z2_;have hp:=pow2_7 (l[0]'z2_).toNat z2_
  refine Rq 1 rfl ?_
  refine dE (aC cA rfl rfl (show _=((0:Nat):Int) from rfl) z5_ rfl z2_) rfl ?_
  rintro _ ⟨b28,o28,hi28,rfl,hE28⟩
  refine bR (aZ eu rfl z5_) rfl ?_
  refine Rq 2 rfl ?_
  refine Bq 61 rfl (fun hc30=>?_) fun hc30=>?_
  ·refine Rq 15 rfl ?_
   refine Nq [4] rfl ?_
   exact az (au rfl rfl) z1_ rfl
  refine Rq 3 rfl ?_
  refine cW rfl rfl  si_ rfl ?_
  refine JQ.opeg rfl rfl  (aC (m:=l.length-1) cA rfl rfl z2_ z5_ rfl z2_) rfl ?_
  rintro _ ⟨b31,o31,hi31,rfl,hE31⟩
  refine cW rfl rfl  (aZ eu rfl z5_) rfl ?_
  refine Rq 1 rfl ?_
  refine JQ.opeg rfl rfl  (aC cA rfl rfl (show _=((0:Nat):Int) from rfl) z5_ rfl z2_) rfl ?_
  rintro _ ⟨b33,o33,hi33,rfl,hE33⟩
  refine cW rfl rfl  (aZ eu rfl z5_) rfl ?_
  refine cW rfl rfl  (RunV.shl_u8 ((2:Int) ^ (l[0]'z2_).toNat) rfl rfl z2_ z2_ (by simp) z2_ z2_) rfl ?_
  refine cW rfl rfl  (RunV.sub_u8 rfl rfl z2_ z2_) rfl ?_
  refine cW rfl rfl  (RunV.maskb_u8 (l[0]'z2_).toNat ((2:Int) ^ (l[0]'z2_).toNat) rfl rfl z2_ rfl z2_) rfl ?_
  refine Rq 3 rfl ?_
  refine Nq [4] rfl ?_
  exact az (au rfl rfl) z1_ rfl
 refine Sr (Ru 2 rfl (a_ (Cs rfl (fun hc35=>?_) fun hc35=>?_)))
 ·exact Sr (Ru 4 rfl (Nk [4] rfl (az (au rfl rfl) z1_ rfl)))
 refine Sr (Ru 2 rfl (Nk [81,12,4,1] rfl (Cs rfl (fun hc36=>?_) fun hc36=>?_)))
 ·refine Sr (Ru 1 rfl (aV ca_164 rfl (kP z5_ z2_) rfl ?_))
  exact Ru 5 rfl (Nk [6,4] rfl (Sr (Ru 3 rfl (a_ (az (au rfl rfl) z1_ rfl)))))
 refine Sr (Ru 2 rfl (a_ (Cs rfl (fun hc38=>?_) fun hc38=>?_)))
 ·refine Sr (Ru 1 rfl (ae (cG dq rfl z5_ rfl) rfl ?_))
  refine aV ca_142 rfl (utf8_fn _ _ z5_ z2_) rfl ?_
  exact Ru 1 rfl (Nk [4] rfl (az (au rfl rfl) z1_ rfl))
 refine Sr (Ru 2 rfl (Nk [95,12,4,1] rfl (Cs rfl (fun hc40=>?_) fun hc40=>?_)))
 ·refine Sr (Ru 1 rfl (ae (cG dq rfl z5_ rfl) rfl ?_))
  refine aV ca_143 rfl (iW _ _ z2_) rfl ?_
  exact Ru 1 rfl (Nk [4] rfl (az (au rfl rfl) z1_ rfl))
 refine Sr (Ru 2 rfl (a_ (Cs rfl (fun hc42=>?_) fun hc42=>?_)))
 ·refine Sr (Ru 1 rfl (ae (cG dq rfl z5_ rfl) rfl ?_))
  refine aV ca_144 rfl (ia5_fn _ _ z2_) rfl ?_
  exact Ru 1 rfl (Nk [4] rfl (az (au rfl rfl) z1_ rfl))
 refine Sr (Ru 2 rfl (Nk [105,12,4,1] rfl (Cs rfl (fun hc44=>?_) fun hc44=>?_)))
 ·refine Sr (Ru 1 rfl (ae (cG dq rfl z5_ rfl) rfl ?_))
  refine aV ca_203 rfl (pshort_fn _ _ z2_) rfl ?_
  exact Ru 5 rfl (Nk [8,4] rfl (Sr (Ru 3 rfl (a_ (az (au rfl rfl) z1_ rfl)))))
 refine Sr (Ru 2 rfl (a_ (Cs rfl (fun hc46=>?_) fun hc46=>?_)))
 ·refine Sr (Ru 1 rfl (ae (cG dq rfl z5_ rfl) rfl ?_))
  refine aV ca_204 rfl (plong_fn _ _ z2_) rfl ?_
  exact Ru 7 rfl (Nk [11,4] rfl (Sr (Ru 3 rfl (a_ (az (au rfl rfl) z1_ rfl)))))
 exact ax (Kp [4] rfl (Sr (Ru 1 rfl (a_ (az (au rfl rfl) z1_ rfl)))))
def be:Nat→Nat→List UInt8
 |0,_=>[]
 |k+1,n=>UInt8.ofNat (n / 256 ^ k)::be k n
def nby (n:Nat):Nat:=if n<256 then 1 else if n<65536 then 2 else if n<16777216 then 3 else if n<4294967296 then 4 else if n<1099511627776 then 5 else 6
def lenB (n:Nat):List UInt8:=if n<128 then [UInt8.ofNat n] else UInt8.ofNat (128+nby n)::be (nby n) n
def tagN (c t:Int) (k:Bool):Nat:=(64*c+t).toNat+(if k then 32 else 0)
def headB (c t:Int) (k:Bool) (n:Nat):List UInt8:=UInt8.ofNat (tagN c t k)::lenB n
theorem jT (n:Nat):1≤nby n∧nby n≤6:=by unfold nby;(repeat' split)<;>omega
theorem ik (k n:Nat):(be k n).length=k:=by induction k with
 |zero=>rfl
 |succ k ih=>simp [be,ih]
theorem lD (n j:Nat) (e:Int) (he:e=8*(j:Int)):(n:Int) / 2 ^ e.toNat=((n / 256 ^ j:Nat):Int):=by
 subst he
 have h1:(8*(j:Int)).toNat=8*j:=by omega
 have h2:(256:Nat) ^ j=2 ^ (8*j):=by rw [Nat.pow_mul]
 rw [h1,h2]
 simp
theorem nby_gt (n j:Nat) (hn:n≤140737488355328) (h1:1≤j) (h2:j≤nby n):0<n / 256 ^ j↔j<nby n:=by
 have hb:=jT n
 have hj:j=1∨j=2∨j=3∨j=4∨j=5∨j=6:=by omega
 have e1:(256:Nat) ^ 1=256:=rfl
 have e2:(256:Nat) ^ 2=65536:=rfl
 have e3:(256:Nat) ^ 3=16777216:=rfl
 have e4:(256:Nat) ^ 4=4294967296:=rfl
 have e5:(256:Nat) ^ 5=1099511627776:=rfl
 have e6:(256:Nat) ^ 6=281474976710656:=rfl
 unfold nby at *
 rcases hj with rfl|rfl|rfl|rfl|rfl|rfl<;>simp only [e1,e2,e3,e4,e5,e6]<;>(repeat' split)<;>omega
theorem gB {c t:Int}{k:Bool}{n:Nat}(h:n<128):headB c t k n=[UInt8.ofNat (tagN c t k)]++[UInt8.ofNat n]:=by
 unfold headB lenB;rw [if_pos h];rfl
theorem s7 {c t:Int}{k:Bool}{n:Nat}(h:¬ n<128):headB c t k n=([UInt8.ofNat (tagN c t k)]++[UInt8.ofNat (128+nby n)])++be (nby n) n:=by
 unfold headB lenB;rw [if_neg h];rfl
theorem head_fn {x:Nd}{cs:List Value}{h:Part}{n:Nat}(r:NdR h cs x) (hc:x.cls=0∨x.cls=2) (ht:0≤x.tag∧x.tag≤30) (hn:n≤140737488355328) :
 Fn Tryz.prog 161 [.agg cs.toArray,.int .i64 n] h [] (Rets fun v _ Lo=>∃ a c,v=.slice a (headB x.cls x.tag x.cons n).length c∧Lo=[.row a c 5 1 (headB x.cls x.tag x.cons n).length (u8s (headB x.cls x.tag x.cons n))]):=by
 cases x with
 |mk c t k bs ks =>
 obtain⟨a,ca,b,cb,rfl,ha,hb⟩:=r.inv
 simp only [Nd.cls,Nd.tag,Nd.cons] at *
 have hk:=jT n
 refine aG Tryz.func161 rfl Tryz.ntmps161 rfl (fun e he=>?_)
 refine aU [(0,_),(1,_)] ⟨rfl,rfl,trivial⟩ ?_
 refine Sr (d8 rfl rfl rfl (fun b1=>?_))
 refine Ru 1 rfl (a_ (Sr (Ru 1 rfl (ae (aq cZ rfl mm_ rfl) rfl ?_))))
 refine ae (by first|exact RunV.shl_i64 64 rfl rfl bJ bJ bJ z2_ z2_|exact RunV.shl rfl rfl bJ bJ) rfl ?_
 refine Ru 1 rfl (ae (aq cZ rfl mm_ rfl) rfl ?_)
 refine ae (RunV.join_i64 6 64 rfl rfl bJ z2_ z2_ z2_ z2_ z2_ z2_) rfl ?_
 refine ae (cx (64*c+t).toNat ib rfl z2_) rfl ?_
 refine Ru 1 rfl (Nk [5,4,2,1] rfl (aw (Sr (Ru 1 rfl (ae (aq j7 rfl mm_ rfl) rfl ?_)))))
 refine a_ (cj [(5,.int .u8 ((UInt8.ofNat (tagN c t k)).toNat:Int))] [(4,_),(1,_)] ⟨rfl,rfl,trivial⟩ ?_ ?_)
 ·refine Cs rfl (fun hc2=>?_) fun hc2=>?_
  ·refine Rg (Ru 1 rfl (ae (RunV.or32 (64*c+t).toNat rfl z2_ z2_) rfl ?_))
   refine Ru 1 rfl (a_ (⟨rfl,rfl,?_⟩))
   repeat (first|exact trivial|refine⟨rfl,?_⟩|refine⟨(by exact cm (by cases k<;>first|rfl|simp_all)),?_⟩)
  refine ax (⟨rfl,rfl,?_⟩)
  repeat (first|exact trivial|refine⟨rfl,?_⟩|refine⟨(by exact cm (by cases k<;>first|rfl|simp_all)),?_⟩)
 refine Sr (Ru 1 rfl (ct cP mC rfl rfl rfl rfl rfl (fun b3=>?_)))
 refine Ru 1 rfl (a_ (aw (Sr (Ru 2 rfl (a_ (Cs rfl (fun hc4=>?_) fun hc4=>?_))))))
 ·refine Sr (Ru 2 rfl (ae (cx n ib rfl rfl) rfl ?_))
  refine ct cP mC rfl rfl rfl rfl rfl (fun b5=>?_)
  refine JL.rowB (b:=b3) dl_ ?_
  refine bV cP rfl rfl aW rfl dl_ dl_ rfl (rfl) z4_ rfl rfl (fun a6 c6 xs6 hC6 hN6=>?_)
  obtain rfl:=hC6.u8
  refine Ru 1 rfl (Nk [4,6,1] rfl ?_)
  rw [← gB z2_];exact dm ⟨_,[_],_,(au rfl rfl),.cons .here .nil,_,rfl,_,_,rfl,rfl⟩
 refine ax (Kp [6,4,1] rfl (Sr (Ru 1 rfl (a_ (aw (aE (bC (fun t_ S_ h_ L_=>∃ (j:Nat),t_=7-j∧S_=[(1,.int .i64 n),(6,.slice (some ⟨b3,0,none⟩) 1 1),(7,.int .i64 j)]∧h=h_∧L_=[.blk b3 5 [.int .u8 ((UInt8.ofNat (tagN c t k)).toNat:Int)],.blk b1 31 [.int .i64 c,.int .i64 t,.bool k,.slice a bs.length ca,.slice b ks.length cb]]∧(1≤j∧j≤nby n)) ⟨_,_,?_,⟨1,rfl,rfl,rfl,rfl,⟨by omega,by omega⟩⟩⟩ ?_)))))))
 ·exact z7_
 rintro _ _ _ _ ⟨j,rfl,rfl,rfl,rfl,hj,hj2⟩
 have hgt:=nby_gt n j hn hj hj2
 refine aw (Sr (Ru 2 rfl (ae im rfl ?_)))
 refine ae (RunV.shr rfl rfl z2_ (by show _≤((64:Nat):Int);omega)) rfl ?_
 rw [lD n j _ rfl]
 refine Ru 1 rfl (a_ (Cs rfl (fun hc7=>?_) fun hc7=>?_))
 ·refine ax (aE (Rg (Ru 1 rfl (ae ai_ rfl ?_))))
  refine Ru 1 rfl (a_ (⟨_,?_,_,?_,⟨j+1,rfl,rfl,rfl,rfl,⟨by omega,by omega⟩⟩⟩))
  ·omega
  exact z7_
 refine bx (Kp [1,6,7] rfl (Sr (Ru 2 rfl (ae ai_ rfl ?_))))
 refine ae (cx (128+j) ib rfl z2_) rfl ?_
 refine ct cP mC rfl rfl rfl rfl rfl (fun b8=>?_)
 refine JL.rowB (b:=b3) dl_ ?_
 refine bV cP rfl rfl aW rfl dl_ dl_ rfl (rfl) z4_ rfl rfl (fun a9 c9 xs9 hC9 hN9=>?_)
 obtain rfl:=hC9.u8
 refine Ru 1 rfl (Nk [6,1,7] rfl (aw (aE (bC (fun t_ S_ h_ L_=>∃ (j:Nat) (out:List UInt8) (a9:Option Addr) (q:Nat),t_=7+j∧S_=[(1,.int .i64 n),(6,.slice a9 out.length q),(7,.int .i64 j)]∧h=h_∧L_=[.row a9 q 5 1 out.length (u8s out),.blk b1 31 [.int .i64 c,.int .i64 t,.bool k,.slice a bs.length ca,.slice b ks.length cb]]∧(j≤nby n∧out.length≤10-j∧headB c t k n=out++be j n)) ⟨_,_,?_,⟨j,_,_,_,rfl,rfl,rfl,rfl,⟨by omega,by simp;omega,by have hjn:j=nby n:=z2_;rw [hjn];exact s7 z2_⟩⟩⟩ ?_))))
 ·exact gp
 rintro _ _ _ _ ⟨j,out,a9,q,rfl,rfl,rfl,rfl,hj,hol,he⟩
 refine aw (Sr (Ru 2 rfl (a_ (Cs rfl (fun hc10=>?_) fun hc10=>?_))))
 ·obtain⟨i,rfl⟩:∃ i,j=i+1:=⟨j-1,by omega⟩
  refine ax (aw (aE (Rg (Ru 3 rfl (ae si_ rfl ?_)))))
  refine ae im rfl ?_
  refine ae (RunV.shr rfl rfl z2_ (by show _≤((64:Nat):Int);omega)) rfl ?_
  rw [lD n i _ z2_]
  refine ae (cx (n / 256 ^ i) ib rfl rfl) rfl ?_
  refine ct cP mC rfl rfl rfl rfl rfl (fun b11=>?_)
  refine bV cP rfl rfl aW rfl dl_ dl_ rfl (rfl) z4_ rfl rfl (fun a12 c12 xs12 hC12 hN12=>?_)
  obtain rfl:=hC12.u8
  refine Ru 1 rfl (a_ (Rg (Ru 1 rfl (ae si_ rfl ?_))))
  refine Ru 1 rfl (a_ (⟨_,?_,_,?_,⟨i,_,_,_,rfl,rfl,rfl,rfl,⟨by omega,by simp;omega,by rw [he,be,List.append_assoc];rfl⟩⟩⟩))
  ·omega
  exact gp
 refine bx (Kp [6] rfl (Sr (Ru 2 rfl (a_ ?_))))
 (have hj0:j=0:=z2_);subst hj0;rw [show out=headB c t k n from by rw [he];simp [be]];exact dm ⟨_,[_],_,(au rfl rfl),.cons .here .nil,_,rfl,_,_,rfl,rfl⟩
end
section
open Go Go.RowKit Go.ChangeShapes Go.WideShapes Go.Lib
set_option maxRecDepth 100000
theorem jk:Tryz.prog.cellsOf 5=1:=by kernel_rfl
theorem nR:Tryz.prog.cellsOf 3=1:=by kernel_rfl
theorem sm:Tryz.prog.cellsOf 4=1:=by kernel_rfl
theorem ke:Tryz.prog.cellsOf 25=1:=by kernel_rfl
theorem pI:Tryz.prog.cellsOf 29=1:=by kernel_rfl
theorem lf:Tryz.prog.cellsOf 31=5:=by kernel_rfl
theorem bytes_u8:0<Tryz.prog.bytesOf 5:=by rw [show Tryz.prog.bytesOf 5=1 by kernel_rfl];decide
theorem sn:0<Tryz.prog.bytesOf 31:=by rw [show Tryz.prog.bytesOf 31=72 by kernel_rfl];decide
theorem sum_sz (l:List Nd):(l.map Nd.sz).sum=Nd.szL l:=by
 induction l with
 |nil=>rfl
 |cons x r ih=>simp [Nd.szL,ih]
theorem sum_one {α:Type}(l:List α):(l.map fun _=>1).sum=l.length:=by
 induction l with
 |nil=>rfl
 |cons x r ih=>simp [ih];omega
theorem jO (n:Nat):Opens Tryz.prog (n+1) 25 (slR u8R 1) 1 (fun l=>(l.map fun _=>1).sum+1):=dQ Tryz.underlying25 jk bJ bytes_u8 (opens_u8 Tryz.underlying5)
theorem opens_nd:∀ n,Opens Tryz.prog n 31 NdR 5 Nd.sz:=by
 intro n
 induction n using Nat.strongRecOn with
 |_ n ih =>
  intro H enc W cs x h hw
  obtain⟨xs,m,rfl,rfl,hl,hxl,hall⟩:=DataW.trod_struct Tryz.underlying31 h
  rw [lf] at hl
  match cs,hl with
  |[v0,v1,v2,v3,v4],_ =>
  match xs,hxl with
  |[x0,x1,x2,x3,x4],_ =>
  have h0:DataW.trod enc Tryz.prog W 0 (fun _=>true) true m 3 ((List.drop 0 [v0,v1,v2,v3,v4]).take (Tryz.prog.cellsOf 3))=some x0:=hall 0 _ rfl
  rw [nR] at h0
  change DataW.trod enc Tryz.prog W 0 (fun _=>true) true m 3 [v0]=some x0 at h0
  have h1:DataW.trod enc Tryz.prog W 0 (fun _=>true) true m 3 ((List.drop 1 [v0,v1,v2,v3,v4]).take (Tryz.prog.cellsOf 3))=some x1:=hall 1 _ rfl
  rw [nR] at h1
  change DataW.trod enc Tryz.prog W 0 (fun _=>true) true m 3 [v1]=some x1 at h1
  have h2:DataW.trod enc Tryz.prog W 0 (fun _=>true) true m 4 ((List.drop 2 [v0,v1,v2,v3,v4]).take (Tryz.prog.cellsOf 4))=some x2:=hall 2 _ rfl
  rw [sm] at h2
  change DataW.trod enc Tryz.prog W 0 (fun _=>true) true m 4 [v2]=some x2 at h2
  have h3:DataW.trod enc Tryz.prog W 0 (fun _=>true) true m 25 ((List.drop 3 [v0,v1,v2,v3,v4]).take (Tryz.prog.cellsOf 25))=some x3:=hall 3 _ rfl
  rw [ke] at h3
  change DataW.trod enc Tryz.prog W 0 (fun _=>true) true m 25 [v3]=some x3 at h3
  have h4:DataW.trod enc Tryz.prog W 0 (fun _=>true) true m 29 ((List.drop 4 [v0,v1,v2,v3,v4]).take (Tryz.prog.cellsOf 29))=some x4:=hall 4 _ rfl
  rw [pI] at h4
  change DataW.trod enc Tryz.prog W 0 (fun _=>true) true m 29 [v4]=some x4 at h4
  simp only [DataW.weights,Tryz.underlying31,List.map_cons,List.map_nil,DataW.weightsEach,List.all_append,Bool.and_eq_true,List.append_nil] at hw
  obtain⟨w0,w1,w2,w3,w4⟩:=hw
  cases m with
  |zero=>simp [DataW.trod] at h0
  |succ m =>
   obtain⟨c,e0,rfl,_⟩:=DataW.trod_int Tryz.underlying3 h0
   obtain⟨t,e1,rfl,_⟩:=DataW.trod_int Tryz.underlying3 h1
   obtain⟨k,e2,rfl⟩:=DataW.trod_bool Tryz.underlying4 h2
   cases e0
   cases e1
   cases e2
   obtain⟨bs,_,⟨a,ca,e3,hb⟩,hm3⟩:=jO m enc W _ _ h3 w3
   obtain⟨ks,_,⟨b,cb,e4,hk⟩,hm4⟩:=dQ Tryz.underlying29 lf bJ sn (ih m z2_) enc W _ _ h4 w4
   cases e3
   cases e4
   refine⟨.mk c t k bs ks,rfl,cR hb hk,?_⟩
   simp only [sum_one] at hm3
   simp only [sum_sz] at hm4
   simp only [Nd.sz,Rows.uptoBulk,List.map_cons,List.map_nil,Rows.uptoBulkAll]
   omega
section
variable {H:Type}{enc:TypeId×Value→H}{W:World}{base:Nat}{v:Value}{d:DataW H}{ps:List MemPlace}
theorem arg_node (hval:Value.okWide Tryz.prog W .any base 31 v) (hd:DataW.Trod enc Tryz.prog W 0 (fun _=>true) true 31 v d ps) (hw:(d.weights Tryz.prog 31).all (·≤reachBytes)=true) :
 ∃ cs x,v=.agg (List.toArray cs)∧NdR (partOf W) cs x∧x.sz≤Rows.uptoBulk d:=by
 simp only [Value.okWide,Tryz.underlying31] at hval
 obtain⟨cs,rfl,_,_⟩:=hval
 obtain⟨n,hn⟩:=hd
 obtain⟨x,_,hx,hs⟩:=opens_nd n enc W _ _ hn hw
 exact⟨cs.toList,x,by simp,hx,hs⟩
end
theorem tabs_laid {W : World} {l : List (String × DataW Unit)} (h : laidMet Tryz.prog l W) (m3 : ("unicode/utf8.first", Go.Pinned.utf8First) ∈ l) (m4 : ("unicode/utf8.acceptRanges", acceptData) ∈ l) : Tabs (partOf W) := by
 obtain⟨g,t,cs,fuel,p,hg,hty,hvar,hd⟩:=laidMet.reads h m3
 obtain rfl := Option.some.inj ((show Tryz.prog.globalNamed "unicode/utf8.first" = some 1 by kernel_rfl).symm.trans hg)
 obtain rfl:=Option.some.inj ((show(Tryz.prog.globals[1]?).map (·.type)=some 304 by kernel_rfl).symm.trans hty)
 rw [show Go.Pinned.utf8First=firstData by kernel_rfl] at hd
 have hcs:=cells_of_tab Tryz.underlying304 Tryz.underlying5 jk cY hd
 have h1:∀ c,c<256→W.cell? ⟨1,c,none⟩=some (.int .u8 (firstT c)):=fun c hc=>by
  rw [World.var?_cell hg hvar c,← Array.getElem?_toList,hcs]
  simp [firstTab,hc]
 obtain⟨g,t,cs,fuel,p,hg,hty,hvar,hd⟩:=laidMet.reads h m4
 obtain rfl := Option.some.inj ((show Tryz.prog.globalNamed "unicode/utf8.acceptRanges" = some 2 by kernel_rfl).symm.trans hg)
 obtain rfl:=Option.some.inj ((show(Tryz.prog.globals[2]?).map (·.type)=some 307 by kernel_rfl).symm.trans hty)
 have h2:∀ i,i<16→W.cell? ⟨2,2*i,none⟩=some (.int .u8 (accLo i))∧W.cell? ⟨2,2*i+1,none⟩=some (.int .u8 (accHi i)):=fun i hi=>by
  obtain⟨fuel',d,q,hdi,he⟩:=array_elem Tryz.underlying307 hd i hi
  simp only [List.getElem?_map,List.getElem?_range hi,Option.map_some,ay] at hdi
  subst hdi
  have hc2:Tryz.prog.cellsOf 306=2:=by kernel_rfl
  rw [hc2] at he
  have hcs:=ints_of_struct Tryz.underlying306 (fun j f hj=>by
   match j,hj with
   |0,hj=>simp at hj;subst hj;exact⟨Tryz.underlying5,rfl,jk⟩
   |1,hj=>simp at hj;subst hj;exact⟨Tryz.underlying5,rfl,jk⟩
   |j+2,hj=>simp at hj) (by rw [hc2];rfl) he
  have e0:=congrArg (·[0]?) hcs
  have e1:=congrArg (·[1]?) hcs
  simp only [List.getElem?_take,List.getElem?_drop] at e0 e1
  constructor
  ·rw [World.var?_cell hg hvar (2*i),← Array.getElem?_toList]
   simpa [Nat.mul_comm] using e0
  ·rw [World.var?_cell hg hvar (2*i+1),← Array.getElem?_toList]
   simpa [Nat.mul_comm] using e1
 obtain⟨C1,k1,_⟩:=eJ (h1 0 bJ)
 obtain⟨C2,k2,_⟩:=eJ (h2 0 bJ).1
 have same:∀ {b i v C},partOf W b=some C→W.cell? ⟨b,i,none⟩=some v→C[i]?=some v:=fun hC hv=>by
  obtain⟨C',hC',hi⟩:=eJ hv
  rw [hC] at hC'
  cases hC'
  exact hi
 exact⟨C1,C2,k1,k2,fun c hc=>same k1 (h1 c hc),fun i hi=>⟨same k2 (h2 i hi).1,same k2 (h2 i hi).2⟩⟩
theorem finish {H:Type}{enc:TypeId×Value→H}{ts:List TypeId}{F:Nat}{f:Func}{s:ChangeSpec}{apart fresh handsOn again:Bool}{W:World}{args:Array Value}{ds gs:List (DataW H)}{before:List MemPlace}(hp:plainB Tryz.prog ts=true) (hts:∀ t∈f.params.toList,t∈ts) (hres:f.resultTypes=#[4]) (hv:s.vars=[])
 (hfn:s.fn H (ds++gs)={ results:=[.lit (.bool true)],args:=ds }) (hW:DataW.Whole enc Tryz.prog f.params.toList s.vars apart W args.toList ds gs before) (hF:Pure Tryz.prog F args.toList (partOf W) (.bool true)) :
 Calls Tryz.prog F args W fun e W'=>∃ v,e=.returned v∧s.post enc Tryz.prog f apart fresh handsOn again W args v W':=by
 have:=hF W (ok_start W)
 rw [Array.toArray_toList] at this
 refine this.mono fun e w' ⟨h',Lo,⟨u,he,hu,_,_⟩,hO⟩=>?_
 subst hu
 exact⟨.bool true,he,post_keep hp hts hres Tryz.underlying4 hv hfn hW hO.os hO.output hO.size (fun b hb=>hO.old b hb (by simp [keys]))⟩
def layCells (cs:List Value):Obj→Obj
 |.cells _ t frozen=>.cells cs.toArray t frozen
 |o=>o
noncomputable def laidWorld (os:Os):World :=
 { World.holding Tryz.prog os ⟨#[],#[],[]⟩ with heap:=((World.holding Tryz.prog os ⟨#[],#[],[]⟩).heap.modify 1 (layCells (firstTab.map fun z=>Value.int .u8 z))).modify 2 (layCells ((List.range 16).flatMap fun i=>[Value.int .u8 (accLo i),Value.int .u8 (accHi i)])) }
end
section
abbrev bT:=@Int.natCast_mul
theorem m8 {z:Array Value}{z0:Value}(hz:z=#[z0]) (n:Nat):madeCells z n=(List.replicate n z0).toArray:=by
 subst hz
 apply Array.ext
 ·simp [madeCells]
 ·intro i h1 h2
  simp [madeCells,Nat.mod_one]
def mkT (P:Program) (T:Nat):Option (Nat×Value×Nat) :=
 match P.underlying T with
 |some (.slice e)=>match P.info? e with
  |some i=>match i.zero with
   |some z=>match z.cells.toList with
    |[z0]=>if i.size=1 then some (e,z0,i.bytes) else none
    |_=>none
   |none=>none
  |none=>none
 |_=>none
theorem mkT_spec {P:Program}{T e bytes:Nat}{z0:Value}(h:mkT P T=some (e,z0,bytes)):P.underlying T=some (.slice e)∧∃ i z,P.info? e=some i∧i.zero=some z∧z.cells=#[z0]∧i.size=1∧i.bytes=bytes:=by
 unfold mkT at h
 split at h<;>try cases h
 rename_i e' hT
 split at h<;>try cases h
 rename_i i hi
 split at h<;>try cases h
 rename_i z hz
 split at h<;>try cases h
 rename_i z1 hzc
 split at h<;>cases h
 rename_i hs
 exact⟨hT,i,z,hi,hz,by apply Array.ext';simpa using hzc,hs,rfl⟩
section
variable {f:Fr}{n:Post}{x:Nat→Post}{S:Sig}{h:Part}{L L':List Ent}{ops:Array Oper}{rest:List Oper}
variable {ty:TypeId}{pos:String}{af:Array Edge}{d:Nat}{v:Value}{T:TypeId}{xo yo:Operand}
theorem JL.make1 {e bytes m:Nat}{z0:Value}{k1 k2:IntKind}{p q:Int}(hT:mkT f.P T=some (e,z0,bytes)) (hx:ev S xo=some (.int k1 p)) (hy:ev S yo=some (.int k2 q)) (hp:p=(m:Int)) (hq:q=(m:Int)) (hb:bytes*m≤140737488355328) (hb1:Nat.blt 0 bytes=true) (hd:Nat.blt d f.m=true)
 (k:∀ b,JL f ops n x rest ((d,.slice (some ⟨b,0,none⟩) m m)::S) h (.row (some ⟨b,0,none⟩) m e 1 m (List.replicate m z0)::L)) :
 JL f ops n x (⟨some d,.makeSlice T xo yo,ty,pos,af,none⟩::rest) S h L:=fun a w s=>by
 subst hp hq
 obtain⟨hu,i,z,hi,hz,hzc,hs,hby⟩:=mkT_spec hT
 have hb1':0<bytes:=by simpa using hb1
 have hmb:m≤bytes*m:=Nat.le_mul_of_pos_left _ hb1'
 have hbi:(i.bytes:Int)*(m:Int)≤281474976710656:=by
  rw [hby]
  have:((bytes*m:Nat):Int)≤281474976710656:=by omega
  rwa [bT] at this
 have hr:=run_make (P:=f.P) w T e i z hu hi hz k1 k2 (m:Int) (m:Int) z2_ (Int.le_refl _) hbi z2_
 simp only [Int.toNat_natCast,hs,Nat.mul_one,m8 hzc] at hr
 have hok:=(s.ok.alloc e (List.replicate m z0)).toRow (m:=m) (sz:=1) (by simp) (by simp only [maxLen];omega)
 refine cL (v:=.slice (some ⟨w.heap.size,0,none⟩) m m) (w':=w.alloc (.cells (List.replicate m z0).toArray e)) rfl ?_ (k w.heap.size _ _ (s.put hd _ hok))
 simp [execOp,s.eval hx,s.eval hy,hr]
theorem JL.rowL {b t:Nat}{cs:List Value}{l:List UInt8}(u:Del (.blk b t cs) L L') (hc:cs=u8s l) (hl:l.length≤140737488355328) (k:JL f ops n x rest S h (.row (some ⟨b,0,none⟩) l.length t 1 l.length (u8s l)::L')):JL f ops n x rest S h L:=fun ac w s=>by
 subst hc
 exact k ac w (s.with ((s.ok.perm u.perm).toRow (m:=l.length) (sz:=1) (by simp [u8s]) (by simp only [maxLen];omega)))
theorem iV (m:Nat):List.replicate m (Value.int .u8 0)=u8s (List.replicate m 0):=by simp [u8s]
theorem RunV.index_at {e g ln c m:Nat}{k:IntKind}{i:Int}(hT:slT f.P T=some (e,1)) (hx:ev S xo=some (.slice (some ⟨g,0,none⟩) ln c)) (hy:ev S yo=some (.int k i)) (hi:i=(m:Int)) (h1:m<ln) :
 RunV f S h L (.indexAddr T xo yo) ty (.pointer (some ⟨g,m,none⟩)):=fun ac w s _ _ _ _=>by
 subst hi
 obtain⟨hu,inf,hi,hs⟩:=fp hT
 have h0:(0:Int)≤m:=by omega
 have h2:(m:Int)<ln:=by omega
 simp [execOp,s.eval hx,s.eval hy,Instr.indexAt,run_underlying hu,asIntOf,sizeOf,typeInfo,hi,hs,h1,Addr.add_lit]
theorem qe {w:World}{g c t m i:Nat}{xs:List Value}(hk:Ok f.e h L w) (hm:Ent.row (some ⟨g,0,none⟩) c t 1 m xs∈L) (hi:i<xs.length):w.cell? ⟨g,i,none⟩=xs[i]?:=by
 have hown:w.ownsRow 0 t 1 (.slice (some ⟨g,0,none⟩) m c) m xs:=hk.own _ hm
 have:=World.ownsRow.cells (g:=g) hown rfl i xs[i] (aP hi)
 rw [Addr.add_lit,Nat.zero_add] at this
 rw [this,aP hi]
theorem RunV.rowload {g c t m i:Nat}{xs:List Value}(hT:aggT f.P T=some none) (hx:ev S xo=some (.pointer (some ⟨g,i,none⟩))) (hm:Ent.row (some ⟨g,0,none⟩) c t 1 m xs∈L) (hv:xs[i]?=some v):RunV f S h L (.load T xo) ty v:=fun ac w s _ _ _ _=>by
 have hc:w.cell? ⟨g,i,none⟩=some v:=by rw [qe s.ok hm (List.getElem?_eq_some_iff.1 hv).1,hv]
 simp [execOp,s.eval hx,Instr.loadAt,Instr.sureAddr,loadVar,(ee hT w).1,load,Sem.run,hc]
theorem JL.storeRow {g c t m i:Nat}{xs:List Value}(hT:aggT f.P T=some none) (hx:ev S xo=some (.pointer (some ⟨g,i,none⟩))) (hy:ev S yo=some v) (hv:v.oneCell'=true) (u:Del (.row (some ⟨g,0,none⟩) c t 1 m xs) L L') (hi:i<xs.length)
 (k:JL f ops n x rest S h (.row (some ⟨g,0,none⟩) c t 1 m (xs.set i v)::L')):JL f ops n x (⟨none,.store T xo yo,ty,pos,af,none⟩::rest) S h L:=fun a w s=>by
 have okp:=s.ok.perm u.perm
 have hown:w.ownsRow 0 t 1 (.slice (some ⟨g,0,none⟩) m c) m xs:=okp.own _ (aF ..)
 have hcell:w.cell? ⟨g,i,none⟩=some xs[i]:=by rw [qe s.ok u.mem hi,aP hi]
 rcases hown.2 with ⟨hvv,_⟩|⟨g',cap,cur,hvv,hbg,hg,h1,h2,h3,h4⟩
 ·cases hvv
 ·injection hvv with e1 e2 e3
  injection e1 with e1
  injection e1 with e1
  subst e1 e3
  have hxl:xs.length=m:=by simpa using hown.1
  have hf:=frozen_of_row w g i _ t hg
  have e1:w.setCell ⟨g,i,none⟩ v=w.setRow g (cur.setIfInBounds i v):=setCell_eq_setRow w g i _ t _ v hg
  have hok:Ok f.e h (.row (some ⟨g,0,none⟩) c t 1 m (xs.set i v)::L') (w.setRow g (cur.setIfInBounds i v)):=by
   refine okp.turn rfl rfl rfl (by simp) (fun b' _ hne=>setRow_other w g b' _ (fun e=>hne (by rw [e];rfl))) ?_ (fun b' hb'=>.inl hb')
   refine⟨by simpa using hown.1,.inr ⟨g,c,_,rfl,hbg,setRow_heap w g _ _ t _ hg,h1,h2,by simpa using h3,?_⟩⟩
   have h4':cur.toList.take m=xs:=by simpa using h4
   simp only [Nat.mul_one,Array.toList_setIfInBounds]
   rw [List.take_set,h4']
  refine fe (w':=w.setRow g (cur.setIfInBounds i v)) rfl ?_ (k _ _ (s.with hok))
  have hcells:v.cells=#[v]:=by cases v<;>first|rfl|(simp [Value.oneCell'] at hv)
  have hst:(store (Addr.add ⟨g,i,none⟩ 0) v).run f.P w=.ok () (w.setRow g (cur.setIfInBounds i v)):=by
   rw [Addr.add_zero',run_store f.P w _ v _ hv,hcell,← e1];simp [hf]
  simp [execOp,s.eval hx,s.eval hy,Instr.storeAt,Instr.sureAddr,storeVar,(ee hT w).2,hcells,storeCells,hst]
end
end
section
end
section
section
variable {f:Fr}{n:Post}{x:Nat→Post}{S:Sig}{h:Part}{L L':List Ent}{ops:Array Oper}{rest:List Oper}
variable {ty:TypeId}{pos:String}{af:Array Edge}{d:Nat}{v:Value}{T:TypeId}{xo yo:Operand}
theorem RunV.ownSub {b t o sz:Nat}{cs:List Value}(hT:aggT f.P T=some (some sz)) (hx:ev S xo=some (.pointer (some ⟨b,o,none⟩))) (hm:Ent.blk b t cs∈L) (ho:o+sz≤cs.length):RunV f S h L (.load T xo) ty (.agg ((cs.drop o).take sz).toArray):=fun ac w s _ _ _ _=>by
 have hcl:((cs.drop o).take sz).length=sz:=by simp;omega
 have hld:(loadCells ⟨b,o,none⟩ ((cs.drop o).take sz).length).run f.P w=.ok ((cs.drop o).take sz).toArray w:=run_loadCells_list (P:=f.P) w ⟨b,o,none⟩ _ (fun j u hu=>by
  have hlt:j<sz:=by have:=(List.getElem?_eq_some_iff.1 hu).1;omega
  rw [Addr.add_lit,jl s.ok hm]
  rw [List.getElem?_take,if_pos hlt,List.getElem?_drop] at hu
  simpa using hu)
 rw [hcl] at hld
 simp [execOp,s.eval hx,Instr.loadAt,Instr.sureAddr,loadVar,(ef hT w).1,(ef hT w).2,hld]
end
end
section
section
variable {f:Fr}{n:Post}{x:Nat→Post}{S:Sig}{h:Part}{L L':List Ent}{ops:Array Oper}{rest:List Oper}
variable {ty:TypeId}{pos:String}{af:Array Edge}{d:Nat}{v:Value}{T:TypeId}{xo yo:Operand}
def arZ (P:Program) (T:Nat):Option (List Value×Nat) :=
 match P.info? T,P.underlying T with
 |some it,some (.array _ e)=>match it.zero,P.info? e with
  |some z,some ie=>some (z.cells.toList,ie.size)
  |_,_=>none
 |_,_=>none
theorem RunV.buildArr {zs cs:List Value}{vs:List (Nat×Value)}{ps:List (Nat×Operand)}(hT:arZ f.P T=some (zs,1)) (hp:evs S ps=some vs) (hv:(vs.all fun p=>p.2.oneCell'&&Nat.blt p.1 zs.length)=true) (hf:fill1 zs vs=cs) :
 RunV f S h L (.build T ps.toArray) ty (.agg cs.toArray):=fun a w s _ _ _ _=>by
 have hb:f.P.built T vs=some cs.toArray:=by
  unfold arZ at hT
  unfold Program.built
  split at hT<;>try cases hT
  rename_i it nn e hi hu
  split at hT<;>try cases hT
  rename_i z ie hz hie
  simp only [ay,Prod.mk.injEq] at hT
  obtain⟨rfl,h1⟩:=hT
  simp only [hi,hu,hz,hie,h1]
  have:=mg vs _ hv
  rw [hf] at this
  simpa using this
 have hm:Array.map (fun p:Nat×Operand=>(p.1,a.eval p.2)) ps.toArray=vs.toArray:=by simp [ia s hp]
 have:=run_build (P:=f.P) w T vs.toArray cs.toArray (by simpa using hb)
 simp [execOp,hm,this]
end
end
section
def JH (f:Fr) (ops:Array Oper) (n:Post) (x:Nat→Post) (h0:Part) (L0:List Ent) (fuel:Nat) (listed:Array Bool):Post:=fun S h L =>
 ∀ a w,Sat f.e f.m S h L a w→wpAnyH f.P .any ops (f.Q n x) (fun w=>Ok f.e h0 L0 w) fuel listed a w
theorem Ok.bridge {e:Env}{h h0:Part}{Li L Lr:List Ent}(p:Parts Li L Lr) (hle:h0.le h) (h00:e.h0.le h0) (w:World) (k:Ok e h L w):Ok e h0 Li w:=(p.ok w k).shrink hle h00
section
variable {f:Fr}{n:Post}{x:Nat→Post}{S:Sig}{h h0:Part}{L L0:List Ent}{ops:Array Oper}{fuel i j d:Nat}{listed:Array Bool}
variable {q:Op}{ty:TypeId}{pos:String}{af:Array Edge}{v:Value}{o o2:Oper}
theorem J.held {id:Nat}{l:List Oper}(L0:List Ent) (N:Nat) (hm:f.P.follows .mixedOrders=true) (hN:l.length=N) (k:f.e.h0.le h→JH f l.toArray n x h L0 N (Array.replicate N false) S h L):J f (.region id l.toArray true) n x S h L:=fun a w s=>by
 subst hN
 refine wp_region_held (S:=fun w=>Ok f.e h L0 w) hm ?_
 have:=k s.ok.le a { w with drawn:=w.drawn+1 } (s.with (s.ok.drawn _))
 simpa using this
theorem JH.take (i:Nat) (hi:ops[i]?=some ⟨some d,q,ty,pos,af,none⟩) (hs:Region.noSelect ops=true) (hf:Region.free .any ops listed i=true) (hr:(Region.ready .any ops listed).contains i=true)
 (hp:∀ c S h L,f.p c S h L→f.p c [] h L) (hb:∀ w,Ok f.e h L w→Ok f.e h0 L0 w) (r:RunV f S h0 L0 q ty v) (hd:Nat.blt d f.m=true) (k:JH f ops n x h0 L0 fuel (listed.setIfInBounds i true) ((d,v)::S) h L) :
 JH f ops n x h0 L0 (fuel+1) listed S h L:=fun a w s=>by
 refine wpAnyH_take (v:=v) hi hs hf hr (fun c a w hq=>?_) ?_ (hb w s.ok) (k _ w (s.put hd v s.ok))
 ·obtain⟨S',h',L',s',k'⟩:=hq
  refine⟨[],h',L',⟨?_,fun s v hv=>by simp [look] at hv,?_,s'.ok⟩,hp _ _ _ _ k'⟩
  ·have:=s'.size;simpa [Act.put] using this
  ·have:=s'.ds;simpa [Act.put] using this
 ·exact .inl ⟨by simp [Region.wanted],fun w' hw'=>r a w' (s.with hw') _ _ _ _⟩
theorem JH.takeE {V:Value→Prop}(i:Nat) (hi:ops[i]?=some ⟨some d,q,ty,pos,af,none⟩) (hs:Region.noSelect ops=true) (hf:Region.free .any ops listed i=true) (hr:(Region.ready .any ops listed).contains i=true)
 (hp:∀ c S h L,f.p c S h L→f.p c [] h L) (hb:∀ w,Ok f.e h L w→Ok f.e h0 L0 w) (r:RunE f S h0 L0 q ty V) (hd:Nat.blt d f.m=true) (k:∀ v,V v→JH f ops n x h0 L0 fuel (listed.setIfInBounds i true) ((d,v)::S) h L) :
 JH f ops n x h0 L0 (fuel+1) listed S h L:=by
 obtain⟨v,r,hv⟩:=r
 exact JH.take i hi hs hf hr hp hb r hd (k v hv)
theorem pR {P:Program}{o:Oper}{a:Act}{w:World}{K K':Act→World→Prop}{Q Q':Exit→Act→World→Prop}(hK:∀ a w,K a w→K' a w) (hp:∀ c a w,Q (.panic c) a w→Q' (.panic c) a w) (ho:∀ a w,¬ Q .outgrown a w) (hh:o.wp P a w K Q):o.wp P a w K' Q':=by
 unfold Oper.wp at *
 generalize (execOp a.eval o).run P w=r at *
 cases r with
 |ok n w' =>
  cases n<;>simp only [Oper.upon] at hh ⊢ <;>
   first
    |exact hK _ _ hh
    |exact Calls.mono hh (fun e w'' he=>by cases e<;>first|exact hK _ _ he|exact hp _ _ _ he|exact(let ⟨a1,w1,h1⟩:=he;(ho a1 w1 h1).elim))
    |exact Rows.mono hh (fun _ _ he=>hK _ _ he)
    |exact hh
 |halt x w'=>cases x<;>simp only [Oper.upon] at hh ⊢<;>first|exact hp _ _ _ hh|exact(let ⟨a1,w1,h1⟩:=hh;(ho a1 w1 h1).elim)|exact hh
def One (f:Fr) (ops:Array Oper) (n:Post) (x:Nat→Post) (h0:Part) (L0:List Ent) (fuel:Nat) (listed:Array Bool) (i:Nat) (o:Oper):Post:=fun S h L =>
 JL f ops (fun S' h' L'=>(∀ w,Ok f.e h' L' w→Ok f.e h0 L0 w)∧JH f ops n x h0 L0 fuel (listed.setIfInBounds i true) S' h' L') x [o] S h L
theorem One.wp (hi:ops[i]?=some o) (k:One f ops n x h0 L0 fuel listed i o S h L) (a:Act) (w:World) (s:Sat f.e f.m S h L a w) :
 wpOp f.P ops (f.Q n x) i (fun a' w'=>Ok f.e h0 L0 w'∧wpAnyH f.P .any ops (f.Q n x) (fun w=>Ok f.e h0 L0 w) fuel (listed.setIfInBounds i true) a' w') a w:=by
 have hk:=k a w s
 have fin:∀ a w,(f.Q (fun S' h' L'=>(∀ w,Ok f.e h' L' w→Ok f.e h0 L0 w)∧JH f ops n x h0 L0 fuel (listed.setIfInBounds i true) S' h' L') x) .normal a w→Ok f.e h0 L0 w∧wpAnyH f.P .any ops (f.Q n x) (fun w=>Ok f.e h0 L0 w) fuel (listed.setIfInBounds i true) a w:=fun a w hq=>by
  obtain⟨S',h',L',s',hb,k'⟩:=hq
  exact⟨hb w s'.ok,k' a w s'⟩
 unfold wpList at hk
 unfold wpOp
 simp only [hi]
 split
 ·rename_i hw
  rw [if_pos hw] at hk
  rcases hk with hk|⟨_,a',w',hh⟩
  ·exact .inl (pR (fun a w hq=>fin a w (by simpa [wpList] using hq)) (fun c a w hq=>hq) (fun a w hh=>hh) hk)
  ·exact hh.elim
 ·rename_i hw
  rw [if_neg hw] at hk
  exact fin _ _ (by simpa [wpList] using hk)
theorem JH.all1 (i:Nat) (hr:Region.ready .any ops listed=[i]) (hi:ops[i]?=some o) (k:One f ops n x h0 L0 fuel listed i o S h L):JH f ops n x h0 L0 (fuel+1) listed S h L:=fun a w s =>
 wpAnyH_all hr (by simp) fun i' hi'=>by
  simp only [List.mem_singleton] at hi'
  subst hi'
  exact k.wp hi a w s
theorem JH.all2 (i j:Nat) (hr:Region.ready .any ops listed=[i,j]) (hi:ops[i]?=some o) (hj:ops[j]?=some o2) (k1:One f ops n x h0 L0 fuel listed i o S h L) (k2:One f ops n x h0 L0 fuel listed j o2 S h L):JH f ops n x h0 L0 (fuel+1) listed S h L:=fun a w s =>
 wpAnyH_all hr (by simp) fun i' hi'=>by
  simp only [List.mem_cons,List.not_mem_nil,or_false] at hi'
  rcases hi' with rfl|rfl
  ·exact k1.wp hi a w s
  ·exact k2.wp hj a w s
theorem JH.done (hr:Region.ready .any ops listed=[]) (k:n S h L):JH f ops n x h0 L0 fuel listed S h L:=fun a w s=>wpAnyH_done hr ⟨S,h,L,s,k⟩ fuel
end
end
section
theorem br_ {e:Env}{h h0:Part}{L Li Lr:List Ent}(h00:e.h0.le h0) (p:Parts Li L Lr:=by repeat first|exact Parts.nil|exact Del.here|apply Del.there|apply Parts.cons) (q:h0.le h:=by first|exact aO _|assumption|(repeat (first|assumption|refine Part.le.trans z5_ ?_))):∀ w,Ok e h L w→Ok e h0 Li w:=Ok.bridge p q h00
section
variable {f:Fr}{n:Post}{x:Nat→Post}{S:Sig}{h h0:Part}{L L0:List Ent}{ops:Array Oper}{fuel d:Nat}{listed:Array Bool}{q:Op}{ty:TypeId}{pos:String}{af:Array Edge}{v:Value}{o:Oper}{j dj:Nat}{b:Bool}
theorem Tk (i:Nat) (hi:ops[i]?=some ⟨some d,q,ty,pos,af,none⟩) (r:RunV f S h0 L0 q ty v) (k:JH f ops n x h0 L0 fuel (listed.setIfInBounds i true) ((d,v)::S) h L) (hb:∀ w,Ok f.e h L w→Ok f.e h0 L0 w:=by exact br_ z5_) (hs:Region.noSelect ops=true:=by kernel_rfl) (hf:Region.free .any ops listed i=true:=by kernel_rfl) (hr:(Region.ready .any ops listed).contains i=true:=by kernel_rfl) (hp:∀ c S h L,f.p c S h L→f.p c [] h L:=by exact fun _ _ _ _ hh=>hh) (hd:Nat.blt d f.m=true:=by rfl):JH f ops n x h0 L0 (fuel+1) listed S h L:=JH.take i hi hs hf hr hp hb r hd k
theorem Te {V:Value→Prop}(i:Nat) (hi:ops[i]?=some ⟨some d,q,ty,pos,af,none⟩) (r:RunE f S h0 L0 q ty V) (k:∀ v,V v→JH f ops n x h0 L0 fuel (listed.setIfInBounds i true) ((d,v)::S) h L) (hb:∀ w,Ok f.e h L w→Ok f.e h0 L0 w:=by exact br_ z5_) (hs:Region.noSelect ops=true:=by kernel_rfl) (hf:Region.free .any ops listed i=true:=by kernel_rfl) (hr:(Region.ready .any ops listed).contains i=true:=by kernel_rfl) (hp:∀ c S h L,f.p c S h L→f.p c [] h L:=by exact fun _ _ _ _ hh=>hh) (hd:Nat.blt d f.m=true:=by rfl):JH f ops n x h0 L0 (fuel+1) listed S h L:=JH.takeE i hi hs hf hr hp hb r hd k
theorem Ta (i:Nat) (hi:ops[i]?=some o) (k:One f ops n x h0 L0 fuel listed i o S h L) (hr:Region.ready .any ops listed=[i]:=by kernel_rfl):JH f ops n x h0 L0 (fuel+1) listed S h L:=JH.all1 i hr hi k
end
end
section
section
variable {f:Fr}{S:Sig}{h:Part}{L:List Ent}{ty T:TypeId}{xo:Operand}
def fld1 (P:Program) (T i:Nat):Option Nat :=
 match P.underlying T with
 |some (.struct fs)=>match fs[i]? with
  |some g=>if aggT P g.type == some none then some g.offset else none
  |none=>none
 |_=>none
theorem RunV.field1 {i o:Nat}{cs:List Value}{v:Value}(hT:fld1 f.P T i=some o) (hx:ev S xo=some (.agg cs.toArray)) (hv:cs[o]?=some v):RunV f S h L (.field T xo i) ty v:=fun a w s _ _ _ _=>by
 unfold fld1 at hT
 split at hT<;>try cases hT
 rename_i fs hu
 split at hT<;>try cases hT
 rename_i g hg
 split at hT<;>cases hT
 rename_i he
 have ⟨e1,e2⟩:=ee (by simpa using he:aggT f.P g.type=some none) w
 simp [execOp,s.eval hx,Instr.field,run_underlying hu,hg,part,e1,hv,asAgg]
end
end
section
theorem z9_ {p:Prop}(u:p:=by first|rfl|exact NdR.len5 z5_):p:=u
theorem od {p:Prop}(u:p:=by repeat (first|exact trivial|refine⟨rfl,?_⟩|refine⟨(by exact cy (by cases k<;>simp_all [okN,Nd.cls,Nd.tag,Nd.cons])),?_⟩)):p:=u
theorem f8 {p:Prop}(u:p:=by first|rfl|assumption|exact NdR.len5 z5_):p:=u
theorem f6 {p:Prop}(u:p:=by first|rfl|exact NdR.all1 z5_):p:=u
theorem z43_ {p:Prop}(u:p:=by repeat (first|exact trivial|refine⟨rfl,?_⟩|refine⟨(by exact cy (by cases kbad<;>simp_all)),?_⟩)):p:=u
end
section
theorem ri:callT Tryz.prog 128=true:=by kernel_rfl
theorem ca_159:callT Tryz.prog 159=true:=by kernel_rfl
theorem nW:callT Tryz.prog 160=true:=by kernel_rfl
theorem ca_161:callT Tryz.prog 161=true:=by kernel_rfl
theorem ca_98:callT Tryz.prog 98=true:=by kernel_rfl
theorem ew:zeroT Tryz.prog 31=some [.int .i64 0,.int .i64 0,.bool false,.slice none 0 0,.slice none 0 0]:=by kernel_rfl
theorem mP {h:Part}{w:World}(s:Sub h w) {a b:Option Addr}{c d:Nat}{l r:List UInt8}(hl:SlR u8R 1 h a c l) (hr:SlR u8R 1 h b d r) :
 (callFunc 179 #[.slice a l.length c,.slice b r.length d]).run Tryz.prog w=.ok (.value (.int .i64 (Go.Lib.compareBytes l r))) w:=by
 rw [run_callFunc_extern Tryz.func179 cY cY cY (e:=Extern.BytealgCompare.compare) cY,mO s hl hr]
 rfl
theorem eO {a b:Option Addr}{c d:Nat}{l r:List UInt8}{h:Part}(hl:SlR u8R 1 h a c l) (hr:SlR u8R 1 h b d r):Pure Tryz.prog 128 [.slice a l.length c,.slice b r.length d] h (.int .i64 (Go.Lib.compareBytes l r)):=by
 refine aG Tryz.func128 rfl Tryz.ntmps128 rfl (fun e he=>?_)
 refine aU [(0,_),(1,_)] ⟨rfl,rfl,trivial⟩ ?_
 refine Sr (Ru 1 rfl (a_ (Sr (Ru 2 rfl (ae (RunV.callX rfl (fun w hw=>mP hw hl hr)) rfl ?_)))))
 exact Ru 1 rfl (Nk [4] rfl (az (au rfl rfl) rfl rfl))
def okN (c t:Int) (k:Bool) (bs:List UInt8) (ks:List Nd):Bool :=
 mayB c t k&&(!(k&&decide (0<bs.length))&&(!(!k&&decide (0<ks.length))&&!(decide (c=0)&&(!k&&!valB t bs))))
def aboveB:Option (List UInt8)→List UInt8→Bool
 |none,_=>false
 |some l,b=>decide (0<Go.Lib.compareBytes l b)
mutual
def Nd.put:Nd→Option (List UInt8)
 |.mk c t k bs ks=>if okN c t k bs ks then(Nd.putL (decide (c=0)&&decide (t=17)) ks none bs).map (fun b=>headB c t k b.length++b) else none
def Nd.putL:Bool→List Nd→Option (List UInt8)→List UInt8→Option (List UInt8)
 |_,[],_,acc=>some acc
 |set,x::r,last,acc=>match Nd.put x with
  |none=>none
  |some b=>if set&&aboveB last b then none else Nd.putL set r (some b) (acc++b)
end
theorem fL (c t:Int) (k:Bool) (n:Nat):2≤(headB c t k n).length∧(headB c t k n).length≤8:=by
 have:=jT n
 unfold headB lenB
 split
 ·simp
 ·simp [ik];omega
theorem Nd.put_len:∀ (n:Nat) (x:Nd) (b:List UInt8),x.rk≤n→x.put=some b→2≤b.length∧b.length≤8*x.sz:=by
 intro n
 induction n with
 |zero=>intro x b hx;cases x;simp [Nd.rk] at hx
 |succ n ih =>
  intro x b hx hb
  cases x with
  |mk c t k bs ks =>
   simp only [Nd.rk] at hx
   have key:∀ (l:List Nd) (set:Bool) (last:Option (List UInt8)) (acc b:List UInt8),Nd.rkL l≤n→Nd.putL set l last acc=some b→b.length≤acc.length+8*Nd.szL l:=by
    intro l
    induction l with
    |nil=>intro set last acc b _ hb;simp only [Nd.putL,ay] at hb;subst hb;simp [Nd.szL]
    |cons y r ihr =>
     intro set last acc b hl hb
     simp only [Nd.rkL] at hl
     simp only [Nd.putL] at hb
     split at hb
     ·cases hb
     ·rename_i b1 hb1
      split at hb
      ·cases hb
      ·have h1:=ih y b1 z2_ hb1
       have h2:=ihr _ _ _ _ z2_ hb
       simp only [Nd.szL,aX] at h2 ⊢
       omega
   simp only [Nd.put] at hb
   split at hb
   ·cases hp:Nd.putL (decide (c=0)&&decide (t=17)) ks none bs with
    |none=>simp [hp] at hb
    |some b1 =>
     simp only [hp,Option.map_some,ay] at hb
     subst hb
     have h1:=key ks _ _ _ _ z2_ hp
     have h2:=fL c t k b1.length
     simp only [aX,Nd.sz]
     omega
   ·cases hb
theorem Nd.szL_take (l:List Nd) (i:Nat) (h:i<l.length):Nd.szL (l.take (i+1))=Nd.szL (l.take i)+l[i].sz:=by
 rw [av h,Nd.szL_append];simp [Nd.szL]
theorem Nd.szL_take_le (l:List Nd) (i:Nat):Nd.szL (l.take i)≤Nd.szL l:=by
 have:=Nd.szL_append (l.take i) (l.drop i)
 rw [List.take_append_drop] at this
 omega
def PutR (x:Nd) (bw:Nat) (d0 deep:Int):Value→Part→List Ent→Prop:=fun v h' Lo =>
 ∃ (b:List UInt8) (a:Option Addr) (c:Nat) (d1:Int) (bad:Bool),v=.slice a b.length c∧SlR u8R 1 h' a c b∧Lo=[.blk bw 137 [.int .i64 d1,.bool bad]] ∧
  (bad=true→x.put=none)∧(bad=false→x.put=some b∧d1=max d0 (deep+x.rk-1))
theorem Nd.putL_step (set:Bool) (ks:List Nd) (i:Nat) (last:Option (List UInt8)) (acc:List UInt8) (hi:i<ks.length) :
 Nd.putL set (ks.drop i) last acc=match Nd.put ks[i] with
  |none=>none
  |some b=>if set&&aboveB last b then none else Nd.putL set (ks.drop (i+1)) (some b) (acc++b):=by
 rw [aT hi];rfl
theorem jn (i:Nat) (l b:List UInt8):aboveB (if i=0 then none else some l) b=(decide ((0:Int)<i)&&decide (0<Go.Lib.compareBytes l b)):=by
 by_cases h:i=0
 ·subst h;rfl
 ·rw [if_neg h,an (show(0:Int)<i by omega)];rfl
theorem okN_may {c t:Int}{k:Bool}{bs:List UInt8}{ks:List Nd}(h:okN c t k bs ks=true):(c=0∨c=2)∧0≤t∧t≤30:=by
 unfold okN mayB at h
 simp only [Bool.and_eq_true,Bool.or_eq_true,aj] at h
 obtain⟨⟨h1,h2⟩,_⟩:=h
 exact⟨by rcases h2 with h2|h2;exact .inr h2;exact .inl h2.1,h1⟩
theorem put_fn:∀ (n:Nat) (x:Nd) (cs:List Value) (h:Part) (bw:Nat) (d0 deep:Int),x.rk≤n→NdR h cs x→Tabs h→x.sz≤1073741824→0≤deep→deep+x.rk≤1099511627776 →
 Fn Tryz.prog 98 [.pointer (some ⟨bw,0,none⟩),.agg cs.toArray,.int .i64 deep] h [.blk bw 137 [.int .i64 d0,.bool false]] (Rets (PutR x bw d0 deep)):=by
 intro n
 induction n with
 |zero=>intro x cs h bw d0 deep hx;cases x;simp [Nd.rk] at hx
 |succ n ih =>
 intro x cs h bw d0 deep hx r hT hsz hd0 hd1
 cases x with
 |mk c t k bs ks =>
 obtain⟨a,ca,b,cb,rfl,ha,hb⟩:=r.inv
 have hl:=hb.big
 have hl2:=ha.big
 simp only [Nd.rk] at hx hd1
 simp only [Nd.sz] at hsz
 have hkr:∀ i (hi:i<ks.length),(ks[i].rk≤n∧ks[i].rk≤Nd.rkL ks)∧ks[i].sz≤Nd.szL ks:=fun i hi=>⟨⟨by have:=Nd.rk_lt (aL hi);omega,Nd.rk_lt (aL hi)⟩,dh (aL hi)⟩
 refine aG Tryz.func98 rfl Tryz.ntmps98 rfl (fun e he=>?_)
 refine aU [(0,_),(1,_),(2,_)] ⟨rfl,rfl,rfl,trivial⟩ ?_
 refine Sr (d8 rfl rfl rfl (fun b1=>?_))
 refine Ru 1 rfl (a_ (Sr (Ru 4 rfl (ae (aq cZ rfl mm_ rfl) rfl ?_))))
 refine Ru 1 rfl (ae (RunV.max2 rfl rfl) rfl ?_)
 refine Ru 2 rfl (bn cZ rfl rfl rfl dl_ fc ?_)
 refine Nk [6,4,0,2] rfl (aw (aw (cj [(62,.bool (!okN c t k bs ks))] [(6,_),(4,_),(0,_),(2,_)] ⟨rfl,rfl,rfl,rfl,trivial⟩ ?_ ?_)))
 ·refine Rg (ae (bp bD rfl mm_ z9_) rfl ?_)
  refine aV ca_159 rfl (oP z5_) rfl ?_
  refine Ru 2 rfl (Bs 24 rfl (fun hc3=>?_) fun hc3=>?_)
  ·refine Ru 38 rfl (a_ (⟨rfl,rfl,?_⟩))
   exact od
  refine Ru 1 rfl (aH rfl rfl  (aq j7 rfl mm_ rfl) rfl ?_)
  refine Ru 1 rfl (Bs 27 rfl (fun hc4=>?_) fun hc4=>?_)
  ·refine Ru 1 rfl (aH rfl rfl  (aq cU rfl mm_ rfl) rfl ?_)
   refine Ru 5 rfl (Bs 34 rfl (fun hc5=>?_) fun hc5=>?_)
   ·refine Ru 28 rfl (a_ (⟨rfl,rfl,?_⟩))
    exact od
   refine Ru 1 rfl (aH rfl rfl  (aq j7 rfl mm_ rfl) rfl ?_)
   refine Ru 2 rfl (Bs 38 rfl (fun hc6=>?_) fun hc6=>?_)
   ·refine Ru 1 rfl (aH rfl rfl  (aq dB rfl mm_ rfl) rfl ?_)
    refine Ru 5 rfl (Bs 45 rfl (fun hc7=>?_) fun hc7=>?_)
    ·refine Ru 17 rfl (a_ (⟨rfl,rfl,?_⟩))
     exact od
    refine Ru 1 rfl (aH rfl rfl  (aq cZ rfl mm_ rfl) rfl ?_)
    refine Ru 2 rfl (Bs 49 rfl (fun hc8=>?_) fun hc8=>?_)
    ·refine Ru 1 rfl (aH rfl rfl  (aq j7 rfl mm_ rfl) rfl ?_)
     refine Ru 3 rfl (Bs 54 rfl (fun hc9=>?_) fun hc9=>?_)
     ·refine Ru 1 rfl (aH rfl rfl  (aq cZ rfl mm_ rfl) rfl ?_)
      refine Ru 1 rfl (aH rfl rfl  (aq cU rfl mm_ rfl) rfl ?_)
      refine cE rfl rfl  nW rfl (gQ z5_ z5_ z2_) rfl ?_
      refine Ru 3 rfl (a_ (⟨rfl,rfl,?_⟩))
      exact od
     refine Ru 8 rfl (a_ (⟨rfl,rfl,?_⟩))
     exact od
    refine Ru 13 rfl (a_ (⟨rfl,rfl,?_⟩))
    exact od
   refine Ru 8 rfl (aH rfl rfl  (aq cZ rfl mm_ rfl) rfl ?_)
   refine Ru 2 rfl (Bs 49 rfl (fun hc11=>?_) fun hc11=>?_)
   ·refine Ru 1 rfl (aH rfl rfl  (aq j7 rfl mm_ rfl) rfl ?_)
    refine Ru 3 rfl (Bs 54 rfl (fun hc12=>?_) fun hc12=>?_)
    ·refine Ru 1 rfl (aH rfl rfl  (aq cZ rfl mm_ rfl) rfl ?_)
     refine Ru 1 rfl (aH rfl rfl  (aq cU rfl mm_ rfl) rfl ?_)
     refine cE rfl rfl  nW rfl (gQ z5_ z5_ z2_) rfl ?_
     refine Ru 3 rfl (a_ (⟨rfl,rfl,?_⟩))
     exact od
    refine Ru 8 rfl (a_ (⟨rfl,rfl,?_⟩))
    exact od
   refine Ru 13 rfl (a_ (⟨rfl,rfl,?_⟩))
   exact od
  refine Ru 8 rfl (aH rfl rfl  (aq j7 rfl mm_ rfl) rfl ?_)
  refine Ru 2 rfl (Bs 38 rfl (fun hc14=>?_) fun hc14=>?_)
  ·refine Ru 1 rfl (aH rfl rfl  (aq dB rfl mm_ rfl) rfl ?_)
   refine Ru 5 rfl (Bs 45 rfl (fun hc15=>?_) fun hc15=>?_)
   ·refine Ru 17 rfl (a_ (⟨rfl,rfl,?_⟩))
    exact od
   refine Ru 1 rfl (aH rfl rfl  (aq cZ rfl mm_ rfl) rfl ?_)
   refine Ru 2 rfl (Bs 49 rfl (fun hc16=>?_) fun hc16=>?_)
   ·refine Ru 1 rfl (aH rfl rfl  (aq j7 rfl mm_ rfl) rfl ?_)
    refine Ru 3 rfl (Bs 54 rfl (fun hc17=>?_) fun hc17=>?_)
    ·refine Ru 1 rfl (aH rfl rfl  (aq cZ rfl mm_ rfl) rfl ?_)
     refine Ru 1 rfl (aH rfl rfl  (aq cU rfl mm_ rfl) rfl ?_)
     refine cE rfl rfl  nW rfl (gQ z5_ z5_ z2_) rfl ?_
     refine Ru 3 rfl (a_ (⟨rfl,rfl,?_⟩))
     exact od
    refine Ru 8 rfl (a_ (⟨rfl,rfl,?_⟩))
    exact od
   refine Ru 13 rfl (a_ (⟨rfl,rfl,?_⟩))
   exact od
  refine Ru 8 rfl (aH rfl rfl  (aq cZ rfl mm_ rfl) rfl ?_)
  refine Ru 2 rfl (Bs 49 rfl (fun hc19=>?_) fun hc19=>?_)
  ·refine Ru 1 rfl (aH rfl rfl  (aq j7 rfl mm_ rfl) rfl ?_)
   refine Ru 3 rfl (Bs 54 rfl (fun hc20=>?_) fun hc20=>?_)
   ·refine Ru 1 rfl (aH rfl rfl  (aq cZ rfl mm_ rfl) rfl ?_)
    refine Ru 1 rfl (aH rfl rfl  (aq cU rfl mm_ rfl) rfl ?_)
    refine cE rfl rfl  nW rfl (gQ z5_ z5_ z2_) rfl ?_
    refine Ru 3 rfl (a_ (⟨rfl,rfl,?_⟩))
    exact od
   refine Ru 8 rfl (a_ (⟨rfl,rfl,?_⟩))
   exact od
  refine Ru 13 rfl (a_ (⟨rfl,rfl,?_⟩))
  exact od
 refine Cs rfl (fun hc22=>?_) fun hc22=>?_
 ·refine Sr (Ru 3 rfl (bn j7 rfl rfl rfl dl_ fc ?_))
  exact Nk [6,4,0,2] rfl (Sr (Ru 1 rfl (a_ (dm ⟨_,[_],_,(au rfl rfl),.cons dl_ .nil,_,rfl,[],none,0,_,true,rfl,bc,rfl,(fun _=>by simp only [Nd.put];rw [hc22];rfl),(fun hh=>by cases hh)⟩))))
 have hok:okN c t k bs ks=true:=hc22;have hmm:=okN_may hok
 refine ax (Sr (Ru 1 rfl (ae (aq cU rfl mm_ rfl) rfl ?_)))
 refine Ru 1 rfl (a_ (Sr (Ru 1 rfl (a_ (aw (Sr (Ru 1 rfl (ae (aq dB rfl mm_ rfl) rfl ?_))))))))
 refine Ru 2 rfl (Nk [71,70,69,8,7,6,4,0,2] rfl (aE (bC (fun t_ S_ h_ L_=>∃ (g:Part) (i:Nat) (inB lb:List UInt8) (ai la:Option Addr) (ci lc:Nat) (d:Int),t_=ks.length-i∧S_=[(0,.pointer (some ⟨bw,0,none⟩)),(2,.int .i64 deep),(4,.pointer (some ⟨b1,0,none⟩)),(7,.slice ai inB.length ci),(8,.slice la lb.length lc),(69,.slice b ks.length cb),(70,.int .i64 ks.length),(71,.int .i64 i)]∧g=h_∧L_=[.blk bw 137 [.int .i64 d,.bool false],.blk b1 31 [.int .i64 c,.int .i64 t,.bool k,.slice a bs.length ca,.slice b ks.length cb]]∧(h.le g∧i≤ks.length∧SlR u8R 1 g ai ci inB∧SlR u8R 1 g la lc lb∧inB.length≤bs.length+8*Nd.szL (ks.take i)∧d=max (max d0 deep) (deep+Nd.rkL (ks.take i))∧Nd.putL (decide (c=0)&&decide (t=17)) ks none bs=Nd.putL (decide (c=0)&&decide (t=17)) (ks.drop i) (if i=0 then none else some lb) inB)) ⟨_,_,?_,⟨_,0,bs,[],_,_,_,_,_,rfl,rfl,rfl,rfl,⟨aO _,by omega,ha,bc,by omega,by simp [Nd.rkL];(try omega),rfl⟩⟩⟩ ?_)))
 ·exact z7_
 rintro _ _ _ _ ⟨g,i,inB,lb,ai,la,ci,lc,d,rfl,rfl,rfl,rfl,hhg,hi,hin,hla,hil,hd,hp⟩
 have r:=r.mono hhg;have hT:=hT.mono hhg;have ha:=ha.mono hhg;have hb:=hb.mono hhg;have hst:=Nd.szL_take_le ks i
 refine Sr (Ru 1 rfl (a_ (aw (Cs rfl (fun hc23=>?_) fun hc23=>?_))))
 ·have hi':i<ks.length:=z2_;have hrt:=Nd.rkL_take ks i hi';have hzt:=Nd.szL_take ks i hi';have hst2:=Nd.szL_take_le ks (i+1);have hrz:=Nd.rkL_le_szL ks;have hrl:=Nd.rkL_le ks i
  refine ax (aw (aE (Sr (Ru 1 rfl (cg (aC mI rfl rfl eD z5_ rfl z2_) rfl ?_)))))
  rintro _ ⟨b24,o24,hi24,rfl,hE24⟩
  refine cg (RunE.loadA bD rfl z5_) rfl ?_
  rintro _ ⟨_,rfl,hNd25⟩
  refine bu ew rfl (fun b26=>?_)
  refine Ru 1 rfl (aQ bD rfl rfl dl_ f6 f8 z9_ ?_)
  refine a_ (Sr (Ru 1 rfl (ae (bp bD rfl mm_ z9_) rfl ?_)))
  refine Ru 1 rfl (ae ai_ rfl ?_)
  refine de ca_98 rfl (ih (ks[i]'z2_) _ _ _ _ _ (hkr i z2_).1.1 z5_ hT (by have:=(hkr i z2_).2;omega) z2_ (by have:=(hkr i z2_).1.2;omega)) pt_ rfl ?_
  rintro _ h27 Lo27 hle27 ⟨kb,ka,kc,kd,kbad,rfl,hkS,rfl,hkf,hkt⟩
  replace r:=r.mono hle27
  replace hT:=hT.mono hle27
  replace ha:=ha.mono hle27
  replace hb:=hb.mono hle27
  replace hhg:=hhg.mono hle27
  replace hin:=hin.mono hle27
  replace hla:=hla.mono hle27
  replace hNd25:=hNd25.mono hle27
  refine Ru 1 rfl (a_ (aw (aw (cj [(104,.bool (kbad||((decide (c=0)&&decide (t=17))&&(decide ((0:Int)<i)&&decide (0<Go.Lib.compareBytes lb kb)))))] [(11,_),(80,_),(79,_),(78,_),(77,_),(76,_),(9,_),(10,_),(75,_),(74,_),(73,_),(72,_),(0,_),(2,_),(4,_),(7,_),(8,_),(69,_),(70,_),(71,_)] ⟨rfl,rfl,rfl,rfl,rfl,rfl,rfl,rfl,rfl,rfl,rfl,rfl,rfl,rfl,rfl,rfl,rfl,rfl,rfl,rfl,trivial⟩ ?_ ?_))))
  ·refine Rg (Ru 3 rfl (ae (aq j7 rfl mm_ rfl) rfl ?_))
   refine Ru 1 rfl (Bs 85 rfl (fun hc28=>?_) fun hc28=>?_)
   ·refine Ru 19 rfl (a_ (⟨rfl,rfl,?_⟩))
    exact z43_
   refine Ru 1 rfl (aH rfl rfl  (aq cZ rfl mm_ rfl) rfl ?_)
   refine Ru 2 rfl (Bs 89 rfl (fun hc29=>?_) fun hc29=>?_)
   ·refine Ru 1 rfl (aH rfl rfl  (aq cZ rfl mm_ rfl) rfl ?_)
    refine Ru 3 rfl (Bs 94 rfl (fun hc30=>?_) fun hc30=>?_)
    ·refine Ru 4 rfl (Bs 98 rfl (fun hc31=>?_) fun hc31=>?_)
     ·refine Ru 2 rfl (cE rfl rfl  ri rfl (eO z5_ z5_) rfl ?_)
      refine Ru 3 rfl (a_ (⟨rfl,rfl,?_⟩))
      exact z43_
     refine Ru 6 rfl (a_ (⟨rfl,rfl,?_⟩))
     exact z43_
    refine Ru 10 rfl (a_ (⟨rfl,rfl,?_⟩))
    exact z43_
   refine Ru 15 rfl (a_ (⟨rfl,rfl,?_⟩))
   exact z43_
  refine Cs rfl (fun hc33=>?_) fun hc33=>?_
  ·have hz:Nd.putL (decide (c=0)&&decide (t=17)) ks none bs=none:=(by rw [hp,Nd.putL_step _ _ _ _ _ hi'];cases hkb:kbad with
    |true=>rw [hkf hkb]
    |false=>rw [(hkt hkb).1];show(if _ then _ else _)=_;rw [if_pos (by rw [jn];rw [hkb,Bool.false_or] at hc33;exact hc33)])
   refine Sr (Ru 3 rfl (bn j7 rfl rfl rfl dl_ fc ?_))
   exact a_ (Sr (Ru 1 rfl (a_ (dm ⟨_,[_],_,(au rfl rfl),.cons dl_ .nil,_,rfl,[],none,0,_,true,rfl,bc,rfl,(fun _=>by simp only [Nd.put];rw [hok,hz];rfl),(fun hh=>by cases hh)⟩))))
  have hkb:kbad=false:=(by cases kbad<;>simp_all);subst hkb;have hkp:=(hkt rfl).1;have hkd:=(hkt rfl).2;have hkl:=Nd.put_len _ _ kb (aD _) hkp;rw [Bool.false_or] at hc33;have hcz:=hc33;have hki:=hkr i hi'
  refine ax (Sr (Ru 5 rfl (cg (RunE.cut_full cA rfl rfl rfl z5_ rfl rfl rfl) rfl ?_)))
  rintro _ ⟨a34,rfl,hS34⟩
  refine Ru 1 rfl (JL.appendFull cP rfl rfl z5_ rfl rfl z5_ rfl z2_ z4_ rfl rfl (fun a35 c35 xs35 hC35 hN35=>?_))
  obtain rfl:=hC35.u8
  refine Ru 1 rfl (cM (R:=u8R) (l:=inB++kb) dl_ aW rfl z4_ (fun h36 hle36 hP36=>?_))
  replace r:=r.mono hle36
  replace hT:=hT.mono hle36
  replace ha:=ha.mono hle36
  replace hb:=hb.mono hle36
  replace hhg:=hhg.mono hle36
  replace hin:=hin.mono hle36
  replace hla:=hla.mono hle36
  replace hNd25:=hNd25.mono hle36
  replace hkS:=hkS.mono hle36
  refine a_ (Rg (Ru 2 rfl (a_ (Rg (JL.ents [.blk bw _ _,.blk b1 _ _] pt_ ?_)))))
  refine ae ai_ rfl ?_
  refine Ru 1 rfl (a_ (⟨_,?_,_,?_,⟨_,i+1,inB++kb,kb,_,_,_,_,_,rfl,rfl,rfl,rfl,⟨by assumption,by omega,by assumption,by assumption,by rw [aX,hzt];omega,by rw [hkd,hd,hrt];omega,by rw [hp,Nd.putL_step _ _ _ _ _ hi',hkp];show(if _ then _ else _)=_;rw [if_neg (by rw [jn,hcz];decide),if_neg z2_]⟩⟩⟩))
  ·omega
  exact z7_
 refine bx (Kp [4,7] rfl (Sr (ae (bp bD rfl mm_ z9_) rfl ?_)))
 refine Ru 2 rfl ?_
 have hhl:=fL c t k inB.length;have hst2:=Nd.szL_take_le ks i
 refine de ca_161 rfl (head_fn r hmm.1 hmm.2 z2_) pt_ rfl ?_
 rintro _ h37 Lo37 hle37 ⟨a37,c37,rfl,rfl⟩
 replace r:=r.mono hle37
 replace hT:=hT.mono hle37
 replace ha:=ha.mono hle37
 replace hb:=hb.mono hle37
 replace hhg:=hhg.mono hle37
 replace hin:=hin.mono hle37
 replace hla:=hla.mono hle37
 simp only [Nd.cls,Nd.tag,Nd.cons]
 refine Ru 1 rfl (cw cP rfl rfl aW rfl z5_ rfl dl_ z4_ rfl rfl (fun a38 c38 xs38 hC38 hN38=>?_))
 obtain rfl:=hC38.u8
 refine Ru 1 rfl (cM (R:=u8R) (l:=headB c t k inB.length++inB) dl_ aW rfl z4_ (fun h39 hle39 hP39=>?_))
 replace r:=r.mono hle39
 replace hT:=hT.mono hle39
 replace ha:=ha.mono hle39
 replace hb:=hb.mono hle39
 replace hhg:=hhg.mono hle39
 replace hin:=hin.mono hle39
 replace hla:=hla.mono hle39
 refine Nk [6] rfl ?_
 have hz:Nd.putL (decide (c=0)&&decide (t=17)) ks none bs=some inB:=by rw [hp,List.drop_of_length_le z2_];rfl
 exact dm ⟨_,[_],_,(au rfl rfl),.cons dl_ .nil,_,rfl,headB c t k inB.length++inB,_,_,_,false,rfl,by assumption,rfl,(fun hh=>by cases hh),(fun _=>⟨by simp only [Nd.put];rw [hok,hz];rfl,by rw [hd,aJ z2_];simp only [Nd.rk];omega⟩)⟩
end
section
theorem il:apT Tryz.prog 29=some (31,5,72):=by kernel_rfl
theorem ca_31:callT Tryz.prog 31=true:=by kernel_rfl
theorem ca_87:callT Tryz.prog 87=true:=by kernel_rfl
theorem cv_2_5:convI Tryz.prog 2 5=some .u8:=by kernel_rfl
theorem pl_137:plT Tryz.prog 137=some ([.int .i64 0,.bool false],[(0,1),(1,1)]):=by kernel_rfl
theorem ez:plT Tryz.prog 31=some ([.int .i64 0,.int .i64 0,.bool false,.slice none 0 0,.slice none 0 0],[(0,1),(1,1),(2,1),(3,1),(4,1)]):=by kernel_rfl
def Nd.wr (x:Nd):List UInt8×Int:=match x.put with
 |none=>([],34)
 |some b=>if 32<x.rk then([],33) else if 16777216<b.length then([],2) else(b,0)
theorem write_fn {x:Nd}{cs:List Value}{h:Part}(r:NdR h cs x) (hT:Tabs h) (hsz:x.sz≤1073741824) :
 FnR Tryz.prog 63 [.agg cs.toArray] h (fun v h'=>∃ a c,v=.tuple #[.slice a x.wr.1.length c,.int .i64 x.wr.2]∧SlR u8R 1 h' a c x.wr.1):=by
 have hrk:x.rk≤x.sz:=Nd.rk_le_sz _ x (aD _)
 have hr1:1≤x.rk:=by cases x;simp [Nd.rk]
 refine aG Tryz.func63 rfl Tryz.ntmps63 rfl (fun e he=>?_)
 refine aU [(0,_)] ⟨rfl,trivial⟩ ?_
 refine Sr (d8 rfl rfl rfl (fun b1=>?_))
 refine Ru 2 rfl (a_ (Sr (ae (aY (cs:=[.int .i64 0,.bool false]) pl_137 rfl rfl) rfl ?_)))
 refine d8 rfl rfl rfl (fun b2=>?_)
 refine Ru 1 rfl (a_ (Sr (Ru 1 rfl (ae (bp bD rfl mm_ z9_) rfl ?_))))
 refine de ca_98 rfl (put_fn _ x _ _ _ _ _ (aD _) r hT hsz z2_ z2_) pt_ rfl ?_
 rintro _ h3 Lo3 hle3 ⟨kb,ka,kc,kd,kbad,rfl,hkS,rfl,hkf,hkt⟩
 replace r:=r.mono hle3
 replace hT:=hT.mono hle3
 refine Ru 1 rfl (Nk [5,4,3,2] rfl (aw (aE (Sr (Ru 3 rfl (ae (aq j7 rfl mm_ rfl) rfl ?_))))))
 refine Ru 1 rfl (a_ (Cs rfl (fun hc4=>?_) fun hc4=>?_))
 ·have hw:x.wr=([],34):=(by unfold Nd.wr;rw [hkf hc4])
  refine Sr (Ru 2 rfl (Nk [3,2,5] rfl ?_))
  rw [hw];exact b_ (aS rfl rfl rfl) ⟨_,_,rfl,bc⟩
 have hkt:=hkt hc4;have hkp:=hkt.1;have hkd:=hkt.2;have hl:=hkS.big
 refine Sr (Ru 3 rfl (ae (aq cZ rfl mm_ rfl) rfl ?_))
 refine Ru 2 rfl (Nk [16,5,3,2] rfl (Cs rfl (fun hc5=>?_) fun hc5=>?_))
 ·have hw:x.wr=([],33):=(by unfold Nd.wr;rw [hkp];simp only;rw [if_pos z2_])
  refine Sr (Ru 2 rfl (a_ ?_))
  rw [hw];exact b_ (aS rfl rfl rfl) ⟨_,_,rfl,bc⟩
 refine Sr (Ru 4 rfl (Nk [22,5,3,2] rfl (Cs rfl (fun hc6=>?_) fun hc6=>?_)))
 ·have hw:x.wr=([],2):=(by unfold Nd.wr;rw [hkp];simp only;rw [if_neg z2_,if_pos z2_])
  refine Sr (Ru 2 rfl (a_ ?_))
  rw [hw];exact b_ (aS rfl rfl rfl) ⟨_,_,rfl,bc⟩
 have hw:x.wr=(kb,0):=(by unfold Nd.wr;rw [hkp];simp only;rw [if_neg z2_,if_neg z2_])
 refine ax (Sr (Ru 3 rfl (Nk [3,2] rfl ?_)))
 rw [hw];exact b_ (aS rfl rfl rfl) ⟨_,_,rfl,hkS⟩
theorem ql {x:Nd}{cs:List Value}{h:Part}(r:NdR h cs x) (hT:Tabs h) (hsz:x.sz≤1073741824):Pure Tryz.prog 43 [.agg cs.toArray] h (.bool x.put.isSome):=by
 have hrk:x.rk≤x.sz:=Nd.rk_le_sz _ x (aD _)
 refine Pure.ofV ?_
 refine aG Tryz.func43 rfl Tryz.ntmps43 rfl (fun e he=>?_)
 refine aU [(0,_)] ⟨rfl,trivial⟩ ?_
 refine Sr (d8 rfl rfl rfl (fun b1=>?_))
 refine Ru 1 rfl (a_ (Sr (ae (aY (cs:=[.int .i64 0,.bool false]) pl_137 rfl rfl) rfl ?_)))
 refine d8 rfl rfl rfl (fun b2=>?_)
 refine Ru 1 rfl (a_ (Sr (Ru 1 rfl (ae (bp bD rfl mm_ z9_) rfl ?_))))
 refine de ca_98 rfl (put_fn _ x _ _ _ _ _ (aD _) r hT hsz z2_ z2_) pt_ rfl ?_
 rintro _ h3 Lo3 hle3 ⟨kb,ka,kc,kd,kbad,rfl,hkS,rfl,hkf,hkt⟩
 replace r:=r.mono hle3
 replace hT:=hT.mono hle3
 refine Nk [3,2] rfl (Sr (Ru 3 rfl (ae (aq j7 rfl mm_ rfl) rfl ?_)))
 exact Ru 2 rfl (Nk [2] rfl (J.retV (au rfl rfl) (by cases hb:kbad with|true=>rw [hkf hb];rfl|false=>rw [(hkt hb).1];rfl)))
theorem oN {t:Int}{a:Option Addr}{c:Nat}{l:List UInt8}{h:Part}(hl:SlR u8R 1 h a c l):FnR Tryz.prog 31 [.int .i64 t,.slice a l.length c] h (fun v h'=>∃ cs,v=.agg (List.toArray cs)∧NdR h' cs (.mk 0 t false l [])):=by
 have hb:=hl.big
 refine aG Tryz.func31 rfl Tryz.ntmps31 rfl (fun e he=>?_)
 refine aU [(0,_),(1,_)] ⟨rfl,rfl,trivial⟩ ?_
 refine Sr (bu ew rfl (fun b1=>?_))
 refine a_ (Sr (Ru 2 rfl (bZ 5 1 ?_)))
 refine cw cP rfl rfl (bQ (R:=u8R)) rfl z5_ rfl dl_ z4_ rfl rfl (fun a2 c2 xs2 hC2 hN2=>?_)
 obtain rfl:=hC2.u8
 refine cM (R:=u8R) (l:=l) dl_ aW rfl z4_ (fun h3 hle3 hP3=>?_)
 replace hl:=hl.mono hle3
 refine ae (aY (cs:=[.int .i64 0,_,.bool false,_,.slice none 0 0]) ez rfl rfl) rfl ?_
 refine aQ bD rfl rfl dl_ f6 f8 z9_ ?_
 exact Nk [4] rfl (b_ (bS rfl rfl bD mm_ z9_) ⟨_,rfl,cR z5_ bc⟩)
theorem Nd.len_le_szL (l:List Nd):l.length≤Nd.szL l:=by
 induction l with
 |nil=>simp
 |cons x r ih=>cases x;simp only [aA,Nd.szL,Nd.sz];omega
abbrev dD:=@Nd.len_le_szL
theorem own_fn:∀ (n:Nat) (ks:List Nd) (a:Option Addr) (c:Nat) (h:Part),Nd.rkL ks≤n→SlR NdR 5 h a c ks→Nd.szL ks≤1099511627776 →
 FnR Tryz.prog 87 [.slice a ks.length c] h (fun v h'=>∃ a' c',v=.slice a' ks.length c'∧SlR NdR 5 h' a' c' ks):=by
 intro n
 induction n with
 |zero =>
  intro ks a c h hx
  cases ks with
  |cons x r=>cases x;simp [Nd.rkL,Nd.rk] at hx
  |nil =>
   intro hk _
   have hx:(0:Nat)=0:=rfl
   refine aG Tryz.func87 rfl Tryz.ntmps87 rfl (fun e he=>?_)
   refine aU [(0,_)] ⟨rfl,trivial⟩ ?_
   refine Sr (Ru 1 rfl (a_ ?_))
   refine Sr (Ru 1 rfl (a_ (aw (Sr (Ru 3 rfl (a_ (aE (bC (fun t_ S_ h_ L_=>∃ (i:Nat),t_=0-i∧S_=[(3,.slice none 0 0),(6,.slice a ([]:List Nd).length c),(7,.int .i64 0),(8,.int .i64 0)]∧h=h_∧L_=[]∧(True)) ⟨_,_,?_,⟨0,rfl,rfl,rfl,rfl,trivial⟩⟩ ?_))))))))
   ·exact z7_
   rintro _ _ _ _ ⟨i,rfl,rfl,rfl,rfl,-⟩
   refine Sr (Ru 1 rfl (a_ (aw (Cs rfl (fun hc1=>?_) fun hc1=>?_))))
   ·exfalso;simp at hc1 --done
   exact bx (Kp [3] rfl (Sr (Ru 2 rfl (a_ (b_ (au rfl rfl) ⟨_,_,rfl,bc⟩)))))
 |succ n ih =>
  intro ks a c h hx hk hsz
  have hl:=hk.big
  have hlz:=dD ks
  have hz:∀ i (hi:i<ks.length),ks[i].rk≤n+1∧ks[i].sz≤Nd.szL ks:=fun i hi=>⟨by have:=Nd.rk_lt (aL hi);omega,dh (aL hi)⟩
  refine aG Tryz.func87 rfl Tryz.ntmps87 rfl (fun e he=>?_)
  refine aU [(0,_)] ⟨rfl,trivial⟩ ?_
  refine Sr (Ru 1 rfl (a_ (Sr (Ru 1 rfl (a_ (aw (Sr (bZ 31 5 ?_))))))))
  refine Ru 3 rfl (a_ (aE (bC (fun t_ S_ h_ L_=>∃ (g:Part) (i:Nat) (ao:Option Addr) (co:Nat) (xs:List Value),t_=ks.length-i∧S_=[(3,.slice ao (ks.take i).length co),(6,.slice a ks.length c),(7,.int .i64 ks.length),(8,.int .i64 i)]∧g=h_∧L_=[.row ao co 31 5 (ks.take i).length xs]∧(h.le g∧i≤ks.length∧CellsR NdR 5 g xs (ks.take i))) ⟨_,_,?_,⟨_,0,_,_,_,rfl,rfl,rfl,rfl,⟨aO _,by omega,bQ⟩⟩⟩ ?_)))
  ·exact z7_
  rintro _ _ _ _ ⟨g,i,ao,co,xs,rfl,rfl,rfl,rfl,hhg,hi,hC⟩
  have hk:=hk.mono hhg
  refine Sr (Ru 1 rfl (a_ (aw (Cs rfl (fun hc1=>?_) fun hc1=>?_))))
  ·have hi':i<ks.length:=z2_;have hzi:=hz i hi';obtain⟨kc,kt,kk,kbs,kks,hkx⟩:∃ c t k bs ks',ks[i]=.mk c t k bs ks':=(by cases ks[i];exact⟨_,_,_,_,_,rfl⟩);have hke:ks.take i++[.mk kc kt kk kbs kks]=ks.take (i+1):=(by rw [← hkx,av hi']);have htl:(ks.take i).length≤ks.length:=(by simp;omega)
   refine ax (aw (aE (Sr (cg (aC mI rfl rfl eD z5_ rfl z2_) rfl ?_))))
   rintro _ ⟨b2,o2,hi2,rfl,hE2⟩
   refine cg (RunE.loadA bD rfl z5_) rfl ?_
   rintro _ ⟨_,rfl,hNdx⟩
   rw [hkx] at hNdx hzi;obtain⟨ka,kca,kb,kcb,rfl,hka,hkb⟩:=hNdx.inv;simp only [Nd.rk,Nd.sz] at hzi;have hkal:=hka.big
   refine bu ew rfl (fun b4=>?_)
   refine aQ bD rfl rfl dl_ f6 f8 z9_ ?_
   refine a_ (Sr (Ru 1 rfl (ae (aq cU rfl mm_ rfl) rfl ?_)))
   refine bZ 5 1 ?_
   refine cw cP rfl rfl (bQ (R:=u8R)) rfl z5_ rfl dl_ z4_ rfl rfl (fun a5 c5 xs5 hC5 hN5=>?_)
   obtain rfl:=hC5.u8
   refine cM (R:=u8R) (l:=kbs) dl_ aW rfl z4_ (fun h6 hle6 hP6=>?_)
   replace hk:=hk.mono hle6
   replace hhg:=hhg.mono hle6
   replace hC:=hC.mono hle6
   replace hka:=hka.mono hle6
   replace hkb:=hkb.mono hle6
   refine Ru 1 rfl (bn cU rfl rfl rfl dl_ fc ?_)
   refine a_ (Sr (Ru 1 rfl (ae (aq dB rfl mm_ rfl) rfl ?_)))
   refine bI ca_87 rfl (ih kks _ _ _ z2_ z5_ z2_) rfl ?_
   rintro _ h7 hle7 ⟨a7,c7,rfl,hS7⟩
   replace hk:=hk.mono hle7
   replace hhg:=hhg.mono hle7
   replace hC:=hC.mono hle7
   replace hka:=hka.mono hle7
   replace hkb:=hkb.mono hle7
   replace hP6:=hP6.mono hle7
   refine Ru 1 rfl (bn dB rfl rfl rfl dl_ fc ?_)
   refine a_ (Rg (Ru 1 rfl (ae (bp bD rfl mm_ z9_) rfl ?_)))
   refine JL.litA il rfl z9_ rfl rfl (fun b8=>?_)
   refine bV il rfl rfl z5_ rfl dl_ dl_ z9_ ((cR z5_ z5_:NdR _ _ (.mk kc kt kk kbs kks))) z4_ rfl rfl (fun a9 c9 xs9 hC9 hN9=>?_)
   rw [hke] at *
   refine Ru 1 rfl (a_ (Rg (JL.ents [.row _ _ _ _ _ _] pt_ ?_)))
   refine ae ai_ rfl ?_
   refine Ru 1 rfl (a_ (⟨_,?_,_,?_,⟨_,i+1,_,_,_,rfl,rfl,rfl,rfl,⟨by assumption,by omega,by assumption⟩⟩⟩))
   ·omega
   exact z7_
  refine bx (Kp [3] rfl (Sr (Ru 1 rfl ?_)))
  have hke:ks.take i=ks:=aJ z2_;rw [hke] at hC ⊢;refine cM (R:=NdR) dl_ z5_ rfl hl (fun h9 hle9 hS9=>?_)
  exact Ru 1 rfl (a_ (b_ (au rfl rfl) ⟨_,_,rfl,hS9⟩))
theorem cons_fn {cl t:Int}{ks:List Nd}{a:Option Addr}{c:Nat}{h:Part}(hk:SlR NdR 5 h a c ks) (hz:Nd.szL ks≤1099511627776) :
 FnR Tryz.prog 28 [.int .i64 cl,.int .i64 t,.slice a ks.length c] h (fun v h'=>∃ cs,v=.agg (List.toArray cs)∧NdR h' cs (.mk cl t true [] ks)):=by
 refine aG Tryz.func28 rfl Tryz.ntmps28 rfl (fun e he=>?_)
 refine aU [(0,_),(1,_),(2,_)] ⟨rfl,rfl,rfl,trivial⟩ ?_
 refine Sr (bu ew rfl (fun b1=>?_))
 refine a_ (Sr (Ru 3 rfl (bI ca_87 rfl (own_fn _ _ _ _ _ (aD _) z5_ z2_) rfl ?_)))
 rintro _ h2 hle2 ⟨a2,c2,rfl,hS2⟩
 replace hk:=hk.mono hle2
 refine ae (aY (cs:=[_,_,_,.slice none 0 0,_]) ez rfl rfl) rfl ?_
 refine aQ bD rfl rfl dl_ f6 f8 z9_ ?_
 exact Nk [6] rfl (b_ (bS rfl rfl bD mm_ z9_) ⟨_,rfl,cR bc z5_⟩)
def ibytes (n:Int):Nat→List UInt8
 |0=>[]
 |k+1=>UInt8.ofNat ((n / 256 ^ k) % 256).toNat::ibytes n k
def stripB:List UInt8→List UInt8
 |[]=>[]
 |x::r=>if leastB (x::r) then x::r else stripB r
def intB (n:Int):List UInt8:=stripB (ibytes n 8)
theorem shrI_cast (n:Int) (j:Nat) (e:Int) (he:e=8*(j:Int)):n / 2 ^ e.toNat=n / 256 ^ j:=by
 subst he
 have h1:(8*(j:Int)).toNat=8*j:=by omega
 have h2:(256:Int) ^ j=2 ^ (8*j):=by rw [Int.pow_mul];rfl
 rw [h1,h2]
theorem RunV.toByteI {f:Fr}{S:Sig}{h:Part}{L:List Ent}{ty:TypeId}{x:Operand}{p:Int}{src dst:TypeId}{k:IntKind}(hc:convI f.P src dst=some .u8) (hx:ev S x=some (.int k p)):RunV f S h L (.convert src dst x) ty (.int .u8 ((UInt8.ofNat (p % 256).toNat).toNat:Int)):=by
 have:=cD (f:=f) (h:=h) (L:=L) (ty:=ty) hc hx
 have e:IntKind.u8.wrap p=((UInt8.ofNat (p % 256).toNat).toNat:Int):=by rw [IntKind.wrap_u8];simp;omega
 rwa [e] at this
theorem ni {l:List UInt8}(h:leastB l=false) (h0:1≤l.length):2≤l.length:=by
 unfold leastB at h
 rw [if_neg z2_] at h
 split at h
 ·cases h
 ·omega
theorem jw {l:List UInt8}(h:leastB l=false):stripB l=stripB (l.drop 1):=by
 cases l with
 |nil=>rfl
 |cons x r=>simp only [stripB];rw [if_neg (by rw [h];decide)];rfl
theorem fG {l:List UInt8}(h:leastB l=true):stripB l=l:=by
 cases l with
 |nil=>rfl
 |cons x r=>simp only [stripB];rw [if_pos h]
theorem dn (n:Int) (k:Nat):(ibytes n k).length=k:=by
 induction k with
 |zero=>rfl
 |succ k ih=>simp [ibytes,ih]
theorem int_fn {n:Int}{h:Part}:FnR Tryz.prog 26 [.int .i64 n] h (fun v h'=>∃ cs,v=.agg (List.toArray cs)∧NdR h' cs (.mk 0 2 false (intB n) [])):=by
 refine aG Tryz.func26 rfl Tryz.ntmps26 rfl (fun e he=>?_)
 refine aU [(0,_)] ⟨rfl,trivial⟩ ?_
 refine Sr (bu ew rfl (fun b1=>?_))
 refine a_ (Sr (Ru 1 rfl (a_ (aw (Sr (bZ 5 1 ?_))))))
 refine Ru 1 rfl (a_ (aE (bC (fun t_ S_ h_ L_=>∃ (j:Nat) (out:List UInt8) (a:Option Addr) (c:Nat),t_=9+j∧S_=[(0,.int .i64 n),(2,.pointer (some ⟨b1,0,none⟩)),(3,.slice a out.length c),(4,.int .i64 ((j:Int)-1))]∧h=h_∧L_=[.row a c 5 1 out.length (u8s out),.blk b1 31 [.int .i64 0,.int .i64 0,.bool false,.slice none 0 0,.slice none 0 0]]∧(j≤8∧out.length=8-j∧ibytes n 8=out++ibytes n j)) ⟨_,_,?_,⟨8,[],none,0,rfl,rfl,rfl,rfl,⟨by omega,rfl,rfl⟩⟩⟩ ?_)))
 ·exact gp
 rintro _ _ _ _ ⟨j,out,a,c,rfl,rfl,rfl,rfl,hj,hol,he⟩
 refine aw (Sr (Ru 2 rfl (a_ (Cs rfl (fun hc2=>?_) fun hc2=>?_))))
 ·obtain⟨i,rfl⟩:∃ i,j=i+1:=⟨j-1,by omega⟩
  refine ax (aw (aE (Rg (Ru 3 rfl (ae im rfl ?_)))))
  refine ae (RunV.shr rfl rfl z2_ (by show _≤((64:Nat):Int);omega)) rfl ?_
  rw [shrI_cast n i _ z2_]
  refine ae (RunV.toByteI cv_2_5 rfl) rfl ?_
  refine ct cP mC rfl rfl rfl rfl rfl (fun b3=>?_)
  refine bV cP rfl rfl aW rfl dl_ dl_ rfl (rfl) z4_ rfl rfl (fun a4 c4 xs4 hC4 hN4=>?_)
  obtain rfl:=hC4.u8
  refine Ru 1 rfl (a_ (Rg (Ru 1 rfl (ae si_ rfl ?_))))
  refine Ru 1 rfl (a_ (⟨_,?_,_,?_,⟨i,_,_,_,rfl,rfl,rfl,rfl,⟨by omega,by simp;omega,by rw [he,ibytes,List.append_assoc];rfl⟩⟩⟩))
  ·omega
  exact gp
 have hj0:j=0:=z2_;subst hj0;have hob:out=ibytes n 8:=(by rw [he];simp [ibytes]);refine J.pub (R:=u8R) (l:=out) dl_ aW rfl z2_ (fun h9 hle9 hS9=>?_)
 refine bx (Kp [2,3] rfl (aw (aE (bC (fun t_ S_ h_ L_=>∃ (g:Part) (l:List UInt8) (a:Option Addr) (c:Nat),t_=l.length+5∧S_=[(2,.pointer (some ⟨b1,0,none⟩)),(3,.slice a l.length c)]∧g=h_∧L_=[.blk b1 31 [.int .i64 0,.int .i64 0,.bool false,.slice none 0 0,.slice none 0 0]]∧(h.le g∧SlR u8R 1 g a c l∧1≤l.length∧intB n=stripB l)) ⟨_,_,?_,⟨_,out,_,_,rfl,rfl,rfl,rfl,⟨by assumption,by assumption,by omega,by rw [hob];rfl⟩⟩⟩ ?_))))
 ·exact z7_
 rintro _ _ _ _ ⟨g,l,a,c,rfl,rfl,rfl,rfl,hhg,hl,hll,hs⟩
 refine aw (Sr (Ru 1 rfl (aV ca_85 rfl (ma z5_) rfl ?_)))
 refine Ru 1 rfl (a_ (Cs rfl (fun hc6=>?_) fun hc6=>?_))
 ·have hl2:=ni hc6 hll;have hsd:=jw hc6
  refine ax (aE (Rg (Ru 1 rfl (cg (RunE.cut_l cA rfl rfl (show _=((1:Nat):Int) from rfl) z5_ rfl z2_) rfl ?_))))
  rintro _ ⟨a7,c7,rfl,hS7⟩
  refine Ru 1 rfl (a_ (⟨_,?_,_,?_,⟨_,l.drop 1,_,_,rfl,rfl,rfl,rfl,⟨by assumption,by assumption,by simp;omega,by rw [hs,hsd]⟩⟩⟩))
  ·simp;omega
  exact z7_
 have hi9:intB n=l:=(by rw [hs,fG hc6])
 refine bx (Sr (Ru 1 rfl (bI ca_31 rfl (oN z5_) rfl ?_)))
 rintro _ h8 hle8 ⟨w8,rfl,hNd8⟩
 replace hl:=hl.mono hle8
 replace hhg:=hhg.mono hle8
 refine aQ bD rfl rfl dl_ f6 f8 z9_ ?_
 refine Nk [2] rfl ?_
 rw [hi9];exact b_ (bS rfl rfl bD mm_ z9_) ⟨_,rfl,by assumption⟩
end
section
abbrev bg:=@List.getD_eq_getElem?_getD
def decGo:List UInt8→Nat→Bool→Option (List Nat)
 |[],_,fresh=>if fresh then some [] else none
 |c::r,n,fresh=>if(fresh&&decide (c.toNat=128))||decide (72057594037927935<n) then none
  else if 127<c.toNat then decGo r (n*128+c.toNat % 128) false else(decGo r 0 true).map (fun l=>(n*128+c.toNat % 128)::l)
def refGo:List UInt8→Nat→Nat→Option (List Nat)
 |[],_,_=>some []
 |c::r,n,long=>if 9<long+1∨9223372036854775808≤n*128+c.toNat % 128 then none
  else if 128≤c.toNat then refGo r (n*128+c.toNat % 128) (long+1) else(refGo r 0 0).map (fun l=>(n*128+c.toNat % 128)::l)
def hiF:Nat→Nat→List UInt8
 |0,_=>[]
 |f+1,n=>if n=0 then [] else hiF f (n / 128)++[UInt8.ofNat (n % 128+128)]
def hiB (n:Nat):List UInt8:=hiF 10 n
def b128 (n:Nat):List UInt8:=hiB (n / 128)++[UInt8.ofNat (n % 128)]
def enc:List Nat→List UInt8
 |[]=>[]
 |n::r=>b128 n++enc r
theorem hiF_up:∀ (f n:Nat),n<128 ^ f→hiF (f+1) n=hiF f n
 |0,n,h=>by have:n=0:=(by simpa using h);subst this;rfl
 |f+1,n,h=>by
  rw [hiF]
  conv=>rhs;rw [hiF]
  rw [hiF_up f (n / 128) (by rw [Nat.pow_succ] at h;omega)]
theorem me (n:Nat) (h:n<128 ^ 10) (h0:n≠0):hiB n=hiB (n / 128)++[UInt8.ofNat (n % 128+128)]:=by
 have e:hiB (n / 128)=hiF 9 (n / 128):=hiF_up 9 _ (by simp only [Nat.reducePow] at h ⊢;omega)
 rw [e]
 show hiF 10 n=_
 rw [hiF,if_neg h0]
theorem byte_hi {c:UInt8}{n:Nat}(h:127<c.toNat):(n*128+c.toNat % 128) % 128+128=c.toNat∧(n*128+c.toNat % 128) / 128=n:=by
 have:=UInt8.toNat_lt c;omega
theorem mu:∀ (b:List UInt8) (n:Nat) (fresh:Bool) (l:List Nat),(fresh=true→n=0)→(fresh=false→0<n)→decGo b n fresh=some l→hiB n++b=enc l∧∀ x∈l,x<9223372036854775808
 |[],n,fresh,l,h0,h1,h=>by
  cases fresh with
  |false=>simp [decGo] at h
  |true=>simp [decGo] at h;subst h;rw [h0 rfl];exact⟨rfl,by simp⟩
 |c::r,n,fresh,l,h0,h1,h=>by
  have hc:=UInt8.toNat_lt c
  rw [decGo] at h
  split at h
  ·cases h
  ·rename_i hg
   simp only [Bool.or_eq_true,Bool.and_eq_true,aj,not_or,not_and] at hg
   split at h
   ·rename_i hh
    have hn:n*128+c.toNat % 128≠0:=by
     cases fresh with
     |false=>have:=h1 rfl;omega
     |true=>have:=hg.1 rfl;omega
    obtain⟨e1,e2⟩:=mu r _ false l (fun x=>by cases x) (fun _=>by omega) h
    refine⟨?_,e2⟩
    have hb:=byte_hi (n:=n) hh
    rw [me _ (by simp only [Nat.reducePow];omega) hn,hb.1,hb.2] at e1
    rw [← e1]
    simp
   ·rename_i hh
    rw [Option.map_eq_some_iff] at h
    obtain⟨l',hl',rfl⟩:=h
    obtain⟨e1,e2⟩:=mu r 0 true l' (fun _=>rfl) (fun x=>by cases x) hl'
    have e3:(n*128+c.toNat % 128) / 128=n:=by omega
    have e4:(n*128+c.toNat % 128) % 128=c.toNat:=by omega
    refine⟨?_,fun x hx=>?_⟩
    ·rw [enc,← e1,b128,e3,e4]
     simp [show hiB 0=[] from rfl]
    ·rcases List.mem_cons.1 hx with rfl|hx
     ·omega
     ·exact e2 x hx
theorem dec_hi:∀ (f y:Nat) (t:List UInt8),y<128 ^ f→y<9223372036854775808→decGo (hiF f y++t) 0 true=decGo t y (decide (y=0))
 |0,y,t,h,_=>by have:y=0:=(by simpa using h);subst this;rfl
 |f+1,y,t,h,h2=>by
  rw [hiF]
  split
  ·rename_i h0;subst h0;rfl
  ·rename_i h0
   rw [List.append_assoc,dec_hi f (y / 128) _ (by rw [Nat.pow_succ] at h;omega) z2_]
   simp only [List.cons_append,List.nil_append,decGo]
   have e:(UInt8.ofNat (y % 128+128)).toNat=y % 128+128:=by rw [UInt8.toNat_ofNat'];omega
   rw [e,if_neg,if_pos z2_]
   ·rw [show y / 128*128+(y % 128+128) % 128=y by omega,am h0]
   ·simp only [Bool.or_eq_true,Bool.and_eq_true,aj,not_or,not_and]
    omega
theorem dec_b128 (x:Nat) (r:List UInt8) (h:x<9223372036854775808):decGo (b128 x++r) 0 true=(decGo r 0 true).map (x::·):=by
 unfold b128 hiB
 rw [List.append_assoc,dec_hi 10 (x / 128) _ (by simp only [Nat.reducePow];omega) z2_]
 simp only [List.cons_append,List.nil_append,decGo]
 have e:(UInt8.ofNat (x % 128)).toNat=x % 128:=by rw [UInt8.toNat_ofNat'];omega
 rw [e,if_neg,if_neg z2_]
 ·rw [show x / 128*128+x % 128 % 128=x by omega]
 ·simp only [Bool.or_eq_true,Bool.and_eq_true,aj,not_or,not_and]
  omega
theorem pj:∀ (l:List Nat),(∀ x∈l,x<9223372036854775808)→decGo (enc l) 0 true=some l
 |[],_=>rfl
 |n::r,h=>by
  rw [enc,dec_b128 _ _ (h n (aF ..)),pj r (fun x hx=>h x (aI _ hx))]
  rfl
theorem pE:∀ (b:List UInt8) (n long:Nat) (fresh:Bool) (l:List Nat),(fresh=true→n=0∧long=0)→(fresh=false→128 ^ (long-1)≤n∧1≤long)→decGo b n fresh=some l→refGo b n long=some l
 |[],n,long,fresh,l,h0,h1,h=>by
  cases fresh with
  |false=>simp [decGo] at h
  |true=>simpa [decGo,refGo] using h
 |c::r,n,long,fresh,l,h0,h1,h=>by
  have hc:=UInt8.toNat_lt c
  rw [decGo] at h
  rw [refGo]
  split at h
  ·cases h
  ·rename_i hg
   simp only [Bool.or_eq_true,Bool.and_eq_true,aj,not_or,not_and] at hg
   have hlong:long≤8:=by
    cases fresh with
    |true=>have:=h0 rfl;omega
    |false =>
     obtain⟨q1,q2⟩:=h1 rfl
     rcases Nat.lt_or_ge 8 long with h9|h9
     ·have:(128:Nat) ^ 8≤128 ^ (long-1):=Nat.pow_le_pow_right bJ z2_
      simp only [Nat.reducePow] at this;omega
     ·exact h9
   rw [if_neg z2_]
   split at h
   ·rename_i hh
    rw [if_pos z2_]
    refine pE r _ (long+1) false l (fun x=>by cases x) (fun _=>⟨?_,by omega⟩) h
    rw [Nat.add_sub_cancel]
    cases fresh with
    |true=>have:=h0 rfl;have:=hg.1 rfl;rw [(h0 rfl).2];simp only [Nat.pow_zero];omega
    |false =>
     obtain⟨q1,q2⟩:=h1 rfl
     obtain⟨j,rfl⟩:∃ j,long=j+1:=⟨long-1,by omega⟩
     rw [Nat.add_sub_cancel] at q1
     rw [Nat.pow_succ]
     omega
   ·rename_i hh
    rw [if_neg z2_]
    rw [Option.map_eq_some_iff] at h
    obtain⟨l',hl',rfl⟩:=h
    rw [pE r 0 0 true l' (fun _=>⟨rfl,rfl⟩) (fun x=>by cases x) hl']
    rfl
theorem ref_lt:∀ (b:List UInt8) (n long:Nat) (l:List Nat),refGo b n long=some l→(∀ x∈l,x<9223372036854775808)∧l.length≤b.length
 |[],n,long,l,h=>by simp [refGo] at h;subst h;simp
 |c::r,n,long,l,h=>by
  rw [refGo] at h
  split at h
  ·cases h
  ·split at h
   ·have:=ref_lt r _ _ l h
    exact⟨this.1,by simp;omega⟩
   ·rw [Option.map_eq_some_iff] at h
    obtain⟨l',hl',rfl⟩:=h
    have:=ref_lt r _ _ l' hl'
    refine⟨fun x hx=>?_,by simp;omega⟩
    rcases List.mem_cons.1 hx with rfl|hx
    ·omega
    ·exact this.1 x hx
def refO (b:List UInt8):Option (List Nat):=match refGo b 0 0 with
 |none=>none
 |some l=>if l≠[]∧enc l=b then some l else none
def decO (b:List UInt8):Option (List Nat):=match decGo b 0 true with
 |none=>none
 |some l=>if l=[] then none else some l
theorem refO_decO (b:List UInt8):refO b=decO b:=by
 unfold refO decO
 cases hd:decGo b 0 true with
 |some l =>
  have h1:=pE b 0 0 true l (fun _=>⟨rfl,rfl⟩) (fun x=>by cases x) hd
  have h2:=(mu b 0 true l (fun _=>rfl) (fun x=>by cases x) hd).1
  rw [h1]
  simp only [← h2]
  by_cases hl:l=[]
  ·simp [hl]
  ·simp [hl,show hiB 0=[] from rfl]
 |none =>
  cases hr:refGo b 0 0 with
  |none=>rfl
  |some l =>
   simp only
   rw [if_neg]
   rintro⟨_,he⟩
   have:=pj l (ref_lt b 0 0 l hr).1
   rw [he,hd] at this
   cases this
def tail46:List Nat→List UInt8
 |[]=>[]
 |n::r=>[46]++dgs n 1++tail46 r
def txtO:List Nat→List UInt8
 |[]=>[]
 |n::r=>dgs (min (n / 40) 2) 1++[46]++dgs (n-40*min (n / 40) 2) 1++tail46 r
theorem iz:∀ (b out:List UInt8) (n:Nat) (fresh:Bool),oidGo b out n fresh false=(decGo b n fresh).map (out++tail46 ·)
 |[],out,n,fresh=>by cases fresh<;>simp [oidGo,decGo,tail46]
 |c::r,out,n,fresh=>by
  rw [oidGo,decGo]
  split
  ·rfl
  ·split
   ·exact iz r out _ _
   ·simp only [bO,if_false]
    rw [iz,Option.map_map]
    congr 1
    funext l
    simp [tail46]
theorem jR:∀ (b out:List UInt8) (n:Nat) (fresh:Bool),oidGo b out n fresh true=match decGo b n fresh with|none=>none|some l=>if l=[] then none else some (out++txtO l)
 |[],out,n,fresh=>by cases fresh<;>simp [oidGo,decGo]
 |c::r,out,n,fresh=>by
  rw [oidGo,decGo]
  split
  ·rfl
  ·split
   ·exact jR r out _ _
   ·rw [if_pos rfl,iz]
    cases decGo r 0 true with
    |none=>rfl
    |some l=>simp [txtO]
theorem lS (b:List UInt8):oidT b=(decO b).map txtO:=by
 unfold oidT decO
 rw [jR]
 cases decGo b 0 true with
 |none=>rfl
 |some l=>by_cases h:l=[]<;>simp [h]
def dig (c:UInt8):Bool:=decide (48≤c.toNat∧c.toNat≤57)
def numV (s:List UInt8):Nat:=s.foldl (fun v c=>v*10+(c.toNat-48)) 0
def numBad (s:List UInt8):Bool:=decide (s.length=0∨19<s.length∨1<s.length∧(s.getD 0 0).toNat=48)
def numB (s:List UInt8):Option Nat:=if numBad s||!s.all dig then none else if numV s<9223372036854775808 then some (numV s) else none
def numsGo:List UInt8→List UInt8→Option (List Nat)
 |[],cur=>(numB cur).map ([·])
 |c::r,cur=>if c=46 then(match numB cur with
  |none=>none
  |some n=>(numsGo r []).map (n::·)) else numsGo r (cur++[c])
def oidOk (l:List Nat):Bool:=decide (2≤l.length)&&(decide (l.getD 0 0=2∧l.getD 1 0<9223372036854775728)||decide (l.getD 0 0<2∧l.getD 1 0<40))
def oidB (s:List UInt8):Option (List UInt8):=match numsGo s [] with
 |none=>none
 |some l=>if oidOk l then some (enc ((40*l.getD 0 0+l.getD 1 0)::l.drop 2)) else none
theorem gX (s:List UInt8) (c:UInt8):numV (s++[c])=numV s*10+(c.toNat-48):=by simp [numV]
theorem dgo_num:∀ (f n len k:Nat),1≤len→n<10 ^ f→n<10 ^ k→numV (dgo f n len 1)=n∧(dgo f n len 1).all dig=true∧(dgo f n len 1).length≤k∧(n=0→dgo f n len 1=[])∧(0<n→0<(dgo f n len 1).length∧((dgo f n len 1).getD 0 0).toNat≠48)
 |0,n,len,k,h1,h,hk=>by
  have:n=0:=by simpa using h
  subst this
  simp [dgo,numV]
 |f+1,n,len,k,h1,h,hk=>by
  rw [dgo]
  by_cases h0:0<n
  ·rw [if_pos (.inl h0)]
   obtain⟨j,rfl⟩:∃ j,k=j+1:=⟨k-1,by
    cases k with
    |zero=>simp at hk;omega
    |succ k=>rfl⟩
   rw [Nat.pow_succ] at h hk
   obtain⟨i1,i2,i3,i4,i5⟩:=dgo_num f (n / 10) (len+1) j z2_ z2_ z2_
   have e:(UInt8.ofNat (48+n % 10)).toNat=48+n % 10:=by rw [UInt8.toNat_ofNat'];omega
   refine⟨by rw [gX,i1,e];omega,by simp [i2,dig,e];omega,by simp;omega,fun h=>by omega,fun _=>⟨by simp,?_⟩⟩
   by_cases hn:0<n / 10
   ·have:=i5 hn
    rw [bg,List.getElem?_append_left this.1,← bg]
    exact this.2
   ·rw [i4 z2_]
    show(UInt8.ofNat (48+n % 10)).toNat≠48
    omega
  ·have:n=0:=by omega
   subst this
   rw [if_neg z2_]
   simp [numV]
theorem dgs_num (n:Nat) (h:n<9223372036854775808):numB (dgs n 1)=some n∧(dgs n 1).all dig=true:=by
 unfold dgs
 rw [dgo,if_pos (.inr bJ)]
 obtain⟨i1,i2,i3,i4,i5⟩:=dgo_num 19 (n / 10) 1 18 (aD _) (by simp only [Nat.reducePow];omega) (by simp only [Nat.reducePow];omega)
 have e:(UInt8.ofNat (48+n % 10)).toNat=48+n % 10:=by rw [UInt8.toNat_ofNat'];omega
 rw [show 0+1=1 from rfl]
 have hall:(dgo 19 (n / 10) 1 1++[UInt8.ofNat (48+n % 10)]).all dig=true:=by simp [i2,dig,e];omega
 have hnv:numV (dgo 19 (n / 10) 1 1++[UInt8.ofNat (48+n % 10)])=n:=by rw [gX,i1,e];omega
 refine⟨?_,hall⟩
 unfold numB
 have hb:numBad (dgo 19 (n / 10) 1 1++[UInt8.ofNat (48+n % 10)])=false:=by
  refine am ?_
  simp only [aX,aA,bh]
  rintro(h1|h1|⟨h1,h2⟩)
  ·omega
  ·omega
  ·have hp:0<n / 10:=by
    rcases Nat.eq_zero_or_pos (n / 10) with h0|h0
    ·rw [i4 h0] at h1;simp at h1
    ·exact h0
   have:=i5 hp
   rw [bg,List.getElem?_append_left this.1,← bg] at h2
   exact this.2 h2
 rw [hb,hall,if_neg bJ,hnv,if_pos h]
theorem fv:∀ (s cur r:List UInt8),s.all dig=true→numsGo (s++r) cur=numsGo r (cur++s)
 |[],cur,r,_=>by simp
 |c::s,cur,r,h=>by
  simp only [List.all_cons,Bool.and_eq_true] at h
  have hc:c≠46:=by
   rintro rfl
   have:=h.1
   simp [dig] at this
  simp only [List.cons_append,numsGo]
  rw [if_neg hc,fv s _ r h.2]
  simp
theorem n9 (n:Nat) (r:List UInt8) (h:n<9223372036854775808):numsGo (dgs n 1++[46]++r) []=(numsGo r []).map (n::·):=by
 have:=dgs_num n h
 rw [List.append_assoc,fv _ _ _ this.2,List.nil_append]
 simp only [List.cons_append,List.nil_append,numsGo,if_pos]
 rw [this.1]
theorem n8:∀ (n:Nat) (l:List Nat),n<9223372036854775808→(∀ x∈l,x<9223372036854775808)→numsGo (dgs n 1++tail46 l) []=some (n::l)
 |n,[],h,_=>by
  have:=dgs_num n h
  rw [tail46,fv _ _ _ this.2,List.nil_append,numsGo,this.1]
  rfl
 |n,m::r,h,hl=>by
  rw [tail46]
  have:=n9 n (dgs m 1++tail46 r) h
  rw [List.append_assoc] at this
  rw [List.append_assoc,this,n8 m r (hl m (aF ..)) (fun x hx=>hl x (aI _ hx))]
  rfl
theorem qx (l:List Nat) (h:∀ x∈l,x<9223372036854775808):oidB (txtO l)=if l=[] then none else some (enc l):=by
 cases l with
 |nil=>rfl
 |cons n r =>
  have hn:=h n (aF ..)
  have hr:=fun x hx=>h x (aI n hx)
  have e:=n9 (min (n / 40) 2) (dgs (n-40*min (n / 40) 2) 1++tail46 r) z2_
  rw [n8 _ r z2_ hr] at e
  have et:txtO (n::r)=dgs (min (n / 40) 2) 1++[46]++(dgs (n-40*min (n / 40) 2) 1++tail46 r):=by rw [txtO];simp only [List.append_assoc]
  unfold oidB
  rw [et,e]
  simp only [Option.map_some]
  have hok:oidOk (min (n / 40) 2::(n-40*min (n / 40) 2)::r)=true:=by
   unfold oidOk
   simp only [Bool.and_eq_true,Bool.or_eq_true,aj]
   refine⟨by simp,?_⟩
   show(min (n / 40) 2=2∧n-40*min (n / 40) 2<9223372036854775728)∨(min (n / 40) 2<2∧n-40*min (n / 40) 2<40)
   omega
  rw [if_pos hok,if_neg (by simp)]
  congr 2
  show _::r=n::r
  congr 1
  show 40*(min (n / 40) 2)+(n-40*min (n / 40) 2)=n
  omega
theorem refO_oidT (b:List UInt8):oidT b=(refO b).map txtO:=by rw [lS,refO_decO]
end
section
theorem ii (b:UInt8) (r:List UInt8) (h:b.toNat<128):chr (b::r)=b.toNat∧wid (b::r)=1:=by
 have e:Go.Lib.decodeL (b::r)=(b.toNat,1):=by
  unfold Go.Lib.decodeL
  rw [Go.Lib.decode_at]
  have e0:(⟨(b::r).toArray⟩:ByteArray).get! 0=b:=by rw [get!_list];rfl
  rw [e0]
  unfold Go.Lib.decodeN
  rw [if_pos h]
 exact⟨by show(Go.Lib.decodeL (b::r)).1=_;rw [e],by show(Go.Lib.decodeL (b::r)).2=_;rw [e]⟩
theorem chr_low (b:UInt8) (r:List UInt8) (h:chr (b::r)<128):b.toNat<128:=by
 rcases Nat.lt_or_ge b.toNat 128 with hb|hb
 ·exact hb
 ·exfalso
  have e:chr (b::r)=(Go.Lib.decodeL (b::r)).1:=rfl
  rw [e] at h
  unfold Go.Lib.decodeL at h
  rw [Go.Lib.decode_at] at h
  have e0:(⟨(b::r).toArray⟩:ByteArray).get! 0=b:=by rw [get!_list];rfl
  rw [e0] at h
  unfold Go.Lib.decodeN at h
  rw [if_neg z2_] at h
  split at h
  ·split at h<;>simp only at h<;>omega
  ·split at h
   ·split at h<;>simp only at h<;>omega
   ·split at h
    ·split at h<;>simp only at h<;>omega
    ·simp only at h;omega
theorem chr_dig (s:List UInt8) (p:Nat) (hp:p<s.length):(48≤chr (s.drop p)∧chr (s.drop p)≤57↔48≤byteAt s p∧byteAt s p≤57)∧(48≤chr (s.drop p)∧chr (s.drop p)≤57→chr (s.drop p)=byteAt s p∧wid (s.drop p)=1):=by
 have e:s.drop p=s[p]::s.drop (p+1):=aT hp
 have eb:=bv s p hp
 rw [e]
 constructor
 ·constructor
  ·intro h
   have h1:=chr_low s[p] (s.drop (p+1)) z2_
   rw [(ii _ _ h1).1,eb] at h
   exact h
  ·intro h
   rw [(ii _ _ z2_).1,eb]
   exact h
 ·intro h
  have h1:=chr_low s[p] (s.drop (p+1)) z2_
  rw [(ii _ _ h1).1,(ii _ _ h1).2,eb]
  exact⟨rfl,rfl⟩
theorem oW (a b:List UInt8):numV a≤numV (a++b):=by
 have key:∀ (l:List UInt8) (v:Nat),v≤l.foldl (fun v (c:UInt8)=>v*10+(c.toNat-48)) v:=by
  intro l
  induction l with
  |nil=>intro v;exact aD _
  |cons c l ih=>intro v;exact Nat.le_trans (show v≤v*10+(c.toNat-48) by omega) (ih _)
 unfold numV
 rw [List.foldl_append]
 exact key _ _
theorem n_ (s:List UInt8) (p:Nat):numV (s.take p)≤numV s:=by
 conv=>rhs;rw [← List.take_append_drop p s]
 exact oW _ _
theorem numV_ge (c:UInt8) (hc:49≤c.toNat):∀ (r:List UInt8),10 ^ r.length≤numV (c::r):=by
 have key:∀ (l:List UInt8) (v:Nat),v*10 ^ l.length≤l.foldl (fun v (c:UInt8)=>v*10+(c.toNat-48)) v:=by
  intro l
  induction l with
  |nil=>intro v;simp
  |cons c l ih =>
   intro v
   refine Nat.le_trans ?_ (ih _)
   rw [aA,Nat.pow_succ,← Nat.mul_assoc,Nat.mul_right_comm]
   exact bz _ (show v*10≤v*10+(c.toNat-48) by omega)
 intro r
 have:=key r (c.toNat-48)
 unfold numV
 rw [List.foldl_cons]
 simp only [Nat.zero_mul,Nat.zero_add]
 refine Nat.le_trans ?_ this
 exact Nat.le_mul_of_pos_left _ z2_
def numP (s:List UInt8):Nat×Bool:=match numB s with|some v=>(v,true)|none=>(0,false)
theorem numP_bad {s:List UInt8}(h:s.length=0∨1<s.length∧byteAt s 0=48):numP s=(0,false):=by
 have hb:numBad s=true:=an (by unfold byteAt at h;omega)
 simp [numP,numB,hb]
theorem qz {s:List UInt8}{p:Nat}(hp:p<s.length) (h:¬ (48≤byteAt s p∧byteAt s p≤57)):numP s=(0,false):=by
 have hb:s.all dig=false:=by
  rw [List.all_eq_false]
  refine⟨s[p],aL _,?_⟩
  have e:=bv s p hp
  unfold dig
  rw [am z2_]
  decide
 simp [numP,numB,hb]
theorem kV (s:List UInt8) (i:Nat) (h:i<s.length):numV (s.take (i+1))=numV (s.take i)*10+(byteAt s i-48):=by
 rw [av h,gX,bv s i h]
theorem all_take1 (s:List UInt8) (i:Nat) (h:i<s.length):(s.take (i+1)).all dig=((s.take i).all dig&&decide (48≤byteAt s i∧byteAt s i≤57)):=by
 rw [av h,List.all_append]
 simp [dig,bv s i h]
theorem numP_big {s:List UInt8}{p:Nat}(hp:p<s.length) (h:9223372036854775808≤numV (s.take p)*10+(byteAt s p-48)):numP s=(0,false):=by
 have h1:=n_ s (p+1)
 rw [kV s p hp] at h1
 unfold numP numB
 by_cases hb:(numBad s||!s.all dig)=true
 ·rw [if_pos hb]
 ·rw [if_neg hb,if_neg z2_]
theorem qA {s:List UInt8}(h0:¬ (s.length=0∨1<s.length∧byteAt s 0=48)) (hd:s.all dig=true) (hv:numV s<9223372036854775808):numP s=(numV s,true):=by
 have hl:s.length≤19:=by
  rcases Nat.lt_or_ge 19 s.length with hl|hl
  ·exfalso
   cases s with
   |nil=>simp at hl
   |cons c r =>
    simp only [aA] at hl h0
    have hc:dig c=true:=by simp only [List.all_cons,Bool.and_eq_true] at hd;exact hd.1
    unfold dig at hc
    have hc':=of_decide_eq_true hc
    have e:byteAt (c::r) 0=c.toNat:=rfl
    rw [e] at h0
    have:=numV_ge c z2_ r
    have h2:10 ^ 19≤10 ^ r.length:=Nat.pow_le_pow_right bJ z2_
    simp only [Nat.reducePow] at h2
    omega
  ·exact hl
 have hb:numBad s=false:=am (by unfold byteAt at h0;omega)
 unfold numP numB
 rw [hb,hd,if_neg bJ,if_pos hv]
theorem numP_lt (s:List UInt8):(numP s).1<9223372036854775808:=by
 unfold numP numB
 split<;>rename_i h
 ·split at h
  ·cases h
  ·split at h
   ·cases h;assumption
   ·cases h
 ·decide
theorem qQ:hiB 0=[]:=rfl
theorem hiB_k (n k:Nat) (hn:n<9223372036854775808) (h0:n / 128 ^ k≠0):hiB (n / 128 ^ k)=hiB (n / 128 ^ (k+1))++[UInt8.ofNat (n / 128 ^ k % 128+128)]:=by
 have hlt:n / 128 ^ k≤n:=Nat.div_le_self _ _
 rw [me _ (by simp only [Nat.reducePow];omega) h0,Nat.div_div_eq_div_mul,Nat.pow_succ]
theorem b128_eq (n:Nat):b128 n=hiB (n / 128 ^ (0+1))++[UInt8.ofNat (n % 128)]:=by
 unfold b128;simp
theorem kR:∀ (a cur r:List UInt8),(∀ c∈a,c≠46)→numsGo (a++46::r) cur=match numB (cur++a) with|none=>none|some n=>(numsGo r []).map (n::·)
 |[],cur,r,_=>by
  simp only [List.nil_append,List.append_nil,numsGo,if_true]<;>(cases numB cur<;>rfl)
 |c::a,cur,r,h=>by
  simp only [List.cons_append,numsGo]
  rw [if_neg (h c (aF ..)),kR a _ r (fun x hx=>h x (aI _ hx))]
  simp
theorem jS:∀ (a cur:List UInt8),(∀ c∈a,c≠46)→numsGo a cur=(numB (cur++a)).map ([·])
 |[],cur,_=>by simp [numsGo]
 |c::a,cur,h=>by
  simp only [numsGo]
  rw [if_neg (h c (aF ..)),jS a _ (fun x hx=>h x (aI _ hx))]
  simp
theorem numP_some {s:List UInt8}{v:Nat}(h:numP s=(v,true)):numB s=some v:=by
 unfold numP at h
 split at h
 ·cases h;assumption
 ·cases h
theorem numP_none {s:List UInt8}{v:Nat}(h:numP s=(v,false)):numB s=none:=by
 unfold numP at h
 split at h
 ·cases h
 ·assumption
theorem qX:∀ (s:List UInt8),(Go.Lib.indexByte s 46=-1∧∀ c∈s,c≠46)∨∃ k,k<s.length∧Go.Lib.indexByte s 46=(k:Int)∧s=s.take k++46::s.drop (k+1)∧∀ c∈s.take k,c≠46
 |[]=>.inl ⟨rfl,by simp⟩
 |c::r=>by
  rw [Go.Lib.indexByte]
  split
  ·rename_i hc
   have hc:=eq_of_beq hc
   subst hc
   exact .inr ⟨0,by simp,by simp,by simp,by simp⟩
  ·rename_i hc
   have hc:c≠46:=fun e=>hc (by rw [e];rfl)
   rcases qX r with ⟨h1,h2⟩|⟨k,h1,h2,h3,h4⟩
   ·rw [h1]
    refine .inl ⟨rfl,fun x hx=>?_⟩
    rcases List.mem_cons.1 hx with rfl|hx
    ·exact hc
    ·exact h2 x hx
   ·rw [h2]
    refine .inr ⟨k+1,by simp;omega,?_,?_,fun x hx=>?_⟩
    ·rw [if_neg (by simp)];simp
    ·simp only [List.take_succ_cons,List.drop_succ_cons,List.cons_append]
     rw [← h3]
    ·simp only [List.take_succ_cons] at hx
     rcases List.mem_cons.1 hx with rfl|hx
     ·exact hc
     ·exact h4 x hx
end
section
def Wd (r:Option Nat):Fence:={ Fence.wide with round:=r }
def noDefer:List Oper→Bool
 |[]=>true
 |o::l=>(match o.op with|.defer _=>false|_=>true)&&noDefer l
theorem pc {P:Program}{ops:Array Oper}{Q:Exit→Act→World→Prop}(hQ:¬ LetsOut Q) (r:Option Nat):∀ (l:List Oper) (a:Act) (w:World),noDefer l=true→wpList P ops Q l a w→wpListIn (Wd r) 0 P ops Q l a w
 |[],_,_,_,h=>h
 |o::l,a,w,hn,h=>by
  have ih:=fun a w=>pc (P:=P) (ops:=ops) hQ r l a w (by simp only [noDefer,Bool.and_eq_true] at hn;exact hn.2)
  have hd:∀ c,o.op≠.defer c:=fun c hc=>by simp [noDefer,hc] at hn
  have hsem:∀ ro,o.semAt ro a.eval=execOp a.eval o:=fun ro=>Oper.semAt_eq _ _ _ hd
  unfold wpList at h
  unfold wpListIn
  split at h
  ·rename_i hw
   rw [if_pos hw]
   rcases h with h|⟨_,h⟩
   ·refine⟨fun _ _=>trivial,?_⟩
    rw [hsem]
    unfold Oper.wp at h
    generalize (execOp a.eval o).run P w=res at h ⊢
    cases res with
    |ok nx w' =>
     cases nx with
     |value v=>exact ih _ _ h
     |skip=>exact ih _ _ h
     |defer d=>exact ih _ _ h
     |enter f args =>
      refine⟨(fun hh=>by cases hh),?_⟩
      have hc:CallsIn Fence.wide 0 P f args w' (fun e w''=>match e with
       |.returned v=>wpListIn (Wd r) 0 P ops Q l (a.put o.dst v) w''
       |.panicked chain=>Q (.panic chain) a w''
       |.outgrown=>LetsOut Q):=callsIn_wide.2 (Calls.mono h fun e w'' hh=>by
       cases e with
       |returned v=>exact ih _ _ hh
       |panicked c=>exact hh
       |outgrown=>exact hh)
      exact⟨trivial,fun cs hr=>by
       obtain⟨e,w'',fr,hR,rest⟩:=hc.2 cs (room_wide _)
       refine⟨e,w'',fr,?_,rest⟩
       cases e<;>exact hR⟩
     |row row args =>
      refine⟨(fun hh=>by cases hh),?_⟩
      exact fun c cs hr=>by
       obtain⟨v,w'',hR,hs⟩:=h c cs
       exact⟨v,w'',ih _ _ hR,stepsIn_wide.2 hs⟩
     |_=>exact h.elim
    |halt hl w' =>
     cases hl with
     |panic v=>exact h
     |_=>exact h.elim
   ·exact absurd h hQ
  ·rename_i hw
   rw [if_neg hw]
   exact⟨fun _ _=>trivial,ih _ _ h⟩
theorem Fr.noOut (f:Fr) (n:Post) (x:Nat→Post):¬ LetsOut (f.Q n x):=fun⟨_,_,h⟩=>h
def JI (f:Fr) (ops:Array Oper) (n:Post) (x:Nat→Post) (l:List Oper):Post:=fun S h L=>∀ a w,Sat f.e f.m S h L a w→wpListIn Fence.wide 0 f.P ops (f.Q n x) l a w
def JR (f:Fr) (l:Nat) (c:Code) (n:Post) (x:Nat→Post):Post:=fun S h L=>∀ a w,Sat f.e f.m S h L a w→c.wpIn (Wd (some l)) 0 f.P (f.Q n x) a w
def Loop.after (r:Loop) (b:Bool):Loop:={ r with state:=bif b then .ready else .done,pending:=bif b then none else some .ret }
def Rd (P:Program) (l:Nat) (r:Loop) (v:Value) (h:Part) (Li:List Ent) (R:Bool→Part→List Ent→Prop):Prop :=
 ∀ w,Ok ⟨w,(·∈keys (.obj l (.loop r)::Li)),h,[]⟩ h (.obj l (.loop r)::Li) w→∀ p,r.params=#[p] →
  RoundIn Fence.wide 0 P l r.fn (r.tmps.setIfInBounds p v) r.assign r.body w fun e w'=>∃ b h' Lo,e=.returned (.bool b)∧R b h' Lo∧Ok ⟨w,(·∈keys (.obj l (.loop r)::Li)),h,[]⟩ h' (.obj l (.loop (Loop.after r b))::Lo) w'
section
variable {f:Fr}{n:Post}{x:Nat→Post}{S:Sig}{h:Part}{L Li Lr:List Ent}{ops:Array Oper}{rest:List Oper}
variable {ty:TypeId}{pos:String}{af:Array Edge}{d:Nat}
theorem J.regionI {id:Nat}{l:List Oper}(k:JI f l.toArray n x l S h L):J f (.region id l.toArray false) n x S h L:=fun a w s=>(wpIn_wide (n:=0)).1 (wpIn_region_lit (k a w s))
theorem JI.of {l:List Oper}(hn:noDefer l=true) (k:JL f ops n x l S h L):JI f ops n x l S h L:=fun a w s=>pc (f.noOut n x) none l a w hn (k a w s)
theorem JI.op {q:Op}{v:Value}(r:RunV f S h L q ty v) (hd:Nat.blt d f.m=true) (k:JI f ops n x rest ((d,v)::S) h L):JI f ops n x (⟨some d,q,ty,pos,af,none⟩::rest) S h L:=fun a w s=>by
 unfold wpListIn
 rw [if_pos (by simp [Region.wanted])]
 refine⟨fun _ _=>trivial,?_⟩
 have hr:(Oper.semAt Fence.wide.round a.eval ⟨some d,q,ty,pos,af,none⟩).run f.P w=.ok (.value v) w:=r a w s _ _ _ _
 rw [hr]
 exact k _ w (s.put hd v s.ok)
theorem JI.yield {l:Nat}{r:Loop}{v:Value}{vo fo:Operand}{ts:Array TypeId}{p0:Tmp}{R:Bool→Part→List Ent→Prop}(hf:ev S fo=some (.func (.yield l) #[] #[])) (hv:ev S vo=some v) (hp:r.params=#[p0])
 (p:Parts (.obj l (.loop r)::Li) L Lr) (c:Rd f.P l r v h Li R) (hd:Nat.blt d f.m=true)
 (k:∀ b h' Lo,h.le h'→R b h' Lo→JI f ops n x rest ((d,.bool b)::S) h' (.obj l (.loop (Loop.after r b))::(Lo++Lr))) :
 JI f ops n x (⟨some d,.call { callee:=.value fo,args:=#[vo],argTypes:=ts },ty,pos,af,none⟩::rest) S h L:=fun a w s=>by
 unfold wpListIn
 rw [if_pos (by simp [Region.wanted])]
 refine⟨fun _ _=>trivial,?_⟩
 have okp:=s.ok.perm p.perm
 have hl:w.heap[l]?=some (.loop r):=okp.own (.obj l (.loop r)) (by simp)
 have hy:=run_yield (P:=f.P) (args:=#[v]) hl (by rw [hp];rfl)
 have hr:(Oper.semAt Fence.wide.round a.eval ⟨some d,.call { callee:=.value fo,args:=#[vo],argTypes:=ts },ty,pos,af,none⟩).run f.P w=.ok (.round l r.fn (r.tmps.setIfInBounds p0 v) r.assign r.body) w:=by
  show(execOp a.eval ⟨some d,.call { callee:=.value fo,args:=#[vo],argTypes:=ts },ty,pos,af,none⟩).run f.P w=_
  rw [hp] at hy
  simpa [execOp,resolve,s.eval hf,s.eval hv,Deferred.ofValue,invoke] using hy
 rw [hr]
 refine⟨(fun hh=>by cases hh),(c w okp.enter p0 hp).mono fun e w' hh=>?_⟩
 obtain⟨b,h',Lo,rfl,hR,hO⟩:=hh
 have okc:=okp.call hO
 exact k b h' Lo hO.le hR _ _ (s.put hd (.bool b) okc)
variable {l:Nat}
theorem JR.weak {c:Code}(S':Sig) (hw:Weak S' S) (k:JR f l c n x S' h L):JR f l c n x S h L:=fun a w s=>k a w (s.weak hw)
theorem JR.skip (k:n S h L):JR f l .skip n x S h L:=fun _ _ s=>wpIn_skip ⟨_,_,_,s,k⟩
theorem JR.seq {c d:Code}(k:JR f l c (JR f l d n x) x S h L):JR f l (.seq c d) n x S h L:=fun a w s=>by
 refine wpIn_seq (wpIn_mono (k a w s) (fun ex a' w' q=>?_))
 cases ex with
 |normal=>obtain⟨S',h',L',s',k'⟩:=q;exact k' a' w' s'
 |_=>exact q
theorem JR.ret (k:f.r S h L):JR f l .ret n x S h L:=fun _ _ s=>wpIn_ret ⟨_,_,_,s,k⟩
theorem JR.region {id:Nat}{os:List Oper}(hn:noDefer os=true) (k:JL f os.toArray n x os S h L):JR f l (.region id os.toArray false) n x S h L:=fun a w s=>wpIn_region_lit (pc (f.noOut n x) (some l) os a w hn (k a w s))
theorem JR.bsplit {c:Code}(t:Nat) {b:Bool}(ht:look S t=some (.bool b)) (k1:b=true→JR f l c n x ((t,.bool true)::S) h L) (k2:b=false→JR f l c n x ((t,.bool false)::S) h L):JR f l c n x S h L:=fun a w s=>by
 cases hb:b with
 |true=>exact k1 hb a w (s.bool ht hb)
 |false=>exact k2 hb a w (s.bool ht hb)
theorem JR.cond_t {t:Operand}{c d:Code}(ht:ev S t=some (.bool true)) (k1:JR f l c n x S h L):JR f l (.cond t c d) n x S h L:=fun a w s=>wpIn_cond_true (s.eval ht) (k1 a w s)
theorem JR.cond_f {t:Operand}{c d:Code}(ht:ev S t=some (.bool false)) (k1:JR f l d n x S h L):JR f l (.cond t c d) n x S h L:=fun a w s=>wpIn_cond_false (s.eval ht) (k1 a w s)
theorem JR.cs {b:Bool}{p q:Prop}{c d:Code}{t:Nat}(ht:look S t=some (.bool b)) [s:Sp b p q] (k1:p→JR f l c n x ((t,.bool true)::S) h L) (k2:q→JR f l d n x ((t,.bool false)::S) h L):JR f l (.cond (.tmp t) c d) n x S h L :=
 JR.bsplit t ht (fun hb=>JR.cond_t (by simp [ev,look]) (k1 (s.t hb))) (fun hb=>JR.cond_f (by simp [ev,look]) (k2 (s.f hb)))
theorem JR.sr {d:Code}{id:Nat}{os:List Oper}(hn:noDefer os=true) (k:JL f os.toArray (JR f l d n x) x os S h L):JR f l (.seq (.region id os.toArray false) d) n x S h L:=JR.seq (JR.region hn k)
theorem JR.kp {S':Sig}{c:Code}(ks:List Nat) (hk:keepS ks S=some S') (k:JR f l c n x S' h L):JR f l c n x S h L:=JR.weak S' (eX hk) k
theorem JR.nk {S':Sig}{c:Code}{x':Nat→Post}(ks:List Nat) (hk:keepS ks S=some S') (k:JR f l c n x S' h L):JL f ops (JR f l c n x) x' [] S h L:=a_ (JR.weak S' (eX hk) k)
theorem JR.block {id:Nat}{c:Code}(k:JR f l c n (fun i=>bif Nat.beq i id then n else x i) S h L) (hid:Nat.blt id 1000000=true:=by rfl):JR f l (.block id c) n x S h L:=fun a w s=>by
 refine wpIn_block (wpIn_mono (k a w s) (fun ex a' w' q=>?_))
 cases ex with
 |exit i =>
  obtain⟨S',h',L',s',k',hi⟩:=q
  simp only [Exit.inBlock]
  cases hb:Nat.beq i id with
  |true =>
   have:i=id:=ah hb
   simp only [hb,cond_true] at k'
   rw [if_pos this]
   exact⟨S',h',L',s',k'⟩
  |false =>
   have:i≠id:=Nat.ne_of_beq_eq_false hb
   simp only [hb,cond_false] at k'
   rw [if_neg this]
   exact⟨S',h',L',s',k',hi⟩
 |goto l =>
  obtain⟨S',h',L',s',k'⟩:=q
  have hlt:id<1000000:=by simpa using hid
  have hne:Nat.beq (l+1000000) id=false:=by
   cases hb:Nat.beq (l+1000000) id with
   |true=>have:=ah hb;omega
   |false=>rfl
  simp only [hne,cond_false] at k'
  exact⟨S',h',L',s',k'⟩
 |_=>exact q
def Slots (m:Nat) (S:Sig) (tmps:Array Value):Prop:=tmps.size=m∧∀ s v,look S s=some v→tmps[s]?=some v
theorem Ok.putObj {e:Env}{b:Nat}{o:Obj}{w:World}(k:Ok e h (.obj b o::L) w) (o':Obj):Ok e h (.obj b o'::L) (w.putObj b o'):=by
 have hl:w.heap[b]?=some o:=k.own _ (aF ..)
 refine k.turn rfl rfl rfl (by simp) (fun b' _ hne=>World.putObj_heap_other (fun e=>hne (by rw [e];rfl))) (World.putObj_heap_same (Array.getElem?_eq_some_iff.1 hl).1) (fun b' hb'=>.inl hb')
theorem Rd.intro {P:Program}{r:Loop}{v:Value}{m:Nat}{A B:Code}{pp:Tmp}{R:Bool→Part→List Ent→Prop}(hA:r.assign=A) (hB:r.body=B) (hs:r.state=.ready) (hpe:r.pending=none) (hpp:r.params=#[pp]) (hlt:Nat.blt pp m=true) (ht:Slots m S r.tmps)
 (k:∀ e:Env,e.ds=[]→∃ N:Post,JR ⟨P,e,m,fun _ _ _=>False,fun _ _ _ _=>False⟩ l A (fun S1 h1 L1=>h1=h∧L1=.obj l (.loop r)::Li∧N S1 h1 (.obj l (.loop { r with state:=.busy })::Li)) NoExit ((pp,v)::S) h (.obj l (.loop r)::Li) ∧
  ∀ S1,N S1 h (.obj l (.loop { r with state:=.busy })::Li) →
   JR ⟨P,e,m,fun _ h' L'=>∃ Lo Lr,Parts (.obj l (.loop { r with state:=.busy })::Lo) L' Lr∧R false h' Lo,fun _ _ _ _=>False⟩ l B (fun _ h' L'=>∃ Lo Lr,Parts (.obj l (.loop { r with state:=.busy })::Lo) L' Lr∧R true h' Lo) NoExit S1 h (.obj l (.loop { r with state:=.busy })::Li)) :
 Rd P l r v h Li R:=fun w hw p hp=>by
 rw [hpp] at hp
 cases hp
 obtain⟨N,kA,kB⟩:=k ⟨w,(·∈keys (.obj l (.loop r)::Li)),h,[]⟩ rfl
 have hlt':pp<m:=by simpa using hlt
 have s0:Sat ⟨w,(·∈keys (.obj l (.loop r)::Li)),h,[]⟩ m ((pp,v)::S) h (.obj l (.loop r)::Li) { tmps:=r.tmps.setIfInBounds pp v,defers:=[] } w:=by
  have s1:Sat ⟨w,(·∈keys (.obj l (.loop r)::Li)),h,[]⟩ m S h (.obj l (.loop r)::Li) { tmps:=r.tmps,defers:=[] } w:=⟨ht.1,fun s v hv=>ht.2 s v hv,rfl,hw⟩
  have:=s1.put hlt v s1.ok
  simpa [Act.put] using this
 refine roundIn_of_wpIn trivial ?_
 rw [hA,hB]
 refine wpIn_mono (kA _ _ s0) (fun ex a1 w1 q=>?_)
 cases ex with
 |normal =>
  obtain⟨S1,h1,L1,s1,rfl,rfl,hN⟩:=q
  have hl1:w1.heap[l]?=some (.loop r):=s1.ok.own (.obj l (.loop r)) (by simp)
  refine⟨_,run_beginRound hl1 hs,?_⟩
  refine wpIn_mono (kB S1 hN _ _ (s1.with (s1.ok.putObj _))) (fun ex2 a2 w2 q2=>?_)
  have fin:∀ (b:Bool) (jump:Option Code) (h':Part) (Lo Lr L2:List Ent) (S2:Sig),jump=(bif b then none else some .ret)→Sat ⟨w,(·∈keys (.obj l (.loop r)::Li)),h1,[]⟩ m S2 h' L2 a2 w2→Parts (.obj l (.loop { r with state:=.busy })::Lo) L2 Lr→R b h' Lo →
   ∃ v w',(Instr.endRound l jump).run P w2=.ok v w'∧∃ b h' Lo,Ending.returned v=.returned (.bool b)∧R b h' Lo∧Ok ⟨w,(·∈keys (.obj l (.loop r)::Li)),h1,[]⟩ h' (.obj l (.loop (Loop.after r b))::Lo) w':=by
   intro b jump h' Lo Lr L2 S2 hj s2 hp hR
   have ok2:=(s2.ok.perm hp.perm).drop (L':=.obj l (.loop { r with state:=.busy })::Lo) (by simp)
   have hl2:w2.heap[l]?=some (.loop { r with state:=.busy }):=ok2.own (.obj l (.loop { r with state:=.busy })) (by simp)
   refine⟨_,_,run_endRound jump hl2,b,h',Lo,?_,hR,?_⟩
   ·subst hj;cases b<;>rfl
   ·have:=ok2.putObj (.loop (Loop.after r b))
    subst hj
    cases b<;>exact this
  cases ex2 with
  |normal=>obtain⟨S2,h',L2,s2,Lo,Lr,hp,hR⟩:=q2;exact fin true none h' Lo Lr L2 S2 rfl s2 hp hR
  |ret=>obtain⟨S2,h',L2,s2,Lo,Lr,hp,hR⟩:=q2;exact fin false (some .ret) h' Lo Lr L2 S2 rfl s2 hp hR
  |exit i=>obtain⟨_,_,_,_,hh⟩:=q2;exact hh.1.elim
  |panic c=>obtain⟨_,_,_,_,hh⟩:=q2;exact hh.elim
  |goto i=>obtain⟨_,_,_,_,hh⟩:=q2;exact hh.elim
  |outgrown=>exact q2.elim
 |ret=>obtain⟨_,_,_,_,hh⟩:=q;exact hh.elim
 |exit i=>obtain⟨_,_,_,_,hh⟩:=q;exact hh.1.elim
 |panic c=>obtain⟨_,_,_,_,hh⟩:=q;exact hh.elim
 |goto i=>obtain⟨_,_,_,_,hh⟩:=q;exact hh.elim
 |outgrown=>exact q.elim
def JG (f:Fr) (c:Code) (Q:Exit→Act→World→Prop):Post:=fun S h L=>∀ a w,Sat f.e f.m S h L a w→c.wp f.P Q a w
def Fr.calm (f:Fr):Fr:=⟨f.P,f.e,f.m,fun _ _ _=>False,fun _ _ _ _=>False⟩
def JN (f:Fr) (Q:Exit→Act→World→Prop):Post:=fun S h L=>∀ a w,Sat f.e f.m S h L a w→Q .normal a w
def JE (f:Fr) (Q:Exit→Act→World→Prop):Post:=fun S h L=>∀ a w,Sat f.e f.m S h L a w→Q .ret a w
theorem JG.seq {c d:Code}{Q:Exit→Act→World→Prop}(k:J f.calm c (JG f d Q) NoExit S h L):JG f (.seq c d) Q S h L:=fun a w s=>by
 refine wp_seq (wpm (k a w s) (fun ex a' w' q=>?_))
 cases ex with
 |normal=>obtain⟨S',h',L',s',k'⟩:=q;exact k' a' w' s'
 |exit i=>obtain⟨_,_,_,_,hh⟩:=q;exact hh.1.elim
 |ret=>obtain⟨_,_,_,_,hh⟩:=q;exact hh.elim
 |panic c=>obtain⟨_,_,_,_,hh⟩:=q;exact hh.elim
 |goto i=>obtain⟨_,_,_,_,hh⟩:=q;exact hh.elim
 |outgrown=>exact q.elim
def Fr.mark (f:Fr) (D:Nat):Fr:=⟨f.P,{ f.e with ds:=[{ target:=.collected D,args:=#[] }] },f.m,f.r,f.p⟩
def Loop.new (fn:Nat) (tmps:Array Value) (ps:Array Tmp) (A B:Code) (D:Nat):Loop:={ state:=.ready,pending:=none,fn:=fn,tmps:=tmps,params:=ps,assign:=A,body:=B,defers:=D }
theorem Ok.allocObj {e:Env}{w:World}(k:Ok e h L w) (o:Obj):Ok e h (.obj w.heap.size o::L) (w.alloc o):=by
 have keepOld:∀ b,b<w.heap.size→(w.alloc o).heap[b]?=w.heap[b]?:=fun b hb=>Below.heap_alloc _ _ _ hb
 refine⟨k.os,k.tape,k.output,by have:=k.size;simp;omega,fun b hb hm=>?_,fun b c hc=>?_,k.le,k.fresh,fun x hx=>?_,fun b hb=>?_,?_⟩
 ·rw [keepOld b (Nat.lt_of_lt_of_le hb k.size)];exact k.old b hb hm
 ·obtain⟨t',fr,he⟩:=k.sub b c hc
  exact⟨t',fr,by rw [keepOld b (k.sub.lt hc)];exact he⟩
 ·cases hx with
  |head=>exact World.alloc_heap_new w _
  |tail _ hx=>exact Ent.keep (k.own x hx) fun b hb=>keepOld b (Ent.lt (k.own x hx) hb)
 ·simp only [keys,List.filterMap_cons,Ent.key,List.mem_cons] at hb
  rcases hb with rfl|hb
  ·refine⟨?_,.inl k.size⟩
   cases hh:h w.heap.size with
   |none=>rfl
   |some c=>have:=k.sub.lt hh;omega
  ·exact k.key b hb
 ·simp only [keys,List.filterMap_cons,Ent.key]
  exact List.nodup_cons.2 ⟨fun hm=>by have:=k.klt hm;omega,k.nodup⟩
theorem Ok.dsx {e:Env}{w:World}(k:Ok e h L w) (ds:List Deferred):Ok { e with ds:=ds } h L w:=⟨k.os,k.tape,k.output,k.size,k.old,k.sub,k.le,k.fresh,k.own,k.key,k.nodup⟩
theorem JG.range {g:Operand}{pp:Tmp}{A B:Code}{gf:Nat}{lb:List Value}{Q:Exit→Act→World→Prop}(hg:ev S g=some (.func (.func gf) #[] lb.toArray)) (hF:callT f.P gf=true) (hds:f.e.ds=[])
 (k:∀ (D l fn:Nat) (tmps:Array Value),Slots f.m S tmps→∃ (Li Lr:List Ent) (R:Bool→Part→List Ent→Prop),Parts Li L Lr ∧
  Fn f.P gf (.func (.yield l) #[] #[]::lb) h (.obj l (.loop (Loop.new fn tmps #[pp] A B D))::Li) (Rets fun _ h' Lo=>∃ b Lo',Lo=.obj l (.loop (Loop.after (Loop.new fn tmps #[pp] A B D) b))::Lo'∧R b h' Lo') ∧
  (∀ h' Lo,h.le h'→R true h' Lo→JN (f.mark D) Q S h' (.obj D (.deferred (some []))::(Lo++Lr))) ∧
  (∀ h' Lo,h.le h'→R false h' Lo→JE (f.mark D) Q S h' (.obj D (.deferred (some []))::(Lo++Lr)))) :
 JG f (.rangeFunc g #[pp] A B) Q S h L:=fun a w s=>by
 refine(wpIn_wide (n:=0)).1 (wpIn_rangeFunc fun fn _=>?_)
 have hda:a.defers=[]:=by rw [s.ds,hds]
 obtain⟨Li,Lr,R,hp,hc,kt,kf⟩:=k w.heap.size (w.heap.size+1) fn a.tmps ⟨s.size,s.slot⟩
 have ok1:=s.ok.allocObj (.deferred (some []))
 have ok2:=ok1.allocObj (.loop (Loop.new fn a.tmps #[pp] A B w.heap.size))
 rw [World.size_alloc] at ok2
 have hw2:∃ w2,w2=((w.alloc (.deferred (some []))).alloc (.loop (Loop.new fn a.tmps #[pp] A B w.heap.size))):=⟨_,rfl⟩
 obtain⟨w2,hw2⟩:=hw2
 rw [← hw2] at ok2
 refine⟨w.heap.size+1,[{ target:=.collected w.heap.size,args:=#[] }],w2,{ target:=.fn (.func gf) lb.toArray,args:=#[.func (.yield (w.heap.size+1)) #[] #[]] },w2,gf,#[.func (.yield (w.heap.size+1)) #[] #[]]++lb.toArray,w2,
  by rw [hw2];exact run_enterLoop_outer _ _ _ _ _,?_,fun _ _=>trivial,?_,(fun hh=>by cases hh),?_⟩
 ·simp only [resolve,s.eval hg]
  simp [go_sem,Deferred.ofValue,Sem.run_pure,Act.eval]
 ·simp [invoke,fq hF]
 ·have hin:(w.heap.size+1)=(w.heap.size+1):=rfl
  have okp:Ok f.e h ((.obj (w.heap.size+1) (.loop (Loop.new fn a.tmps #[pp] A B w.heap.size))::Li)++(.obj w.heap.size (.deferred (some []))::Lr)) w2:=by
   refine ok2.perm ?_
   have:=hp.perm
   refine List.Perm.cons _ ?_
   refine(List.Perm.cons _ this).trans ?_
   exact List.perm_middle.symm
  have hcc:=hc _ okp.enter
  have e0:(#[.func (.yield (w.heap.size+1)) #[] #[]]++lb.toArray:Array Value)=(.func (.yield (w.heap.size+1)) #[] #[]::lb).toArray:=by simp
  rw [e0]
  refine callsIn_wide.2 (hcc.mono fun e w' hh=>?_)
  obtain⟨h',Lo,⟨v,rfl,b,Lo',rfl,hR⟩,hO⟩:=hh
  have okc:=okp.call hO
  have hl:w'.heap[w.heap.size+1]?=some (.loop (Loop.after (Loop.new fn a.tmps #[pp] A B w.heap.size) b)):=okc.own (.obj _ _) (by simp)
  have okd:Ok f.e h' (.obj w.heap.size (.deferred (some []))::(Lo'++Lr)) (w'.putObj (w.heap.size+1) (.loop { Loop.after (Loop.new fn a.tmps #[pp] A B w.heap.size) b with state:=.exhausted })):=by
   have:=(okc.putObj (.loop { Loop.after (Loop.new fn a.tmps #[pp] A B w.heap.size) b with state:=.exhausted })).drop (L':=Lo'++(.obj w.heap.size (.deferred (some []))::Lr)) (by simp)
   exact this.perm List.perm_middle
  have sat:Sat (f.mark w.heap.size).e (f.mark w.heap.size).m S h' (.obj w.heap.size (.deferred (some []))::(Lo'++Lr)) { a with defers:=[{ target:=.collected w.heap.size,args:=#[] }]++a.defers } (w'.putObj (w.heap.size+1) (.loop { Loop.after (Loop.new fn a.tmps #[pp] A B w.heap.size) b with state:=.exhausted })) :=
   ⟨s.size,s.slot,by simp [Fr.mark,hda],okd.dsx _⟩
  refine⟨_,_,run_endLoop hl (by cases b<;>simp [Loop.after]),?_⟩
  cases b with
  |true =>
   exact kt h' Lo' hO.le hR _ _ sat
  |false =>
   exact wpIn_ret (kf h' Lo' hO.le hR _ _ sat)
end
section
variable {f:Fr}{S:Sig}{h:Part}{L:List Ent}
theorem JG.block {id:Nat}{c:Code}{Q:Exit→Act→World→Prop}(k:JG f c (Exit.inBlock id Q) S h L):JG f (.block id c) Q S h L:=fun a w s=>wp_block (k a w s)
theorem JG.split {c d:Code}{Q:Exit→Act→World→Prop}(k:JG f c (Exit.then (fun a w=>d.wp f.P Q a w) Q) S h L):JG f (.seq c d) Q S h L:=fun a w s=>wp_seq (k a w s)
theorem JN.blk {id:Nat}{d:Code}{Q:Exit→Act→World→Prop}(k:JG f d Q S h L):JN f (Exit.inBlock id (Exit.then (fun a w=>d.wp f.P Q a w) Q)) S h L:=fun a w s=>k a w s
theorem JE.blk {id:Nat}{d:Code}{Q:Exit→Act→World→Prop}(k:JE f Q S h L):JE f (Exit.inBlock id (Exit.then (fun a w=>d.wp f.P Q a w) Q)) S h L:=fun a w s=>k a w s
end
def EndM (w0:World) (h:Part) (Li:List Ent) (R:Ending→Part→List Ent→Prop):Ending→World→Prop:=fun e w'=>∃ h' Lo,R e h' Lo∧Ok ⟨w0,(·∈keys Li),h,[]⟩ h' Lo w'
def EnvM (w0:World) (h:Part) (Li:List Ent) (D:Nat):Env:=⟨w0,(·∈keys Li),h,[{ target:=.collected D,args:=#[] }]⟩
def RetD (P:Program) (w0:World) (h:Part) (Li:List Ent) (D m:Nat) (fn:Func) (R:Ending→Part→List Ent→Prop):Post:=fun S h' L'=>∃ L1 v Lo Lr,Del (.obj D (.deferred (some []))) L' L1∧RetV P (EnvM w0 h Li D) m fn S h' (.obj D (.deferred none)::L1) v∧Parts Lo L1 Lr∧R (.returned v) h' Lo
theorem Fn.introM {P:Program}{F m:Nat}{fn:Func}{c:Code}{args:List Value}{h:Part}{Li:List Ent}{R:Ending→Part→List Ent→Prop}(hf:P.funcs[F]?=some fn) (hb:fn.body=some c) (hm:fn.ntmps=m) (hl:Nat.ble args.length m=true)
 (k:∀ w0,JG ⟨P,⟨w0,(·∈keys Li),h,[]⟩,m,fun _ _ _=>False,fun _ _ _ _=>False⟩ c (bodyPostM Fence.wide 0 P fn (EndM w0 h Li R)) (argSig 0 args) h Li):Fn P F args h Li R:=fun w hw=>by
 have hl':args.length≤m:=by simpa using hl
 have hs:Sat ⟨w,(·∈keys Li),h,[]⟩ m (argSig 0 args) h Li ⟨args.toArray++Array.replicate (fn.ntmps-args.toArray.size) undef,[]⟩ w:=by
  refine⟨by simp [hm];omega,fun s v hv=>?_,rfl,hw⟩
  obtain⟨_,h2⟩:=eP _ _ _ _ hv
  have hlt:=(List.getElem?_eq_some_iff.1 h2).1
  simp only [Nat.sub_zero] at h2 hlt
  rw [Array.getElem?_append_left (by simpa using hlt)]
  simpa using h2
 exact(callsIn_wide (n:=0)).1 (callsIn_of_wp_marks hf hb trivial (wpIn_wide.2 (k w _ w hs)))
theorem RetD.end_ {P:Program}{w0:World}{h:Part}{Li:List Ent}{D m:Nat}{fn:Func}{R:Ending→Part→List Ent→Prop}{a':Act}{w':World} :
 (∃ S h' L',Sat (EnvM w0 h Li D) m S h' L' a' w'∧RetD P w0 h Li D m fn R S h' L')→LeavesInM Fence.wide 0 P fn a'.tmps (EndM w0 h Li R) a'.defers .returning w':=by
 rintro⟨S,h',L',s',L1,v,Lo,Lr,u,hv,hp,hR⟩
 have hd:a'.defers=[{ target:=.collected D,args:=#[] }]:=s'.ds
 rw [hd]
 have okp:=s'.ok.perm u.perm
 have hK:w'.heap[D]?=some (.deferred (some [])):=okp.own (.obj D _) (by simp)
 have ok2:=okp.putObj (.deferred none)
 refine⟨by simp,.inl ⟨D,_,rfl,run_takeDeferred hK,v,hv _ _ (s'.with ok2),h',Lo,hR,?_⟩⟩
 exact hp.ok _ ((ok2.drop (L':=L1) (by simp)).dsx [])
theorem JE.of {P:Program}{w0:World}{h h1:Part}{Li L:List Ent}{D m:Nat}{fn:Func}{R:Ending→Part→List Ent→Prop}{S:Sig}{r:Post}{p:List PanicEntry→Post}(k:RetD P w0 h Li D m fn R S h1 L) :
 JE (Fr.mark ⟨P,⟨w0,(·∈keys Li),h,[]⟩,m,r,p⟩ D) (bodyPostM Fence.wide 0 P fn (EndM w0 h Li R)) S h1 L:=fun a w s=>RetD.end_ ⟨S,h1,L,s,k⟩
theorem JG.ofJ {P:Program}{w0:World}{h h1:Part}{Li L:List Ent}{D m:Nat}{fn:Func}{c:Code}{R:Ending→Part→List Ent→Prop}{S:Sig}{r:Post}{p:List PanicEntry→Post}
 (k:J ⟨P,EnvM w0 h Li D,m,RetD P w0 h Li D m fn R,fun _ _ _ _=>False⟩ c (RetD P w0 h Li D m fn R) NoExit S h1 L) :
 JG (Fr.mark ⟨P,⟨w0,(·∈keys Li),h,[]⟩,m,r,p⟩ D) c (bodyPostM Fence.wide 0 P fn (EndM w0 h Li R)) S h1 L:=fun a w s=>by
 refine wpm (k a w s) (fun ex a' w' q=>?_)
 cases ex with
 |normal=>exact RetD.end_ q
 |ret=>exact RetD.end_ q
 |panic c=>obtain⟨_,_,_,_,hh⟩:=q;exact hh.elim
 |exit i=>obtain⟨_,_,_,_,hh⟩:=q;exact hh.1.elim
 |goto l=>obtain⟨_,_,_,_,hh⟩:=q;exact hh.elim
 |outgrown=>exact False.elim q
theorem qK {P:Program}{e:Env}{h:Part}{L:List Ent}{w:World}{b T t:Nat}{v:Value}(hk:Ok e h L w) (hT:aggT P T=some none) (hm:Ent.blk b t [v]∈L):(loadVar T ⟨b,0,none⟩).run P w=.ok v w:=by
 have hb:w.heap[b]?=some (.cells [v].toArray t (0,0)):=hk.own _ hm
 have hc:w.cell? ⟨b,0,none⟩=some v:=by rw [cell_of_row w b 0 _ t _ hb];rfl
 simp [loadVar,(ee hT w).1,load,Sem.run,hc]
theorem RetV.cellv2 {P:Program}{e:Env}{m:Nat}{fn:Func}{S:Sig}{h:Part}{L:List Ent}{t T b bt t' T' b' bt':Nat}{v v':Value}(hr:fn.results=#[.cell t T,.cell t' T']) (hv:look S t=some (.pointer (some ⟨b,0,none⟩))) (hT:aggT P T=some none) (hm:Ent.blk b bt [v]∈L)
 (hv':look S t'=some (.pointer (some ⟨b',0,none⟩))) (hT':aggT P T'=some none) (hm':Ent.blk b' bt' [v']∈L):RetV P e m fn S h L (.tuple #[v,v']):=fun a w s=>by
 simp [results,hr,s.slot t _ hv,s.slot t' _ hv',asAddr,qK s.ok hT hm,qK s.ok hT' hm']
end
section
theorem rB {p:Prop}(u:p:=by repeat (first|exact trivial|refine⟨rfl,?_⟩|refine⟨(by exact cy (by first|exact decide_eq_decide.2 z2_|exact(an z2_).symm|exact(am z2_).symm)),?_⟩)):p:=u
theorem z34_ {p:Prop}(u:p:=by repeat (first|exact trivial|refine⟨rfl,?_⟩|refine⟨(by exact cy (by first|exact decide_eq_decide.2 (by simp only [← List.length_eq_zero_iff] at *;omega)|exact(an (by simp only [← List.length_eq_zero_iff] at *;omega)).symm|exact(am (by simp only [← List.length_eq_zero_iff] at *;omega)).symm)),?_⟩)):p:=u
end
section
set_option maxRecDepth 100000
theorem ic:convI Tryz.prog 21 194=some .u64:=by kernel_rfl
theorem rW {s:List UInt8}{h:Part}(hs:s.length≤140737488355328):Pure Tryz.prog 183 [.string ⟨s.toArray⟩] h (.tuple #[.int .u64 ((numP s).1:Nat),.bool (numP s).2]):=by
 have hcl:=chr_le
 refine aG Tryz.func183 rfl Tryz.ntmps183 rfl (fun e he=>?_)
 refine aU [(0,_)] ⟨rfl,trivial⟩ ?_
 refine Sr (Ru 2 rfl (a_ (aw (aw (cj [(18,.bool (decide (s.length=0∨1<s.length∧byteAt s 0=48)))] [(3,_),(2,_),(0,_)] ⟨rfl,rfl,rfl,trivial⟩ ?_ ?_)))))
 ·refine Rg (Ru 1 rfl (ae (RunV.eqlS rfl rfl) rfl ?_))
  refine Ru 1 rfl (Bs 9 rfl (fun hc1=>?_) fun hc1=>?_)
  ·refine Ru 9 rfl (a_ (⟨rfl,rfl,?_⟩))
   exact z34_
  refine Ru 1 rfl (aH rfl rfl  (bY d_ rfl) rfl ?_)
  refine Ru 2 rfl (Bs 13 rfl (fun hc2=>?_) fun hc2=>?_)
  ·refine Ru 1 rfl (aH rfl rfl  (bj d_ rfl rfl (show _=((0:Nat):Int) from rfl) z2_) rfl ?_)
   refine Ru 3 rfl (a_ (⟨rfl,rfl,?_⟩))
   exact z34_
  refine Ru 5 rfl (a_ (⟨rfl,rfl,?_⟩))
  exact z34_
 refine Cs rfl (fun hc3=>?_) fun hc3=>?_
 ·have hnb:=numP_bad hc3
  exact Sr (Ru 2 rfl (a_ (az (u:=.tuple #[.int .u64 0,.bool false]) (aS rfl rfl rfl) (by rw [hnb];rfl) rfl)))
 refine ax (Sr (Ru 1 rfl (a_ (aw (Sr (Ru 1 rfl (JL.range d_ rfl rfl (fun b4=>?_))))))))
 refine a_ (aE (bC (fun t_ S_ h_ L_=>∃ (p:Nat),t_=s.length-p∧S_=[(0,.string ⟨s.toArray⟩),(4,.int .u64 (numV (s.take p):Nat)),(20,.pointer (some ⟨b4,0,none⟩))]∧h=h_∧L_=[.it b4 s p]∧(p≤s.length∧(s.take p).all dig=true∧numV (s.take p)<9223372036854775808)) ⟨_,_,?_,⟨0,rfl,rfl,rfl,rfl,⟨by omega,by simp,by simp [numV]⟩⟩⟩ ?_))
 ·repeat (first|exact trivial|refine⟨rfl,?_⟩|refine⟨(by first|exact cm z2_|(rw [hcb.2])),?_⟩)
 rintro _ _ _ _ ⟨p,rfl,rfl,rfl,rfl,hp,hd,hv⟩
 have hw:=io (s.drop p);have hch:=chr_le (s.drop p)
 refine Sr (JL.next rfl dl_ rfl (fun hx5=>?_) (fun hx5=>?_))
 ·refine Ru 1 rfl (a_ (aw ?_))
  refine aM rfl (ax (aE (Sr (Ru 2 rfl (a_ (aw (aw (cj [(38,.bool (decide (¬ (48≤chr (s.drop p)∧chr (s.drop p)≤57)∨(9223372036854775807-(chr (s.drop p)-48)) / 10<numV (s.take p))))] [(6,_),(23,_),(22,_),(21,_),(0,_),(4,_),(20,_)] ⟨rfl,rfl,rfl,rfl,rfl,rfl,rfl,trivial⟩ ?_ ?_))))))))
  ·refine Rg (Ru 3 rfl (Bs 26 rfl (fun hc6=>?_) fun hc6=>?_))
   ·refine Ru 12 rfl (a_ (⟨rfl,rfl,?_⟩))
    exact rB
   refine Ru 4 rfl (Bs 30 rfl (fun hc7=>?_) fun hc7=>?_)
   ·refine Ru 8 rfl (a_ (⟨rfl,rfl,?_⟩))
    exact rB
   refine Ru 2 rfl (aH rfl rfl  (by first|exact RunV.sub_i32 rfl rfl z2_ z2_|exact dx rfl rfl) rfl ?_)
   refine aH rfl rfl  (by first|exact cX ic rfl z2_ z2_|exact cD ic rfl) rfl ?_
   refine aH rfl rfl  (by first|exact RunV.sub_u64 rfl rfl z2_ z2_|exact dx rfl rfl) rfl ?_
   refine aH rfl rfl  z37_ rfl ?_
   refine Ru 2 rfl (a_ (⟨rfl,rfl,?_⟩))
   exact rB
  refine Cs rfl (fun hc8=>?_) fun hc8=>?_
  ·have hfin:numP s=(0,false):=(by have hcd:=chr_dig s p z2_;rcases hc8 with hq|hq;exact qz z2_ (fun hh=>hq (hcd.1.2 hh));by_cases hw2:48≤chr (s.drop p)∧chr (s.drop p)≤57;exact numP_big (p:=p) z2_ (by have:=(hcd.2 hw2).1;omega);exact qz z2_ (fun hh=>hw2 (hcd.1.2 hh)))
   refine Sr (Ru 2 rfl (a_ ?_))
   first|exact az (u:=.tuple #[.int .u64 0,.bool false]) (aS rfl rfl rfl) (by rw [hfin];rfl) rfl|(have hpe:s.take p=s:=aJ z2_;have hfin:numP s=(numV s,true):=qA z5_ (by rw [← hpe];exact hd) (by rw [← hpe];exact hv);rw [hpe];exact az (u:=.tuple #[.int .u64 (numV s:Nat),.bool true]) (aS rfl rfl rfl) (by rw [hfin]) rfl)
  have hdg:48≤chr (s.drop p)∧chr (s.drop p)≤57:=z2_;have hcd:=chr_dig s p z2_;have hcb:=hcd.2 hdg;have hbd:=hcd.1.1 hdg;have hst:=kV s p z2_;have hal:=all_take1 s p z2_
  refine ax (Rg (Ru 1 rfl (ae (by first|exact RunV.mul_u64 rfl rfl z2_ z2_|exact RunV.mul rfl rfl) rfl ?_)))
  refine Ru 1 rfl (ae (by first|exact RunV.sub_i32 rfl rfl z2_ z2_|exact dx rfl rfl) rfl ?_)
  refine ae (by first|exact cX ic rfl z2_ z2_|exact cD ic rfl) rfl ?_
  refine ae (by first|exact RunV.add_u64 rfl rfl z2_ z2_|exact RunV.add rfl rfl) rfl ?_
  refine Ru 1 rfl (a_ ?_)
  rw [hcb.2]
  refine⟨_,?_,_,?_,⟨p+1,rfl,rfl,rfl,rfl,⟨by omega,by rw [hal,hd,an hbd];rfl,by omega⟩⟩⟩
  ·omega
  repeat (first|exact trivial|refine⟨rfl,?_⟩|refine⟨(by first|exact cm z2_|(rw [hcb.2])),?_⟩)
 refine Ru 1 rfl (a_ (aw (dy rfl ?_)))
 refine bx (Sr (Ru 3 rfl (Nk [3,2] rfl ?_)))
 first|exact az (u:=.tuple #[.int .u64 0,.bool false]) (aS rfl rfl rfl) (by rw [hfin];rfl) rfl|(have hpe:s.take p=s:=aJ z2_;have hfin:numP s=(numV s,true):=qA z5_ (by rw [← hpe];exact hd) (by rw [← hpe];exact hv);rw [hpe];exact az (u:=.tuple #[.int .u64 (numV s:Nat),.bool true]) (aS rfl rfl rfl) (by rw [hfin]) rfl)
theorem shr_cast7 (n j:Nat) (e:Int) (he:e=7*(j:Int)):(n:Int) / 2 ^ e.toNat=((n / 128 ^ j:Nat):Int):=by
 subst he
 have h1:(7*(j:Int)).toNat=7*j:=by omega
 have h2:(128:Nat) ^ j=2 ^ (7*j):=by rw [Nat.pow_mul]
 rw [h1,h2]
 simp
set_option maxRecDepth 100000 in
theorem or128_:∀ m:Fin 256,bits .or .u8 (m.val:Int) 128=((UInt8.ofNat (m.val % 128+128)).toNat:Int):=by decide
theorem RunV.or128 {f:Fr}{S:Sig}{h:Part}{L:List Ent}{ty T yt:TypeId}{x y:Operand}(m:Nat) (hx:ev S x=some (.int .u8 ((UInt8.ofNat m).toNat:Int))) (hy:ev S y=some (.int .u8 128)):RunV f S h L (.binOp .or T x y yt) ty (.int .u8 ((UInt8.ofNat (m % 128+128)).toNat:Int)):=by
 have:=RunV.or_ (f:=f) (h:=h) (L:=L) (ty:=ty) (T:=T) (yt:=yt) hx hy
 have e:=or128_ ⟨(UInt8.ofNat m).toNat,(UInt8.ofNat m).toNat_lt⟩
 simp only at e
 rw [e] at this
 have e2:(UInt8.ofNat m).toNat % 128=m % 128:=by rw [UInt8.toNat_ofNat'];omega
 rw [e2] at this
 exact this
theorem RunV.and127 {f:Fr}{S:Sig}{h:Part}{L:List Ent}{ty T yt:TypeId}{x y:Operand}(m:Nat) (hx:ev S x=some (.int .u8 ((UInt8.ofNat m).toNat:Int))) (hy:ev S y=some (.int .u8 127)):RunV f S h L (.binOp .and T x y yt) ty (.int .u8 ((UInt8.ofNat (m % 128)).toNat:Int)):=by
 have:=RunV.maskb_u8 (f:=f) (h:=h) (L:=L) (ty:=ty) (T:=T) (yt:=yt) 7 128 hx hy bJ bJ bJ
 have e2:((UInt8.ofNat m).toNat:Int) % 128=((UInt8.ofNat (m % 128)).toNat:Int):=by rw [UInt8.toNat_ofNat',UInt8.toNat_ofNat'];omega
 rw [e2] at this
 exact this
theorem oput_fn {a:Option Addr}{c:Nat}{l:List UInt8}{n:Nat}{h:Part}(hn:n<9223372036854775808) (hb:l.length≤70368744177664) :
 Fn Tryz.prog 184 [.slice a l.length c,.int .u64 n] h [.row a c 5 1 l.length (u8s l)]
  (Rets fun v _ Lo=>∃ a' c',v=.slice a' (l++b128 n).length c'∧Lo=[.row a' c' 5 1 (l++b128 n).length (u8s (l++b128 n))]):=by
 have hp0:∀ k,n / 128 ^ (k+1)=n / 128 ^ k / 128:=fun k=>by rw [Nat.div_div_eq_div_mul,Nat.pow_succ]
 have hp9:∀ k,9≤k→n / 128 ^ k=0:=fun k hk=>by
  refine Nat.div_eq_of_lt (Nat.lt_of_lt_of_le (show n<128 ^ 9 by simp only [Nat.reducePow];omega) (Nat.pow_le_pow_right bJ hk))
 refine aG Tryz.func184 rfl Tryz.ntmps184 rfl (fun e he=>?_)
 refine aU [(0,_),(1,_)] ⟨rfl,rfl,trivial⟩ ?_
 refine Sr ?_
 refine Ru 1 rfl (a_ (Sr (Ru 1 rfl (a_ (aw (Sr (Ru 1 rfl (ae (RunV.shr_u64 128 rfl rfl bJ bJ bJ) rfl ?_))))))))
 refine Ru 1 rfl (a_ (aE (bC (fun t_ S_ h_ L_=>∃ (k:Nat),t_=10-k∧S_=[(0,.slice a l.length c),(1,.int .u64 n),(5,.int .i64 k),(6,.int .u64 (n / 128 ^ (k+1):Nat))]∧h=h_∧L_=[.row a c 5 1 l.length (u8s l)]∧(k≤9∧(k=0∨n / 128 ^ k≠0))) ⟨_,_,?_,⟨0,rfl,rfl,rfl,rfl,⟨by omega,.inl rfl⟩⟩⟩ ?_)))
 ·exact gp
 rintro _ _ _ _ ⟨k,rfl,rfl,rfl,rfl,hk,hk0⟩
 have hq:=hp0 (k+1);have hq9:=hp9 (k+1)
 refine aw (Sr (Ru 2 rfl (a_ (Cs rfl (fun hc1=>?_) fun hc1=>?_))))
 ·refine ax (aw (aE (Rg (Ru 1 rfl (ae ai_ rfl ?_)))))
  refine Ru 1 rfl (a_ (Rg (Ru 1 rfl (ae (RunV.shr_u64 128 rfl rfl bJ bJ bJ) rfl ?_))))
  refine Ru 1 rfl (a_ (⟨_,?_,_,?_,⟨k+1,rfl,rfl,rfl,rfl,⟨by omega,.inr z2_⟩⟩⟩))
  ·omega
  exact gp
 have hz0:n / 128 ^ (k+1)=0:=Nat.eq_zero_of_not_pos (fun hh=>hc1 (Int.natCast_pos.2 hh))
 refine bx (aw (aE (bC (fun t_ S_ h_ L_=>∃ (j:Nat) (out:List UInt8) (a9:Option Addr) (q:Nat),t_=j+1∧S_=[(0,.slice a9 out.length q),(1,.int .u64 n),(5,.int .i64 j)]∧h=h_∧L_=[.row a9 q 5 1 out.length (u8s out)]∧(j≤9∧(j=0∨n / 128 ^ j≠0)∧out.length≤l.length+10-j∧out=l++hiB (n / 128 ^ (j+1)))) ⟨_,_,?_,⟨k,_,_,_,rfl,rfl,rfl,rfl,⟨by omega,by assumption,by omega,by rw [hz0,qQ,List.append_nil]⟩⟩⟩ ?_)))
 ·repeat (first|exact trivial|refine⟨rfl,?_⟩|refine⟨(by exact dH z2_),?_⟩)
 rintro _ _ _ _ ⟨j,out,a9,q,rfl,rfl,rfl,rfl,hj,hj0,hol,he⟩
 refine aw (Sr (Ru 2 rfl (a_ (Cs rfl (fun hc2=>?_) fun hc2=>?_))))
 ·obtain⟨i,rfl⟩:∃ i,j=i+1:=⟨j-1,by omega⟩;have hst:=hiB_k n (i+1) hn z2_;have hq:=hp0 i
  refine ax (aw (aE (Rg (Ru 3 rfl (ae im rfl ?_)))))
  refine ae (RunV.shr rfl rfl z2_ (by show _≤((64:Nat):Int);omega)) rfl ?_
  refine ae (cx (n / 128 ^ (i+1)) eZ rfl (shr_cast7 n (i+1) _ z2_)) rfl ?_
  refine ae (RunV.or128 (n / 128 ^ (i+1)) rfl rfl) rfl ?_
  refine ct cP mC rfl rfl rfl rfl rfl (fun b3=>?_)
  refine bV cP rfl rfl aW rfl dl_ dl_ rfl (rfl) z4_ rfl rfl (fun a4 c4 xs4 hC4 hN4=>?_)
  obtain rfl:=hC4.u8
  refine Ru 1 rfl (a_ (Rg (Ru 1 rfl (ae si_ rfl ?_))))
  refine Ru 1 rfl (a_ (⟨_,?_,_,?_,⟨i,_,_,_,rfl,rfl,rfl,rfl,⟨by omega,by omega,by simp;omega,by rw [hst,← List.append_assoc,← he]⟩⟩⟩))
  ·omega
  repeat (first|exact trivial|refine⟨rfl,?_⟩|refine⟨(by exact dH z2_),?_⟩)
 have hj0:j=0:=z2_;subst hj0
 refine bx (Sr (Ru 2 rfl (ae (cx n eZ rfl rfl) rfl ?_)))
 refine ae (RunV.and127 n rfl rfl) rfl ?_
 refine ct cP mC rfl rfl rfl rfl rfl (fun b5=>?_)
 refine bV cP rfl rfl aW rfl dl_ dl_ rfl (rfl) z4_ rfl rfl (fun a6 c6 xs6 hC6 hN6=>?_)
 obtain rfl:=hC6.u8
 refine Ru 1 rfl (Nk [4] rfl ?_)
 rw [b128_eq,← List.append_assoc,← he];exact dm ⟨_,[_],_,(au rfl rfl),.cons .here .nil,_,rfl,_,_,rfl,rfl⟩
theorem sindex_fn {s:List UInt8}{h:Part}:Pure Tryz.prog 251 [.string ⟨s.toArray⟩,.string ⟨#[46]⟩] h (.int .i64 (Go.Lib.indexByte s 46)) :=
 Pure.lib fun w hw=>(Tryz.strings_Index_one ⟨s.toArray⟩ 46 w).mono fun e w' ⟨he,hb⟩=>by
  subst hb
  exact⟨he,Below.refl _ _⟩
end
section
set_option maxRecDepth 100000
theorem ag_9:aggT Tryz.prog 9=some none:=by kernel_rfl
theorem ca_228:callT Tryz.prog 228=true:=by kernel_rfl
theorem ca_251:callT Tryz.prog 251=true:=by kernel_rfl
theorem oA {s sep:List UInt8}{k:Int}{h:Part}:Fn Tryz.prog 228 [.string ⟨s.toArray⟩,.string ⟨sep.toArray⟩,.int .i64 k] h [] (Rets fun v h' Lo=>h'=h∧∃ b1 b2 b3,v=.func (.func 250) #[] #[.pointer (some ⟨b2,0,none⟩),.pointer (some ⟨b1,0,none⟩),.pointer (some ⟨b3,0,none⟩)] ∧
 Lo=[.blk b3 3 [.int .i64 k],.blk b2 9 [.string ⟨sep.toArray⟩],.blk b1 9 [.string ⟨s.toArray⟩]]):=by
 refine aG Tryz.func228 rfl Tryz.ntmps228 rfl (fun e he=>?_)
 refine aU [(0,_),(1,_),(2,_)] ⟨rfl,rfl,rfl,trivial⟩ ?_
 refine Sr (d8 rfl rfl rfl (fun b1=>?_))
 refine d8 rfl rfl rfl (fun b2=>?_)
 refine d8 rfl rfl rfl (fun b3=>?_)
 refine Ru 1 rfl (a_ (Sr (ae (RunV.makeFunc (os1:=[]) rfl rfl) rfl ?_)))
 exact Ru 1 rfl (Nk [6] rfl (dm ⟨_,[_,_,_],_,(au rfl rfl),.cons .here (.cons .here (.cons .here .nil)),_,rfl,rfl,_,_,_,rfl,rfl⟩))
theorem pN {s sep:List UInt8}{h:Part}:Fn Tryz.prog 182 [.string ⟨s.toArray⟩,.string ⟨sep.toArray⟩] h [] (Rets fun v h' Lo=>h'=h∧∃ b1 b2 b3,v=.func (.func 250) #[] #[.pointer (some ⟨b2,0,none⟩),.pointer (some ⟨b1,0,none⟩),.pointer (some ⟨b3,0,none⟩)] ∧
 Lo=[.blk b3 3 [.int .i64 0],.blk b2 9 [.string ⟨sep.toArray⟩],.blk b1 9 [.string ⟨s.toArray⟩]]):=by
 refine aG Tryz.func182 rfl Tryz.ntmps182 rfl (fun e he=>?_)
 refine aU [(0,_),(1,_)] ⟨rfl,rfl,trivial⟩ ?_
 refine Sr (Ru 1 rfl (a_ (Sr (Ru 2 rfl (de ca_228 rfl (oA) pt_ rfl ?_)))))
 rintro _ h1 Lo1 hle1 ⟨rfl,b1,b2,b3,rfl,rfl⟩
 exact Ru 1 rfl (Nk [4] rfl (dm ⟨_,[_,_,_],_,(au rfl rfl),.cons .here (.cons .here (.cons .here .nil)),_,rfl,rfl,_,_,_,rfl,rfl⟩))
def OI (b2 b3 b4:Nat) (us:List UInt64) (L:List Ent):Prop:=∃ a c xs,(∀ h,CellsR u64R 1 h xs us)∧L=[.blk b4 152 [.slice a us.length c],.row a c 194 1 us.length xs,.blk b2 25 [.slice none 0 0],.blk b3 40 [.int .i64 0]]
def OBad (b2 b3:Nat) (L:List Ent):Prop:=L=[.blk b2 25 [.slice none 0 0],.blk b3 40 [.int .i64 20]]
def PR (b2 b3 b4:Nat) (us:List UInt64) (s:List UInt8) (h:Part) (b:Bool) (h':Part) (L:List Ent):Prop :=
 (b=true∧h'=h∧∃ v:UInt64,numB s=some v.toNat∧OI b2 b3 b4 (us++[v]) L)∨(b=false∧h'=h∧numB s=none∧OBad b2 b3 L)
theorem Parts.app:∀ (A B:List Ent),Parts A (A++B) B
 |[],_=>.nil
 |_::A,B=>.cons .here (Parts.app A B)
theorem su {r:Loop}(h1:r.state=.ready) (h2:r.pending=none):Loop.after r true=r:=by
 cases r;simp only at h1 h2;subst h1 h2;rfl
def ER (b2 b3 b4:Nat) (s:List UInt8) (h:Part) (b:Bool) (h':Part) (L:List Ent):Prop :=
 (b=true∧h'=h∧∃ us:List UInt64,numsGo s []=some (us.map (·.toNat))∧us.length≤s.length+1∧OI b2 b3 b4 us L)∨(b=false∧h'=h∧numsGo s []=none∧OBad b2 b3 L)
theorem iter_fn {l b2 b3 b4 b5 b6 b7 p0:Nat}{r:Loop}{s:List UInt8}{h:Part}(hp:r.params=#[p0]) (hst:r.state=.ready) (hpe:r.pending=none) (hs:s.length≤100000000000)
 (hrd:∀ (us:List UInt64) (t:List UInt8) (a:Option Addr) (c:Nat) (xs:List Value),us.length≤100000000001→t.length≤100000000000→(∀ h,CellsR u64R 1 h xs us) →
  Rd Tryz.prog l r (.string ⟨t.toArray⟩) h [.blk b4 152 [.slice a us.length c],.row a c 194 1 us.length xs,.blk b2 25 [.slice none 0 0],.blk b3 40 [.int .i64 0]] (PR b2 b3 b4 us t h)) :
 Fn Tryz.prog 250 [.func (.yield l) #[] #[],.pointer (some ⟨b6,0,none⟩),.pointer (some ⟨b5,0,none⟩),.pointer (some ⟨b7,0,none⟩)] h
  (.obj l (.loop r)::[.blk b7 3 [.int .i64 0],.blk b6 9 [.string ⟨[46].toArray⟩],.blk b5 9 [.string ⟨s.toArray⟩],.blk b4 152 [.slice none 0 0],.row none 0 194 1 0 [],.blk b2 25 [.slice none 0 0],.blk b3 40 [.int .i64 0]])
  (Rets fun _ h' Lo=>∃ b Lo',Lo=.obj l (.loop (Loop.after r b))::Lo'∧ER b2 b3 b4 s h b h' Lo'):=by
 have hm:=Go.Lib.indexByte_ge
 refine aG Tryz.func250 rfl Tryz.ntmps250 rfl (fun e he=>?_)
 refine aU [(0,_),(1,_),(2,_),(3,_)] ⟨rfl,rfl,rfl,rfl,trivial⟩ ?_
 refine aw (Sr (ae (aq ag_9 rfl mm_ rfl) rfl ?_))
 refine ae (bY d_ rfl) rfl ?_
 refine Ru 1 rfl (a_ (Cs rfl (fun hc1=>?_) fun hc1=>?_))
 ·exfalso;simp at hc1
 refine ax (aw (aE (bC (fun t_ S_ h_ L_=>∃ (us:List UInt64) (rest:List UInt8) (a:Option Addr) (c:Nat) (xs:List Value),t_=rest.length+1∧S_=[(0,.func (.yield l) #[] #[]),(1,.pointer (some ⟨b6,0,none⟩)),(2,.pointer (some ⟨b5,0,none⟩)),(3,.pointer (some ⟨b7,0,none⟩))]∧h=h_∧L_=.obj l (.loop r)::[.blk b7 3 [.int .i64 0],.blk b6 9 [.string ⟨[46].toArray⟩],.blk b5 9 [.string ⟨rest.toArray⟩],.blk b4 152 [.slice a us.length c],.row a c 194 1 us.length xs,.blk b2 25 [.slice none 0 0],.blk b3 40 [.int .i64 0]]∧((∀ h,CellsR u64R 1 h xs us)∧numsGo s []=(numsGo rest []).map (us.map (·.toNat)++·)∧us.length+rest.length≤s.length)) ⟨_,_,?_,⟨[],s,none,0,[],rfl,rfl,rfl,rfl,⟨fun _=>bQ,by simp,by simp⟩⟩⟩ ?_)))
 ·exact z7_
 rintro _ _ _ _ ⟨us,rest,a,c,xs,rfl,rfl,rfl,rfl,hxs,hng,hul⟩
 have hds:=qX rest;have hmr:=hm rest 46
 refine aE (Sr (ae (aq ag_9 rfl mm_ rfl) rfl ?_))
 refine ae (aq ag_9 rfl mm_ rfl) rfl ?_
 refine aV ca_251 rfl (sindex_fn) rfl ?_
 refine Ru 1 rfl (a_ (aw (Sr (Ru 2 rfl (a_ (Cs rfl (fun hc3=>?_) fun hc3=>?_))))))
 ·have hnd:∀ c∈rest,c≠46:=(by rcases hds with hh|⟨k,_,hk,_⟩;exact hh.2;omega);have hlast:=jS rest [] hnd;rw [List.nil_append] at hlast
  refine bx (Kp [0,2] rfl (J.regionI ?_))
  refine JI.op (bG rfl) rfl ?_
  refine JI.op (aq ag_9 rfl mm_ rfl) rfl ?_
  refine JI.yield rfl rfl z5_ pt_ (hrd us rest _ _ _ z2_ z2_ hxs) rfl ?_
  rintro _ h4 Lo4 hle4 hRF
  refine JI.of rfl ?_
  refine a_ ?_
  (rcases hRF with ⟨rfl,rfl,v,hv,hOI⟩|⟨rfl,rfl,hn,hBad⟩;exact⟨_,_,_,(RetV.none_ rfl),.cons .here (Parts.app _ _),_,rfl,true,_,rfl,.inl ⟨rfl,rfl,us++[v],by rw [hng,hlast,hv];simp,by simp;omega,hOI⟩⟩;exact⟨_,_,_,(RetV.none_ rfl),.cons .here (Parts.app _ _),_,rfl,false,_,rfl,.inr ⟨rfl,rfl,by rw [hng,hlast,hn];rfl,hBad⟩⟩)
 obtain⟨k,hk1,hk2,hk3,hk4⟩:∃ k,k<rest.length∧Go.Lib.indexByte rest 46=(k:Int)∧rest=rest.take k++46::rest.drop (k+1)∧∀ c∈rest.take k,c≠46:=(by rcases hds with ⟨hh,_⟩|hh;omega;exact hh);rw [hk2] at hc3;rw [hk2];have hcut:=kR (rest.take k) [] (rest.drop (k+1)) hk4;rw [← hk3,List.nil_append] at hcut
 refine ax (Sr (ae (aq ag_9 rfl mm_ rfl) rfl ?_))
 refine Ru 1 rfl (ae (aq cZ rfl mm_ rfl) rfl ?_)
 refine ae ai_ rfl ?_
 refine ae (RunV.strCut_h (m:=k) d_ rfl rfl z2_ z2_) rfl ?_
 refine Ru 1 rfl (a_ (aw (aw (J.regionI ?_))))
 refine JI.op (bG rfl) rfl ?_
 refine JI.op (bG rfl) rfl ?_
 refine JI.yield rfl rfl z5_ pt_ (hrd us (rest.take k) _ _ _ z2_ (by simp;omega) hxs) rfl ?_
 rintro _ h5 Lo5 hle5 hR
 refine JI.of rfl ?_
 refine Ru 1 rfl (a_ (Cs rfl (fun hc6=>?_) fun hc6=>?_))
 ·obtain⟨rfl,rfl,hn,hBad⟩:=hR.resolve_left (fun hh=>by rw [hh.1] at hc6;cases hc6)
  exact dm ⟨_,_,_,(RetV.none_ rfl),.cons .here (Parts.app _ _),_,rfl,false,_,rfl,.inr ⟨rfl,rfl,by rw [hng,hcut,hn];rfl,hBad⟩⟩
 obtain⟨rfl,rfl,v,hv,xa,xc,xxs,hxs2,rfl⟩:=hR.resolve_right (fun hh=>by rw [hh.1] at hc6;cases hc6);rw [su hst hpe]
 refine ax (Rg (ae (aq ag_9 rfl mm_ rfl) rfl ?_))
 refine Ru 1 rfl (ae (aq ag_9 rfl mm_ rfl) rfl ?_)
 refine ae (bY d_ rfl) rfl ?_
 refine ae (RunV.add_i64 (p:=(k:Int)) (q:=1) rfl rfl z2_ z2_) rfl ?_
 refine ae (RunV.strCut_l (m:=k+1) d_ rfl rfl z2_ z2_) rfl ?_
 refine bn ag_9 rfl rfl rfl dl_ fc ?_
 refine JL.ents (.obj l (.loop r)::[.blk b7 3 [.int .i64 0],.blk b6 9 [.string ⟨[46].toArray⟩],.blk b5 9 [.string ⟨(rest.drop (k+1)).toArray⟩],.blk b4 152 [.slice xa (us++[v]).length xc],.row xa xc 194 1 (us++[v]).length xxs,.blk b2 25 [.slice none 0 0],.blk b3 40 [.int .i64 0]]) pt_ ?_
 refine a_ (⟨_,?_,_,?_,⟨us++[v],rest.drop (k+1),_,_,_,rfl,rfl,rfl,rfl,⟨hxs2,by rw [hng,hcut,hv];simp [Function.comp_def],by simp;omega⟩⟩⟩)
 ·simp;omega
 exact z7_
end
section
def LeaveP (P:Program) (e:Env) (m:Nat) (fn:Func) (R:Ending→World→Prop) (d:Deferred) (u:FrameMode):Post:=fun S h L=>∀ a w,Sat e m S h L a w→Leaves P fn a.tmps R [d] u w
def FnEnd (w0:World) (h:Part) (Li:List Ent) (R:Ending→Part→List Ent→Prop):Ending→World→Prop:=fun e w'=>∃ h' Lo,R e h' Lo∧Ok ⟨w0,(·∈keys Li),h,[]⟩ h' Lo w'
theorem Ok.ds {e:Env}{h:Part}{L:List Ent}{w:World}(k:Ok e h L w) (ds:List Deferred):Ok { e with ds:=ds } h L w:=⟨k.os,k.tape,k.output,k.size,k.old,k.sub,k.le,k.fresh,k.own,k.key,k.nodup⟩
theorem Fn.introD {P:Program}{F m D t5 id:Nat}{fn:Func}{r0 rest:Code}{caps:Array Operand}{ty ty':TypeId}{pos pos':String}{af af':Array Edge}{args:List Value}{h:Part}{Li:List Ent}{R:Ending→Part→List Ent→Prop}
 (hf:P.funcs[F]?=some fn) (hb:fn.body=some (.seq r0 (.seq (.region id #[⟨some t5,.makeFunc (.func D) #[] caps,ty,pos,af,none⟩,⟨none,.defer { callee:=.value (.tmp t5),args:=#[],argTypes:=#[] },ty',pos',af',none⟩] false) rest)))
 (hm:fn.ntmps=m) (hl:Nat.ble args.length m=true) (ht:Nat.blt t5 m=true)
 (k:∀ w0,J ⟨P,⟨w0,(·∈keys Li),h,[]⟩,m,fun _ _ _=>False,fun _ _ _ _=>False⟩ r0
  (fun S1 h1 L1=>∃ vs,evl S1 caps.toList=some vs ∧
   J ⟨P,⟨w0,(·∈keys Li),h,[⟨.fn (.func D) vs.toArray,#[]⟩]⟩,m,LeaveP P ⟨w0,(·∈keys Li),h,[⟨.fn (.func D) vs.toArray,#[]⟩]⟩ m fn (FnEnd w0 h Li R) ⟨.fn (.func D) vs.toArray,#[]⟩ .returning,
    fun c=>LeaveP P ⟨w0,(·∈keys Li),h,[⟨.fn (.func D) vs.toArray,#[]⟩]⟩ m fn (FnEnd w0 h Li R) ⟨.fn (.func D) vs.toArray,#[]⟩ (.panicking c)⟩ rest
    (LeaveP P ⟨w0,(·∈keys Li),h,[⟨.fn (.func D) vs.toArray,#[]⟩]⟩ m fn (FnEnd w0 h Li R) ⟨.fn (.func D) vs.toArray,#[]⟩ .returning) NoExit ((t5,.func (.func D) #[] vs.toArray)::S1) h1 L1) NoExit (argSig 0 args) h Li):Fn P F args h Li R:=fun w hw=>by
 have hl':args.length≤m:=by simpa using hl
 refine calls_of_wp_defers hf hb ?_
 have hs:Sat ⟨w,(·∈keys Li),h,[]⟩ m (argSig 0 args) h Li ⟨args.toArray++Array.replicate (fn.ntmps-args.toArray.size) undef,[]⟩ w:=by
  refine⟨by simp [hm];omega,fun s v hv=>?_,rfl,hw⟩
  obtain⟨_,h2⟩:=eP _ _ _ _ hv
  have hlt:=(List.getElem?_eq_some_iff.1 h2).1
  simp only [Nat.sub_zero] at h2 hlt
  rw [Array.getElem?_append_left (by simpa using hlt)]
  simpa using h2
 refine wp_seq (wpm (k w _ w hs) (fun ex a' w' q=>?_))
 cases ex with
 |normal =>
  obtain⟨S1,h1,L1,s1,vs,hvs,k1⟩:=q
  show Code.wp P _ _ a' w'
  refine wp_seq ?_
  have hcap:caps.map a'.eval=vs.toArray:=by
   have:=dZ s1 hvs
   rw [← this]
   apply Array.ext'
   simp
  have hreg:=wp_region_lit (P:=P) (id:=id) (Q:=Exit.then (fun a2 w2=>rest.wp P (bodyPostD P fn (FnEnd w h Li R)) a2 w2) (bodyPostD P fn (FnEnd w h Li R))) (a:=a') (w:=w')
   (l:=[⟨some t5,.makeFunc (.func D) #[] caps,ty,pos,af,none⟩,⟨none,.defer { callee:=.value (.tmp t5),args:=#[],argTypes:=#[] },ty',pos',af',none⟩]) ?_
  ·exact hreg
  ·refine cL (v:=.func (.func D) #[] vs.toArray) (w':=w') rfl ?_ ?_
   ·simp [execOp,Instr.makeFunc,hcap]
   ·unfold wpList
    rw [if_pos (by simp [Region.wanted])]
    refine .inl ?_
    have s2:=s1.put ht (.func (.func D) #[] vs.toArray) s1.ok
    have ht5:(a'.put (some t5) (.func (.func D) #[] vs.toArray)).eval (.tmp t5)=.func (.func D) #[] vs.toArray:=s2.eval (x:=.tmp t5) (by simp [ev,look])
    have hr:(execOp (a'.put (some t5) (.func (.func D) #[] vs.toArray)).eval ⟨none,.defer { callee:=.value (.tmp t5),args:=#[],argTypes:=#[] },ty',pos',af',none⟩).run P w'=.ok (.defer ⟨.fn (.func D) vs.toArray,#[]⟩) w':=by
     simp [execOp,resolve,ht5,Deferred.ofValue]
    simp only [Oper.wp,hr,Oper.upon]
    unfold wpList
    show Code.wp P rest _ _ w'
    have s3:Sat ⟨w,(·∈keys Li),h,[⟨.fn (.func D) vs.toArray,#[]⟩]⟩ m ((t5,.func (.func D) #[] vs.toArray)::S1) h1 L1 ({ a'.put (some t5) (.func (.func D) #[] vs.toArray) with defers:=⟨.fn (.func D) vs.toArray,#[]⟩::(a'.put (some t5) (.func (.func D) #[] vs.toArray)).defers }.put none undef) w':=by
     exact⟨by simpa [Act.put] using s2.size,fun s v hv=>by simpa [Act.put] using s2.slot s v hv,by have:=s2.ds;simpa [Act.put] using this,s2.ok.ds _⟩
    refine wpm (k1 _ _ s3) (fun ex2 a2 w2 q2=>?_)
    cases ex2 with
    |normal=>obtain⟨S,h',L',s',hh⟩:=q2;have:=hh _ _ s';have e1:=s'.ds;simp only [bodyPostD,e1];exact this
    |ret=>obtain⟨S,h',L',s',hh⟩:=q2;have:=hh _ _ s';have e1:=s'.ds;simp only [bodyPostD,e1];exact this
    |panic c=>obtain⟨S,h',L',s',hh⟩:=q2;have:=hh _ _ s';have e1:=s'.ds;simp only [bodyPostD,e1];exact this
    |exit i=>obtain⟨_,_,_,_,hh⟩:=q2;exact hh.1.elim
    |goto l=>obtain⟨_,_,_,_,hh⟩:=q2;exact hh.elim
    |outgrown=>exact False.elim q2
 |ret=>obtain⟨_,_,_,_,hh⟩:=q;exact hh.elim
 |panic c=>obtain⟨_,_,_,_,hh⟩:=q;exact hh.elim
 |exit i=>obtain⟨_,_,_,_,hh⟩:=q;exact hh.1.elim
 |goto l=>obtain⟨_,_,_,_,hh⟩:=q;exact hh.elim
 |outgrown=>exact False.elim q
theorem J.pfalse {P:Program}{e:Env}{m:Nat}{r:Post}{p:List PanicEntry→Post}{c:Code}{n:Post}{x:Nat→Post}{S:Sig}{h:Part}{L:List Ent}(k:J ⟨P,e,m,r,fun _ _ _ _=>False⟩ c n x S h L):J ⟨P,e,m,r,p⟩ c n x S h L:=fun a w s =>
 wpm (k a w s) (fun ex a' w' q=>by
  cases ex with
  |panic c=>obtain⟨_,_,_,_,hh⟩:=q;exact hh.elim
  |_=>exact q)
inductive Asks:FrameMode→Value→FrameMode→Prop where
 |none:Asks .returning .nilIface .returning
 |some {v:Value}:Asks (.panicking [{ v:=v,recovered:=false }]) v (.panicking [{ v:=v,recovered:=true }])
theorem li {P:Program}{D id t3 t2 m:Nat}{fn:Func}{rest:Code}{ty ty':TypeId}{pos pos':String}{af af':Array Edge}{e:Env}{h:Part}{L:List Ent}{w:World}{vs:List Value}{x:Value}{u u':FrameMode}{post:Post}
 (hf:P.funcs[D]?=some fn) (hb:fn.body=some (.seq (.region id #[⟨some t3,.call { callee:=.builtin .recover,args:=#[],argTypes:=#[] },ty,pos,af,none⟩,⟨some t2,.assign (.tmp t3),ty',pos',af',none⟩] false) rest))
 (hm:fn.ntmps=m) (hr:fn.results=#[]) (hl:Nat.ble vs.length m=true) (ht3:Nat.blt t3 m=true) (ht2:Nat.blt t2 m=true) (hu:Asks u x u')
 (ok:Ok e h L w) (he:e.ds=[])
 (k:J ⟨P,e,m,fun _ _ _=>False,fun _ _ _ _=>False⟩ rest post NoExit ((t2,x)::(t3,x)::argSig 0 vs) h L) :
 CallsD P D vs.toArray u w (fun e1 u1 w1=>(∃ v,e1=.returned v)∧u1=u'∧∃ S h1 L1,post S h1 L1∧Ok e h1 L1 w1):=by
 have hl':vs.length≤m:=by simpa using hl
 refine callsD_of_wpS hf hb (fun c₀ cs hc=>wpS_seq (wpS_region ?_))
 have s0:Sat e m (argSig 0 vs) h L ⟨vs.toArray++Array.replicate (fn.ntmps-vs.toArray.size) undef,[]⟩ w:=by
  refine⟨by simp [hm];omega,fun s v hv=>?_,by simp [he],ok⟩
  obtain⟨_,h2⟩:=eP _ _ _ _ hv
  have hlt:=(List.getElem?_eq_some_iff.1 h2).1
  simp only [Nat.sub_zero] at h2 hlt
  rw [Array.getElem?_append_left (by simpa using hlt)]
  simpa using h2
 generalize (⟨vs.toArray++Array.replicate (fn.ntmps-vs.toArray.size) undef,[]⟩:Act)=a0 at s0 ⊢
 have s1:=s0.put ht3 x s0.ok
 have s2:=s1.put ht2 x s1.ok
 have hx:(a0.put (some t3) x).eval (.tmp t3)=x:=s1.eval (x:=.tmp t3) (by simp [ev,look])
 have fin:∀ cs',cs'={ c₀ with mode:=u' }::cs→rest.wpS P (bodyPostS P fn c₀ cs (fun e1 u1 w1=>(∃ v,e1=.returned v)∧u1=u'∧∃ S h1 L1,post S h1 L1∧Ok e h1 L1 w1)) ((a0.put (some t3) x).put (some t2) x) cs' w:=fun cs' hcs=>by
  refine wpS_of_wp (wpm (k _ _ s2) (fun ex a' w' q=>?_))
  cases ex with
  |normal =>
   obtain⟨S,h1,L1,s',hh⟩:=q
   have hd:=s'.ds
   simp only at hd
   exact⟨by rw [hd,he],u',hcs,.tuple #[],results_none hr _ _ _,⟨_,rfl⟩,rfl,S,h1,L1,hh,s'.ok⟩
  |ret=>obtain⟨_,_,_,_,hh⟩:=q;exact hh.elim
  |panic c=>obtain⟨_,_,_,_,hh⟩:=q;exact hh.elim
  |exit i=>obtain⟨_,_,_,_,hh⟩:=q;exact hh.1.elim
  |goto l=>obtain⟨_,_,_,_,hh⟩:=q;exact hh.elim
  |outgrown=>exact False.elim q
 have hex:∀ a:Act,(execOp a.eval ⟨some t3,.call { callee:=.builtin .recover,args:=#[],argTypes:=#[] },ty,pos,af,none⟩).run P w=.ok .recover w:=fun a=>by
  simp [execOp,resolve,invoke,builtin]
 have hex2:(execOp (a0.put (some t3) x).eval ⟨some t2,.assign (.tmp t3),ty',pos',af',none⟩).run P w=.ok (.value x) w:=by simp [execOp,hx]
 show wpOpsS P _ _ [0,1] a0 (c₀::cs) w
 cases hu with
 |none =>
  have hrec:recoverD (c₀::cs)=none:=by simp [recoverD,hc]
  simp only [wpOpsS,List.getElem?_toArray,List.getElem?_cons_zero,List.getElem?_cons_succ,Region.wanted,hex,hrec,hex2,Oper.upon,if_true]
  exact fin _ (by rw [← hc])
 |some =>
  have hrec:recoverD (c₀::cs)=some (x,{ c₀ with mode:=.panicking [{ v:=x,recovered:=true }] }::cs):=by simp [recoverD,hc]
  simp only [wpOpsS,List.getElem?_toArray,List.getElem?_cons_zero,List.getElem?_cons_succ,Region.wanted,hex,hrec,hex2,Oper.upon,if_true]
  exact fin _ rfl
end
section
end
section
section
variable {f:Fr}{n:Post}{x:Nat→Post}{S:Sig}{h h0:Part}{L L0:List Ent}{ops:Array Oper}{fuel d:Nat}{listed:Array Bool}{q:Op}{ty:TypeId}{pos:String}{af:Array Edge}{v:Value}{o:Oper}{j dj:Nat}{b:Bool}
end
end
section
set_option maxRecDepth 100000
theorem dG:aggT Tryz.prog 152=some none:=by kernel_rfl
theorem cQ:aggT Tryz.prog 194=some none:=by kernel_rfl
theorem kl:aggT Tryz.prog 40=some none:=by kernel_rfl
theorem fX:apT Tryz.prog 152=some (194,1,8):=by kernel_rfl
theorem ca_182:callT Tryz.prog 182=true:=by kernel_rfl
theorem ca_183:callT Tryz.prog 183=true:=by kernel_rfl
theorem ca_184:callT Tryz.prog 184=true:=by kernel_rfl
theorem cJ:slT Tryz.prog 152=some (194,1):=by kernel_rfl
theorem zr_152:zeroT Tryz.prog 152=some [.slice none 0 0]:=by kernel_rfl
theorem kw:zeroT Tryz.prog 194=some [.int .u64 0]:=by kernel_rfl
theorem zr_25:zeroT Tryz.prog 25=some [.slice none 0 0]:=by kernel_rfl
theorem zr_40:zeroT Tryz.prog 40=some [.int .i64 0]:=by kernel_rfl
theorem Slots.weak {m:Nat}{S S':Sig}{t:Array Value}(k:Slots m S t) (hw:Weak S' S):Slots m S' t:=⟨k.1,fun s v hv=>k.2 s v (hw.look hv)⟩
theorem hiF_len:∀ (f n:Nat),(hiF f n).length≤f
 |0,_=>by simp [hiF]
 |f+1,n=>by
  rw [hiF]
  split
  ·simp
  ·have:=hiF_len f (n / 128);simp;omega
theorem mA (n:Nat):(b128 n).length≤11:=by
 have:=hiF_len 10 (n / 128)
 unfold b128 hiB
 simp;omega
theorem pm (a b:List Nat):enc (a++b)=enc a++enc b:=by
 induction a with
 |nil=>rfl
 |cons x r ih=>simp only [List.cons_append,enc,ih,List.append_assoc]
theorem enc_lenY (a:List Nat):(enc a).length≤11*a.length:=by
 induction a with
 |nil=>simp [enc]
 |cons x r ih=>have:=mA x;simp only [enc,aX,aA];omega
theorem numB_lt {s:List UInt8}{v:Nat}(h:numB s=some v):v<9223372036854775808:=by
 unfold numB at h
 split at h
 ·cases h
 ·split at h
  ·cases h;assumption
  ·cases h
theorem gV:∀ (s cur:List UInt8) (l:List Nat),numsGo s cur=some l→∀ x∈l,x<9223372036854775808
 |[],cur,l,h,x,hx=>by
  rw [numsGo,Option.map_eq_some_iff] at h
  obtain⟨v,hv,rfl⟩:=h
  simp at hx;subst hx
  exact numB_lt hv
 |c::r,cur,l,h,x,hx=>by
  rw [numsGo] at h
  split at h
  ·split at h
   ·cases h
   ·rename_i n hn
    rw [Option.map_eq_some_iff] at h
    obtain⟨l',hl',rfl⟩:=h
    rcases List.mem_cons.1 hx with rfl|hx
    ·exact numB_lt hn
    ·exact gV r [] l' hl' x hx
  ·exact gV r _ l h x hx
def OR_ (s:List UInt8):Value→Part→Prop:=fun v h'=>∃ a c,v=.tuple #[.slice a ((oidB s).getD []).length c,.int .i64 (if(oidB s).isSome then 0 else 20)]∧SlR u8R 1 h' a c ((oidB s).getD [])
theorem round_rd {l D fn q2 q3 q4:Nat}{tmps:Array Value}{h:Part}(ht:Slots 79 [(2,.pointer (some ⟨q2,0,none⟩)),(3,.pointer (some ⟨q3,0,none⟩)),(4,.pointer (some ⟨q4,0,none⟩))] tmps) {A B:Code}{r0 r1 r2 rest:Code}{g:Operand}
 (hcode:Tryz.f133.body=some (.seq r0 (.seq r1 (.seq (.seq r2 (.block 0 (.rangeFunc g #[13] A B))) rest))))
 (us:List UInt64) (t:List UInt8) (a:Option Addr) (c:Nat) (xs:List Value) (hus:us.length≤100000000001) (htl:t.length≤100000000000) (hxs:∀ h,CellsR u64R 1 h xs us) :
 Rd Tryz.prog l (Loop.new fn tmps #[13] A B D) (.string ⟨t.toArray⟩) h [.blk q4 152 [.slice a us.length c],.row a c 194 1 us.length xs,.blk q2 25 [.slice none 0 0],.blk q3 40 [.int .i64 0]] (PR q2 q3 q4 us t h):=by
 have hc2:=hcode
 unfold Tryz.f133 at hc2
 simp only [ay,Code.seq.injEq,Code.block.injEq,Code.rangeFunc.injEq] at hc2
 obtain⟨-,-,⟨-,-,-,-,hA,hB⟩,-⟩:=hc2
 have hx1:=hxs h
 have hnl:=numP_lt t
 refine Rd.intro (m:=79) hA.symm hB.symm rfl rfl rfl rfl ht (fun e he=>⟨fun S1 _ _=>S1=[(5,.string ⟨t.toArray⟩),(13,.string ⟨t.toArray⟩),(2,.pointer (some ⟨q2,0,none⟩)),(3,.pointer (some ⟨q3,0,none⟩)),(4,.pointer (some ⟨q4,0,none⟩))],?_,?_⟩)
 ·refine JR.region rfl ?_
  refine ae (RunV.assign rfl) rfl ?_
  exact a_ ⟨rfl,rfl,rfl⟩
 ·rintro _ rfl
  refine JR.block ?_
  refine JR.sr rfl ?_
  refine Ru 1 rfl (aV ca_183 rfl (rW z2_) rfl ?_)
  refine Ru 5 rfl (JR.nk [7,6,2,3,4] rfl ?_)
  refine JR.seq ?_
  refine JR.sr rfl ?_
  refine Ru 2 rfl (a_ (JR.cs rfl (fun hc2=>?_) fun hc2=>?_))
  ·have hnb:numB t=none:=numP_none (v:=(numP t).1) (Prod.ext rfl (by simpa using hc2))
   refine JR.sr rfl ?_
   refine bn cU rfl rfl rfl dl_ fc ?_
   refine bn kl rfl rfl rfl dl_ fc ?_
   exact a_ (JR.ret ⟨[.blk q2 25 [.slice none 0 0],.blk q3 40 [.int .i64 20]],_,pt_,.inr ⟨rfl,rfl,hnb,rfl⟩⟩)
  have hnb:numB t=some (numP t).1:=numP_some (Prod.ext rfl (by simpa using hc2));have hvv:(UInt64.ofNat (numP t).1).toNat=(numP t).1:=(by rw [UInt64.toNat_ofNat'];omega)
  refine JR.skip ?_
  refine JR.kp [6,4] rfl ?_
  refine JR.region rfl ?_
  refine ae (aq dG rfl mm_ rfl) rfl ?_
  refine Ru 1 rfl (ct fX kw rfl rfl rfl rfl rfl (fun b3=>?_))
  refine bV fX rfl rfl z5_ rfl dl_ dl_ rfl ((show u64R _ [.int .u64 ((numP t).1:Nat)] (UInt64.ofNat (numP t).1) by unfold u64R;rw [hvv])) z4_ rfl rfl (fun a4 c4 xs4 hC4 hN4=>?_)
  refine bn dG rfl rfl rfl dl_ fc ?_
  exact a_ (⟨[.blk q4 152 [_],.row _ _ 194 1 _ _,.blk q2 25 [.slice none 0 0],.blk q3 40 [.int .i64 0]],_,pt_,.inl ⟨rfl,rfl,UInt64.ofNat (numP t).1,by rw [hnb,hvv],_,_,_,fun _=>hC4,rfl⟩⟩)
theorem obytes_fn {s:List UInt8}{h:Part}(hs:s.length≤100000000000):FnR Tryz.prog 133 [.string ⟨s.toArray⟩] h (OR_ s):=by
 refine Fn.introM (m:=79) Tryz.func133 rfl Tryz.ntmps133 rfl (fun w0=>?_)
 refine JG.seq ?_
 refine J.region ?_
 refine bu zr_25 rfl (fun q2=>?_)
 refine bu zr_40 rfl (fun q3=>?_)
 refine a_ (JG.seq ?_)
 refine J.region ?_
 refine bu zr_152 rfl (fun q4=>?_)
 refine bZ 194 1 ?_
 refine a_ (JG.split ?_)
 refine JG.seq ?_
 refine J.region ?_
 refine Ru 1 rfl (de ca_182 rfl (pN (s:=s) (sep:=[46])) pt_ rfl ?_)
 rintro _ h1 Lo1 hle1 ⟨rfl,q5,q6,q7,rfl,rfl⟩
 refine a_ (JG.block ?_)
 refine JG.range (lb:=[.pointer (some ⟨q6,0,none⟩),.pointer (some ⟨q5,0,none⟩),.pointer (some ⟨q7,0,none⟩)]) rfl cY rfl (fun D l fn tmps ht=>⟨[.blk q7 3 [.int .i64 0],.blk q6 9 [.string ⟨[46].toArray⟩],.blk q5 9 [.string ⟨s.toArray⟩],.blk q4 152 [.slice none 0 0],.row none 0 194 1 0 [],.blk q2 25 [.slice none 0 0],.blk q3 40 [.int .i64 0]],[],ER q2 q3 q4 s h1,pt_,?_,?_,?_⟩)
 ·exact iter_fn rfl rfl rfl hs (fun us t a c xs h2 h3 h4=>round_rd (ht.weak ⟨rfl,rfl,rfl,trivial⟩) rfl us t a c xs h2 h3 h4)
 ·rintro h2 Lo hle2 hE
  obtain⟨-,rfl,us,hng,hul,ua,uc,uxs,huxs,rfl⟩:=hE.resolve_right (fun hh=>by cases hh.1)
  refine JN.blk (JG.ofJ ?_)
  have hob:oidB s=if oidOk (us.map (·.toNat)) then some (enc ((40*(us.map (·.toNat)).getD 0 0+(us.map (·.toNat)).getD 1 0)::(us.map (·.toNat)).drop 2)) else none:=by unfold oidB;rw [hng]
  by_cases hu2:us.length<2
  ·have hz:oidB s=none:=by rw [hob,if_neg];unfold oidOk;rw [am (by simp;omega),Bool.false_and];decide
   refine aw (Sr (ae (aq dG rfl mm_ rfl) rfl ?_))
   refine Ru 3 rfl (Bs 28 rfl (fun hc1=>?_) fun hc1=>?_)
   rotate_left
   ·exfalso;omega
   refine Ru 29 rfl (Nk [57,2,3,4] rfl (aM rfl (Sr (bn cU rfl rfl rfl dl_ fc ?_))))
   refine bn kl rfl rfl rfl dl_ fc ?_
   exact a_ (dm ⟨_,_,[],_,by repeat (first|exact Del.here|apply Del.there),(RetV.cellv2 rfl rfl cU mm_ rfl kl mm_),.nil,_,rfl,rfl,none,0,by rw [hz];rfl,by rw [hz];exact bc⟩)
  ·obtain⟨x,y,t,rfl⟩:∃ x y t,us=x::y::t:=by
    match us,hu2 with
    |x::y::t,_=>exact⟨x,y,t,rfl⟩
    |[],hh=>exact absurd (by simp) hh
    |[_],hh=>exact absurd (by simp) hh
   have hxl:=x.toNat_lt
   have hyl:=y.toNat_lt
   have htl:t.length≤100000000000:=by simp at hul;omega
   have hx0:(x::y::t)[0]=x:=rfl
   have hy1:(x::y::t)[1]=y:=rfl
   have hnl:((x::y::t).length:Int)=t.length+2:=by simp;omega
   have hok:oidOk ((x::y::t).map (·.toNat))=decide ((x.toNat=2∧y.toNat<9223372036854775728)∨(x.toNat<2∧y.toNat<40)):=by
    unfold oidOk
    rw [an (by simp),Bool.true_and,← Bool.decide_or]
    rfl
   rw [hok] at hob
   refine J.pub (R:=u64R) (l:=x::y::t) dl_ (huxs _) rfl (by simp;omega) (fun h9 hle9 hU=>?_)
   refine J.ents [.obj D (.deferred (some [])),.blk q4 152 [.slice ua (x::y::t).length uc],.blk q2 25 [.slice none 0 0],.blk q3 40 [.int .i64 0]] pt_ ?_
   refine aw (aw (cj [(57,.bool (decide (¬ ((x.toNat=2∧y.toNat<9223372036854775728)∨(x.toNat<2∧y.toNat<40)))))] [(2,_),(3,_),(4,_)] ⟨rfl,rfl,rfl,trivial⟩ ?_ ?_))
   ·refine Rg (ae (aq dG rfl mm_ rfl) rfl ?_)
    refine Ru 3 rfl (Bs 28 rfl (fun hc1=>?_) fun hc1=>?_)
    ·exfalso;(rw [hnl] at hc1;omega)
    refine aH rfl rfl  (aq dG rfl mm_ rfl) rfl ?_
    refine cr rfl rfl  (aC cJ rfl rfl (show _=((0:Nat):Int) from rfl) z5_ rfl z2_) rfl ?_
    rintro _ ⟨b2,o2,hi2,rfl,hE2⟩
    refine aH rfl rfl  (bA (y:=x) cQ rfl z5_) rfl ?_
    refine Ru 3 rfl (Bs 34 rfl (fun hc3=>?_) fun hc3=>?_)
    ·refine Ru 23 rfl (a_ (⟨rfl,rfl,?_⟩))
     exact rB
    refine aH rfl rfl  (aq dG rfl mm_ rfl) rfl ?_
    refine cr rfl rfl  (aC cJ rfl rfl (show _=((0:Nat):Int) from rfl) z5_ rfl z2_) rfl ?_
    rintro _ ⟨b4,o4,hi4,rfl,hE4⟩
    refine aH rfl rfl  (bA (y:=x) cQ rfl z5_) rfl ?_
    refine Ru 2 rfl (Bs 39 rfl (fun hc5=>?_) fun hc5=>?_)
    ·refine aH rfl rfl  (aq dG rfl mm_ rfl) rfl ?_
     refine cr rfl rfl  (aC cJ rfl rfl (show _=((1:Nat):Int) from rfl) z5_ rfl z2_) rfl ?_
     rintro _ ⟨b6,o6,hi6,rfl,hE6⟩
     refine aH rfl rfl  (bA (y:=y) cQ rfl z5_) rfl ?_
     refine Ru 4 rfl (Bs 46 rfl (fun hc7=>?_) fun hc7=>?_)
     ·refine Ru 11 rfl (a_ (⟨rfl,rfl,?_⟩))
      exact rB
     refine aH rfl rfl  (aq dG rfl mm_ rfl) rfl ?_
     refine cr rfl rfl  (aC cJ rfl rfl (show _=((0:Nat):Int) from rfl) z5_ rfl z2_) rfl ?_
     rintro _ ⟨b8,o8,hi8,rfl,hE8⟩
     refine aH rfl rfl  (bA (y:=x) cQ rfl z5_) rfl ?_
     refine Ru 2 rfl (Bs 51 rfl (fun hc9=>?_) fun hc9=>?_)
     ·refine aH rfl rfl  (aq dG rfl mm_ rfl) rfl ?_
      refine cr rfl rfl  (aC cJ rfl rfl (show _=((1:Nat):Int) from rfl) z5_ rfl z2_) rfl ?_
      rintro _ ⟨b10,o10,hi10,rfl,hE10⟩
      refine aH rfl rfl  (bA (y:=y) cQ rfl z5_) rfl ?_
      refine Ru 3 rfl (a_ (⟨rfl,rfl,?_⟩))
      exact rB
     refine Ru 6 rfl (a_ (⟨rfl,rfl,?_⟩))
     exact rB
    refine Ru 7 rfl (aH rfl rfl  (aq dG rfl mm_ rfl) rfl ?_)
    refine cr rfl rfl  (aC cJ rfl rfl (show _=((0:Nat):Int) from rfl) z5_ rfl z2_) rfl ?_
    rintro _ ⟨b11,o11,hi11,rfl,hE11⟩
    refine aH rfl rfl  (bA (y:=x) cQ rfl z5_) rfl ?_
    refine Ru 2 rfl (Bs 51 rfl (fun hc12=>?_) fun hc12=>?_)
    ·refine aH rfl rfl  (aq dG rfl mm_ rfl) rfl ?_
     refine cr rfl rfl  (aC cJ rfl rfl (show _=((1:Nat):Int) from rfl) z5_ rfl z2_) rfl ?_
     rintro _ ⟨b13,o13,hi13,rfl,hE13⟩
     refine aH rfl rfl  (bA (y:=y) cQ rfl z5_) rfl ?_
     refine Ru 3 rfl (a_ (⟨rfl,rfl,?_⟩))
     exact rB
    refine Ru 6 rfl (a_ (⟨rfl,rfl,?_⟩))
    exact rB
   refine Cs rfl (fun hc14=>?_) fun hc14=>?_
   ·have hz:oidB s=none:=(by rw [hob,am hc14];rfl)
    refine Sr (bn cU rfl rfl rfl dl_ fc ?_)
    refine bn kl rfl rfl rfl dl_ fc ?_
    exact a_ (dm ⟨_,_,[],_,by repeat (first|exact Del.here|apply Del.there),(RetV.cellv2 rfl rfl cU mm_ rfl kl mm_),.nil,_,rfl,rfl,none,0,by rw [hz];rfl,by rw [hz];exact bc⟩)
   obtain⟨nv,hnv⟩:∃ nv,nv=40*x.toNat+y.toNat:=⟨_,rfl⟩;have hz:oidB s=some (enc (nv::t.map (·.toNat))):=(by rw [hob,an z2_,hnv];rfl)
   refine ax (aw (J.held ([.blk q4 152 [.slice ua (x::y::t).length uc]]) 10 cK rfl (fun h00=>?_)))
   refine Tk 0 rfl (aq dG rfl mm_ rfl) ?_
   refine Te 1 rfl (aC cJ rfl rfl (show _=((0:Nat):Int) from rfl) z5_ rfl z2_) ?_
   rintro _ ⟨b15,o15,hi15,rfl,hE15⟩
   refine Tk 2 rfl (bA (y:=x) cQ rfl z5_) ?_
   refine Tk 3 rfl (RunV.mul_u64 rfl rfl z2_ z2_) ?_
   refine Tk 4 rfl (aq dG rfl mm_ rfl) ?_
   refine Te 5 rfl (aC cJ rfl rfl (show _=((1:Nat):Int) from rfl) z5_ rfl z2_) ?_
   rintro _ ⟨b16,o16,hi16,rfl,hE16⟩
   refine Tk 6 rfl (bA (y:=y) cQ rfl z5_) ?_
   refine Tk 7 rfl (RunV.add_u64 rfl rfl z2_ z2_) ?_
   refine Ta 8 rfl ?_
   unfold One
   refine bZ 5 1 ?_;rw [show(40:Int)*(x.toNat:Int)+(y.toNat:Int)=(nv:Int) by omega]
   refine de ca_184 rfl (oput_fn (a:=none) (c:=0) (l:=[]) (n:=nv) z2_ (by simp)) pt_ rfl ?_
   rintro _ h17 Lo17 hle17 ⟨pa17,pc17,rfl,rfl⟩
   replace hU:=hU.mono hle17
   refine a_ ⟨(br_ h00),?_⟩
   refine Tk 9 rfl (RunV.assign rfl) ?_
   refine JH.done cY ?_
   refine Kp [8,2,3,4] rfl (aw (Sr (ae (aq dG rfl mm_ rfl) rfl ?_)))
   refine cg (RunE.cut_l cJ rfl rfl (show _=((2:Nat):Int) from rfl) hU rfl z2_) rfl ?_
   rintro _ ⟨ta,tc,rfl,hT⟩
   replace hT:SlR u64R 1 _ ta tc t:=hT
   refine Ru 1 rfl ?_
   rw [show((x::y::t).drop 2).length=t.length from rfl]
   refine Ru 1 rfl (a_ (aE (bC (fun t_ S_ h_ L_=>∃ (g:Part) (i:Nat) (out:List UInt8) (ao:Option Addr) (co:Nat),t_=t.length-i+1∧S_=[(2,.pointer (some ⟨q2,0,none⟩)),(3,.pointer (some ⟨q3,0,none⟩)),(8,.slice ao out.length co),(68,.slice ta t.length tc),(69,.int .i64 t.length),(70,.int .i64 i)]∧g=h_∧L_=[.row ao co 5 1 out.length (u8s out),.obj D (.deferred (some [])),.blk q4 152 [.slice ua (x::y::t).length uc],.blk q2 25 [.slice none 0 0],.blk q3 40 [.int .i64 0]]∧(h9.le g∧SlR u64R 1 g ta tc t∧i≤t.length∧out=enc (nv::(t.take i).map (·.toNat))∧out.length≤11*(i+1))) ⟨_,_,?_,⟨_,0,b128 nv,_,_,rfl,rfl,rfl,rfl,⟨by assumption,hT,by omega,by simp [enc],by have:=mA nv;simp;omega⟩⟩⟩ ?_)))
   ·exact z7_
   rintro _ _ _ _ ⟨g,i,out,ao,co,rfl,rfl,rfl,rfl,hhg,hT,hi,ho,hol⟩
   have hlast:SlR u64R 1 _ ta tc t:=hT
   refine Sr (Ru 1 rfl (a_ (aw (Cs rfl (fun hc19=>?_) fun hc19=>?_))))
   ·have hti:t[i].toNat<9223372036854775808:=gV _ _ _ hng _ (List.mem_map.2 ⟨t[i],by simp,rfl⟩);have hbl:=mA t[i].toNat;have hso:out++b128 t[i].toNat=enc (nv::(t.take (i+1)).map (·.toNat)):=(by rw [av z2_,List.map_append,← List.cons_append,pm,← ho];simp [enc])
    refine ax (aw (aE (Sr (cg (aC cJ rfl rfl eD z5_ rfl z2_) rfl ?_))))
    rintro _ ⟨b20,o20,hi20,rfl,hE20⟩
    refine ae (bA cQ rfl z5_) rfl ?_
    refine Ru 1 rfl (a_ (Rg (Ru 2 rfl (de ca_184 rfl (oput_fn (n:=t[i].toNat) hti z2_) pt_ rfl ?_))))
    rintro _ h22 Lo22 hle22 ⟨pa22,pc22,rfl,rfl⟩
    replace hT:=hT.mono hle22
    replace hhg:=hhg.mono hle22
    refine Ru 1 rfl (a_ (Rg (ae ai_ rfl ?_)))
    refine Ru 1 rfl (a_ (⟨_,?_,_,?_,⟨_,i+1,_,_,_,rfl,rfl,rfl,rfl,⟨by assumption,by assumption,by omega,hso,by simp;omega⟩⟩⟩))
    ·omega
    exact z7_
   have hof:(oidB s).getD []=out:=(by rw [hz,ho,aJ z2_];rfl);have hos:(if(oidB s).isSome=true then(0:Int) else 20)=0:=(by rw [hz];rfl)
   refine bx (Kp [2,3,8] rfl (Sr (cM (R:=u8R) (l:=out) dl_ aW rfl z2_ (fun hp hlep hSp=>?_))))
   refine Ru 1 rfl (bn cU rfl rfl rfl dl_ fc ?_)
   refine bn kl rfl rfl rfl dl_ fc ?_
   exact a_ (dm ⟨_,_,[],_,by repeat (first|exact Del.here|apply Del.there),(RetV.cellv2 rfl rfl cU mm_ rfl kl mm_),.nil,_,rfl,rfl,_,_,by rw [hof,hos],by rw [hof];exact hSp⟩)
 ·rintro h2 Lo hle2 hE
  obtain⟨-,rfl,hng,rfl⟩:=hE.resolve_left (fun hh=>by cases hh.1)
  have hz:oidB s=none:=by unfold oidB;rw [hng]
  refine JE.blk (JE.of ⟨_,_,[],_,.here,RetV.cellv2 rfl rfl cU mm_ rfl kl mm_,.nil,_,rfl,rfl,none,0,by rw [hz];rfl,by rw [hz];exact bc⟩)
end
end Go.Proofs.YtcnacdlfmbigaaaGreatDoor
