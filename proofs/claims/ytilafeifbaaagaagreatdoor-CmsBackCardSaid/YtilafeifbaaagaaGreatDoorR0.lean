/- Parts. -/
import Derived.WalkKit
import Derived.WalkSpells
import Derived.WalkLawsBesides
import Derived.Deep.Quiet
import Derived.Deep.AppendLies
import Derived.ScopeJumps
import Derived.Maps.AppendAt
import Derived.Lib.SpaceU
import Derived.Lib.DecodeN
import Derived.Laws.RangeString
import Derived.Laws.BitsLemmas
import Derived.Laws.Tables
import Derived.Laws.Externs
import Derived.Laws.StructEq
import Derived.Lib.Bytealg
import Derived.Lib.BytesEntry
import Derived.ArgAppend
import Derived.Test.YtilafeifbaaagaaGreatDoorCards
import Derived.Test.YtilafeifbaaagaaGreatDoorTie
import Derived.ProofKit
import Derived.OpenShut
import Derived.Deep.DeepHandedRow
import Derived.Lib.LaidTab
import Derived.SevenTiedAt
import Derived.Test.YtilafeifbaaagaaGreatDoorChecked
import Derived.Test.YtilafeifbaaagaaGreatDoorShf
import Derived.Lib.LaidU8
import Derived.Laws.MakeOwn
import Derived.Laws.CopyRow
import Derived.Lib.MakeNoZero
set_option maxRecDepth 100000
set_option linter.unusedSimpArgs false
set_option linter.unusedVariables false
set_option linter.constructorNameAsVariable false
namespace Go.Proofs.YtilafeifbaaagaaGreatDoor
open Go.Proofs.Tryz
open Go Go.RowKit
theorem m12 {p:Prop}(u:p:=by
 refine aO (bP U (aO (⟨_,?_,_,?_,⟨p+wid (s.drop p),U,U,U,U,by rw [he,bx _ s p xE,H',ae xE,xQ]⟩⟩)))
 ·omega
 exact Du):p:=u
theorem m19 {p:Prop}(u:p:=by
 refine⟨k.os,k.tape,k.output,by have:=k.size;simp;omega,λb hb hm=>?_,λb c hc=>?_,k.le,k.fresh,λx hx=>?_,λb hb=>?_,?_⟩
 ·rw [C6 b (zi hb k.size)];exact k.M1 b hb hm
 ·obtain⟨t',fr,he⟩:=k.sub b c hc;exact⟨t',fr,by rw [C6 b (k.sub.lt hc)];exact he⟩
 ·cases hx with
  |head=>exact heap_alloc_new w _
  |tail _ hx=>exact Br.P1 (k.own x hx) λb hb=>C6 b (Br.lt (k.own x hx) hb)
 ·simp only [keys,zF,Br.key,zE] at hb;rcases hb with rfl|hb
  ·refine⟨?_,.inl k.size⟩;cases hh:h w.heap.size with
   |none=>rfl
   |some c=>have:=k.sub.lt hh;omega
  ·exact k.key b hb
 ·simp only [keys,zF,Br.key];exact zy.2 ⟨λhm=>by have:=k.klt hm;omega,k.nodup⟩):p:=u
theorem m23 {p:Prop}(u:p:=by
 cases ex with
 |exit i =>
  obtain⟨S',h',L',s',k',hi⟩:=q;simp only [Exit.inBlock];cases hb:Nat.beq i id with
  |true =>
   have:i=id:=am hb;simp only [hb,cond_true] at k';rw [xD this];exact⟨S',h',L',s',k'⟩
  |false =>
   have:i≠id:=EY hb;simp only [hb,cond_false] at k';rw [xC this];exact⟨S',h',L',s',k',hi⟩
 |goto l =>
  obtain⟨S',h',L',s',k'⟩:=q;have yJ:id<1000000:=by simpa using hid
  have D5:Nat.beq (l+1000000) id=false:=by
   cases hb:Nat.beq (l+1000000) id with
   |true=>have:=am hb;omega
   |false=>rfl
  simp only [D5,cond_false] at k';exact⟨S',h',L',s',k'⟩
 |_=>exact q):p:=u
theorem m34 {p:Prop}(u:p:=by
 obtain⟨_,h2⟩:=fz _ _ _ _ hv;have yJ:=(xS.1 h2).1;simp only [Db] at h2 yJ;rw [C4 (by simpa using yJ)];simpa using h2):p:=u
theorem m36 {p:Prop}(u:p:=by
 cases hb:Nat.beq a k with
 |true =>
  obtain rfl:=am hb;simp only [hb,cond_true,au] at h;subst h;exact aC ..
 |false=>simp only [hb,cond_false] at h;exact aE _ (ih h)):p:=u
theorem m48 {p:Prop}(u:p:=by
 cases hb:b with
 |true=>exact k1 hb a w (s.bool ht hb)
 |false=>exact k2 hb a w (s.bool ht hb)):p:=u
theorem m49 {p:Prop}(u:p:=by
 unfold ifT at hT;split at hT<;>try cases hT
 rename_i ms hu;have key:∀ m:Nat,(Op.equalIn (m+1) T (.iface t v) .nilIface).run f.P w=.ok false w:=λm=>by simp [Op.equalIn,run_underlying hu]
 simp only [go_sem,binOp,Op.equal,Op.maxDepth];simp [eqGuard,key 9999]):p:=u
theorem m50 {p:Prop}(u:p:=by
 unfold ifT at hT;split at hT<;>try cases hT
 rename_i ms hu;have key:∀ m:Nat,(Op.equalIn (m+1) T .nilIface .nilIface).run f.P w=.ok true w:=λm=>by simp [Op.equalIn,run_underlying hu]
 simp only [go_sem,binOp,Op.equal,Op.maxDepth];simp [eqGuard,key 9999]):p:=u
theorem m51 {p:Prop}(u:p:=by
 simp only [Br.key,au] at hb;subst hb;simp only [Br.holds] at h;rcases A9 b' w.heap.size with l|l
 ·exact l
 ·rw [Dc l] at h;cases h):p:=u
theorem m54 {p:Prop}(u:p:=by
 have:=xG.rem (f:=f) (h:=h) (L:=L) (ty:=ty) (T:=T) (yt:=yt) hx hy xE;rwa [DQ h0] at this):p:=u
theorem m55 {p:Prop}(u:p:=by
 simp [execOp,s.eval hx,Instr.loadAt,Instr.sureAddr,loadVar,(dq hT w).1,(dq hT w).2,V_]):p:=u
theorem m56 {p:Prop}(u:p:=by
 rw [xC xE];rw [xC xE];rw [xC xE];rw [xC xE];rw [xD xE]):p:=u
theorem m58 {p:Prop}(u:p:=by
 rw [hr];refine⟨U,(c w' (Ok.enter (Li:=[]) (Lr:=L) (by simpa using Mc))).mono λe VG hh=>?_⟩;obtain⟨h',Lo,⟨u,he,hu⟩,hO⟩:=hh;exact⟨by rw [he,hu],Mc.ext hO.os hO.tape hO.output hO.size λb hb=>hO.M1 b hb (by simp [keys])⟩):p:=u
theorem m61 {p:Prop}(u:p:=by
 repeat (first|exact trivial|refine⟨rfl,?_⟩|refine⟨(by exact gm xE),?_⟩)):p:=u
theorem m68 {p:Prop}(u:p:=by
 repeat (first|exact trivial|refine⟨rfl,?_⟩|refine⟨(by exact gm (by rw [Nd.Gz ks i xE];omega)),?_⟩)):p:=u
theorem m70 {p:Prop}(u:p:=by
 subst hi;obtain⟨hu,inf,hi,hs⟩:=fD hT;have h0:(0:Int)<=m:=by omega
 have h2:(m:Int)<ln:=by omega
 simp [execOp,s.eval hx,s.eval hy,Instr.indexAt,run_underlying hu,asIntOf,sizeOf,typeInfo,hi,hs,h1,zB]):p:=u
theorem m76 {p:Prop}(u:p:=by
 have hm:Array.map (λp:Nat×Operand=>(p.1,a.eval p.2)) ps.toArray=vs.toArray:=by simp [jB s hp]
 have:=run_build (P:=f.P) w T vs.toArray cs.toArray (by simpa using hb);simp [execOp,hm,this]):p:=u
theorem m77 {p:Prop}(u:p:=by
 refine Ru 4 U (aj (⟨U,U,?_⟩));exact z8_):p:=u
theorem m82 {p:Prop}(u:p:=by
 simp [execOp,resolve,hm,Act.eval,Deferred.ofValue,invoke,eF hF]):p:=u
theorem m106 {p:Prop}(u:p:=by
 split at h<;>cases h;rename_i i hi;exact⟨by unfold isAgg;rw [AW,run_underlying hT w];simp,by simp [sizeOf,typeInfo,hi]⟩):p:=u
theorem m109 {p:Prop}(u:p:=by
 simpa using this):p:=u
theorem m113 {p:Prop}(u:p:=by
 exact⟨v,λw' Mc=>by simp only [Oper.quietAt,r a w' (s.with Mc),Oper.quietUpon,and_self],k _ w (s.put hd v s.ok)⟩):p:=u
theorem m116 {p:Prop}(u:p:=by
 have hi:=(xS.1 hx).1;have zH:i*sz+sz<=l.length*sz:=by rw [<- BI];exact aT _ hi
 have:=hc.1;simp only [aS,aM];omega):p:=u
theorem m122 {p:Prop}(u:p:=by
 refine aO (⟨_,?_,_,?_,⟨p+wid (s.drop p),U,U,U,U,by rw [he,bx _ s p xE,H',ae xE,xQ]⟩⟩)
 ·omega
 exact Du):p:=u
theorem m123 {p:Prop}(u:p:=by
 unfold wpList;rw [xD (by simp [Region.wanted,hg])];exact .inl (by simp only [Oper.wp,hr,Oper.upon];exact k)):p:=u
theorem m126 {p:Prop}(u:p:=by
 refine aO (⟨_,?_,_,?_,⟨p+wid (s.drop p),U,U,U,U,by rw [he,bx _ s p xE,ah xE];rfl⟩⟩)
 ·omega
 exact Du):p:=u
theorem m131 {p:Prop}(u:p:=by
 simp [execOp,s.eval hx,s.eval hy,Instr.storeAt,Instr.sureAddr,storeVar,(eP hT w).2,K0,storeCells,DW]):p:=u
theorem m138 {p:Prop}(u:p:=by
 obtain⟨S,h',L',s',v,Lo,Lr,hv,hp,hR⟩:=q;exact⟨s'.ds,v,hv a' w' s',h',Lo,hR,hp.ok _ s'.ok⟩):p:=u
theorem m143 {p:Prop}(u:p:=by
 obtain⟨h',h1,h2,h3⟩:=(s.ok.perm u.perm).GR hc hn hb;exact k h' h1 h2 ac w (s.with h3)):p:=u
theorem m147 {p:Prop}(u:p:=by
 have:=World.ownsRow.cells (g:=g) F7 U i xs[i] (aH hi);rw [zB,A0] at this;rw [this,aH hi]):p:=u
theorem m148 {p:Prop}(u:p:=by
 simp [execOp,s.eval hx,Instr.loadAt,Instr.sureAddr,loadVar,(eP hT w).1,load,Sem.run,hc]):p:=u
theorem m162 {p:Prop}(u:p:=by
 exact k _ w (s.put hd undef s.ok)):p:=u
theorem m165 {p:Prop}(u:p:=by
 cases ex with
 |normal=>obtain⟨S',h',L',s',k'⟩:=q;exact k' a' w' s'
 |_=>exact q):p:=u
theorem m205 {p:Prop}(u:p:=by
 refine⟨by simp [hm];omega,λs v hv=>?_,U,hw⟩;exact m34):p:=u
theorem m209 {p:Prop}(u:p:=by
 rw [xC xE];rw [xC xE];exact m56):p:=u
theorem m210 {p:Prop}(u:p:=by
 have hm:os.toArray.map a.eval=args.toArray:=by simp [dI s ha]
 exact m82):p:=u
abbrev A9:=@Nat.lt_or_ge
abbrev Dc:=@Array.getElem?_eq_none
abbrev IQ:=@Below.heap_alloc
abbrev zi:=@Nat.lt_of_lt_of_le
abbrev zF:=@List.filterMap_cons
abbrev zE:=@List.mem_cons
abbrev zy:=@List.nodup_cons
abbrev xJ:=@Nat.le_trans
abbrev Ju:=@List.sublist_cons_self
abbrev xC:=@if_neg
abbrev SO:=@List.nodup_append
abbrev Bo:=@List.mem_append
abbrev EY:=@Nat.ne_of_beq_eq_false
abbrev Gs:=@Array.getElem?_setIfInBounds
abbrev xD:=@if_pos
abbrev AW:=@Sem.run_bind
abbrev yE:=@Option.isSome_iff_exists
abbrev zA:=@UInt8.toNat_lt
abbrev Eu:=@UInt32.toNat_lt
abbrev Km:=@Int.ediv_nonneg
abbrev Vp:=@Int.ediv_le_self
abbrev Hl:=@Int.tdiv_eq_ediv_of_nonneg
abbrev DQ:=@Int.tmod_eq_emod_of_nonneg
abbrev zB:=@Addr.add_lit
abbrev A0:=@Nat.zero_add
abbrev yQ:=@Nat.zero_le
abbrev yz:=@List.getElem?_take
abbrev yC:=@List.getElem?_drop
abbrev D':=@Nat.add_mul
abbrev CG:=@Nat.add_assoc
abbrev xS:=@List.getElem?_eq_some_iff
abbrev zk:=@Int.toNat_of_nonneg
abbrev C3:=@List.drop_zero
abbrev Db:=@Nat.sub_zero
abbrev Cd:=@List.getElem?_append_left
abbrev BI:=@Nat.succ_mul
abbrev C0:=@List.getElem?_append_right
abbrev yw:=@List.drop_of_length_le
abbrev xP:=@List.nil_append
abbrev BB:=@List.getElem_of_mem
abbrev G9:=@Nat.div_lt_of_lt_mul
abbrev zP:=@Nat.mul_comm
abbrev G_:=@List.mem_of_getElem?
abbrev Hn:=@Array.getElem?_eq_some_iff
abbrev DG:=@List.ext_getElem?
abbrev yX:=@Array.getElem?_toList
abbrev DP:=@Nat.mul_one
abbrev DY:=@Nat.add_zero
abbrev NV:=@List.take_one
abbrev Kl:=@List.head?_drop
abbrev ya:=@List.all_cons
abbrev xB:=@Bool.and_eq_true
abbrev Lx:=@Nat.mod_one
abbrev Cm:=@List.foldl_cons
abbrev Gq:=@List.length_set
abbrev SP:=@List.getElem?_set
abbrev SN:=@List.size_toArray
abbrev Jt:=@Nat.zero_mul
abbrev Ic:=@Bool.or_false
abbrev EZ:=@List.take_zero
abbrev Oa:=@Array.foldl_toList
abbrev xI:=@List.eq_nil_of_length_eq_zero
abbrev yW:=@Nat.le_mul_of_pos_right
abbrev C4:=@Array.getElem?_append_left
abbrev DZ:=@List.nil_sublist
abbrev CC:=@Int.toNat_natCast
abbrev DF:=@List.getElem?_map
abbrev AI:=@Option.map_some
abbrev zw:=@Option.getD_some
abbrev ze:=@List.getElem?_cons_zero
abbrev yv:=@List.map_map
abbrev xO:=@List.map_congr_left
abbrev Ag:=@List.map_id
abbrev BR:=@Go.Lib.decode_at
abbrev As:=@List.length_pos_iff
abbrev xW:=@List.append_assoc
abbrev Hj:=@List.drop_drop
abbrev AG:=@List.take_append_drop
abbrev FA:=@List.getElem?_toArray
abbrev BN:=@Bool.false_or
abbrev xH:=@List.all_eq_true
abbrev LA:=@DataW.trod_int
abbrev CZ:=@Option.bind_eq_some_iff
abbrev zl:=@Option.map_eq_some_iff
abbrev B_:=@Nat.eq_zero_or_pos
abbrev yy:=@List.map_cons
abbrev yr:=@List.all_append
abbrev xV:=@of_decide_eq_true
abbrev Jz:=@Array.ext'
abbrev zu:=@Prod.mk.injEq
abbrev zz:=@of_decide_eq_false
abbrev Cg:=@Classical.byContradiction
abbrev Vn:=@List.not_mem_nil
abbrev xX:=@List.cons_append
abbrev A7:=@List.take_succ_cons
abbrev F0:=@Int.pow_succ
abbrev y7:=@decide_eq_decide
abbrev AQ:=@List.length_eq_zero_iff
abbrev AZ:=@List.drop_succ_cons
abbrev Af:=@Nat.add_sub_cancel
abbrev xQ:=@Bool.true_and
abbrev yh:=@Nat.pow_succ
abbrev CB:=@Nat.pow_mul
abbrev Ki:=@Option.some.inj
abbrev Gp:=@Nat.min_eq_left
theorem y9 {p:Prop}(u:p:=by repeat (first|exact trivial|refine⟨rfl,?_⟩)):p:=u
abbrev LR:=List Oper
abbrev OA:=Option Addr
abbrev LV:=List Value
abbrev LB:=List UInt8
theorem U.{u} {α:Sort u}{a:α}:a=a:=rfl
abbrev aE:=@List.mem_cons_of_mem
abbrev aC:=@List.mem_cons_self
abbrev au:=@Option.some.injEq
abbrev am:=@Nat.eq_of_beq_eq_true
abbrev Part:=Nat->Option (Array Value)
def Part.le (h h':Part):Prop:=∀ b c,h b=some c->h' b=some c
theorem Part.le.refl (h:Part):h.le h:=λ_ _ x=>x
abbrev aP:=@Part.le.refl
theorem Part.le.trans {a b c:Part}(h:a.le b) (k:b.le c):a.le c:=λ_ _ x=>k _ _ (h _ _ x)
def Sub (h:Part) (w:World):Prop:=∀ b c,h b=some c->∃ t fr,w.heap[b]?=some (.cells c t fr)
variable{w:World}
theorem Sub.lt {h:Part}(s:Sub h w) {b:Nat}{c:Array Value}(hb:h b=some c):b<w.heap.size:=by
 obtain⟨t,fr,e⟩:=s b c hb;rcases A9 b w.heap.size with l|l
 ·exact l
 ·rw [Dc l] at e;cases e
theorem Sub.cell {h:Part}(s:Sub h w) {b i:Nat}{c:Array Value}{v:Value}(hb:h b=some c) (hi:c[i]?=some v):w.cell? ⟨b,i,none⟩=some v:=by
 obtain⟨t,fr,e⟩:=s b c hb;simp [World.cell?,e,hi]
inductive Br where
 |yY (b:Nat) (t:TypeId) (cs:LV)
 |row (a:OA) (c:Nat) (t:TypeId) (sz n:Nat) (xs:LV)
 |it (b:Nat) (s:LB) (pos:Nat)
 |obj (b:Nat) (o:Obj)
abbrev LE:=List Br
def Br.key:Br->Option Nat
 |.yY b _ _=>some b
 |.row a c _ _ n _=>(Value.slice a n c).ownBlock
 |.it b _ _=>some b
 |.obj b _=>some b
def Br.holds (w:World):Br->Prop
 |.yY b t cs=>w.heap[b]?=some (.cells cs.toArray t (0,0))
 |.row a c t sz n xs=>w.ownsRow 0 t sz (.slice a n c) n xs
 |.it b s pos=>w.heap[b]?=some (.stringIter ⟨s.toArray⟩ pos)
 |.obj b o=>w.heap[b]?=some o
def keys (L:LE):List Nat:=L.filterMap Br.key
theorem Br.lt {x:Br}(h:x.holds w) {b:Nat}(hb:x.key=some b):b<w.heap.size:=by
 cases x with
 |yY b' t cs =>
  exact m51
 |row a c t sz n xs=>exact(World.ownsRow.lt (show w.ownsRow 0 t sz (.slice a n c) n xs from h) b hb).2
 |it b' s pos =>
  exact m51
 |obj b' o =>
  exact m51
theorem Br.P1 {w w':World}{x:Br}(h:x.holds w) (hk:∀ b,x.key=some b->w'.heap[b]?=w.heap[b]?):x.holds w':=by
 cases x with
 |yY b t cs=>simp only [Br.holds] at h |-;rw [hk b rfl];exact h
 |it b s pos=>simp only [Br.holds] at h |-;rw [hk b rfl];exact h
 |obj b o=>simp only [Br.holds] at h |-;rw [hk b rfl];exact h
 |row a c t sz n xs =>
  obtain⟨h1,h2⟩:=(show w.ownsRow 0 t sz (.slice a n c) n xs from h);refine⟨h1,?_⟩;rcases h2 with h2|⟨g,cap,cur,hv,hg,hh,r⟩
  ·exact .inl h2
  ·exact .inr ⟨g,cap,cur,hv,hg,by rw [hk g (by simp only [Br.key,hv,Value.ownBlock])];exact hh,r⟩
structure Env where
 w0:World
 may:Nat->Prop
 h0:Part
 ds:List Deferred
structure Ok (e:Env) (h:Part) (L:LE) (w:World):Prop where
 os:w.os=e.w0.os
 tape:w.tape=e.w0.tape
 output:w.output=e.w0.output
 size:e.w0.heap.size<=w.heap.size
 M1:∀ b,b<e.w0.heap.size->¬ e.may b->w.heap[b]?=e.w0.heap[b]?
 sub:Sub h w
 le:e.h0.le h
 fresh:∀ b c,h b=some c->e.h0 b=some c\/e.w0.heap.size<=b\/e.may b
 own:∀ x∈L,x.holds w
 key:∀ b∈keys L,h b=none/\(e.w0.heap.size<=b\/e.may b)
 nodup:(keys L).Nodup
variable{L:LE}
theorem lL {x:Br}{b:Nat}(hx:x∈L) (hb:x.key=some b):b∈keys L:=List.mem_filterMap.2 ⟨x,hx,hb⟩
theorem Ok.drawn {e:Env}{h:Part}(k:Ok e h L w) (n:Nat):Ok e h L { w with drawn:=n } :=
 ⟨k.os,k.tape,k.output,k.size,k.M1,k.sub,k.le,k.fresh,k.own,k.key,k.nodup⟩
theorem Ok.klt {e:Env}{h:Part}(k:Ok e h L w) {b:Nat}(hb:b∈keys L):b<w.heap.size:=by
 obtain⟨x,hx,Yt⟩:=List.mem_filterMap.1 hb;exact Br.lt (k.own x hx) Yt
theorem Ok.alloc {e:Env}{h:Part}(k:Ok e h L w) (t:TypeId) (cs:LV) :
 Ok e h (.yY w.heap.size t cs::L) (w.alloc (.cells cs.toArray t)):=by
 have C6:∀ b,b<w.heap.size->(w.alloc (.cells cs.toArray t)).heap[b]?=w.heap[b]?:=λb hb=>IQ _ _ _ hb;exact m19
theorem Ok.drop {e:Env}{h:Part}{L L':LE}(k:Ok e h L w) (s:L'.Sublist L):Ok e h L' w :=
 ⟨k.os,k.tape,k.output,k.size,k.M1,k.sub,k.le,k.fresh,λx hx=>k.own x (s.subset hx),λb hb=>k.key b ((s.filterMap _).subset hb),(s.filterMap _).nodup k.nodup⟩
theorem rh {L L':LE}(p:L.Perm L'):(keys L).Perm (keys L'):=p.filterMap _
theorem Ok.perm {e:Env}{h:Part}{L L':LE}(k:Ok e h L w) (p:L.Perm L'):Ok e h L' w :=
 ⟨k.os,k.tape,k.output,k.size,k.M1,k.sub,k.le,k.fresh,λx hx=>k.own x (p.symm.subset hx),λb hb=>k.key b ((rh p.symm).subset hb),(rh p).nodup k.nodup⟩
theorem Ok.MO {e:Env}{h:Part}{x x':Br}{w w':World}(k:Ok e h (x::L) w) (Mf:w'.os=w.os) (htp:w'.tape=w.tape) (a6e:w'.output=w.output)
 (CP:w.heap.size<=w'.heap.size) (hold:∀ b,b<w.heap.size->x.key≠some b->w'.heap[b]?=w.heap[b]?) (hx':x'.holds w')
 (U2:∀ b,x'.key=some b->x.key=some b\/w.heap.size<=b):Ok e h (x'::L) w':=by
 have kx:∀ b,x.key=some b->b∈keys (x::L):=λb hb=>lL (aC ..) hb;have rest:∀ b∈keys L,x.key≠some b:=λb hb Yt=>by
  have:=k.nodup;simp only [keys,zF,Yt] at this;exact(zy.1 this).1 hb
 have kL:∀ b∈keys L,b∈keys (x::L):=λb hb=>by
  simp only [keys,zF];split
  ·exact hb
  ·exact aE _ hb
 refine⟨Mf.trans k.os,htp.trans k.tape,a6e.trans k.output,xJ k.size CP,λb hb hm=>?_,λb c hc=>?_,k.le,k.fresh,λy hy=>?_,λb hb=>?_,?_⟩
 ·rw [hold b (zi hb k.size) (λYt=>by
   rcases(k.key b (kx b Yt)).2 with l|l
   ·omega
   ·exact hm l)]
  exact k.M1 b hb hm
 ·obtain⟨t',fr,he⟩:=k.sub b c hc;exact⟨t',fr,by rw [hold b (k.sub.lt hc) (λYt=>by rw [(k.key b (kx b Yt)).1] at hc;cases hc)];exact he⟩
 ·cases hy with
  |head=>exact hx'
  |tail _ hy =>
   have hy':=k.own y (aE _ hy);exact Br.P1 hy' λb hb=>hold b (Br.lt hy' hb) (rest b (lL hy hb))
 ·simp only [keys,zF] at hb;split at hb
  ·exact k.key b (kL b hb)
  ·rename_i b' G5;rcases zE.1 hb with rfl|hb
   ·rcases U2 b G5 with Yt|CK
    ·exact k.key b (kx b Yt)
    ·refine⟨?_,.inl (xJ k.size CK)⟩;cases hh:h b with
     |none=>rfl
     |some c=>have:=k.sub.lt hh;omega
   ·exact k.key b (kL b hb)
 ·simp only [keys,zF];have hn:(keys L).Nodup:=by
   have:=k.nodup;simp only [keys,zF] at this;split at this
   ·exact this
   ·exact(zy.1 this).2
  split
  ·exact hn
  ·rename_i b' G5;refine zy.2 ⟨λhm=>?_,hn⟩;rcases U2 b' G5 with Yt|CK
   ·exact rest b' hm Yt
   ·have:=k.klt (kL b' hm);omega
def Part.add (h:Part) (b:Nat) (c:Array Value):Part:=λb'=>if b'=b then some c else h b'
variable{h:Part}{t:TypeId}
theorem Ok.N0 {e:Env}{b:Nat}{cs:Array Value}{x:Br}(k:Ok e h (x::L) w) (hx:x.key=some b) (hw:w.heap[b]?=some (.cells cs t (0,0))):h.le (h.add b cs)/\Ok e (h.add b cs) L w:=by
 have hb:=k.key b (lL (aC ..) hx);have hle:h.le (h.add b cs):=λb' c hc=>by
  unfold Part.add;split
  ·rename_i heq;subst heq;rw [hb.1] at hc;cases hc
  ·exact hc
 have kd:=k.drop (Ju _ _);have U0:b ∉ keys L:=by
  have:=k.nodup;simp only [keys,zF,hx] at this;exact(zy.1 this).1
 refine⟨hle,kd.os,kd.tape,kd.output,kd.size,kd.M1,λb' c hc=>?_,kd.le.trans hle,λb' c hc=>?_,kd.own,λb' G5=>?_,kd.nodup⟩
 ·unfold Part.add at hc;split at hc
  ·rename_i heq;subst heq;cases hc;exact⟨t,_,hw⟩
  ·exact kd.sub b' c hc
 ·unfold Part.add at hc;split at hc
  ·rename_i heq;subst heq;exact .inr hb.2
  ·exact kd.fresh b' c hc
 ·refine⟨?_,(kd.key b' G5).2⟩;unfold Part.add;rw [xC (λheq:b'=b=>U0 (heq ▸ G5))];exact(kd.key b' G5).1
theorem Ok.a1y {e:Env}{b:Nat}{cs:LV}(k:Ok e h (.yY b t cs::L) w):h.le (h.add b cs.toArray)/\Ok e (h.add b cs.toArray) L w :=
 k.N0 U (k.own _ (aC ..))
theorem Ok.shrink {e:Env}{h h':Part}(k:Ok e h' L w) (hle:h.le h') (h0:e.h0.le h):Ok e h L w :=
 ⟨k.os,k.tape,k.output,k.size,k.M1,λb c hc=>k.sub b c (hle b c hc),h0,λb c hc=>k.fresh b c (hle b c hc),k.own,λb hb=>⟨(by
  cases hh:h b with
  |none=>rfl
  |some c=>have:=hle b c hh;rw [(k.key b hb).1] at this;cases this),(k.key b hb).2⟩,k.nodup⟩
theorem Ok.CQ {e:Env}(k:Ok e h L w) (t:TypeId) (sz:Nat):Ok e h (.row none 0 t sz 0 []::L) w :=
 ⟨k.os,k.tape,k.output,k.size,k.M1,k.sub,k.le,k.fresh,λx hx=>by
  cases hx with
  |head=>exact World.ownsRow_nil w 0 t sz
  |tail _ hx=>exact k.own x hx,k.key,k.nodup⟩
inductive Dt (x:Br):LE->LE->Prop where
 |here {L:LE}:Dt x (x::L) L
 |there {y:Br} {L L':LE} (u:Dt x L L'):Dt x (y::L) (y::L')
theorem Dt.perm {x:Br}{L L':LE}(u:Dt x L L'):L.Perm (x::L'):=by
 induction u with
 |here=>exact .refl _
 |there u ih=>exact(ih.cons _).trans (.swap ..)
theorem Dt.mem {x:Br}{L L':LE}(u:Dt x L L'):x∈L:=u.perm.symm.subset (aC ..)
inductive zO:LE->LE->LE->Prop where
 |nil {L:LE}:zO [] L L
 |cons {x:Br} {Li L L' Lr:LE} (u:Dt x L L') (p:zO Li L' Lr):zO (x::Li) L Lr
theorem zO.perm {Li L Lr:LE}(p:zO Li L Lr):L.Perm (Li++Lr):=by
 induction p with
 |nil=>exact .refl _
 |cons u _ ih=>exact u.perm.trans (ih.cons _)
theorem ft (A B:LE):keys (A++B)=keys A++keys B:=List.filterMap_append
theorem Ok.call {e:Env}{h h':Part}{Li Lr Lo:LE}{w w':World}{ds:List Deferred}(k:Ok e h (Li++Lr) w) (c:Ok ⟨w,(·∈keys Li),h,ds⟩ h' Lo w'):Ok e h' (Lo++Lr) w':=by
 have kn:=k.nodup;rw [ft] at kn;have a6D:∀ b∈keys Lr,b ∉ keys Li:=λb hb hi=>(SO.1 kn).2.2 b hi b hb U;have M8:∀ b∈keys Li,b∈keys (Li++Lr):=λb hb=>by rw [ft];exact List.mem_append_left _ hb
 have a2':∀ b∈keys Lr,b∈keys (Li++Lr):=λb hb=>by rw [ft];exact List.mem_append_right _ hb
 have hc:=c.le;have same:∀ b,b<w.heap.size->b ∉ keys Li->w'.heap[b]?=w.heap[b]?:=λb hb hn=>c.M1 b hb hn;have Yx:∀ b∈keys Lr,h' b=none:=λb hb=>by
  cases hh:h' b with
  |none=>rfl
  |some cc =>
   rcases c.fresh b cc hh with h1|h1|h1
   ·have:=(k.key b (a2' b hb)).1;simp only at h1;rw [this] at h1;cases h1
   ·have:=k.klt (a2' b hb);simp only at h1;omega
   ·exact absurd h1 (a6D b hb)
 refine⟨c.os.trans k.os,c.tape.trans k.tape,c.output.trans k.output,xJ k.size c.size,λb hb hm=>?_,c.sub,k.le.trans hc,λb cc hcc=>?_,λx hx=>?_,λb hb=>?_,?_⟩
 ·rw [same b (zi hb k.size) (λhi=>by
   rcases(k.key b (M8 b hi)).2 with l|l
   ·omega
   ·exact hm l)]
  exact k.M1 b hb hm
 ·rcases c.fresh b cc hcc with h1|h1|h1
  ·exact k.fresh b cc h1
  ·exact .inr (.inl (xJ k.size h1))
  ·exact .inr (k.key b (M8 b h1)).2
 ·rcases Bo.1 hx with hx|hx
  ·exact c.own x hx
  ·have hw:=k.own x (List.mem_append_right _ hx);exact Br.P1 hw λb hb=>same b (Br.lt hw hb) (a6D b (lL hx hb))
 ·rw [ft] at hb;rcases Bo.1 hb with hb|hb
  ·refine⟨(c.key b hb).1,?_⟩;rcases(c.key b hb).2 with l|l
   ·exact .inl (xJ k.size l)
   ·exact(k.key b (M8 b l)).2
  ·exact⟨Yx b hb,(k.key b (a2' b hb)).2⟩
 ·rw [ft];refine SO.2 ⟨c.nodup,(SO.1 kn).2.1,λb hb b' G5 heq=>?_⟩;subst heq;rcases(c.key b hb).2 with l|l
  ·have:=k.klt (a2' b G5);simp only at l;omega
  ·exact a6D b G5 l
abbrev AH:=List (Nat×Value)
def look:AH->Nat->Option Value
 |[],_=>none
 |(k,v)::r,s=>bif Nat.beq k s then some v else look r s
def ev (S:AH):Operand->Option Value
 |.tmp t=>look S t
 |.const v=>some v
 |.global g=>some (.pointer (some ⟨g,0,none⟩))
 |.func f=>some (.func (.func f) #[] #[])
def IB:AH->AH->Prop
 |[],_=>True
 |(s,v)::r,S=>look S s=some v/\IB r S
structure Sat (e:Env) (m:Nat) (S:AH) (h:Part) (L:LE) (a:Act) (w:World):Prop where
 size:a.tmps.size=m
 slot:∀ s v,look S s=some v->a.tmps[s]?=some v
 ds:a.defers=e.ds
 ok:Ok e h L w
section
variable {e:Env}{m:Nat}{S:AH}{h:Part}{L:LE}{a:Act}{w:World}
theorem Sat.eval (s:Sat e m S h L a w) {x:Operand}{v:Value}(hx:ev S x=some v):a.eval x=v:=by
 cases x with
 |tmp t=>simp only [ev] at hx;simp [Act.eval,s.slot t v hx]
 |const c=>simp only [ev,au] at hx;exact hx
 |global g=>simp only [ev,au] at hx;exact hx
 |func f=>simp only [ev,au] at hx;exact hx
theorem Sat.put (s:Sat e m S h L a w) {d:Nat}(hd:Nat.blt d m=true) (v:Value) {h':Part}{L':LE}{w':World}(ok:Ok e h' L' w'):Sat e m ((d,v)::S) h' L' (a.put (some d) v) w':=by
 have yJ:d<m:=by simpa using hd
 refine⟨by simp [Act.put,s.size],λt u hu=>?_,by simp [Act.put,s.ds],ok⟩;simp only [look] at hu;cases hb:Nat.beq d t with
 |true =>
  have:d=t:=am hb;subst this;simp only [hb,cond_true,au] at hu;subst hu;simp [Act.put,s.size,yJ]
 |false =>
  have:d≠t:=EY hb;simp only [hb,cond_false] at hu;simp [Act.put,Gs,this,s.slot t u hu]
theorem IB.look {S' S:AH}(hw:IB S' S) {t:Nat}{v:Value}(h:look S' t=some v):Go.Proofs.YtilafeifbaaagaaGreatDoor.look S t=some v:=by
 induction S' with
 |nil=>simp [Go.Proofs.YtilafeifbaaagaaGreatDoor.look] at h
 |cons p r ih =>
  obtain⟨k,u⟩:=p;simp only [Go.Proofs.YtilafeifbaaagaaGreatDoor.look] at h;cases hb:Nat.beq k t with
  |true =>
   have:k=t:=am hb;subst this;simp only [hb,cond_true,au] at h;subst h;exact hw.1
  |false =>
   simp only [hb,cond_false] at h;exact ih hw.2 h
theorem Sat.H0 (s:Sat e m S h L a w) {S':AH}(hw:IB S' S):Sat e m S' h L a w:=⟨s.size,λt v hv=>s.slot t v (hw.look hv),s.ds,s.ok⟩
theorem Sat.a7M (s:Sat e m S h L a w) {S':AH}(hw:∀ t v,look S' t=some v->look S t=some v):Sat e m S' h L a w:=⟨s.size,λt v hv=>s.slot t v (hw t v hv),s.ds,s.ok⟩
theorem Sat.with (s:Sat e m S h L a w) {h':Part}{L':LE}{w':World}(ok:Ok e h' L' w'):Sat e m S h' L' a w':=⟨s.size,s.slot,s.ds,ok⟩
end
variable{P:Program}
theorem LG {c:Code}{Q Q':Exit->Act->World->Prop}{a:Act}(h:c.wp P Q a w) (hq:∀ e a w,Q e a w->Q' e a w):c.wp P Q' a w:=Code.wp_mono hq h
abbrev yF:=AH->Part->LE->Prop
structure Fr where
 P:Program
 e:Env
 m:Nat
 r:yF
 p:List PanicEntry->yF
def Fr.Q (f:Fr) (n:yF) (x:Nat->yF):Exit->Act->World->Prop
 |.normal,a,w=>∃ S h L,Sat f.e f.m S h L a w/\n S h L
 |.exit i,a,w=>∃ S h L,Sat f.e f.m S h L a w/\x i S h L/\i<1000000
 |.ret,a,w=>∃ S h L,Sat f.e f.m S h L a w/\f.r S h L
 |.panic c,a,w=>∃ S h L,Sat f.e f.m S h L a w/\f.p c S h L
 |.goto l,a,w=>∃ S h L,Sat f.e f.m S h L a w/\x (l+1000000) S h L
 |_,_,_=>False
def J (f:Fr) (c:Code) (n:yF) (x:Nat->yF):yF:=λS h L=>∀ a w,Sat f.e f.m S h L a w->c.wp f.P (f.Q n x) a w
def JL (f:Fr) (ops:Array Oper) (n:yF) (x:Nat->yF) (l:LR):yF:=λS h L=>∀ a w,Sat f.e f.m S h L a w->wpList f.P ops (f.Q n x) l a w
section
variable {f:Fr}{n:yF}{x:Nat->yF}{S:AH}{h:Part}{L:LE}
theorem J.H0 {c:Code}(S':AH) (hw:IB S' S) (k:J f c n x S' h L):J f c n x S h L:=λa w s=>k a w (s.H0 hw)
abbrev ba:=@J.H0
theorem J.skip (k:n S h L):J f .skip n x S h L:=λ_ _ s=>wp_skip ⟨_,_,_,s,k⟩
abbrev aO:=@J.skip
theorem J.seq {c d:Code}(k:J f c (J f d n x) x S h L):J f (.seq c d) n x S h L:=λa w s=>by
 refine wp_seq (LG (k a w s) (λex a' w' q=>?_));exact m165
abbrev aK:=@J.seq
theorem J.Py {t:Operand}{c d:Code}(ht:ev S t=some (.bool true)) (k1:J f c n x S h L):J f (.cond t c d) n x S h L:=λa w s=>wp_cond_true (s.eval ht) (k1 a w s)
abbrev bP:=@J.Py
theorem J.Df {t:Operand}{c d:Code}(ht:ev S t=some (.bool false)) (k1:J f d n x S h L):J f (.cond t c d) n x S h L:=λa w s=>wp_cond_false (s.eval ht) (k1 a w s)
theorem J.block {id:Nat}{c:Code}(k:J f c n (λi=>bif Nat.beq i id then n else x i) S h L) (hid:Nat.blt id 1000000=true:=by rfl):J f (.block id c) n x S h L:=λa w s=>by
 refine wp_block (LG (k a w s) (λex a' w' q=>?_));exact m23
abbrev aV:=@J.block
theorem J.exit {i:Nat}(k:x i S h L) (hi:Nat.blt i 1000000=true:=by rfl):J f (.exit i) n x S h L:=λ_ _ s=>wp_exit ⟨_,_,_,s,k,by simpa using hi⟩
abbrev bJ:=@J.exit
theorem J.ret (k:f.r S h L):J f .ret n x S h L:=λ_ _ s=>wp_ret ⟨_,_,_,s,k⟩
abbrev dm:=@J.ret
theorem fk {c:Code}{Q:Exit->Act->World->Prop}(I:Nat->Act->World->Prop)
 (round:∀ t a w,I t a w->c.wp P (Exit.then (λa' w'=>∃ t',t'<t/\I t' a' w') Q) a w) (t:Nat) (a:Act) (w:World) (b0x:I t a w):(Code.loop c).wp P Q a w:=by
 intro b k cs;have key:∀ t a w,I t a w->∃ e a' w',Q e a' w'/\Arrives P (lone (b.at a (.code c::.inLoop c::k)) cs w) b k cs e a' w':=by
  intro t
  induction t using Nat.strongRecOn with
  |_ t ih =>
   intro a w hI;obtain⟨e,UJ,SV,hq,ND⟩:=round t a w hI b (.inLoop c::k) cs;cases e with
   |normal =>
    obtain⟨t',yJ,a96⟩:=hq;obtain⟨b1m,b1u,a9T,a8K,a2B⟩:=ih t' yJ UJ SV a96;exact⟨b1m,b1u,a9T,a8K,.of_steps (Steps.trans ND (.one step_inLoop)) a2B⟩
   |exit id=>exact⟨_,UJ,SV,hq,.pass (x:=.inLoop c) U (λ_ _=>.inl (by simp)) ND⟩
   |goto l=>exact⟨_,UJ,SV,hq,.pass (x:=.inLoop c) U (λ_ _=>.inl (by simp)) ND⟩
   |ret=>exact⟨_,UJ,SV,hq,.pass (x:=.inLoop c) U (λ_ _=>.inl (by simp)) ND⟩
   |panic ch=>exact⟨_,UJ,SV,hq,.pass (x:=.inLoop c) U (λ_ _=>.inl (by simp)) ND⟩
   |outgrown=>exact⟨_,UJ,SV,hq,.pass (x:=.inLoop c) U (λ_ _=>.inl (by simp)) ND⟩
 obtain⟨e,a',w',hq,ND⟩:=key t a w b0x;exact⟨e,a',w',hq,.of_steps (.one step_loop) ND⟩
theorem J.loop {c:Code}(I:Nat->yF) (init:∃ t S',IB S' S/\I t S' h L)
 (round:∀ t S h L,I t S h L->J f c (λS' h' L'=>∃ t',t'<t/\∃ S'',IB S'' S'/\I t' S'' h' L') x S h L):J f (.loop c) n x S h L:=λa w s=>by
 obtain⟨t,S',hw,hI⟩:=init;refine fk (λt a w=>∃ S h L,Sat f.e f.m S h L a w/\I t S h L) ?_ t a w ⟨S',h,L,s.H0 hw,hI⟩;rintro t a w ⟨S,h,L,s,hI⟩;refine LG (round t S h L hI a w s) (λex a' w' q=>?_);cases ex with
 |normal=>obtain⟨S',h',L',s',t',yJ,S'',hw,hI'⟩:=q;exact⟨t',yJ,S'',h',L',s'.H0 hw,hI'⟩
 |_=>exact q
abbrev bU:=@J.loop
theorem J.cut {c:Code}{n':yF}{x':Nat->yF}(k:J f c n' x' S h L) (hn:∀ S h L,n' S h L->n S h L) (hx:∀ i S h L,x' i S h L->x i S h L):J f c n x S h L:=λa w s =>
 LG (k a w s) (λex a' w' q=>by
  cases ex with
  |normal=>obtain⟨S',h',L',s',k'⟩:=q;exact⟨S',h',L',s',hn _ _ _ k'⟩
  |exit i=>obtain⟨S',h',L',s',k',hi⟩:=q;exact⟨S',h',L',s',hx _ _ _ _ k',hi⟩
  |goto i=>obtain⟨S',h',L',s',k'⟩:=q;exact⟨S',h',L',s',hx _ _ _ _ k'⟩
  |_=>exact q)
theorem J.meet {c:Code}(A K:AH) (_:IB K S) (k1:J f c (λS1 h1 L1=>h1=h/\L1=L/\IB (A++K) S1) x S h L) (k2:n (A++K) h L):J f c n x S h L :=
 λa w s=>LG (k1 a w s) (λex a' w' q=>by
  cases ex with
  |normal=>obtain⟨S1,h1,L1,s1,rfl,rfl,hw⟩:=q;exact⟨A++K,_,_,s1.H0 hw,k2⟩
  |_=>exact q)
theorem J.region {id:Nat}{l:LR}(k:JL f l.toArray n x l S h L):J f (.region id l.toArray false) n x S h L:=λa w s=>wp_region_lit (k a w s)
theorem JL.nil {ops:Array Oper}(k:n S h L):JL f ops n x [] S h L:=λ_ _ s=>wpList_nil ⟨_,_,_,s,k⟩
abbrev aj:=@JL.nil
theorem JL.H0 {ops:Array Oper}{l:LR}(S':AH) (hw:IB S' S) (k:JL f ops n x l S' h L):JL f ops n x l S h L:=λa w s=>k a w (s.H0 hw)
end
theorem zV {x:Br}(u:x∈L:=by repeat (first|exact aC ..|apply aE)):x∈L:=u
theorem zW {x:Br}{L L':LE}(u:Dt x L L':=by repeat (first|exact Dt.here|apply Dt.there)):Dt x L L':=u
theorem HC {Li L Lr:LE}(u:zO Li L Lr:=by repeat first|exact zO.nil|exact Dt.here|apply Dt.there|apply zO.cons):zO Li L Lr:=u
def xG (f:Fr) (S:AH) (h:Part) (L:LE) (q:Op) (ty:TypeId) (v:Value):Prop :=
 ∀ a w,Sat f.e f.m S h L a w->∀ d pos af g,(execOp a.eval ⟨d,q,ty,pos,af,g⟩).run f.P w=.ok (.value v) w
variable{o:Oper}
section
variable {f:Fr}{n:yF}{x:Nat->yF}{S:AH}{h:Part}{L:LE}{ops:Array Oper}{rest:LR}
variable {ty:TypeId}{pos:String}{af:Array Edge}{q:Op}{d:Nat}{v:Value}
theorem ld {a:Act}{Q:Exit->Act->World->Prop}(hw:Region.wanted o (yielded ops a.tmps)=true) (hr:(execOp a.eval o).run P w=.ok (.value v) w)
 (k:wpList P ops Q rest (a.put o.dst v) w):wpList P ops Q (o::rest) a w:=by
 unfold wpList;rw [xD hw];exact .inl (by simp only [Oper.wp,hr,Oper.upon];exact k)
theorem JL.op (r:xG f S h L q ty v) (hd:Nat.blt d f.m=true) (k:JL f ops n x rest ((d,v)::S) h L):JL f ops n x (⟨some d,q,ty,pos,af,none⟩::rest) S h L:=λa w s =>
 ld (v:=v) (by simp [Region.wanted]) (r a w s _ _ _ _) (k _ w (s.put hd v s.ok))
abbrev aA:=@JL.op
theorem cZ {a:Act}(s:Sat f.e f.m S h L a w) {j dj:Nat}{b:Bool}(hj:(ops[j]?).bind (·.dst)=some dj) (hs:look S dj=some (.bool b)):yielded ops a.tmps j=some b:=by
 simp [yielded,hj,s.slot _ _ hs]
theorem JL.NY {j dj:Nat}{b:Bool}(hj:(ops[j]?).bind (·.dst)=some dj) (hs:look S dj=some (.bool b)) (r:xG f S h L q ty v) (hd:Nat.blt d f.m=true) (k:JL f ops n x rest ((d,v)::S) h L) :
 JL f ops n x (⟨some d,q,ty,pos,af,some (j,b)⟩::rest) S h L:=λa w s =>
 ld (v:=v) (by simp [Region.wanted,cZ s hj hs]) (r a w s _ _ _ _) (k _ w (s.put hd v s.ok))
abbrev bz:=@JL.NY
theorem JL.skip {j dj:Nat}{b:Bool}(hj:(ops[j]?).bind (·.dst)=some dj) (hs:look S dj=some (.bool (!b))) (hd:Nat.blt d f.m=true) (k:JL f ops n x rest ((d,undef)::S) h L) :
 JL f ops n x (⟨some d,q,ty,pos,af,some (j,b)⟩::rest) S h L:=λa w s=>by
 unfold wpList;rw [xC (by simp [Region.wanted,cZ s hj hs])];exact m162
theorem Sat.bool {a:Act}(s:Sat f.e f.m S h L a w) {t:Nat}{b c:Bool}(ht:look S t=some (.bool b)) (hb:b=c):Sat f.e f.m ((t,.bool c)::S) h L a w :=
 s.a7M λu v hv=>by
  simp only [look] at hv;cases hq:Nat.beq t u with
  |true =>
   have:t=u:=am hq;subst this;simp only [hq,cond_true,au] at hv;rw [ht,hb,hv]
  |false=>simpa [hq] using hv
theorem J.EI {c:Code}(t:Nat) {b:Bool}(ht:look S t=some (.bool b)) (k1:b=true->J f c n x ((t,.bool true)::S) h L) (k2:b=false->J f c n x ((t,.bool false)::S) h L):J f c n x S h L:=λa w s=>by
 exact m48
theorem JL.EI {l:LR}(t:Nat) {b:Bool}(ht:look S t=some (.bool b)) (k1:b=true->JL f ops n x l ((t,.bool true)::S) h L) (k2:b=false->JL f ops n x l ((t,.bool false)::S) h L):JL f ops n x l S h L:=λa w s=>by
 exact m48
def AB (f:Fr) (S:AH) (h:Part) (L:LE) (q:Op) (ty:TypeId) (V:Value->Prop):Prop:=∃ v,xG f S h L q ty v/\V v
theorem JL.TB {V:Value->Prop}(r:AB f S h L q ty V) (hd:Nat.blt d f.m=true) (k:∀ v,V v->JL f ops n x rest ((d,v)::S) h L):JL f ops n x (⟨some d,q,ty,pos,af,none⟩::rest) S h L:=by
 obtain⟨v,r,hv⟩:=r;exact aA r hd (k v hv)
abbrev cX:=@JL.TB
theorem JL.FM {j dj:Nat}{b:Bool}{V:Value->Prop}(hj:(ops[j]?).bind (·.dst)=some dj) (hs:look S dj=some (.bool b)) (r:AB f S h L q ty V) (hd:Nat.blt d f.m=true) (k:∀ v,V v->JL f ops n x rest ((d,v)::S) h L) :
 JL f ops n x (⟨some d,q,ty,pos,af,some (j,b)⟩::rest) S h L:=by
 obtain⟨v,r,hv⟩:=r;exact bz hj hs r hd (k v hv)
def JQ (f:Fr) (ops:Array Oper) (n:yF) (l:LR):yF:=λS h L=>∀ a w,Sat f.e f.m S h L a w ->
 wpQuiet f.P ops (λw'=>Ok f.e h L w') (λa'=>∀ w',Ok f.e h L w'->∃ S',Sat f.e f.m S' h L a' w'/\n S' h L) l a
theorem JQ.nil (k:n S h L):JQ f ops n [] S h L:=λa w s=>wpQuiet_nil λw' Mc=>⟨S,s.with Mc,k⟩
theorem JQ.op (r:xG f S h L q ty v) (hd:Nat.blt d f.m=true) (k:JQ f ops n rest ((d,v)::S) h L):JQ f ops n (⟨some d,q,ty,pos,af,none⟩::rest) S h L:=λa w s=>by
 unfold wpQuiet;rw [xD (by simp [Region.wanted])];exact m113
theorem JQ.TB {V:Value->Prop}(r:AB f S h L q ty V) (hd:Nat.blt d f.m=true) (k:∀ v,V v->JQ f ops n rest ((d,v)::S) h L):JQ f ops n (⟨some d,q,ty,pos,af,none⟩::rest) S h L:=by
 obtain⟨v,r,hv⟩:=r;exact JQ.op r hd (k v hv)
theorem JQ.NY {j dj:Nat}{b:Bool}(hj:(ops[j]?).bind (·.dst)=some dj) (hs:look S dj=some (.bool b)) (r:xG f S h L q ty v) (hd:Nat.blt d f.m=true) (k:JQ f ops n rest ((d,v)::S) h L) :
 JQ f ops n (⟨some d,q,ty,pos,af,some (j,b)⟩::rest) S h L:=λa w s=>by
 unfold wpQuiet;rw [xD (by simp [Region.wanted,cZ s hj hs])];exact m113
theorem JQ.FM {j dj:Nat}{b:Bool}{V:Value->Prop}(hj:(ops[j]?).bind (·.dst)=some dj) (hs:look S dj=some (.bool b)) (r:AB f S h L q ty V) (hd:Nat.blt d f.m=true) (k:∀ v,V v->JQ f ops n rest ((d,v)::S) h L) :
 JQ f ops n (⟨some d,q,ty,pos,af,some (j,b)⟩::rest) S h L:=by
 obtain⟨v,r,hv⟩:=r;exact JQ.NY hj hs r hd (k v hv)
theorem JQ.skip {j dj:Nat}{b:Bool}(hj:(ops[j]?).bind (·.dst)=some dj) (hs:look S dj=some (.bool (!b))) (hd:Nat.blt d f.m=true) (k:JQ f ops n rest ((d,undef)::S) h L) :
 JQ f ops n (⟨some d,q,ty,pos,af,some (j,b)⟩::rest) S h L:=λa w s=>by
 unfold wpQuiet;rw [xC (by simp [Region.wanted,cZ s hj hs])];exact m162
theorem gJ {P:Program}{C:World->Prop}{Q Q':Act->Prop}(hq:∀ a,Q a->Q' a):∀ (l:LR) (a:Act),wpQuiet P ops C Q l a->wpQuiet P ops C Q' l a
 |[],a,hh=>hq a hh
 |o::l,a,hh=>by
  unfold wpQuiet at hh |-
  split
  ·rename_i hw;rw [xD hw] at hh;obtain⟨v,h1,h2⟩:=hh;exact⟨v,h1,gJ hq l _ h2⟩
  ·rename_i hw;rw [xC hw] at hh;exact gJ hq l _ hh
theorem JQ.EI {l:LR}(t:Nat) {b:Bool}(ht:look S t=some (.bool b)) (k1:b=true->JQ f ops n l ((t,.bool true)::S) h L) (k2:b=false->JQ f ops n l ((t,.bool false)::S) h L):JQ f ops n l S h L:=λa w s=>by
 exact m48
theorem J.drawn {id:Nat}{l:LR}(hm:f.P.follows .mixedOrders=true) (hB:Region.lexB .any l.toArray=true) (k:JQ f l.toArray n l S h L):J f (.region id l.toArray true) n x S h L:=λa w s =>
 wp_region_quiet (C:=λw'=>Ok f.e h L w') hm hB (s.ok.drawn _) (by
  simp only [List.toList_toArray];exact gJ (λa' hh w' Mc=>by obtain⟨S',s',k'⟩:=hh w' Mc;exact⟨S',h,L,s',k'⟩) _ _ (k a w s))
end
theorem xE {p:Prop}(u:p:=by omega):p:=u
def Bz (P:Program) (src dst:TypeId):Option IntKind :=
 match (P.underlying src).isSome,P.underlying dst with
 |true,some (.int k)=>some k
 |_,_=>none
def CM (P:Program) (T i:Nat):Option Nat :=
 match P.underlying T with
 |some (.struct fs)=>match fs[i]? with
  |some fd=>match P.info? fd.type with
   |some inf=>if inf.size=0 then none else some fd.offset
   |none=>none
  |none=>none
 |_=>none
variable{x:Operand}{yk:IntKind}
section
variable {f:Fr}{S:AH}{h:Part}{L:LE}{ty:TypeId}
theorem xG.move {x:Operand}{v:Value}(hx:ev S x=some v):xG f S h L (.move x) ty v:=λa w s _ _ _ _=>by simp [execOp,s.eval hx]
abbrev aY:=@xG.move
theorem xG.assign {v:Value}(hx:ev S x=some v):xG f S h L (.assign x) ty v:=λa w s _ _ _ _=>by simp [execOp,s.eval hx]
theorem xG.JO {c x y:Operand}{v:Value}(hc:ev S c=some (.bool true)) (hx:ev S x=some v):xG f S h L (.pick c x y) ty v:=λa w s _ _ _ _=>by simp [execOp,s.eval hx,s.eval hc,asBool]
theorem xG.JP {c x y:Operand}{v:Value}(hc:ev S c=some (.bool false)) (hx:ev S y=some v):xG f S h L (.pick c x y) ty v:=λa w s _ _ _ _=>by simp [execOp,s.eval hx,s.eval hc,asBool]
theorem xG.XM {b:Bool}{T:TypeId}(hx:ev S x=some (.bool b)):xG f S h L (.unOp .not T x) ty (.bool (!b)):=λa w s _ _ _ _=>by simp [execOp,s.eval hx,Op.unary]
theorem xG.nilCheck {x:Operand}{a0:Addr}(hx:ev S x=some (.pointer (some a0))):xG f S h L (.nilCheck x) ty (.pointer (some a0)):=λa w s _ _ _ _=>by simp [execOp,s.eval hx]
abbrev dz:=@xG.nilCheck
theorem xG.extract {vs:Array Value}{i:Nat}{v:Value}(hx:ev S x=some (.tuple vs)) (hi:vs[i]?=some v):xG f S h L (.extract x i) ty v:=λa w s _ _ _ _=>by simp [execOp,s.eval hx,Instr.extract,hi]
theorem xG.bin {o:BinOp}{T yt:TypeId}{x y:Operand}{u v r:Value}(hx:ev S x=some u) (hy:ev S y=some v)
 (hr:∀ w,(do eqGuard o T x y u v;binOp o T u v:Sem Value).run f.P w=.ok r w):xG f S h L (.binOp o T x y yt) ty r:=λa w s _ _ _ _=>by
 have:=hr w;simp only [execOp,s.eval hx,s.eval hy];simp only [AW] at this |-
 cases hg:(eqGuard o T x y u v).run f.P w with
 |halt hh w'=>rw [hg] at this;cases this
 |ok u' w' =>
  rw [hg] at this;simp only [Result.andThen] at this |-
  rw [this];simp
abbrev bO:=@xG.bin
section ints
variable {T yt:TypeId}{x y:Operand}{k:IntKind}{p q:Int}
theorem xG.add (hx:ev S x=some (.int k p)) (hy:ev S y=some (.int k q)):xG f S h L (.binOp .add T x y yt) ty (.int k (k.wrap (p+q))):=bO hx hy λw=>by simp [go_sem,Op.intArith]
theorem xG.sub (hx:ev S x=some (.int k p)) (hy:ev S y=some (.int k q)):xG f S h L (.binOp .sub T x y yt) ty (.int k (k.wrap (p-q))):=bO hx hy λw=>by simp [go_sem,Op.intArith]
theorem xG.mul (hx:ev S x=some (.int k p)) (hy:ev S y=some (.int k q)):xG f S h L (.binOp .mul T x y yt) ty (.int k (k.wrap (p*q))):=bO hx hy λw=>by simp [go_sem,Op.intArith]
theorem xG.quo (hx:ev S x=some (.int k p)) (hy:ev S y=some (.int k q)) (hq:q≠0):xG f S h L (.binOp .quo T x y yt) ty (.int k (k.wrap (p.tdiv q))):=bO hx hy λw=>by simp [go_sem,Op.intDiv,hq]
theorem xG.rem (hx:ev S x=some (.int k p)) (hy:ev S y=some (.int k q)) (hq:q≠0):xG f S h L (.binOp .rem T x y yt) ty (.int k (p.tmod q)):=bO hx hy λw=>by simp [go_sem,Op.intDiv,hq]
theorem xG.UN (hx:ev S x=some (.int k p)) (hy:ev S y=some (.int k q)):xG f S h L (.binOp .and T x y yt) ty (.int k (bits .and k p q)):=bO hx hy λw=>by simp [go_sem]
theorem xG.or_ (hx:ev S x=some (.int k p)) (hy:ev S y=some (.int k q)):xG f S h L (.binOp .or T x y yt) ty (.int k (bits .or k p q)):=bO hx hy λw=>by simp [go_sem]
theorem xG.shr (hx:ev S x=some (.int k p)) (hy:ev S y=some (.int yk q)) (h0:0<=q) (h1:q<=k.bits):xG f S h L (.binOp .shr T x y yt) ty (.int k (p / 2 ^ q.toNat)) :=
 bO hx hy λw=>by rw [binOp_shr,shift_shr k yk p q h0 h1];simp [go_sem]
theorem xG.shl (hx:ev S x=some (.int k p)) (hy:ev S y=some (.int yk q)) (h0:0<=q) (h1:q<=k.bits):xG f S h L (.binOp .shl T x y yt) ty (.int k (k.wrap (p*2 ^ q.toNat))) :=
 bO hx hy λw=>by rw [binOp_shl,shift_shl k yk p q h0 h1];simp [go_sem]
theorem xG.lss (hx:ev S x=some (.int k p)) (hy:ev S y=some (.int k q)):xG f S h L (.binOp .lss T x y yt) ty (.bool (decide (p<q))):=bO hx hy λw=>by simp [go_sem]
theorem xG.leq (hx:ev S x=some (.int k p)) (hy:ev S y=some (.int k q)):xG f S h L (.binOp .leq T x y yt) ty (.bool (decide (p<=q))):=bO hx hy λw=>by simp [go_sem]
theorem xG.gtr (hx:ev S x=some (.int k p)) (hy:ev S y=some (.int k q)):xG f S h L (.binOp .gtr T x y yt) ty (.bool (decide (q<p))):=bO hx hy λw=>by simp [go_sem]
theorem xG.geq (hx:ev S x=some (.int k p)) (hy:ev S y=some (.int k q)):xG f S h L (.binOp .geq T x y yt) ty (.bool (decide (q<=p))):=bO hx hy λw=>by simp [go_sem]
theorem xG.eql (hx:ev S x=some (.int k p)) (hy:ev S y=some (.int k q)):xG f S h L (.binOp .eql T x y yt) ty (.bool (decide (p=q))):=bO hx hy λw=>by simp [go_sem];rfl
theorem xG.neq (hx:ev S x=some (.int k p)) (hy:ev S y=some (.int k q)):xG f S h L (.binOp .neq T x y yt) ty (.bool (decide (p≠q))):=bO hx hy λw=>by simp [go_sem];by_cases hpq:p=q<;>simp [hpq,bne]
theorem xG.conv {src dst:TypeId}{k':IntKind}(hc:Bz f.P src dst=some k') (hx:ev S x=some (.int k p)) :
 xG f S h L (.convert src dst x) ty (.int k' (k'.wrap p)):=λa w s _ _ _ _=>by
 unfold Bz at hc;split at hc<;>try cases hc
 rename_i k0 hs hd;obtain⟨ds,hs⟩:=yE.1 hs;simp [execOp,s.eval hx,convert,run_underlying hs,run_underlying hd,Conv.intToInt]
abbrev cB:=@xG.conv
end ints
section a9y
variable {T yt:TypeId}{x y:Operand}{p q:Bool}
theorem xG.b1o (hT:f.P.underlying T=some .bool) (hx:ev S x=some (.bool p)) (hy:ev S y=some (.bool q)):xG f S h L (.binOp .eql T x y yt) ty (.bool (p == q)) :=
 bO hx hy λw=>by simp [go_sem,run_eql_bool w T p q hT]
theorem xG.b0g (hT:f.P.underlying T=some .bool) (hx:ev S x=some (.bool p)) (hy:ev S y=some (.bool q)):xG f S h L (.binOp .neq T x y yt) ty (.bool (!(p == q))) :=
 bO hx hy λw=>by simp [go_sem,run_neq_bool w T p q hT]
end a9y
theorem xG.fieldAddr {T:TypeId}{i o:Nat}{a0:Addr}(hf:CM f.P T i=some o) (hx:ev S x=some (.pointer (some a0))):xG f S h L (.fieldAddr T x i) ty (.pointer (some (a0.add o))):=λa w s _ _ _ _=>by
 unfold CM at hf;split at hf<;>try cases hf
 rename_i fs hT;split at hf<;>try cases hf
 rename_i fd hfd;split at hf<;>try cases hf
 rename_i inf hi;split at hf<;>cases hf;rename_i hz;simp [execOp,s.eval hx,Instr.fieldAt,run_underlying hT,hfd,Instr.sureAddr,fieldPlace,sizeOf,typeInfo,hi,hz]
end
theorem fB (n:Int) (h0:-9223372036854775808<=n) (h1:n<=9223372036854775807):IntKind.i64.wrap n=n:=by unfold IntKind.wrap;simp [IntKind.signed,IntKind.bits];omega
theorem wrap_i32 (n:Int) (h0:-2147483648<=n) (h1:n<=2147483647):IntKind.i32.wrap n=n:=by unfold IntKind.wrap;simp [IntKind.signed,IntKind.bits];omega
theorem jN (n:Int) (h0:0<=n) (h1:n<=255):IntKind.u8.wrap n=n:=by unfold IntKind.wrap;simp [IntKind.signed,IntKind.bits];omega
theorem nX (n:Int) (h0:0<=n) (h1:n<=4294967295):IntKind.u32.wrap n=n:=by unfold IntKind.wrap;simp [IntKind.signed,IntKind.bits];omega
theorem gj (n:Int) (h0:0<=n) (h1:n<=18446744073709551615):IntKind.u64.wrap n=n:=by unfold IntKind.wrap;simp [IntKind.signed,IntKind.bits];omega
variable{S:AH}{f:Fr}
theorem xG.Mr {ty T yt:TypeId}{x y:Operand}{p q:Int}(hx:ev S x=some (.int .i64 p)) (hy:ev S y=some (.int .i64 q)) (h0:-9223372036854775808<=p+q) (h1:p+q<=9223372036854775807):xG f S h L (.binOp .add T x y yt) ty (.int .i64 (p+q)):=by
 have:=xG.add (f:=f) (h:=h) (L:=L) (ty:=ty) (T:=T) (yt:=yt) hx hy;rwa [fB _ h0 h1] at this
theorem xG.a7y {ty T yt:TypeId}{x y:Operand}{p q:Int}(hx:ev S x=some (.int .u8 p)) (hy:ev S y=some (.int .u8 q)) (h0:0<=p+q) (h1:p+q<=255):xG f S h L (.binOp .add T x y yt) ty (.int .u8 (p+q)):=by
 have:=xG.add (f:=f) (h:=h) (L:=L) (ty:=ty) (T:=T) (yt:=yt) hx hy;rwa [jN _ h0 h1] at this
theorem xG.Jd {ty T yt:TypeId}{x y:Operand}{p q:Int}(hx:ev S x=some (.int .u64 p)) (hy:ev S y=some (.int .u64 q)) (h0:0<=p+q) (h1:p+q<=18446744073709551615):xG f S h L (.binOp .add T x y yt) ty (.int .u64 (p+q)):=by
 have:=xG.add (f:=f) (h:=h) (L:=L) (ty:=ty) (T:=T) (yt:=yt) hx hy;rwa [gj _ h0 h1] at this
theorem xG.Q1 {ty T yt:TypeId}{x y:Operand}{p q:Int}(hx:ev S x=some (.int .i64 p)) (hy:ev S y=some (.int .i64 q)) (h0:-9223372036854775808<=p-q) (h1:p-q<=9223372036854775807):xG f S h L (.binOp .sub T x y yt) ty (.int .i64 (p-q)):=by
 have:=xG.sub (f:=f) (h:=h) (L:=L) (ty:=ty) (T:=T) (yt:=yt) hx hy;rwa [fB _ h0 h1] at this
theorem xG.Q2 {ty T yt:TypeId}{x y:Operand}{p q:Int}(hx:ev S x=some (.int .i32 p)) (hy:ev S y=some (.int .i32 q)) (h0:-2147483648<=p-q) (h1:p-q<=2147483647):xG f S h L (.binOp .sub T x y yt) ty (.int .i32 (p-q)):=by
 have:=xG.sub (f:=f) (h:=h) (L:=L) (ty:=ty) (T:=T) (yt:=yt) hx hy;rwa [wrap_i32 _ h0 h1] at this
theorem xG.a4K {ty T yt:TypeId}{x y:Operand}{p q:Int}(hx:ev S x=some (.int .u8 p)) (hy:ev S y=some (.int .u8 q)) (h0:0<=p-q) (h1:p-q<=255):xG f S h L (.binOp .sub T x y yt) ty (.int .u8 (p-q)):=by
 have:=xG.sub (f:=f) (h:=h) (L:=L) (ty:=ty) (T:=T) (yt:=yt) hx hy;rwa [jN _ h0 h1] at this
theorem xG.Q0 {ty T yt:TypeId}{x y:Operand}{p q:Int}(hx:ev S x=some (.int .u64 p)) (hy:ev S y=some (.int .u64 q)) (h0:0<=p-q) (h1:p-q<=18446744073709551615):xG f S h L (.binOp .sub T x y yt) ty (.int .u64 (p-q)):=by
 have:=xG.sub (f:=f) (h:=h) (L:=L) (ty:=ty) (T:=T) (yt:=yt) hx hy;rwa [gj _ h0 h1] at this
theorem xG.QX {ty T yt:TypeId}{x y:Operand}{p q:Int}(hx:ev S x=some (.int .i64 p)) (hy:ev S y=some (.int .i64 q)) (h0:-9223372036854775808<=p*q) (h1:p*q<=9223372036854775807):xG f S h L (.binOp .mul T x y yt) ty (.int .i64 (p*q)):=by
 have:=xG.mul (f:=f) (h:=h) (L:=L) (ty:=ty) (T:=T) (yt:=yt) hx hy;rwa [fB _ h0 h1] at this
theorem xG.M7 {ty T yt:TypeId}{x y:Operand}{p q:Int}(hx:ev S x=some (.int .u64 p)) (hy:ev S y=some (.int .u64 q)) (h0:0<=p*q) (h1:p*q<=18446744073709551615):xG f S h L (.binOp .mul T x y yt) ty (.int .u64 (p*q)):=by
 have:=xG.mul (f:=f) (h:=h) (L:=L) (ty:=ty) (T:=T) (yt:=yt) hx hy;rwa [gj _ h0 h1] at this
variable{k:IntKind}
theorem xG.GI {ty src dst:TypeId}{p:Int}(hc:Bz f.P src dst=some .i64) (hx:ev S x=some (.int k p)) (h0:-9223372036854775808<=p) (h1:p<=9223372036854775807):xG f S h L (.convert src dst x) ty (.int .i64 p):=by
 have:=cB (f:=f) (h:=h) (L:=L) (ty:=ty) hc hx;rwa [fB _ h0 h1] at this
theorem xG.Ls {ty src dst:TypeId}{b:UInt8}(hc:Bz f.P src dst=some .i64) (hx:ev S x=some (.int k (b.toNat:Int))):xG f S h L (.convert src dst x) ty (.int .i64 (b.toNat:Int)):=by
 have:=zA b;exact xG.GI hc hx xE xE
theorem xG.Sf {ty src dst:TypeId}{p:Int}(hc:Bz f.P src dst=some .u8) (hx:ev S x=some (.int k p)) (h0:0<=p) (h1:p<=255):xG f S h L (.convert src dst x) ty (.int .u8 p):=by
 have:=cB (f:=f) (h:=h) (L:=L) (ty:=ty) hc hx;rwa [jN _ h0 h1] at this
theorem xG.NL {ty src dst:TypeId}{p:Int}(hc:Bz f.P src dst=some .u32) (hx:ev S x=some (.int k p)) (h0:0<=p) (h1:p<=4294967295):xG f S h L (.convert src dst x) ty (.int .u32 p):=by
 have:=cB (f:=f) (h:=h) (L:=L) (ty:=ty) hc hx;rwa [nX _ h0 h1] at this
theorem xG.GH {ty src dst:TypeId}{p:Int}(hc:Bz f.P src dst=some .u64) (hx:ev S x=some (.int k p)) (h0:0<=p) (h1:p<=18446744073709551615):xG f S h L (.convert src dst x) ty (.int .u64 p):=by
 have:=cB (f:=f) (h:=h) (L:=L) (ty:=ty) hc hx;rwa [gj _ h0 h1] at this
theorem xG.Ut {ty src dst:TypeId}{b:UInt32}(hc:Bz f.P src dst=some .u64) (hx:ev S x=some (.int k (b.toNat:Int))):xG f S h L (.convert src dst x) ty (.int .u64 (b.toNat:Int)):=by
 have:=Eu b;exact xG.GH hc hx xE xE
theorem xG.QB {ty T yt:TypeId}{x y:Operand}{p q:Int}(hx:ev S x=some (.int .i64 p)) (hy:ev S y=some (.int .i64 q)) (h0:0<=p) (h1:p<=9223372036854775807) (hq:0<q):xG f S h L (.binOp .quo T x y yt) ty (.int .i64 (p / q)):=by
 have:=xG.quo (f:=f) (h:=h) (L:=L) (ty:=ty) (T:=T) (yt:=yt) hx hy xE;have h2:0<=p / q:=Km h0 xE;have h3:p / q<=p:=Vp _ h0;rwa [Hl h0,fB _ xE xE] at this
theorem xG.J5 {ty T yt:TypeId}{x y:Operand}{p q:Int}(hx:ev S x=some (.int .i64 p)) (hy:ev S y=some (.int .i64 q)) (h0:0<=p) (hq:0<q):xG f S h L (.binOp .rem T x y yt) ty (.int .i64 (p % q)):=by
 exact m54
theorem xG.a5m {ty T yt:TypeId}{x y:Operand}{p q:Int}(hx:ev S x=some (.int .u8 p)) (hy:ev S y=some (.int .u8 q)) (h0:0<=p) (h1:p<=255) (hq:0<q):xG f S h L (.binOp .quo T x y yt) ty (.int .u8 (p / q)):=by
 have:=xG.quo (f:=f) (h:=h) (L:=L) (ty:=ty) (T:=T) (yt:=yt) hx hy xE;have h2:0<=p / q:=Km h0 xE;have h3:p / q<=p:=Vp _ h0;rwa [Hl h0,jN _ xE xE] at this
theorem xG.a5c {ty T yt:TypeId}{x y:Operand}{p q:Int}(hx:ev S x=some (.int .u8 p)) (hy:ev S y=some (.int .u8 q)) (h0:0<=p) (hq:0<q):xG f S h L (.binOp .rem T x y yt) ty (.int .u8 (p % q)):=by
 exact m54
theorem xG.a1n {ty T yt:TypeId}{x y:Operand}{p q:Int}(hx:ev S x=some (.int .u32 p)) (hy:ev S y=some (.int .u32 q)) (h0:0<=p) (hq:0<q):xG f S h L (.binOp .rem T x y yt) ty (.int .u32 (p % q)):=by
 exact m54
theorem xG.ET {ty T yt:TypeId}{x y:Operand}{p q:Int}(hx:ev S x=some (.int .u64 p)) (hy:ev S y=some (.int .u64 q)) (h0:0<=p) (h1:p<=18446744073709551615) (hq:0<q):xG f S h L (.binOp .quo T x y yt) ty (.int .u64 (p / q)):=by
 have:=xG.quo (f:=f) (h:=h) (L:=L) (ty:=ty) (T:=T) (yt:=yt) hx hy xE;have h2:0<=p / q:=Km h0 xE;have h3:p / q<=p:=Vp _ h0;rwa [Hl h0,gj _ xE xE] at this
theorem xG.HO {ty T yt:TypeId}{x y:Operand}{p q:Int}(hx:ev S x=some (.int .u64 p)) (hy:ev S y=some (.int .u64 q)) (h0:0<=p) (hq:0<q):xG f S h L (.binOp .rem T x y yt) ty (.int .u64 (p % q)):=by
 exact m54
theorem xG.a4R {ty T yt:TypeId}{x y:Operand}{p q:Int}(D:Int) (hx:ev S x=some (.int .u8 p)) (hy:ev S y=some (.int yk q)) (h0:0<=q) (h1:q<=8) (hD:(2:Int) ^ q.toNat=D):xG f S h L (.binOp .shr T x y yt) ty (.int .u8 (p / D)):=by
 subst hD;exact xG.shr hx hy h0 h1
theorem xG.a4U {ty T yt:TypeId}{x y:Operand}{p q:Int}(D:Int) (hx:ev S x=some (.int .u8 p)) (hy:ev S y=some (.int yk q)) (h0:0<=q) (h1:q<=8) (hD:(2:Int) ^ q.toNat=D) (h2:0<=p*D) (h3:p*D<=255):xG f S h L (.binOp .shl T x y yt) ty (.int .u8 (p*D)):=by
 subst hD;have:=xG.shl (f:=f) (h:=h) (L:=L) (ty:=ty) (T:=T) (yt:=yt) hx hy h0 h1;rwa [jN _ h2 h3] at this
theorem xG.LM {ty T yt:TypeId}{x y:Operand}{p q:Int}(D:Int) (hx:ev S x=some (.int .u32 p)) (hy:ev S y=some (.int yk q)) (h0:0<=q) (h1:q<=32) (hD:(2:Int) ^ q.toNat=D):xG f S h L (.binOp .shr T x y yt) ty (.int .u32 (p / D)):=by
 subst hD;exact xG.shr hx hy h0 h1
theorem xG.a0W {ty T yt:TypeId}{x y:Operand}{p q:Int}(D:Int) (hx:ev S x=some (.int .u32 p)) (hy:ev S y=some (.int yk q)) (h0:0<=q) (h1:q<=32) (hD:(2:Int) ^ q.toNat=D) (h2:0<=p*D) (h3:p*D<=4294967295):xG f S h L (.binOp .shl T x y yt) ty (.int .u32 (p*D)):=by
 subst hD;have:=xG.shl (f:=f) (h:=h) (L:=L) (ty:=ty) (T:=T) (yt:=yt) hx hy h0 h1;rwa [nX _ h2 h3] at this
theorem xG.J3 {ty T yt:TypeId}{x y:Operand}{p q:Int}(D:Int) (hx:ev S x=some (.int .u64 p)) (hy:ev S y=some (.int yk q)) (h0:0<=q) (h1:q<=64) (hD:(2:Int) ^ q.toNat=D):xG f S h L (.binOp .shr T x y yt) ty (.int .u64 (p / D)):=by
 subst hD;exact xG.shr hx hy h0 h1
theorem xG.a0V {ty T yt:TypeId}{x y:Operand}{p q:Int}(D:Int) (hx:ev S x=some (.int .u64 p)) (hy:ev S y=some (.int yk q)) (h0:0<=q) (h1:q<=64) (hD:(2:Int) ^ q.toNat=D) (h2:0<=p*D) (h3:p*D<=18446744073709551615):xG f S h L (.binOp .shl T x y yt) ty (.int .u64 (p*D)):=by
 subst hD;have:=xG.shl (f:=f) (h:=h) (L:=L) (ty:=ty) (T:=T) (yt:=yt) hx hy h0 h1;rwa [gj _ h2 h3] at this
theorem xG.LP {ty T yt:TypeId}{x y:Operand}{p q:Int}(D:Int) (hx:ev S x=some (.int .i64 p)) (hy:ev S y=some (.int yk q)) (h0:0<=q) (h1:q<=64) (hD:(2:Int) ^ q.toNat=D) (h2:-9223372036854775808<=p*D) (h3:p*D<=9223372036854775807):xG f S h L (.binOp .shl T x y yt) ty (.int .i64 (p*D)):=by
 subst hD;have:=xG.shl (f:=f) (h:=h) (L:=L) (ty:=ty) (T:=T) (yt:=yt) hx hy h0 h1;rwa [fB _ h2 h3] at this
theorem xG.fieldAt {f:Fr}{S:AH}{h:Part}{L:LE}{ty T:TypeId}{x:Operand}{i o b o0:Nat}(hf:CM f.P T i=some o) (hx:ev S x=some (.pointer (some ⟨b,o0,none⟩))):xG f S h L (.fieldAddr T x i) ty (.pointer (some ⟨b,o0+o,none⟩)):=by
 have:=xG.fieldAddr (f:=f) (h:=h) (L:=L) (ty:=ty) hf hx;rwa [zB] at this
abbrev bH:=@xG.fieldAt
theorem xG.Z5 {f:Fr}{S:AH}{h:Part}{L:LE}{ty T:TypeId}{x:Operand}{i o b:Nat}(hf:CM f.P T i=some o) (hx:ev S x=some (.pointer (some ⟨b,0,none⟩))):xG f S h L (.fieldAddr T x i) ty (.pointer (some ⟨b,o,none⟩)):=by
 have:=bH (f:=f) (h:=h) (L:=L) (ty:=ty) hf hx;rwa [A0] at this
abbrev bY:=@xG.Z5
theorem Fc {ty T yt:TypeId}{x y:Operand}{v:Value}(u:xG f S h L (.binOp .add T x y yt) ty v:=by first|exact xG.Mr rfl rfl xE xE|exact xG.add rfl rfl):xG f S h L (.binOp .add T x y yt) ty v:=u
theorem GP {ty T yt:TypeId}{x y:Operand}{v:Value}(u:xG f S h L (.binOp .sub T x y yt) ty v:=by first|exact xG.Q1 rfl rfl xE xE|exact xG.sub rfl rfl):xG f S h L (.binOp .sub T x y yt) ty v:=u
abbrev bu:=@List.getElem?_eq_none
abbrev aH:=@List.getElem?_eq_getElem
abbrev aD:=@List.take_of_length_le
abbrev aB:=@Nat.le_refl
abbrev DI (α:Type):=Part->LV->α->Prop
class CF {α:Type} (R:DI α):Prop where
 mono:∀ {h h':Part} {cs:LV} {x:α},h.le h'->R h cs x->R h' cs x
 one:∀ {h:Part} {cs:LV} {x:α},R h cs x->∀ u∈cs,u.oneCell'=true
def I_ {α:Type}(R:DI α) (sz:Nat) (h:Part) (b o:Nat) (x:α):Prop:=∃ c cs,h b=some c/\cs.length=sz/\(∀ j,j<sz->c[o+j]?=cs[j]?)/\R h cs x
structure A3 {α:Type} (R:DI α) (sz:Nat) (h:Part) (a:OA) (c:Nat) (l:List α):Prop where
 len:l.length<=c
 cap:c<=maxLen
 GX:l.length<=140737488355328
 nil:a=none->c=0
 Z':∀ i x,l[i]?=some x->∃ b o,a=some ⟨b,o,none⟩/\I_ R sz h b (o+i*sz) x
section
variable {α:Type}{R:DI α}{sz:Nat}{h h':Part}{a:OA}{c:Nat}{l:List α}
theorem I_.mono [m:CF R] {b o:Nat}{x:α}(k:I_ R sz h b o x) (hle:h.le h'):I_ R sz h' b o x:=by
 obtain⟨cc,cs,h1,h2,h3,h4⟩:=k;exact⟨cc,cs,hle _ _ h1,h2,h3,m.mono hle h4⟩
theorem A3.mono [m:CF R] (k:A3 R sz h a c l) (hle:h.le h'):A3 R sz h' a c l :=
 ⟨k.len,k.cap,k.GX,k.nil,λi x hx=>by obtain⟨b,o,h1,h2⟩:=k.Z' i x hx;exact⟨b,o,h1,h2.mono hle⟩⟩
theorem A3.b0e:A3 R sz h none 0 ([]:List α):=⟨aB _,yQ _,yQ _,λ_=>rfl,λi x hx=>by simp at hx⟩
abbrev bA:=@A3.b0e
theorem A3.take_drop (k:A3 R sz h a c l) {lo hi m:Nat}(h1:lo<=hi) (h2:hi<=l.length) (h3:hi<=m) (h4:m<=c) :
 A3 R sz h (if m=lo then a else a.map (·.add (lo*sz))) (m-lo) ((l.drop lo).take (hi-lo)):=by
 refine⟨by simp;omega,by have:=k.cap;omega,by have:=k.GX;simp;omega,λhn=>?_,λi x hx=>?_⟩
 ·split at hn
  ·have:=k.nil hn;omega
  ·rw [Option.map_eq_none_iff] at hn;have:=k.nil hn;omega
 ·have Bx:i<hi-lo:=by
   rcases A9 i (hi-lo) with yJ|CK
   ·exact yJ
   ·rw [bu (by simp;omega)] at hx;cases hx
  rw [yz,xD Bx,yC] at hx;obtain⟨b,o,rfl,he⟩:=k.Z' _ x hx;rw [xC xE];refine⟨b,o+lo*sz,by simp [zB],?_⟩;rw [D'] at he;rwa [CG]
end
def DJ:DI UInt8:=λ_ cs x=>cs=[.int .u8 (x.toNat:Int)]
def Bf:DI UInt32:=λ_ cs x=>cs=[.int .u32 (x.toNat:Int)]
def C8:DI UInt64:=λ_ cs x=>cs=[.int .u64 (x.toNat:Int)]
def b0w:DI Int:=λ_ cs x=>cs=[.int .i64 x]
def a9Z:DI LB:=λ_ cs x=>cs=[.string ⟨x.toArray⟩]
def slR {α:Type}(R:DI α) (sz:Nat):DI (List α):=λh cs l=>∃ a c,cs=[.slice a l.length c]/\A3 R sz h a c l
instance:CF DJ:=⟨λ_ h=>h,λh u hu=>by cases h;simp at hu;subst hu;rfl⟩
instance:CF Bf:=⟨λ_ h=>h,λh u hu=>by cases h;simp at hu;subst hu;rfl⟩
instance:CF C8:=⟨λ_ h=>h,λh u hu=>by cases h;simp at hu;subst hu;rfl⟩
instance:CF b0w:=⟨λ_ h=>h,λh u hu=>by cases h;simp at hu;subst hu;rfl⟩
instance:CF a9Z:=⟨λ_ h=>h,λh u hu=>by cases h;simp at hu;subst hu;rfl⟩
instance {α:Type}{R:DI α}{sz:Nat} [CF R]:CF (slR R sz):=⟨λhle ⟨a,c,h1,h2⟩=>⟨a,c,h1,h2.mono hle⟩,λ⟨_,_,h,_⟩ u hu=>by cases h;simp at hu;subst hu;rfl⟩
def Ig (P:Program) (T:Nat):Option (Nat×Nat) :=
 match P.underlying T with
 |some (.slice e)=>match P.info? e with
  |some i=>some (e,i.size)
  |none=>none
 |_=>none
theorem fD {T e sz:Nat}(h:Ig P T=some (e,sz)):P.underlying T=some (.slice e)/\∃ i,P.info? e=some i/\i.size=sz:=by
 unfold Ig at h;split at h<;>try cases h
 rename_i e' hT;split at h<;>cases h;rename_i i hi;exact⟨hT,i,hi,U⟩
def AF (P:Program) (T:Nat):Option (Option Nat) :=
 match P.underlying T with
 |some (.struct _)|some (.array _ _)=>match P.info? T with
  |some i=>some (some i.size)
  |none=>none
 |some _=>match P.info? T with
  |some i=>if i.size=1 then some none else none
  |none=>none
 |none=>none
theorem eP {T:Nat}(h:AF P T=some none) (w:World):(isAgg T).run P w=.ok false w/\(sizeOf T).run P w=.ok 1 w:=by
 unfold AF at h;split at h
 ·split at h<;>cases h
 ·split at h<;>cases h
 ·rename_i d hd1 Lh hd;split at h<;>try cases h
  rename_i i hi;split at h<;>cases h;rename_i CP;refine⟨?_,by simp [sizeOf,typeInfo,hi,CP]⟩;unfold isAgg;rw [AW,run_underlying hd w];cases d<;>simp_all
 ·cases h
theorem dq {T n:Nat}(h:AF P T=some (some n)) (w:World):(isAgg T).run P w=.ok true w/\(sizeOf T).run P w=.ok n w:=by
 unfold AF at h;split at h
 ·rename_i fs hT;exact m106
 ·rename_i k e hT;exact m106
 ·split at h<;>try cases h
  split at h<;>cases h
 ·cases h
def CH (P:Program) (T:Nat):Option LV :=
 match P.info? T with
 |some i=>match i.zero with
  |some z=>some z.cells.toList
  |none=>none
 |none=>none
variable{hi:Operand}{lo:Operand}{α:Type}
section
variable {f:Fr}{n:yF}{x:Nat->yF}{S:AH}{h:Part}{L L':LE}{ops:Array Oper}{rest:LR}
variable {ty:TypeId}{pos:String}{af:Array Edge}{d:Nat}{v:Value}{T:TypeId}{xo yo:Operand}{a:OA}{c ln:Nat}
theorem xG.len {e sz:Nat}(hT:Ig f.P T=some (e,sz)) (hx:ev S xo=some (.slice a ln c)):xG f S h L (.call { callee:=.builtin .len,args:=#[xo],argTypes:=#[T] }) ty (.int .i64 (ln:Int)):=λac w s _ _ _ _=>by
 have hu:=(fD hT).1;simp [execOp,resolve,s.eval hx,invoke,builtin,Builtin.len_,run_underlying hu,goInt]
theorem AB.index {α:Type}{R:DI α}{l:List α}{e sz m:Nat}{k:IntKind}{i:Int}(hT:Ig f.P T=some (e,sz)) (hx:ev S xo=some (.slice a ln c)) (hy:ev S yo=some (.int k i)) (hi:i=(m:Int)) (hR:A3 R sz h a c l) (hlen:ln=l.length) (h1:m<l.length) :
 AB f S h L (.indexAddr T xo yo) ty (λv=>∃ (b o:Nat) (hi:m<l.length),v=.pointer (some ⟨b,o,none⟩)/\I_ R sz h b o l[m]):=by
 subst hlen hi;obtain⟨hu,inf,hi,hs⟩:=fD hT;obtain⟨b,o,rfl,he⟩:=hR.Z' m l[m] (aH _);refine⟨.pointer (some ⟨b,o+m*sz,none⟩),λac w s _ _ _ _=>?_,b,_,h1,U,he⟩;have h0:(0:Int)<=m:=by omega
 have h2:(m:Int)<l.length:=by omega
 simp [execOp,s.eval hx,s.eval hy,Instr.indexAt,run_underlying hu,asIntOf,sizeOf,typeInfo,hi,hs,h1,zB]
abbrev aX:=@AB.index
theorem AB.R5 {R:DI α}{e:α}{b o:Nat}(hT:AF f.P T=some none) (hx:ev S xo=some (.pointer (some ⟨b,o,none⟩))) (hE:I_ R 1 h b o e) :
 AB f S h L (.load T xo) ty (λv=>R h [v] e):=by
 obtain⟨cc,cs,hb,hl,hj,hR⟩:=hE
 match cs,hl with
 |[v],_ =>
  refine⟨v,λac w s _ _ _ _=>?_,hR⟩;have hc:cc[o]?=some v:=by have:=hj 0 xE;simpa using this
  simp [execOp,s.eval hx,Instr.loadAt,Instr.sureAddr,loadVar,(eP hT w).1,load,Sem.run,s.ok.sub.cell hb hc]
theorem xG.JW {y:UInt8}{b o:Nat}(hT:AF f.P T=some none) (hx:ev S xo=some (.pointer (some ⟨b,o,none⟩))) (hE:I_ DJ 1 h b o y):xG f S h L (.load T xo) ty (.int .u8 (y.toNat:Int)):=by
 obtain⟨v,hr,hv⟩:=AB.R5 (f:=f) (S:=S) (L:=L) (ty:=ty) hT hx hE;have e:v=.int .u8 (y.toNat:Int):=by unfold DJ at hv;injection hv
 rwa [<- e]
theorem xG.a63 {y:UInt32}{b o:Nat}(hT:AF f.P T=some none) (hx:ev S xo=some (.pointer (some ⟨b,o,none⟩))) (hE:I_ Bf 1 h b o y):xG f S h L (.load T xo) ty (.int .u32 (y.toNat:Int)):=by
 obtain⟨v,hr,hv⟩:=AB.R5 (f:=f) (S:=S) (L:=L) (ty:=ty) hT hx hE;have e:v=.int .u32 (y.toNat:Int):=by unfold Bf at hv;injection hv
 rwa [<- e]
abbrev dt:=@xG.a63
theorem xG.a62 {y:UInt64}{b o:Nat}(hT:AF f.P T=some none) (hx:ev S xo=some (.pointer (some ⟨b,o,none⟩))) (hE:I_ C8 1 h b o y):xG f S h L (.load T xo) ty (.int .u64 (y.toNat:Int)):=by
 obtain⟨v,hr,hv⟩:=AB.R5 (f:=f) (S:=S) (L:=L) (ty:=ty) hT hx hE;have e:v=.int .u64 (y.toNat:Int):=by unfold C8 at hv;injection hv
 rwa [<- e]
abbrev bG:=@xG.a62
theorem AB.Na {R:DI α}{e:α}{b o sz:Nat}(hT:AF f.P T=some (some sz)) (hx:ev S xo=some (.pointer (some ⟨b,o,none⟩))) (hE:I_ R sz h b o e) :
 AB f S h L (.load T xo) ty (λv=>∃ cs,v=.agg (List.toArray cs)/\R h cs e):=by
 obtain⟨cc,cs,hb,hl,hj,hR⟩:=hE;refine⟨.agg cs.toArray,λac w s _ _ _ _=>?_,cs,U,hR⟩;have V_:(loadCells ⟨b,o,none⟩ cs.length).run f.P w=.ok cs.toArray w:=run_loadCells_list (P:=f.P) w ⟨b,o,none⟩ cs (λj u hu=>by
  have yJ:j<sz:=by rw [<- hl];exact(xS.1 hu).1
  rw [zB];exact s.ok.sub.cell hb ((hj j yJ).trans hu))
 rw [hl] at V_;exact m55
theorem lV {b i:Nat}{cs:LV}(hk:Ok f.e h L w) (hm:Br.yY b t cs∈L):w.cell? ⟨b,i,none⟩=cs[i]?:=by
 have:w.heap[b]?=some (.cells cs.toArray t (0,0)):=hk.own _ hm;rw [cell_of_row w b i _ _ _ this];simp
theorem xG.b0c {b o:Nat}{t:TypeId}{cs:LV}(hT:AF f.P T=some none) (hx:ev S xo=some (.pointer (some ⟨b,o,none⟩))) (hm:Br.yY b t cs∈L) (hv:cs[o]?=some v):xG f S h L (.load T xo) ty v:=λac w s _ _ _ _=>by
 have hc:w.cell? ⟨b,o,none⟩=some v:=(lV s.ok hm).trans hv;exact m148
abbrev aG:=@xG.b0c
theorem xG.b0b {b sz:Nat}{t:TypeId}{cs:LV}(hT:AF f.P T=some (some sz)) (hx:ev S xo=some (.pointer (some ⟨b,0,none⟩))) (hm:Br.yY b t cs∈L) (hl:cs.length=sz):xG f S h L (.load T xo) ty (.agg cs.toArray):=λac w s _ _ _ _=>by
 subst hl;have V_:(loadCells ⟨b,0,none⟩ cs.length).run f.P w=.ok cs.toArray w:=run_loadCells_list (P:=f.P) w ⟨b,0,none⟩ cs (λj u hu=>by
  rw [zB,lV s.ok hm];simpa using hu)
 exact m55
abbrev bK:=@xG.b0b
theorem AB.a2V {R:DI α}{l:List α}{e sz:Nat}{k k':IntKind}{i j:Int}{lo hi:Operand}(hT:Ig f.P T=some (e,sz)) (hx:ev S xo=some (.slice a ln c)) (hl:ev S lo=some (.int k i)) (hh:ev S hi=some (.int k' j)) (hR:A3 R sz h a c l) (hlen:ln=l.length) (h0:0<=i) (h1:i<=j) (h2:j<=l.length) :
 AB f S h L (.slice T xo (some lo) (some hi) none) ty (λv=>∃ a' c',v=.slice a' ((l.drop i.toNat).take (j.toNat-i.toNat)).length c'/\A3 R sz h a' c' ((l.drop i.toNat).take (j.toNat-i.toNat))):=by
 subst hlen;obtain⟨hu,inf,Bx,hs⟩:=fD hT;have hc:=hR.len;refine⟨_,λac w s _ _ _ _=>?_,_,_,U,hR.take_drop (lo:=i.toNat) (hi:=j.toNat) (m:=c) xE xE xE (aB _)⟩;have e1:((l.drop i.toNat).take (j.toNat-i.toNat)).length=j.toNat-i.toNat:=by simp;omega
 rw [e1];have P8:(0:Int)<=j:=by omega
 have hjc:j<=(c:Int):=by omega
 have ej:(j.toNat:Int)=j:=zk P8;simp [execOp,s.eval hx,s.eval hl,s.eval hh,Instr.sliceAt,Instr.slice,run_underlying hu,Instr.sliceBounds,Instr.sliceBound,asIntOf,sizeOf,typeInfo,Bx,hs,h0,h1,P8,hjc,ej]
theorem AB.a6J {R:DI α}{l:List α}{e sz:Nat}{k':IntKind}{j:Int}(hT:Ig f.P T=some (e,sz)) (hx:ev S xo=some (.slice a ln c)) (hh:ev S hi=some (.int k' j)) (hR:A3 R sz h a c l) (hlen:ln=l.length) (h1:0<=j) (h2:j<=l.length) :
 AB f S h L (.slice T xo none (some hi) none) ty (λv=>∃ a' c',v=.slice a' (l.take j.toNat).length c'/\A3 R sz h a' c' (l.take j.toNat)):=by
 subst hlen;obtain⟨hu,inf,Bx,hs⟩:=fD hT;have hc:=hR.len;have:=hR.take_drop (lo:=0) (hi:=j.toNat) (m:=c) xE xE xE (aB _);simp only [C3,Db] at this;refine⟨_,λac w s _ _ _ _=>?_,_,_,U,this⟩;have e1:(l.take j.toNat).length=j.toNat:=by simp;omega
 rw [e1];have hjc:j<=(c:Int):=by omega
 simp [execOp,s.eval hx,s.eval hh,Instr.sliceAt,Instr.slice,run_underlying hu,Instr.sliceBounds,Instr.sliceBound,asIntOf,sizeOf,typeInfo,Bx,hs,h1,hjc]
theorem AB.a6I {R:DI α}{l:List α}{e sz:Nat}{i:Int}(hT:Ig f.P T=some (e,sz)) (hx:ev S xo=some (.slice a ln c)) (hl:ev S lo=some (.int k i)) (hR:A3 R sz h a c l) (hlen:ln=l.length) (h0:0<=i) (h1:i<=l.length) :
 AB f S h L (.slice T xo (some lo) none none) ty (λv=>∃ a' c',v=.slice a' (l.drop i.toNat).length c'/\A3 R sz h a' c' (l.drop i.toNat)):=by
 subst hlen;obtain⟨hu,inf,Bx,hs⟩:=fD hT;have hc:=hR.len;have:=hR.take_drop (lo:=i.toNat) (hi:=l.length) (m:=c) xE xE xE (aB _);rw [aD (by simp)] at this;refine⟨_,λac w s _ _ _ _=>?_,_,_,U,this⟩;have e1:(l.drop i.toNat).length=l.length-i.toNat:=by simp
 rw [e1];simp [execOp,s.eval hx,s.eval hl,Instr.sliceAt,Instr.slice,run_underlying hu,Instr.sliceBounds,Instr.sliceBound,asIntOf,sizeOf,typeInfo,Bx,hs,h0,h1]
theorem AB.a2W {R:DI α}{l:List α}{e sz:Nat}{k k':IntKind}{j m:Int}{hi mx:Operand}(hT:Ig f.P T=some (e,sz)) (hx:ev S xo=some (.slice a ln c)) (hh:ev S hi=some (.int k' j)) (hm:ev S mx=some (.int k m)) (hR:A3 R sz h a c l) (hlen:ln=l.length) (h1:0<=j) (h2:j<=l.length) (h3:j<=m) (h4:m<=c) :
 AB f S h L (.slice T xo none (some hi) (some mx)) ty (λv=>∃ a',v=.slice a' (l.take j.toNat).length m.toNat/\A3 R sz h a' m.toNat (l.take j.toNat)):=by
 subst hlen;obtain⟨hu,inf,Bx,hs⟩:=fD hT;have hc:=hR.len;have:=hR.take_drop (lo:=0) (hi:=j.toNat) (m:=m.toNat) xE xE xE xE;simp only [C3,Db] at this;refine⟨_,λac w s _ _ _ _=>?_,_,U,this⟩;have e1:(l.take j.toNat).length=j.toNat:=by simp;omega
 rw [e1];have hm0:(0:Int)<=m:=by omega
 have em:(m.toNat:Int)=m:=zk hm0;simp [execOp,s.eval hx,s.eval hh,s.eval hm,Instr.sliceAt,Instr.slice,run_underlying hu,Instr.sliceBounds,Instr.sliceBound,asIntOf,sizeOf,typeInfo,Bx,hs,h1,h3,h4,hm0,em]
theorem AB.a6G {α:Type}{R:DI α}{l:List α}{e sz m m':Nat}{k k':IntKind}{i j:Int}{lo hi:Operand}(hT:Ig f.P T=some (e,sz)) (hx:ev S xo=some (.slice a ln c)) (hl:ev S lo=some (.int k i)) (hh:ev S hi=some (.int k' j)) (Bx:i=(m:Int)) (hj:j=(m':Int)) (hR:A3 R sz h a c l) (hlen:ln=l.length) (h1:m<=m') (h2:m'<=l.length) :
 AB f S h L (.slice T xo (some lo) (some hi) none) ty (λv=>∃ a' c',v=.slice a' ((l.drop m).take (m'-m)).length c'/\A3 R sz h a' c' ((l.drop m).take (m'-m))):=by
 subst Bx hj;simpa using AB.a2V (f:=f) (L:=L) (ty:=ty) hT hx hl hh hR hlen xE xE xE
abbrev dT:=@AB.a6G
theorem AB.NK {R:DI α}{l:List α}{e sz m:Nat}{k':IntKind}{j:Int}(hT:Ig f.P T=some (e,sz)) (hx:ev S xo=some (.slice a ln c)) (hh:ev S hi=some (.int k' j)) (hj:j=(m:Int)) (hR:A3 R sz h a c l) (hlen:ln=l.length) (h2:m<=l.length) :
 AB f S h L (.slice T xo none (some hi) none) ty (λv=>∃ a' c',v=.slice a' (l.take m).length c'/\A3 R sz h a' c' (l.take m)):=by
 subst hj;simpa using AB.a6J (f:=f) (L:=L) (ty:=ty) hT hx hh hR hlen xE xE
theorem AB.S9 {R:DI α}{l:List α}{e sz m:Nat}{i:Int}(hT:Ig f.P T=some (e,sz)) (hx:ev S xo=some (.slice a ln c)) (hl:ev S lo=some (.int k i)) (hi:i=(m:Int)) (hR:A3 R sz h a c l) (hlen:ln=l.length) (h1:m<=l.length) :
 AB f S h L (.slice T xo (some lo) none none) ty (λv=>∃ a' c',v=.slice a' (l.drop m).length c'/\A3 R sz h a' c' (l.drop m)):=by
 subst hi;simpa using AB.a6I (f:=f) (L:=L) (ty:=ty) hT hx hl hR hlen xE xE
theorem AB.a6H {R:DI α}{l:List α}{e sz m m':Nat}{k k':IntKind}{j q:Int}{hi mx:Operand}(hT:Ig f.P T=some (e,sz)) (hx:ev S xo=some (.slice a ln c)) (hh:ev S hi=some (.int k' j)) (hm:ev S mx=some (.int k q)) (hj:j=(m:Int)) (hq:q=(m':Int)) (hR:A3 R sz h a c l) (hlen:ln=l.length) (h2:m<=l.length) (h3:m<=m') (h4:m'<=c) :
 AB f S h L (.slice T xo none (some hi) (some mx)) ty (λv=>∃ a',v=.slice a' (l.take m).length m'/\A3 R sz h a' m' (l.take m)):=by
 subst hj hq;simpa using AB.a2W (f:=f) (L:=L) (ty:=ty) hT hx hh hm hR hlen xE xE xE xE
theorem AB.Zu {R:DI α}{l:List α}{e sz:Nat}{k k':IntKind}{j q:Int}{hi mx:Operand}(hT:Ig f.P T=some (e,sz)) (hx:ev S xo=some (.slice a ln c)) (hh:ev S hi=some (.int k' j)) (hm:ev S mx=some (.int k q)) (hR:A3 R sz h a c l) (hlen:ln=l.length) (hj:j=(l.length:Int)) (hq:q=(l.length:Int)) :
 AB f S h L (.slice T xo none (some hi) (some mx)) ty (λv=>∃ a',v=.slice a' l.length l.length/\A3 R sz h a' l.length l):=by
 have:=AB.a6H (f:=f) (L:=L) (ty:=ty) hT hx hh hm hj hq hR hlen (aB _) (aB _) hR.len;exact m109
end
abbrev bg:=@Bool.false_eq_true
abbrev aT:=@Nat.mul_le_mul_right
abbrev aS:=@List.length_take
abbrev aM:=@List.length_drop
abbrev aw:=@List.length_cons
def yl {α:Type}(R:DI α) (sz:Nat) (h:Part) (cs:LV) (l:List α):Prop:=cs.length=l.length*sz/\∀ i x,l[i]?=some x->R h ((cs.drop (i*sz)).take sz) x
section
variable {α:Type}{R:DI α}{sz:Nat}{h h':Part}{a:OA}{c:Nat}{l l':List α}{cs Da:LV}
theorem yl.mono [m:CF R] (k:yl R sz h cs l) (hle:h.le h'):yl R sz h' cs l:=⟨k.1,λi x hx=>m.mono hle (k.2 i x hx)⟩
theorem yl.nil:yl R sz h [] ([]:List α):=⟨by simp,λi x hx=>by simp at hx⟩
abbrev bQ:=@yl.nil
theorem yl.append (k:yl R sz h cs l) (k':yl R sz h Da l'):yl R sz h (cs++Da) (l++l'):=by
 refine⟨by simp [k.1,k'.1,D'],λi x hx=>?_⟩;by_cases hi:i<l.length
 ·rw [Cd hi] at hx;have:=k.2 i x hx;have hle:i*sz+sz<=cs.length:=by rw [k.1,<- BI];exact aT _ hi
  rw [List.drop_append_of_le_length xE,List.take_append_of_le_length (by simp;omega)];exact this
 ·rw [C0 xE] at hx;have:=k'.2 _ x hx;have CK:cs.length<=i*sz:=by rw [k.1];exact aT _ xE
  rw [List.drop_append,yw CK,xP];have e:i*sz-cs.length=(i-l.length)*sz:=by rw [k.1,Nat.sub_mul]
  rw [e];exact this
theorem yl.one {x:α}(k:R h cs x) (hl:cs.length=sz):yl R sz h cs [x]:=⟨by simp [hl],λi y hy=>by
 match i with
 |0=>simp at hy;subst hy;simp [<- hl];exact k
 |i+1=>simp at hy⟩
theorem yl.a1N [m:CF R] (CP:0<sz) (k:yl R sz h cs l):∀ u∈cs,u.oneCell'=true:=λu hu=>by
 obtain⟨j,hj,rfl⟩:=BB hu;have hd:j / sz<l.length:=by rw [k.1] at hj;exact G9 (by rwa [zP])
 refine m.one (k.2 (j / sz) _ (aH hd)) _ ?_;have hm:j % sz<sz:=Nat.mod_lt _ CP;have he:j / sz*sz+j % sz=j:=by rw [zP];exact Nat.div_add_mod j sz
 refine G_ (i:=j % sz) ?_;rw [yz,xD hm,yC,he,aH hj]
theorem A3.cells (CP:0<sz) (k:A3 R sz h a c l):∃ cs,yl R sz h cs l/\∀ j u,cs[j]?=some u->∃ b o cc,a=some ⟨b,o,none⟩/\h b=some cc/\cc[o+j]?=some u:=by
 cases l with
 |nil=>exact⟨[],bQ,λj u hu=>by simp at hu⟩
 |cons x0 r =>
  obtain⟨b,o,ha,cc,cs0,hb,_,_,_⟩:=k.Z' 0 x0 U;have hE:∀ i x,(x0::r)[i]?=some x->∃ cs,cs.length=sz/\(∀ j,j<sz->cc[o+i*sz+j]?=cs[j]?)/\R h cs x:=λi x hx=>by
   obtain⟨b',o',YM,cc',cs,G5,h1,h2,h3⟩:=k.Z' i x hx;rw [ha] at YM;cases YM;rw [hb] at G5;cases G5;exact⟨cs,h1,h2,h3⟩
  have hlen:o+(x0::r).length*sz<=cc.size:=by
   obtain⟨cs,h1,h2,_⟩:=hE r.length _ (aH (by simp));have h3:=h2 (sz-1) xE;rw [aH xE] at h3;have:=(Hn.1 h3).1;simp only [aw,BI];omega
  refine⟨(cc.toList.drop o).take ((x0::r).length*sz),⟨by simp only [aS,aM,Array.length_toList];omega,λi x hx=>?_⟩,λj u hu=>?_⟩
  ·obtain⟨cs,h1,h2,h3⟩:=hE i x hx;have hi:i<(x0::r).length:=(xS.1 hx).1;have hle:i*sz+sz<=(x0::r).length*sz:=by rw [<- BI];exact aT _ hi
   have:(List.drop (i*sz) (List.take ((x0::r).length*sz) (List.drop o cc.toList))).take sz=cs:=by
    apply DG;intro j;by_cases hj:j<sz
    ·rw [yz,xD hj,yC,yz,xD xE,yC,yX,<- h2 j hj,CG]
    ·rw [yz,xC hj,bu xE]
   rw [this];exact h3
  ·rw [yz] at hu;split at hu
   ·rw [yC,yX] at hu;exact⟨b,o,cc,ha,hb,hu⟩
   ·cases hu
end
def GO (l:LB):LV:=l.map λx=>.int .u8 (x.toNat:Int)
theorem yl.u8 {cs:LV}{l:LB}(k:yl DJ 1 h cs l):cs=GO l:=by
 apply DG;intro i;by_cases hi:i<l.length
 ·have:=k.2 i _ (aH hi);unfold DJ at this;have h1:((cs.drop (i*1)).take 1)[0]?=some (.int .u8 (l[i].toNat:Int)):=by rw [this];rfl
  rw [yz,xD xE,yC] at h1;simp only [DP,DY] at h1;rw [h1];simp [GO,hi]
 ·rw [bu (by have:=k.1;omega),bu (by simp [GO];omega)]
theorem yl.a8o {h:Part}{l:LB}:yl DJ 1 h (GO l) l:=⟨by simp [GO],λi x hx=>by
 unfold DJ;have hi:=(xS.1 hx).1;have hx':=(xS.1 hx).2;rw [DP,NV,Kl];simp [GO,hx]⟩
abbrev cJ:=@yl.a8o
theorem ik (a:LB):(GO a).length=a.length:=by simp [GO]
def Mq (P:Program) (T:Nat):Option (Nat×Nat×Nat) :=
 match P.underlying T with
 |some (.slice e)=>match P.info? e with
  |some i=>match i.zero with
   |some z=>if z.cells.size=i.size/\0<i.size then some (e,i.size,i.bytes) else none
   |none=>none
  |none=>none
 |_=>none
theorem iJ {T e sz bytes:Nat}(h:Mq P T=some (e,sz,bytes)):P.underlying T=some (.slice e)/\∃ i z,P.info? e=some i/\i.zero=some z/\i.size=sz/\i.bytes=bytes/\z.cells.size=sz/\0<sz:=by
 unfold Mq at h;split at h<;>try cases h
 rename_i e' hT;split at h<;>try cases h
 rename_i i hi;split at h<;>try cases h
 rename_i z hz;split at h<;>cases h;rename_i hc;exact⟨hT,i,z,hi,hz,U,U,hc.1,hc.2⟩
section
variable {f:Fr}{n:yF}{x:Nat->yF}{S:AH}{h:Part}{L L':LE}{ops:Array Oper}{rest:LR}
variable {ty:TypeId}{pos:String}{af:Array Edge}{d:Nat}{v:Value}{T:TypeId}{xo yo:Operand}
theorem cx {a:Act}{w w':World}{Q:Exit->Act->World->Prop}(hg:o.guard=none) (hr:(execOp a.eval o).run P w=.ok (.value v) w')
 (k:wpList P ops Q rest (a.put o.dst v) w'):wpList P ops Q (o::rest) a w:=by
 exact m123
theorem ef {a:Act}{w w':World}{Q:Exit->Act->World->Prop}(hg:o.guard=none) (hr:(execOp a.eval o).run P w=.ok .skip w')
 (k:wpList P ops Q rest (a.put o.dst undef) w'):wpList P ops Q (o::rest) a w:=by
 exact m123
theorem JL.alloc {zs:LV}(hz:CH f.P T=some zs) (hd:Nat.blt d f.m=true) (k:∀ b,JL f ops n x rest ((d,.pointer (some ⟨b,0,none⟩))::S) h (.yY b T zs::L)) :
 JL f ops n x (⟨some d,.alloc T,ty,pos,af,none⟩::rest) S h L:=λa w s=>by
 unfold CH at hz;split at hz<;>try cases hz
 rename_i i hi;split at hz<;>cases hz;rename_i z hzz;refine cx (v:=.pointer (some ⟨w.heap.size,0,none⟩)) (w':=w.alloc (.cells z.cells.toList.toArray T)) U ?_ (k w.heap.size _ _ (s.put hd _ (s.ok.alloc T z.cells.toList)));simp [execOp,Instr.alloc,zeroValue,typeInfo,hi,hzz,newVar,newRow,newObj,Sem.run]
abbrev bp:=@JL.alloc
theorem JL.box {cs:LV}(hx:ev S xo=some v) (hc:v.cells=cs.toArray) (hd:Nat.blt d f.m=true) (k:∀ b,JL f ops n x rest ((d,.pointer (some ⟨b,0,none⟩))::S) h (.yY b T cs::L)) :
 JL f ops n x (⟨some d,.box T xo,ty,pos,af,none⟩::rest) S h L:=λa w s=>by
 refine cx (v:=.pointer (some ⟨w.heap.size,0,none⟩)) (w':=w.alloc (.cells cs.toArray T)) U ?_ (k w.heap.size _ _ (s.put hd _ (s.ok.alloc T cs)));simp [execOp,s.eval hx,Instr.box,newVar,newRow,newObj,Sem.run,hc]
theorem Ok.Oq {e:Env}{L L':LE}{b:Nat}{cs:LV}(k:Ok e h L w) (u:Dt (.yY b t cs) L L') (Da:LV):Ok e h (.yY b t Da::L') (w.setRow b Da.toArray):=by
 have hw:w.heap[b]?=some (.cells cs.toArray t (0,0)):=k.own _ u.mem;exact(k.perm u.perm).MO U U U (by simp) (λb' _ D5=>setRow_other w b b' _ (λe=>D5 (by rw [e];rfl))) (setRow_heap w b _ _ t _ hw) (λb' G5=>.inl G5)
theorem JL.a4P {b o:Nat}{t:TypeId}{cs:LV}(hT:AF f.P T=some none) (hx:ev S xo=some (.pointer (some ⟨b,o,none⟩))) (hy:ev S yo=some v) (hv:v.oneCell'=true) (u:Dt (.yY b t cs) L L') (ho:Nat.blt o cs.length=true)
 (k:JL f ops n x rest S h (.yY b t (cs.set o v)::L')):JL f ops n x (⟨none,.store T xo yo,ty,pos,af,none⟩::rest) S h L:=λa w s=>by
 have ho':o<cs.length:=by simpa using ho
 have hw:w.heap[b]?=some (.cells cs.toArray t (0,0)):=s.ok.own _ u.mem;have hc:w.cell? ⟨b,o,none⟩=some cs[o]:=by rw [lV s.ok u.mem];exact aH ho'
 have hf:=frozen_of_row w b o _ t hw;have e1:w.setCell ⟨b,o,none⟩ v=w.setRow b (cs.set o v).toArray:=by
  rw [setCell_eq_setRow w b o _ t _ v hw];simp
 refine ef (w':=w.setRow b (cs.set o v).toArray) U ?_ (k _ _ (s.with (s.ok.Oq u _)));have K0:v.cells=#[v]:=by cases v<;>first|rfl|(simp [Value.oneCell'] at hv)
 have DW:(store (Addr.add ⟨b,o,none⟩ 0) v).run f.P w=.ok () (w.setRow b (cs.set o v).toArray):=by
  rw [Addr.add_zero',run_store f.P w _ v _ hv,hc,<- e1];simp [hf]
 exact m131
abbrev bj:=@JL.a4P
theorem JL.a4O {b sz:Nat}{t:TypeId}{cs Da:LV}(hT:AF f.P T=some (some sz)) (hx:ev S xo=some (.pointer (some ⟨b,0,none⟩))) (hy:ev S yo=some (.agg Da.toArray)) (u:Dt (.yY b t cs) L L') (hv:Da.all (·.oneCell')=true) (hl0:cs.length=sz) (Kt:Da.length=sz)
 (k:JL f ops n x rest S h (.yY b t Da::L')):JL f ops n x (⟨none,.store T xo yo,ty,pos,af,none⟩::rest) S h L:=λa w s=>by
 subst hl0;have hl:=Kt;have hw:w.heap[b]?=some (.cells cs.toArray t (0,0)):=s.ok.own _ u.mem;have hi:(f.P.info? T).map (·.size)=some Da.toArray.size:=by
  have:=(dq hT w).2;unfold sizeOf typeInfo at this;cases hq:f.P.info? T with
  |none=>simp [hq] at this
  |some i=>simp [hq] at this;simp [this,hl]
 refine ef (w':=w.setRow b Da.toArray) U ?_ (k _ _ (s.with (s.ok.Oq u _)));have:=run_storeVar_row (P:=f.P) w b t T _ _ hw hi (by simp [hl]) (by simpa using hv);simp [execOp,s.eval hx,s.eval hy,Instr.storeAt,Instr.sureAddr,this]
abbrev aZ:=@JL.a4O
def IL:LV->List (Nat×Value)->LV
 |cs,[]=>cs
 |cs,(i,v)::r=>IL (cs.set i v) r
theorem pF:∀ (ps:List (Nat×Value)) (cs:LV),(ps.all λp=>p.2.oneCell'&&Nat.blt p.1 cs.length)=true->Instr.fill (λi=>some (i*1,1)) cs.toArray ps=some (IL cs ps).toArray
 |[],cs,_=>rfl
 |(i,v)::r,cs,hh=>by
  simp only [ya,xB] at hh;obtain⟨⟨h1,h2⟩,h3⟩:=hh;have K0:v.cells=#[v]:=by cases v<;>first|rfl|(simp [Value.oneCell'] at h1)
  have yJ:i<cs.length:=by simpa using h2
  have ih:=pF r (cs.set i v) (by simpa using h3);simp [Instr.fill,K0,IL,show ¬ cs.length<i+1 by omega];simpa using ih
def Vh (S:AH):List (Nat×Operand)->Option (List (Nat×Value))
 |[]=>some []
 |(i,o)::r=>match ev S o,Vh S r with
  |some v,some vs=>some ((i,v)::vs)
  |_,_=>none
theorem jB {f:Fr}{a:Act}{w:World}(s:Sat f.e f.m S h L a w):∀ {ps:List (Nat×Operand)}{vs:List (Nat×Value)},Vh S ps=some vs->ps.map (λp=>(p.1,a.eval p.2))=vs
 |[],vs,hh=>by simp [Vh] at hh;simp [hh]
 |(i,o)::r,vs,hh=>by
  simp only [Vh] at hh;split at hh<;>cases hh;rename_i v vs' h1 h2;simp [s.eval h1,jB s h2]
theorem JL.b0n {e bytes len:Nat}{ps:List (Nat×Operand)}{vs:List (Nat×Value)}{zs:LV}(hT:Mq f.P T=some (e,1,bytes)) (hz:CH f.P e=some zs) (hl0:Nat.blt 0 len=true) (hl:Nat.ble len 16777216=true) (hp:Vh S ps=some vs)
 (hv:(vs.all λp=>p.2.oneCell'&&Nat.blt p.1 len)=true) (hd:Nat.blt d f.m=true)
 (k:∀ b,JL f ops n x rest ((d,.slice (some ⟨b,0,none⟩) len len)::S) h (.yY b e (IL (List.replicate len (zs.headD undef)) vs)::L)) :
 JL f ops n x (⟨some d,.buildSlice T len ps.toArray,ty,pos,af,none⟩::rest) S h L:=λa w s=>by
 obtain⟨hu,i,z,hi,hzz,hs,_,O1,_⟩:=iJ hT;have Kt:len<=16777216:=by simpa using hl
 unfold CH at hz;rw [hi] at hz;simp only [hzz] at hz;cases hz;have hz1:∃ z0,z.cells=#[z0]:=by
  generalize z.cells=zc at O1;obtain⟨l⟩:=zc
  match l,O1 with
  |[z0],_=>exact⟨z0,U⟩
 obtain⟨z0,hz0⟩:=hz1;have U1:Array.map (λp:Nat×Operand=>(p.1,a.eval p.2)) ps.toArray=vs.toArray:=by
  have:=jB s hp;simp [this]
 have a8J:(Array.range len).map (λj=>z.cells[j % z.cells.size]!)=(List.replicate len z0).toArray:=by
  apply Array.ext
  ·simp
  ·intro j h1 h2;simp [hz0,Lx]
 have RC:=pF vs (List.replicate len z0) (by simpa using hv);refine cx (v:=.slice (some ⟨w.heap.size,0,none⟩) len len) (w':=w.alloc (.cells (IL (List.replicate len z0) vs).toArray e)) U ?_ ?_
 ·have h0':0<len:=by simpa using hl0
  have h0:len≠0:=by omega
  simp only [DP,List.toArray_replicate] at RC a8J;simp only [execOp,U1,Instr.buildSlice,AW,run_underlying hu,Result.andThen,sizeOf,typeInfo];simp [hi,hs,show ¬ 16777216<len by omega,h0,zeroValue,typeInfo,hzz,a8J,newRow,newObj,Sem.run];rw [RC];simp [Sem.run]
 ·rw [show z0=z.cells.toList.headD undef by simp [hz0]];exact k w.heap.size _ _ (s.put hd _ (s.ok.alloc e _))
abbrev du:=@JL.b0n
theorem rj:∀ (cs:LV) (k:Nat) (acc:Array Value),k+cs.length=acc.size->(cs.zipIdx k).foldl (λ(a:Array Value) (p:Value×Nat)=>a.setIfInBounds p.2 p.1) acc=(acc.toList.take k++cs).toArray
 |[],k,acc,hk=>by
  rw [aD (by simp at hk |-;omega)];simp
 |c::r,k,acc,hk=>by
  simp only [aw] at hk;rw [List.zipIdx_cons,Cm,rj r (k+1) _ (by simp;omega)];congr 1;apply DG;intro j;simp only [Array.toList_setIfInBounds,List.getElem?_append,aS,Gq,Array.length_toList,yz,SP];by_cases hj:j<k
  ·simp [hj,show j<k+1 by omega,show min (k+1) acc.size=k+1 by omega,show min k acc.size=k by omega,show k≠j by omega]
  ·by_cases Rz:j=k
   ·subst Rz;simp [show min (j+1) acc.size=j+1 by omega,show min j acc.size=j by omega,show j<acc.size by omega]
   ·simp [hj,show ¬ j<k+1 by omega,show min (k+1) acc.size=k+1 by omega,show min k acc.size=k by omega,show j-k=(j-(k+1))+1 by omega]
theorem JL.Y_ {e sz bytes:Nat}{y:Operand}{cs:LV}(hT:Mq f.P T=some (e,sz,bytes)) (hy:ev S y=some (.agg cs.toArray)) (hl:cs.length=sz) (CP:Nat.ble sz 16777216=true) (hd:Nat.blt d f.m=true)
 (k:∀ b,JL f ops n x rest ((d,.slice (some ⟨b,0,none⟩) 1 1)::S) h (.yY b e cs::L)) :
 JL f ops n x (⟨some d,.buildSlice T 1 #[(0,y)],ty,pos,af,none⟩::rest) S h L:=λa w s=>by
 obtain⟨hu,i,z,hi,hzz,hs,_,O1,h0⟩:=iJ hT;have Kt:sz<=16777216:=by simpa using CP
 have RC:∀ zc:Array Value,zc.size=sz->Instr.fill (λi=>some (i*sz,sz)) zc [(0,.agg cs.toArray)]=some cs.toArray:=λzc O1=>by
  simp only [Instr.fill,Value.cells,SN,hl,Jt,A0,O1,gt_iff_lt,Nat.lt_irrefl,decide_false,Ic,ne_eq,not_true_eq_false,decide_false,bg,if_false];congr 1;have:=rj cs 0 zc xE;simp only [EZ,xP] at this;rw [<- Oa];exact m109
 refine cx (v:=.slice (some ⟨w.heap.size,0,none⟩) 1 1) (w':=w.alloc (.cells cs.toArray e)) U ?_ (k w.heap.size _ _ (s.put hd _ (s.ok.alloc e cs)));have hf:=RC ((Array.range (1*sz)).map (λj=>z.cells[j % z.cells.size]!)) (by simp);simp only [execOp,Instr.buildSlice,AW,run_underlying hu,Result.andThen,sizeOf,typeInfo];simp [hi,hs,show ¬ 16777216<sz by omega,show sz≠0 by omega,zeroValue,typeInfo,hzz,s.eval hy,newRow,newObj,Sem.run];simp only [Nat.one_mul] at hf;rw [hf];simp [Sem.run]
end
abbrev aF:=@List.length_append
variable{xs:LV}
section
variable {f:Fr}{n:yF}{x:Nat->yF}{S:AH}{h:Part}{L L':LE}{ops:Array Oper}{rest:LR}
variable {ty:TypeId}{pos:String}{af:Array Edge}{d:Nat}{v:Value}{T:TypeId}{xo yo:Operand}
theorem JL.own {l:LR}(hk:∀ w,Ok f.e h L w->Ok f.e h L' w) (k:JL f ops n x l S h L'):JL f ops n x l S h L:=λa w s=>k a w (s.with (hk w s.ok))
theorem J.own {c:Code}(hk:∀ w,Ok f.e h L w->Ok f.e h L' w) (k:J f c n x S h L'):J f c n x S h L:=λa w s=>k a w (s.with (hk w s.ok))
theorem JL.CQ {l:LR}(t:TypeId) (sz:Nat) (k:JL f ops n x l S h (.row none 0 t sz 0 []::L)):JL f ops n x l S h L:=JL.own (λ_ hk=>hk.CQ t sz) k
abbrev dh:=@JL.CQ
theorem zO.ok {e:Env}{Li Lr:LE}(p:zO Li L Lr) (w:World) (hk:Ok e h L w):Ok e h Li w:=(hk.perm p.perm).drop (List.sublist_append_left _ _)
theorem J.Hx {c:Code}(Li:LE) {Lr:LE}(p:zO Li L Lr) (k:J f c n x S h Li):J f c n x S h L:=J.own p.ok k
theorem JL.Hx {l:LR}(Li:LE) {Lr:LE}(p:zO Li L Lr) (k:JL f ops n x l S h Li):JL f ops n x l S h L:=JL.own p.ok k
def Src (e:Env) (h:Part) (L:LE) (a:OA) (m c sz:Nat) (news:LV):Prop :=
 news.length=m*sz/\(∀ u∈news,u.oneCell'=true)/\(a=none->m=0/\c=0)/\∀ w,Ok e h L w->∀ ad,a=some ad->∀ j u,news[j]?=some u->w.cell? (ad.add j)=some u
theorem Src.sl {R:DI α} [CF R] {e:Env}{sz:Nat}{a:OA}{c:Nat}{l:List α}(CP:0<sz) (hR:A3 R sz h a c l):∃ news,yl R sz h news l/\Src e h L a l.length c sz news:=by
 obtain⟨cs,h1,h2⟩:=hR.cells CP;refine⟨cs,h1,h1.1,h1.a1N CP,λha=>?_,λw hk ad hd j u hu=>?_⟩
 ·have:=hR.nil ha;have:=hR.len;omega
 ·obtain⟨b,o,cc,ha,hb,hc⟩:=h2 j u hu;rw [ha] at hd;cases hd;rw [zB];exact hk.sub.cell hb hc
theorem Src.yY {e:Env}{b t sz m c:Nat}{cs:LV}(hm:Br.yY b t cs∈L) (hl:cs.length=m*sz) (h1:∀ u∈cs,u.oneCell'=true):Src e h L (some ⟨b,0,none⟩) m c sz cs :=
 ⟨hl,h1,(λha=>by cases ha),λw hk ad hd j u hu=>by
  cases hd;have:w.heap[b]?=some (.cells cs.toArray t (0,0)):=hk.own _ hm;rw [zB,cell_of_row w b _ _ _ _ this];simpa using hu⟩
theorem Ok.grown {e:Env}{x x':Br}{w w':World}(k:Ok e h (x::L) w) (g:w.grownBy w' x.key) (hx':x'.holds w') (U2:x'.key=x.key\/x'.key=some w.heap.size):Ok e h (x'::L) w' :=
 k.MO g.os g.tape g.output g.size (λb hb D5=>g.block b hb (λhe=>D5 he.symm)) hx' (λb hb=>by
  rcases U2 with hk|hk
  ·exact .inl (hk ▸ hb)
  ·rw [hk] at hb;cases hb;exact .inr (aB _))
theorem li {base:Nat}{e:TypeId}{size:Nat}{v:Value}{n:Nat}(h:w.ownsRow base e size v n xs):∃ a c,v=.slice a n c/\n<=c/\c<=maxLen/\(a=none->c=0):=by
 rcases h.2 with ⟨rfl,rfl⟩|⟨g,cap,cur,rfl,_,_,h1,h2,_⟩
 ·exact⟨none,0,U,aB _,yQ _,λ_=>rfl⟩
 ·exact⟨_,cap,U,h1,h2,λhh=>by cases hh⟩
theorem JL.append_ {e sz bytes nn m:Nat}{a a2:OA}{c c2:Nat}{xs news:LV}(hT:Mq f.P T=some (e,sz,bytes)) (hx:ev S xo=some (.slice a nn c)) (hy:ev S yo=some (.slice a2 m c2)) (hs:Src f.e h L a2 m c2 sz news)
 (u:Dt (.row a c e sz nn xs) L L') (h63:nn+m<=maxLen) (hb:(nn+m)*bytes<=140737488355328) (hd:Nat.blt d f.m=true)
 (k:∀ a' c',nn+m<=c'->c'<=maxLen->JL f ops n x rest ((d,.slice a' (nn+m) c')::S) h (.row a' c' e sz (nn+m) (xs++news)::L')) :
 JL f ops n x (⟨some d,.call { callee:=.builtin .append,args:=#[xo,yo],argTypes:=#[T,T] },ty,pos,af,none⟩::rest) S h L:=λac w s=>by
 obtain⟨hu,i,z,hi,hz,CP,hby,O1,h0⟩:=iJ hT;have Gm:=s.ok.perm u.perm;have F7:w.ownsRow 0 e sz (.slice a nn c) nn xs:=Gm.own _ (aC ..);have fin:∀ v' w',(Builtin.append_ #[T,T] ty #[.slice a nn c,.slice a2 m c2]).run f.P w=.ok v' w'->w'.ownsRow 0 e sz v' (nn+m) (xs++news)->w.grownBy w' (Value.slice a nn c).ownBlock ->
  (v'.ownBlock=(Value.slice a nn c).ownBlock\/v'.ownBlock=some w.heap.size) ->
  wpList f.P ops (f.Q n x) (⟨some d,.call { callee:=.builtin .append,args:=#[xo,yo],argTypes:=#[T,T] },ty,pos,af,none⟩::rest) ac w:=λv' w' Gc ho hg hat=>by
  obtain⟨a',c',rfl,By,BO,_⟩:=li ho;refine cx (v:=.slice a' (nn+m) c') (w':=w') U ?_ (k a' c' By BO _ _ (s.put hd _ (Gm.grown (x':=.row a' c' e sz (nn+m) (xs++news)) hg ho hat)));simp [execOp,resolve,s.eval hx,s.eval hy,invoke,builtin,Gc]
 obtain⟨n1,n2,n3,n4⟩:=hs;cases a2 with
 |some ad =>
  obtain⟨v',w',Gc,ho,hg,_,hat⟩:=run_append_own_at (P:=f.P) w 0 T ty e i z sz bytes hu hi hz CP hby O1 h0 _ nn xs F7 ad m c2 news n1 (n4 w s.ok ad U) n2 h63 hb (yQ _);exact fin v' w' Gc ho hg hat
 |none =>
  obtain⟨rfl,rfl⟩:=n3 U;have hn:news=[]:=xI (by simpa using n1);subst hn;have Gc:=run_append_owned_none (P:=f.P) (w:=w) 0 T ty e i sz hu hi _ nn xs F7;exact fin _ w Gc (by simpa using F7) ⟨U,U,U,aB _,λ_ _ _=>rfl⟩ (.inl U)
theorem JL.append {R:DI α} [CF R] {e sz bytes nn m:Nat}{a a2:OA}{c c2:Nat}{l l2:List α}(hT:Mq f.P T=some (e,sz,bytes)) (hx:ev S xo=some (.slice a nn c)) (hy:ev S yo=some (.slice a2 m c2))
 (hc:yl R sz h xs l) (hnn:nn=l.length) (hR:A3 R sz h a2 c2 l2) (hm:m=l2.length)
 (u:Dt (.row a c e sz nn xs) L L') (hb:(l.length+l2.length)*bytes<=140737488355328) (hd:Nat.blt d f.m=true) (hbp:Nat.blt 0 bytes=true)
 (k:∀ a' c' Kq,yl R sz h Kq (l++l2)->(l++l2).length<=140737488355328->JL f ops n x rest ((d,.slice a' (l++l2).length c')::S) h (.row a' c' e sz (l++l2).length Kq::L')) :
 JL f ops n x (⟨some d,.call { callee:=.builtin .append,args:=#[xo,yo],argTypes:=#[T,T] },ty,pos,af,none⟩::rest) S h L:=by
 subst hnn hm;have h0:=(iJ hT).2;obtain⟨_,_,_,_,_,_,_,CP⟩:=h0;obtain⟨news,hn,hs⟩:=Src.sl (e:=f.e) (L:=L) CP hR;have YK:0<bytes:=by simpa using hbp
 have hmul:l.length+l2.length<=(l.length+l2.length)*bytes:=yW _ YK;refine JL.append_ hT hx hy hs u (by simp only [maxLen];omega) hb hd λa' c' _ _=>?_;rw [<- aF];exact k a' c' _ (hc.append hn) (by rw [aF];omega)
theorem JL.a3j {α:Type}{R:DI α} [CF R] {e sz bytes nn:Nat}{a:OA}{c b:Nat}{xs cs:LV}{L2:LE}{l:List α}{y:α}(hT:Mq f.P T=some (e,sz,bytes)) (hx:ev S xo=some (.slice a nn c)) (hy:ev S yo=some (.slice (some ⟨b,0,none⟩) 1 1))
 (hc:yl R sz h xs l) (hnn:nn=l.length) (u:Dt (.row a c e sz nn xs) L L') (u2:Dt (.yY b e cs) L' L2) (hl:cs.length=sz) (hR:R h cs y)
 (hb:(l.length+1)*bytes<=140737488355328) (hd:Nat.blt d f.m=true) (hbp:Nat.blt 0 bytes=true)
 (k:∀ a' c' Kq,yl R sz h Kq (l++[y])->(l++[y]).length<=140737488355328->JL f ops n x rest ((d,.slice a' (l++[y]).length c')::S) h (.row a' c' e sz (l++[y]).length Kq::L2)) :
 JL f ops n x (⟨some d,.call { callee:=.builtin .append,args:=#[xo,yo],argTypes:=#[T,T] },ty,pos,af,none⟩::rest) S h L:=by
 subst hnn;have YK:0<bytes:=by simpa using hbp
 have hmul:l.length+1<=(l.length+1)*bytes:=yW _ YK;have hm:Br.yY b e cs∈L:=u.perm.symm.subset (aE _ u2.mem);refine JL.append_ hT hx hy (Src.yY (e:=f.e) hm (by simpa using hl) (CF.one hR)) u (by simp only [maxLen];omega) hb hd λa' c' _ _=>?_;have hlen:l.length+1=(l++[y]).length:=by simp
 rw [hlen];exact JL.own (λw hk=>(hk.perm ((u2.perm.cons _).trans (.swap ..))).drop (Ju _ _)) (k a' c' _ (hc.append (yl.one hR hl)) (by rw [<- hlen];omega))
abbrev di:=@JL.a3j
end
theorem Ok.GR {R:DI α} [CF R] {e:Env}{a:OA}{c t sz nn:Nat}{l:List α}(k:Ok e h (.row a c t sz nn xs::L) w) (hc:yl R sz h xs l) (hn:nn=l.length) (hb:l.length<=140737488355328) :
 ∃ h',h.le h'/\A3 R sz h' a c l/\Ok e h' L w:=by
 subst hn;have F7:w.ownsRow 0 t sz (.slice a l.length c) l.length xs:=k.own _ (aC ..);rcases F7.2 with ⟨hv,hl⟩|⟨g,cap,cur,hv,_,hg,h1,h2,h3,h4⟩
 ·injection hv with e1 e2 e3;subst e1 e3;have:l=[]:=xI hl;subst this;exact⟨h,aP _,bA,k.drop (Ju _ _)⟩
 ·injection hv with e1 e2 e3;subst e1 e3;obtain⟨hle,zt⟩:=k.N0 (b:=g) U hg;refine⟨h.add g cur,hle,⟨h1,h2,hb,(λhh=>by cases hh),λi x hx=>⟨g,0,U,cur,(xs.drop (i*sz)).take sz,by simp [Part.add],?_,λj hj=>?_,CF.mono hle (hc.2 i x hx)⟩⟩,zt⟩
  ·exact m116
  ·have hi:=(xS.1 hx).1;have zH:i*sz+sz<=l.length*sz:=by rw [<- BI];exact aT _ hi
   rw [yz,xD hj,yC,<- h4,yz,xD xE,yX,A0]
theorem Ok.a1z {R:DI α} [CF R] {e:Env}{b t sz:Nat}{l:List α}(k:Ok e h (.yY b t xs::L) w) (hc:yl R sz h xs l) (hb:l.length<=140737488355328) :
 ∃ h',h.le h'/\A3 R sz h' (some ⟨b,0,none⟩) l.length l/\Ok e h' L w:=by
 obtain⟨hle,zt⟩:=k.a1y;refine⟨h.add b xs.toArray,hle,⟨aB _,by simp only [maxLen];omega,hb,(λhh=>by cases hh),λi x hx=>⟨b,0,U,xs.toArray,(xs.drop (i*sz)).take sz,by simp [Part.add],?_,λj hj=>?_,CF.mono hle (hc.2 i x hx)⟩⟩,zt⟩
 ·exact m116
 ·rw [yz,xD hj,yC,A0];simp
section
variable {f:Fr}{n:yF}{x:Nat->yF}{S:AH}{h:Part}{L L':LE}{ops:Array Oper}{l0:LR}{c0:Code}
variable {α:Type}{R:DI α} [CF R] {a:OA}{c t sz nn b:Nat}{xs:LV}{l:List α}
theorem J.LZ (u:Dt (.row a c t sz nn xs) L L') (hc:yl R sz h xs l) (hn:nn=l.length) (hb:l.length<=140737488355328) (k:∀ h',h.le h'->A3 R sz h' a c l->J f c0 n x S h' L'):J f c0 n x S h L:=λac w s=>by
 exact m143
theorem JL.LZ (u:Dt (.row a c t sz nn xs) L L') (hc:yl R sz h xs l) (hn:nn=l.length) (hb:l.length<=140737488355328) (k:∀ h',h.le h'->A3 R sz h' a c l->JL f ops n x l0 S h' L'):JL f ops n x l0 S h L:=λac w s=>by
 exact m143
theorem JL.LY (u:Dt (.yY b t xs) L L') (hc:yl R sz h xs l) (hb:l.length<=140737488355328) (k:∀ h',h.le h'->A3 R sz h' (some ⟨b,0,none⟩) l.length l->JL f ops n x l0 S h' L'):JL f ops n x l0 S h L:=λac w s=>by
 obtain⟨h',h1,h2,h3⟩:=(s.ok.perm u.perm).a1z hc hb;exact k h' h1 h2 ac w (s.with h3)
end
def yH (P:Program) (F:Nat):Bool :=
 match P.funcs[F]? with
 | some fn => fn.name != "runtime.NumGoroutine" && fn.body.isSome
 |none=>false
variable{F:Nat}
theorem eF (hF:yH P F=true) (args:Array Value) (w:World):(callFunc F args).run P w=.ok (.enter F args) w:=by
 unfold yH at hF;split at hF
 ·rename_i fn hfn;simp only [xB,bne_iff_ne,ne_eq] at hF;have h2:¬ fn.body=none:=λhh=>by rw [hh] at hF;simp at hF
  simp [callFunc,hfn];rw [xC hF.1,xC h2]
 ·cases hF
def Fn (P:Program) (F:Nat) (args:LV) (h:Part) (Li:LE) (R:Ending->Part->LE->Prop):Prop :=
 ∀ w,Ok ⟨w,(·∈keys Li),h,[]⟩ h Li w->Calls P F args.toArray w λe w'=>∃ h' Lo,R e h' Lo/\Ok ⟨w,(·∈keys Li),h,[]⟩ h' Lo w'
theorem Fn.mono {args:LV}{Li:LE}{R R':Ending->Part->LE->Prop}(k:Fn P F args h Li R) (hr:∀ e h' Lo,h.le h'->R e h' Lo->R' e h' Lo):Fn P F args h Li R':=λw hw =>
 (k w hw).mono λe w' ⟨h',Lo,r,o⟩=>⟨h',Lo,hr _ _ _ o.le r,o⟩
def Cb (R:Value->Part->LE->Prop):Ending->Part->LE->Prop:=λe h' Lo=>∃ v,e=.returned v/\R v h' Lo
theorem Ok.enter {e:Env}{Li Lr:LE}(k:Ok e h (Li++Lr) w):Ok ⟨w,(·∈keys Li),h,[]⟩ h Li w:=by
 have kd:=k.drop (List.sublist_append_left Li Lr);exact⟨U,U,U,aB _,λ_ _ _=>rfl,k.sub,aP _,λb c hc=>.inl hc,kd.own,λb hb=>⟨(kd.key b hb).1,.inr hb⟩,kd.nodup⟩
variable{os:List Operand}{ts:Array TypeId}
section
variable {f:Fr}{n:yF}{x:Nat->yF}{S:AH}{h:Part}{L Li Lr:LE}{ops:Array Oper}{rest:LR}
variable {ty:TypeId}{pos:String}{af:Array Edge}{d F:Nat}{R:Ending->Part->LE->Prop}
def FY (S:AH):List Operand->Option LV
 |[]=>some []
 |o::r=>match ev S o,FY S r with
  |some v,some vs=>some (v::vs)
  |_,_=>none
theorem dI {a:Act}{w:World}(s:Sat f.e f.m S h L a w):∀ {os:List Operand}{vs:LV},FY S os=some vs->os.map a.eval=vs
 |[],vs,hh=>by simp [FY] at hh;simp [hh]
 |o::r,vs,hh=>by
  simp only [FY] at hh;split at hh<;>cases hh;rename_i v vs' h1 h2;simp [s.eval h1,dI s h2]
theorem eR {a:Act}{args:LV}(hF:yH f.P F=true) (hw:Region.wanted o (yielded ops a.tmps)=true) (hr:(execOp a.eval o).run f.P w=.ok (.enter F args.toArray) w)
 (c:Fn f.P F args h Li R) (p:zO Li L Lr) (s:Sat f.e f.m S h L a w) (b0V:o.dst=some d) (hd:Nat.blt d f.m=true) (ko:∀ h' Lo,¬ R .outgrown h' Lo)
 (kp:∀ ch h' Lo,h.le h'->R (.panicked ch) h' Lo->f.p ch S h' (Lo++Lr))
 (k:∀ v h' Lo,h.le h'->R (.returned v) h' Lo->JL f ops n x rest ((d,v)::S) h' (Lo++Lr)):wpList f.P ops (f.Q n x) (o::rest) a w:=by
 unfold wpList;rw [xD hw];refine .inl ?_;simp only [Oper.wp,hr,Oper.upon];have Gm:=s.ok.perm p.perm;refine(c w Gm.enter).mono λe w' hh=>?_;obtain⟨h',Lo,hR,hO⟩:=hh;have okc:=Gm.call hO;cases e with
 |returned v=>simp only;rw [b0V];exact k v h' Lo hO.le hR _ _ (s.put hd v okc)
 |panicked ch=>exact⟨S,h',Lo++Lr,s.with okc,kp ch h' Lo hO.le hR⟩
 |outgrown=>exact absurd hR (ko h' Lo)
theorem JL.Kf {args:LV}(hF:yH f.P F=true) (ha:FY S os=some args) (c:Fn f.P F args h Li R) (p:zO Li L Lr) (hd:Nat.blt d f.m=true) (ko:∀ h' Lo,¬ R .outgrown h' Lo)
 (kp:∀ ch h' Lo,h.le h'->R (.panicked ch) h' Lo->f.p ch S h' (Lo++Lr))
 (k:∀ v h' Lo,h.le h'->R (.returned v) h' Lo->JL f ops n x rest ((d,v)::S) h' (Lo++Lr)) :
 JL f ops n x (⟨some d,.call { callee:=.value (.func F),args:=os.toArray,argTypes:=ts },ty,pos,af,none⟩::rest) S h L:=λa w s=>by
 refine eR hF (by simp [Region.wanted]) ?_ c p s U hd ko kp k;exact m210
theorem JL.call {R:Value->Part->LE->Prop}{args:LV}{os:List Operand}{ts:Array TypeId}(hF:yH f.P F=true) (ha:FY S os=some args) (c:Fn f.P F args h Li (Cb R)) (p:zO Li L Lr) (hd:Nat.blt d f.m=true)
 (k:∀ v h' Lo,h.le h'->R v h' Lo->JL f ops n x rest ((d,v)::S) h' (Lo++Lr)) :
 JL f ops n x (⟨some d,.call { callee:=.value (.func F),args:=os.toArray,argTypes:=ts },ty,pos,af,none⟩::rest) S h L :=
 JL.Kf hF ha c p hd (λ_ _ ⟨_,hh,_⟩=>by cases hh) (λ_ _ _ _ ⟨_,hh,_⟩=>by cases hh) (λv h' Lo hle ⟨_,hh,hR⟩=>by cases hh;exact k v h' Lo hle hR)
abbrev cI:=@JL.call
theorem JL.Sv {R:Value->Part->LE->Prop}{args:LV}{j dj:Nat}{b:Bool}(hj:(ops[j]?).bind (·.dst)=some dj) (hs:look S dj=some (.bool b)) (hF:yH f.P F=true) (ha:FY S os=some args) (c:Fn f.P F args h Li (Cb R)) (p:zO Li L Lr) (hd:Nat.blt d f.m=true)
 (k:∀ v h' Lo,h.le h'->R v h' Lo->JL f ops n x rest ((d,v)::S) h' (Lo++Lr)) :
 JL f ops n x (⟨some d,.call { callee:=.value (.func F),args:=os.toArray,argTypes:=ts },ty,pos,af,some (j,b)⟩::rest) S h L:=λa w s=>by
 refine eR hF (by simp [Region.wanted,cZ s hj hs]) ?_ c p s U hd (λ_ _ ⟨_,hh,_⟩=>by cases hh) (λ_ _ _ _ ⟨_,hh,_⟩=>by cases hh) (λv h' Lo hle ⟨_,hh,hR⟩=>by cases hh;exact k v h' Lo hle hR);exact m210
theorem JL.a4b {args:LV}{fo:Operand}{cap:Array Value}(hF:yH f.P F=true) (hf:ev S fo=some (.func (.func F) #[] cap)) (ha:FY S os=some args) (c:Fn f.P F (args++cap.toList) h Li R) (p:zO Li L Lr) (hd:Nat.blt d f.m=true) (ko:∀ h' Lo,¬ R .outgrown h' Lo)
 (kp:∀ ch h' Lo,h.le h'->R (.panicked ch) h' Lo->f.p ch S h' (Lo++Lr))
 (k:∀ v h' Lo,h.le h'->R (.returned v) h' Lo->JL f ops n x rest ((d,v)::S) h' (Lo++Lr)) :
 JL f ops n x (⟨some d,.call { callee:=.value fo,args:=os.toArray,argTypes:=ts },ty,pos,af,none⟩::rest) S h L:=λa w s=>by
 refine eR hF (by simp [Region.wanted]) ?_ c p s U hd ko kp k;have hm:os.toArray.map a.eval=args.toArray:=by simp [dI s ha]
 have he:(args++cap.toList).toArray=args.toArray++cap:=by simp
 rw [he];simp [execOp,resolve,hm,s.eval hf,Deferred.ofValue,invoke,eF hF]
theorem Ok.ext {e:Env}{w w':World}(k:Ok e h L w) (h1:w'.os=w.os) (h2:w'.tape=w.tape) (h3:w'.output=w.output) (h4:w.heap.size<=w'.heap.size) (h5:∀ b,b<w.heap.size->w'.heap[b]?=w.heap[b]?):Ok e h L w' :=
 ⟨h1.trans k.os,h2.trans k.tape,h3.trans k.output,xJ k.size h4,λb hb hm=>(h5 b (zi hb k.size)).trans (k.M1 b hb hm),
  λb c hc=>by obtain⟨t,fr,he⟩:=k.sub b c hc;exact⟨t,fr,by rw [h5 b (k.sub.lt hc)];exact he⟩,k.le,k.fresh,
  λy hy=>Br.P1 (k.own y hy) λb hb=>h5 b (Br.lt (k.own y hy) hb),k.key,k.nodup⟩
theorem JQ.call {args:LV}{v:Value}(hF:yH f.P F=true) (ha:FY S os=some args) (c:Fn f.P F args h [] (Cb λu _ _=>u=v)) (hd:Nat.blt d f.m=true)
 (k:JQ f ops n rest ((d,v)::S) h L):JQ f ops n (⟨some d,.call { callee:=.value (.func F),args:=os.toArray,argTypes:=ts },ty,pos,af,none⟩::rest) S h L:=λa w s=>by
 have hm:os.toArray.map a.eval=args.toArray:=by simp [dI s ha]
 unfold wpQuiet;rw [xD (by simp [Region.wanted])];refine⟨v,λw' Mc=>?_,k _ w (s.put hd v s.ok)⟩;simp only [Oper.quietAt];have hr:(execOp a.eval ⟨some d,.call { callee:=.value (.func F),args:=os.toArray,argTypes:=ts },ty,pos,af,none⟩).run f.P w'=.ok (.enter F args.toArray) w':=by
  exact m82
 exact m58
theorem JQ.Sv {j dj:Nat}{b:Bool}{args:LV}{v:Value}(hj:(ops[j]?).bind (·.dst)=some dj) (hs:look S dj=some (.bool b)) (hF:yH f.P F=true) (ha:FY S os=some args) (c:Fn f.P F args h [] (Cb λu _ _=>u=v)) (hd:Nat.blt d f.m=true)
 (k:JQ f ops n rest ((d,v)::S) h L):JQ f ops n (⟨some d,.call { callee:=.value (.func F),args:=os.toArray,argTypes:=ts },ty,pos,af,some (j,b)⟩::rest) S h L:=λa w s=>by
 have hm:os.toArray.map a.eval=args.toArray:=by simp [dI s ha]
 unfold wpQuiet;rw [xD (by simp [Region.wanted,cZ s hj hs])];refine⟨v,λw' Mc=>?_,k _ w (s.put hd v s.ok)⟩;simp only [Oper.quietAt];have hr:(execOp a.eval ⟨some d,.call { callee:=.value (.func F),args:=os.toArray,argTypes:=ts },ty,pos,af,some (j,b)⟩).run f.P w'=.ok (.enter F args.toArray) w':=by
  exact m82
 exact m58
end
section
variable {f:Fr}{n:yF}{x:Nat->yF}{S:AH}{h:Part}{L L':LE}{ops:Array Oper}{rest:LR}
variable {ty:TypeId}{pos:String}{af:Array Edge}{d F:Nat}{xo:Operand}
theorem JL.panic {v:Value}(hx:ev S xo=some (.iface t v)) (k:f.p [{ v:=.iface t v,recovered:=false }] S h L):JL f ops n x (⟨none,.panic xo,ty,pos,af,none⟩::rest) S h L:=λa w s=>by
 unfold wpList;rw [xD (by simp [Region.wanted])];refine .inl ?_;have hr:(execOp a.eval ⟨none,.panic xo,ty,pos,af,none⟩).run f.P w=.halt (.panic (.iface t v)) w:=by simp [execOp,s.eval hx,Instr.panic]
 simp only [Oper.wp,hr,Oper.upon];exact⟨S,h,L,s,k⟩
def a0o (ok:Bool) (v:Value) (bf t:Nat) (cs:LV):Ending->Part->LE->Prop:=λe _ Lo =>
 (ok=true/\e=.returned (.tuple #[])/\Lo=[.yY bf t cs])\/(ok=false/\e=.panicked [{ v:=v,recovered:=false }]/\Lo=[.yY bf t cs])
theorem JL.fail {ok:Bool}{v:Value}{bf t:Nat}{cs:LV}{args:LV}{fo:Operand}{cap:Array Value}(hF:yH f.P F=true) (hf:ev S fo=some (.func (.func F) #[] cap)) (ha:FY S os=some args)
 (c:Fn f.P F (args++cap.toList) h [.yY bf t cs] (a0o ok v bf t cs)) (u:Dt (.yY bf t cs) L L') (hd:Nat.blt d f.m=true)
 (k2:ok=false->∀ h',h.le h'->f.p [{ v:=v,recovered:=false }] S h' (.yY bf t cs::L'))
 (k1:ok=true->∀ h',h.le h'->JL f ops n x rest ((d,.tuple #[])::S) h' (.yY bf t cs::L')) :
 JL f ops n x (⟨some d,.call { callee:=.value fo,args:=os.toArray,argTypes:=ts },ty,pos,af,none⟩::rest) S h L :=
 JL.a4b hF hf ha c (.cons u .nil) hd (λh' Lo hh=>by rcases hh with ⟨_,hh,_⟩|⟨_,hh,_⟩<;>cases hh)
  (λch h' Lo hle hh=>by
   rcases hh with ⟨_,hh,_⟩|⟨h1,hh,h3⟩
   ·cases hh
   ·cases hh;subst h3;exact k2 h1 h' hle)
  (λv' h' Lo hle hh=>by
   rcases hh with ⟨h1,hh,h3⟩|⟨_,hh,_⟩
   ·cases hh;subst h3;exact k1 h1 h' hle
   ·cases hh)
end
def AL:Nat->LV->AH
 |_,[]=>[]
 |i,v::r=>(i,v)::AL (i+1) r
theorem fz:∀ (args:LV) (i s:Nat) (v:Value),look (AL i args) s=some v->i<=s/\args[s-i]?=some v
 |[],i,s,v,hh=>by simp [AL,look] at hh
 |u::r,i,s,v,hh=>by
  simp only [AL,look] at hh;cases hb:Nat.beq i s with
  |true =>
   have:i=s:=am hb;subst this;simp only [hb,cond_true,au] at hh;simp [hh]
  |false =>
   have:i≠s:=EY hb;simp only [hb,cond_false] at hh;obtain⟨h1,h2⟩:=fz r (i+1) s v hh;refine⟨by omega,?_⟩;rw [show s-i=(s-(i+1))+1 by omega];simpa using h2
def B7 (P:Program) (e:Env) (m:Nat) (fn:Func) (S:AH) (h:Part) (L:LE) (v:Value):Prop:=∀ a w,Sat e m S h L a w->(results fn a.tmps).run P w=.ok v w
def CU (P:Program) (e:Env) (m:Nat) (fn:Func) (R:Ending->Part->LE->Prop):yF:=λS h L=>∃ v Lo Lr,B7 P e m fn S h L v/\zO Lo L Lr/\R (.returned v) h Lo
def I9 (R:Ending->Part->LE->Prop):List PanicEntry->yF:=λc _ h L=>∃ Lo Lr,zO Lo L Lr/\R (.panicked c) h Lo
def Ei:Nat->yF:=λ_ _ _ _=>False
theorem Fn.intro {P:Program}{F m:Nat}{fn:Func}{c:Code}{args:LV}{h:Part}{Li:LE}{R:Ending->Part->LE->Prop}(hf:P.funcs[F]?=some fn) (hb:fn.body=some c) (hm:fn.ntmps=m) (hl:Nat.ble args.length m=true)
 (k:∀ e:Env,e.ds=[]->J ⟨P,e,m,CU P e m fn R,I9 R⟩ c (CU P e m fn R) Ei (AL 0 args) h Li):Fn P F args h Li R:=λw hw=>by
 have Kt:args.length<=m:=by simpa using hl
 refine calls_of_wp hf hb ?_;have hs:Sat ⟨w,(·∈keys Li),h,[]⟩ m (AL 0 args) h Li ⟨args.toArray++Array.replicate (fn.ntmps-args.toArray.size) undef,[]⟩ w:=by
  exact m205
 refine LG (k _ U _ w hs) (λex a' w' q=>?_);cases ex with
 |normal =>
  exact m138
 |ret =>
  exact m138
 |exit i=>obtain⟨_,_,_,_,hh⟩:=q;exact hh.1
 |panic ch =>
  obtain⟨S,h',L',s',Lo,Lr,hp,hR⟩:=q;exact⟨s'.ds,h',Lo,hR,hp.ok _ s'.ok⟩
 |goto l=>obtain⟨_,_,_,_,hh⟩:=q;exact hh.elim
 |outgrown=>exact False.elim q
abbrev aQ:=@Fn.intro
section
variable {P:Program}{e:Env}{m:Nat}{fn:Func}{S:AH}{h:Part}{L:LE}
theorem B7.one {t:Nat}{v:Value}(hr:fn.results=#[.tmp t]) (hv:look S t=some v):B7 P e m fn S h L v:=λa w s=>by
 rw [results_tmp hr];simp [s.slot t v hv]
abbrev aW:=@B7.one
theorem B7.two {t u:Nat}{v1 v2:Value}(hr:fn.results=#[.tmp t,.tmp u]) (h1:look S t=some v1) (h2:look S u=some v2):B7 P e m fn S h L (.tuple #[v1,v2]):=λa w s=>by
 rw [results_tmp2 hr];simp [s.slot t v1 h1,s.slot u v2 h2]
theorem B7.none_ (hr:fn.results=#[]):B7 P e m fn S h L (.tuple #[]):=λa w s=>results_none hr _ _ _
abbrev df:=@B7.none_
end
def Pure (P:Program) (F:Nat) (args:LV) (h:Part) (v:Value):Prop:=Fn P F args h [] (Cb λu h' Lo=>u=v/\h'=h/\Lo=[])
def F1 (P:Program) (F:Nat) (args:LV) (h:Part) (R:Value->Part->Prop):Prop:=Fn P F args h [] (Cb λu h' Lo=>Lo=[]/\R u h')
theorem Pure.of {args:LV}{v:Value}{R:Value->Part->LE->Prop}(c:Fn P F args h [] (Cb R)) (hr:∀ u h' Lo,R u h' Lo->u=v):Pure P F args h v:=λw hw =>
 (c w hw).mono λe w' ⟨h',Lo,⟨u,he,hu⟩,hO⟩=>⟨h,[],⟨u,he,hr _ _ _ hu,U,U⟩,(hO.drop (DZ _)).shrink hO.le (aP _)⟩
theorem F1.mono {args:LV}{R R':Value->Part->Prop}(c:F1 P F args h R) (hr:∀ u h',h.le h'->R u h'->R' u h'):F1 P F args h R' :=
 Fn.mono c λ_ _ _ hle ⟨u,he,hL,hu⟩=>⟨u,he,hL,hr _ _ hle hu⟩
section
variable {f:Fr}{n:yF}{x:Nat->yF}{S:AH}{h:Part}{L:LE}{ops:Array Oper}{rest:LR}
variable {ty:TypeId}{pos:String}{af:Array Edge}{d F:Nat}{args:LV}{os:List Operand}{ts:Array TypeId}{v:Value}{R:Value->Part->Prop}
theorem JL.a4c (hF:yH f.P F=true) (ha:FY S os=some args) (c:Pure f.P F args h v) (hd:Nat.blt d f.m=true) (k:JL f ops n x rest ((d,v)::S) h L) :
 JL f ops n x (⟨some d,.call { callee:=.value (.func F),args:=os.toArray,argTypes:=ts },ty,pos,af,none⟩::rest) S h L :=
 cI hF ha c .nil hd λu h' Lo _ ⟨h1,h2,h3⟩=>by subst h1 h2 h3;exact k
abbrev cj:=@JL.a4c
theorem JL.Iv {j dj:Nat}{b:Bool}(hj:(ops[j]?).bind (·.dst)=some dj) (hs:look S dj=some (.bool b)) (hF:yH f.P F=true) (ha:FY S os=some args) (c:Pure f.P F args h v) (hd:Nat.blt d f.m=true) (k:JL f ops n x rest ((d,v)::S) h L) :
 JL f ops n x (⟨some d,.call { callee:=.value (.func F),args:=os.toArray,argTypes:=ts },ty,pos,af,some (j,b)⟩::rest) S h L :=
 JL.Sv hj hs hF ha c .nil hd λu h' Lo _ ⟨h1,h2,h3⟩=>by subst h1 h2 h3;exact k
theorem JL.a9s (hF:yH f.P F=true) (ha:FY S os=some args) (c:F1 f.P F args h R) (hd:Nat.blt d f.m=true) (k:∀ v h',h.le h'->R v h'->JL f ops n x rest ((d,v)::S) h' L) :
 JL f ops n x (⟨some d,.call { callee:=.value (.func F),args:=os.toArray,argTypes:=ts },ty,pos,af,none⟩::rest) S h L :=
 cI hF ha c .nil hd λu h' Lo hle ⟨h1,h2⟩=>by subst h1;exact k u h' hle h2
abbrev bS:=@JL.a9s
theorem JL.ZP {j dj:Nat}{b:Bool}(hj:(ops[j]?).bind (·.dst)=some dj) (hs:look S dj=some (.bool b)) (hF:yH f.P F=true) (ha:FY S os=some args) (c:F1 f.P F args h R) (hd:Nat.blt d f.m=true) (k:∀ v h',h.le h'->R v h'->JL f ops n x rest ((d,v)::S) h' L) :
 JL f ops n x (⟨some d,.call { callee:=.value (.func F),args:=os.toArray,argTypes:=ts },ty,pos,af,some (j,b)⟩::rest) S h L :=
 JL.Sv hj hs hF ha c .nil hd λu h' Lo hle ⟨h1,h2⟩=>by subst h1;exact k u h' hle h2
theorem JQ.a4c (hF:yH f.P F=true) (ha:FY S os=some args) (c:Pure f.P F args h v) (hd:Nat.blt d f.m=true) (k:JQ f ops n rest ((d,v)::S) h L) :
 JQ f ops n (⟨some d,.call { callee:=.value (.func F),args:=os.toArray,argTypes:=ts },ty,pos,af,none⟩::rest) S h L :=
 JQ.call hF ha (Fn.mono c λ_ _ _ _ ⟨u,he,hu,_⟩=>⟨u,he,hu⟩) hd k
theorem JQ.Iv {j dj:Nat}{b:Bool}(hj:(ops[j]?).bind (·.dst)=some dj) (hs:look S dj=some (.bool b)) (hF:yH f.P F=true) (ha:FY S os=some args) (c:Pure f.P F args h v) (hd:Nat.blt d f.m=true) (k:JQ f ops n rest ((d,v)::S) h L) :
 JQ f ops n (⟨some d,.call { callee:=.value (.func F),args:=os.toArray,argTypes:=ts },ty,pos,af,some (j,b)⟩::rest) S h L :=
 JQ.Sv hj hs hF ha (Fn.mono c λ_ _ _ _ ⟨u,he,hu,_⟩=>⟨u,he,hu⟩) hd k
variable {P:Program}{e:Env}{m:Nat}{fn:Func}
theorem J.b07 {P:Program}{fn:Func}{p:List PanicEntry->yF}{u:Value}(hv:B7 P e m fn S h L u) (he:u=v) {h0:Part}(hh:h=h0) :
 J ⟨P,e,m,CU P e m fn (Cb λu h' Lo=>u=v/\h'=h0/\Lo=[]),p⟩ .ret n x S h L :=
 dm ⟨u,[],L,hv,.nil,u,U,he,hh,U⟩
abbrev cn:=@J.b07
theorem J.b06 {P:Program}{fn:Func}{p:List PanicEntry->yF}{u:Value}(hv:B7 P e m fn S h L u) (hR:R u h) :
 J ⟨P,e,m,CU P e m fn (Cb λu h' Lo=>Lo=[]/\R u h'),p⟩ .ret n x S h L :=
 dm ⟨u,[],L,hv,.nil,u,U,U,hR⟩
abbrev bM:=@J.b06
end
def a0N (P:Program) (src dst:Nat):Bool :=
 match P.underlying src,P.underlying dst with
 |some (.slice e),some .string=>match P.underlying e with
  |some (.int .u8)=>true
  |_=>false
 |_,_=>false
section
variable {f:Fr}{n:yF}{x:Nat->yF}{S:AH}{h:Part}{L L':LE}{ops:Array Oper}{rest:LR}
variable {ty:TypeId}{pos:String}{af:Array Edge}{d:Nat}{v:Value}{T yt:TypeId}{xo yo:Operand}{a:OA}{c ln:Nat}{p q:LB}{k k':IntKind}{i j:Int}
theorem lv (p:LB):(⟨p.toArray⟩:ByteArray).size=p.length:=by
 show p.toArray.size=_;simp
def xF (s:LB) (i:Nat):Nat:=(s.getD i 0).toNat
theorem bn (s:LB) (i:Nat):xF s i<256:=(s.getD i 0).toNat_lt
theorem bW (s:LB) (i:Nat) (h:i<s.length):(s[i].toNat)=xF s i:=by simp [xF,h]
theorem xG.a2h (hT:f.P.underlying T=some .string) (hx:ev S xo=some (.string ⟨p.toArray⟩)):xG f S h L (.call { callee:=.builtin .len,args:=#[xo],argTypes:=#[T] }) ty (.int .i64 (p.length:Int)):=λac w s _ _ _ _=>by
 simp [execOp,resolve,s.eval hx,invoke,builtin,Builtin.len_,run_underlying hT,goInt,lv]
theorem xG.JB {m:Nat}(hT:f.P.underlying T=some .string) (hx:ev S xo=some (.string ⟨p.toArray⟩)) (hy:ev S yo=some (.int k i)) (hi:i=(m:Int)) (h1:m<p.length) :
 xG f S h L (.index T xo yo) ty (.int .u8 (xF p m:Int)):=λac w s _ _ _ _=>by
 subst hi;have hs:(⟨p.toArray⟩:ByteArray)[m]?=some p[m]:=by
  have yJ:m<(⟨p.toArray⟩:ByteArray).size:=by rw [lv];omega
  rw [getElem?_pos (⟨p.toArray⟩:ByteArray) m yJ];rfl
 have hb:xF p m=p[m].toNat:=(bW p m h1).symm;have h0:(0:Int)<=m:=by omega
 simp [execOp,s.eval hx,s.eval hy,Instr.index,run_underlying hT,asIntOf,h0,hs,hb]
theorem ib (p:LB) (lo hi:Nat):(⟨p.toArray⟩:ByteArray).extract lo hi=⟨((p.drop lo).take (hi-lo)).toArray⟩:=by
 apply ByteArray.ext;simp
theorem xG.Oi {lo hi:Operand}(hT:f.P.underlying T=some .string) (hx:ev S xo=some (.string ⟨p.toArray⟩)) (hl:ev S lo=some (.int k i)) (hh:ev S hi=some (.int k' j)) (h0:0<=i) (h1:i<=j) (h2:j<=p.length) :
 xG f S h L (.slice T xo (some lo) (some hi) none) ty (.string ⟨((p.drop i.toNat).take (j.toNat-i.toNat)).toArray⟩):=λac w s _ _ _ _=>by
 have hj:0<=j:=by omega
 have ej:(j.toNat:Int)=j:=zk hj;simp [execOp,s.eval hx,s.eval hl,s.eval hh,Instr.sliceAt,Instr.slice,run_underlying hT,Instr.sliceBounds,Instr.sliceBound,asIntOf,h0,h1,hj,lv,h2,ej,ib]
theorem xG.T9 (hT:f.P.underlying T=some .string) (hx:ev S xo=some (.string ⟨p.toArray⟩)) (hh:ev S hi=some (.int k' j)) (h1:0<=j) (h2:j<=p.length) :
 xG f S h L (.slice T xo none (some hi) none) ty (.string ⟨(p.take j.toNat).toArray⟩):=λac w s _ _ _ _=>by
 simp [execOp,s.eval hx,s.eval hh,Instr.sliceAt,Instr.slice,run_underlying hT,Instr.sliceBounds,Instr.sliceBound,asIntOf,h1,lv,h2,ib]
theorem xG.T8 (hT:f.P.underlying T=some .string) (hx:ev S xo=some (.string ⟨p.toArray⟩)) (hl:ev S lo=some (.int k i)) (h0:0<=i) (h1:i<=p.length) :
 xG f S h L (.slice T xo (some lo) none none) ty (.string ⟨(p.drop i.toNat).toArray⟩):=λac w s _ _ _ _=>by
 have e:(p.drop i.toNat).take (p.length-i.toNat)=p.drop i.toNat:=aD (by simp);simp [execOp,s.eval hx,s.eval hl,Instr.sliceAt,Instr.slice,run_underlying hT,Instr.sliceBounds,Instr.sliceBound,asIntOf,h0,h1,lv,ib,e]
theorem xG.T7 {m m':Nat}{lo hi:Operand}(hT:f.P.underlying T=some .string) (hx:ev S xo=some (.string ⟨p.toArray⟩)) (hl:ev S lo=some (.int k i)) (hh:ev S hi=some (.int k' j)) (Bx:i=(m:Int)) (hj:j=(m':Int)) (h1:m<=m') (h2:m'<=p.length) :
 xG f S h L (.slice T xo (some lo) (some hi) none) ty (.string ⟨((p.drop m).take (m'-m)).toArray⟩):=by
 subst Bx hj;simpa only [CC] using xG.Oi (f:=f) (h:=h) (L:=L) (ty:=ty) hT hx hl hh xE xE xE
theorem xG.MS {m:Nat}(hT:f.P.underlying T=some .string) (hx:ev S xo=some (.string ⟨p.toArray⟩)) (hh:ev S hi=some (.int k' j)) (hj:j=(m:Int)) (h2:m<=p.length) :
 xG f S h L (.slice T xo none (some hi) none) ty (.string ⟨(p.take m).toArray⟩):=by
 subst hj;simpa only [CC] using xG.T9 (f:=f) (h:=h) (L:=L) (ty:=ty) hT hx hh xE xE
theorem xG.JC {m:Nat}(hT:f.P.underlying T=some .string) (hx:ev S xo=some (.string ⟨p.toArray⟩)) (hl:ev S lo=some (.int k i)) (hi:i=(m:Int)) (h1:m<=p.length) :
 xG f S h L (.slice T xo (some lo) none none) ty (.string ⟨(p.drop m).toArray⟩):=by
 subst hi;simpa only [CC] using xG.T8 (f:=f) (h:=h) (L:=L) (ty:=ty) hT hx hl xE xE
theorem xG.a6B (hx:ev S xo=some (.string ⟨p.toArray⟩)) (hy:ev S yo=some (.string ⟨q.toArray⟩)):xG f S h L (.binOp .eql T xo yo yt) ty (.bool (decide (p=q))):=bO hx hy λw=>by
 simp [go_sem,binOp,Op.stringOp];by_cases hpq:p=q<;>simp [hpq]
theorem xG.b0f (hx:ev S xo=some (.string ⟨p.toArray⟩)) (hy:ev S yo=some (.string ⟨q.toArray⟩)):xG f S h L (.binOp .neq T xo yo yt) ty (.bool (decide (p≠q))):=bO hx hy λw=>by
 simp [go_sem,binOp,Op.stringOp];by_cases hpq:p=q<;>simp [hpq]
theorem xG.b0k (hx:ev S xo=some (.string ⟨p.toArray⟩)) (hy:ev S yo=some (.string ⟨q.toArray⟩)):xG f S h L (.binOp .lss T xo yo yt) ty (.bool (Op.bytesLess p q)):=bO hx hy λw=>by
 simp [go_sem,binOp,Op.stringOp]
theorem xG.b1x (hx:ev S xo=some (.string ⟨p.toArray⟩)) (hy:ev S yo=some (.string ⟨q.toArray⟩)) (hb:p.length+q.length<=9223372036854775807):xG f S h L (.binOp .add T xo yo yt) ty (.string ⟨(p++q).toArray⟩):=bO hx hy λw=>by
 have h1:¬ (9223372036854775807<(p.length:Int)+(q.length:Int)):=by omega
 have h2:(⟨p.toArray⟩:ByteArray)++⟨q.toArray⟩=⟨(p++q).toArray⟩:=by apply ByteArray.ext;simp
 simp [go_sem,binOp,Op.stringOp,lv,h1,h2]
theorem xG.MT {src dst:TypeId}{l:LB}(hT:a0N f.P src dst=true) (hx:ev S xo=some (.slice a ln c)) (hR:A3 DJ 1 h a c l) (hlen:ln=l.length):xG f S h L (.convert src dst xo) ty (.string ⟨l.toArray⟩):=λac w s _ _ _ _=>by
 subst hlen;unfold a0N at hT;split at hT<;>try cases hT
 rename_i e hs hd;split at hT<;>try cases hT
 rename_i he;have key:(convert src dst (.slice a l.length c)).run f.P w=.ok (.string ⟨l.toArray⟩) w:=by
  cases l with
  |nil =>
   cases a with
   |none=>rw [run_convert_bytes_nil w src e hs he _ _ dst hd];rfl
   |some ad =>
    rw [run_convert_bytes_string w src dst e _ _ c hs he hd];exact(run_bytesToString w ad 0 c [] (by simp [loadCells,loadCellsFrom])).trans U
  |cons y r =>
   obtain⟨b,o,rfl,_⟩:=hR.Z' 0 y U;have K1:∀ i,i<(y::r).length->w.cell? ⟨b,o+i,none⟩=some (.int .u8 (((y::r).map λz:UInt8=>(z.toNat:Int)).getD i 0)):=λi hi=>by
    obtain⟨b',o',hbo,cc,cs,hb,hl,hj,hu⟩:=hR.Z' i _ (aH hi);cases hbo;have h0:=hj 0 xE;unfold DJ at hu;rw [hu] at h0;simp only [DP,DY] at h0;rw [s.ok.sub.cell hb h0];simp only [List.getD,DF,aH hi,AI,zw,ze]
   rw [run_convert_bytes_arg w src e hs he b o _ c ((y::r).map λz:UInt8=>(z.toNat:Int)) (by simp) K1 dst hd];have:strOfNums ((y::r).map λz:UInt8=>(z.toNat:Int))=⟨(y::r).toArray⟩:=by
    unfold strOfNums;rw [yv];congr 2;exact(xO (λz _=>by simp)).trans (Ag _)
   rw [this]
 simp [execOp,s.eval hx,key]
theorem xG.min2 (hx:ev S xo=some (.int k i)) (hy:ev S yo=some (.int k' j)):xG f S h L (.call { callee:=.builtin .min,args:=#[xo,yo],argTypes:=ts }) ty (.int k (if j<i then j else i)):=λac w s _ _ _ _=>by
 simp [execOp,resolve,s.eval hx,s.eval hy,invoke,builtin,run_min_int2]
theorem xG.makeFunc {fn:Go.Fn}{os1 os2:List Operand}{v1 v2:LV}(h1:FY S os1=some v1) (h2:FY S os2=some v2):xG f S h L (.makeFunc fn os1.toArray os2.toArray) ty (.func fn v1.toArray v2.toArray):=λac w s _ _ _ _=>by
 simp [execOp,Instr.makeFunc,dI s h1,dI s h2]
end
theorem gQ {a b:Bool}(h:a=b):some (Value.bool a)=some (Value.bool b):=by rw [h]
theorem ji {a b:Int}(h:a=b):some (Value.int k a)=some (Value.int k b):=by rw [h]
theorem gm {a b:Int}(h:a=b):some (Value.int .i64 a)=some (Value.int .i64 b):=by rw [h]
theorem GW (l:LB) (k:Nat):(⟨l.toArray⟩:ByteArray).get! k=l.getD k default:=by
 show l.toArray[k]! = _;simp [getElem!_def,List.getD];cases l[k]?<;>rfl
theorem tE (l:LB) (i:Nat):Utf8.decode ⟨l.toArray⟩ i=Go.Lib.decodeL (l.drop i):=by
 unfold Go.Lib.decodeL;rw [BR,BR];have e:∀ k,(l.drop i).getD k default=l.getD (i+k) default:=λk=>by simp [List.getD]
 simp only [GW,e,lv,aM,A0,DY,Db]
abbrev Gi (l:LB):Nat:=(Go.Lib.decodeL l).1
abbrev wid (l:LB):Nat:=(Go.Lib.decodeL l).2
theorem mQ (n a b c d:Nat):1<=(Go.Lib.decodeN n a b c d).2/\((Go.Lib.decodeN n a b c d).2<=n\/(Go.Lib.decodeN n a b c d).2=1):=by
 unfold Go.Lib.decodeN
 repeat' split
 all_goals simp
 all_goals omega
theorem jO (l:LB):1<=wid l:=by
 show 1<=(Go.Lib.decodeL l).2;unfold Go.Lib.decodeL;rw [BR];exact(mQ _ _ _ _ _).1
theorem a4t (l:LB) (h:l≠[]):wid l<=l.length:=by
 show(Go.Lib.decodeL l).2<=l.length;have hl:=As.2 h;unfold Go.Lib.decodeL;rw [BR];rcases(mQ _ _ _ _ _).2 with hh|hh
 ·refine xJ hh ?_;rw [lv];omega
 ·rw [hh];exact hl
theorem tF (n a b c d:Nat) (ha:a<256):(Go.Lib.decodeN n a b c d).1<=1114111:=by
 unfold Go.Lib.decodeN
 repeat' split
 all_goals simp
 all_goals omega
theorem ZK (l:LB):Gi l<=1114111:=by
 show(Go.Lib.decodeL l).1<=_;unfold Go.Lib.decodeL;rw [BR];exact tF _ _ _ _ _ (by have:=((⟨l.toArray⟩:ByteArray).get! 0).toNat_lt;omega)
theorem Ok.a0f {e:Env}(k:Ok e h L w) (s:LB) (pos:Nat) :
 Ok e h (.it w.heap.size s pos::L) (w.alloc (.stringIter ⟨s.toArray⟩ pos)):=by
 have C6:∀ b,b<w.heap.size->(w.alloc (.stringIter ⟨s.toArray⟩ pos)).heap[b]?=w.heap[b]?:=λb hb=>IQ _ _ _ hb;exact m19
def arT (P:Program) (T:Nat):Option (Nat×Nat) :=
 match P.underlying T with
 |some (.array n e)=>match P.info? e with
  |some i=>some (n,i.size)
  |none=>none
 |_=>none
theorem wm {T n sz:Nat}(h:arT P T=some (n,sz)):∃ e,P.underlying T=some (.array n e)/\∃ i,P.info? e=some i/\i.size=sz:=by
 unfold arT at h;split at h<;>try cases h
 rename_i n' e' hT;split at h<;>cases h;rename_i i hi;exact⟨e',hT,i,hi,U⟩
section
variable {f:Fr}{n:yF}{x:Nat->yF}{S:AH}{h:Part}{L L':LE}{ops:Array Oper}{rest:LR}
variable {ty:TypeId}{pos:String}{af:Array Edge}{d:Nat}{v:Value}{T:TypeId}{xo yo:Operand}{s:LB}
theorem JL.range (hT:f.P.underlying T=some .string) (hx:ev S xo=some (.string ⟨s.toArray⟩)) (hd:Nat.blt d f.m=true) (k:∀ b,JL f ops n x rest ((d,.pointer (some ⟨b,0,none⟩))::S) h (.it b s 0::L)) :
 JL f ops n x (⟨some d,.range T xo,ty,pos,af,none⟩::rest) S h L:=λa w st=>by
 refine cx (v:=.pointer (some ⟨w.heap.size,0,none⟩)) (w':=w.alloc (.stringIter ⟨s.toArray⟩ 0)) U ?_ (k w.heap.size _ _ (st.put hd _ (st.ok.a0f s 0)));have:=run_range_string (P:=f.P) w T ⟨s.toArray⟩ hT;simp [execOp,st.eval hx,this,World.iter]
theorem JL.next {b at_:Nat}(hx:ev S xo=some (.pointer (some ⟨b,0,none⟩))) (u:Dt (.it b s at_) L L') (hd:Nat.blt d f.m=true)
 (k1:at_<s.length->JL f ops n x rest ((d,.tuple #[.bool true,.int .i64 at_,.int .i32 (Gi (s.drop at_))])::S) h (.it b s (at_+wid (s.drop at_))::L'))
 (k2:s.length<=at_->JL f ops n x rest ((d,.tuple #[.bool false])::S) h (.it b s at_::L')) :
 JL f ops n x (⟨some d,.next xo true,ty,pos,af,none⟩::rest) S h L:=λa w st=>by
 have hw:w.heap[b]?=some (.stringIter ⟨s.toArray⟩ at_):=st.ok.own _ u.mem;have Gm:=st.ok.perm u.perm;have yJ:b<w.heap.size:=Br.lt (st.ok.own _ u.mem) U;by_cases hp:at_<s.length
 ·have e1:Utf8.decode ⟨s.toArray⟩ at_=(Gi (s.drop at_),wid (s.drop at_)):=tE s at_
  let w':World:={ w with heap:=w.heap.setIfInBounds b (.stringIter ⟨s.toArray⟩ (at_+wid (s.drop at_))) }
  have zt:Ok f.e h (.it b s (at_+wid (s.drop at_))::L') w':=by
   refine Gm.MO U U U (by simp [w']) (λb' _ D5=>?_) ?_ (λb' G5=>.inl G5)
   ·have b0M:b≠b':=λhh=>D5 (by rw [<- hh];rfl);simp [w',Gs,b0M]
   ·simp only [Br.holds,w'];rw [Gs];simp [yJ]
  refine cx (v:=.tuple #[.bool true,.int .i64 at_,.int .i32 (Gi (s.drop at_))]) (w':=w') U ?_ (k1 hp _ _ (st.put hd _ zt));simp [execOp,st.eval hx,Instr.next,getObj,Sem.run,hw,lv,hp,e1,setObj,goInt,w']
 ·refine cx (v:=.tuple #[.bool false]) (w':=w) U ?_ (k2 xE _ _ (st.put hd _ (Gm.perm (.refl _))));simp [execOp,st.eval hx,Instr.next,getObj,Sem.run,hw,lv,hp]
theorem xG.Nn {len b m:Nat}{i:Int}(hT:arT f.P T=some (len,1)) (hx:ev S xo=some (.pointer (some ⟨b,0,none⟩))) (hy:ev S yo=some (.int k i)) (hi:i=(m:Int)) (h1:m<len) :
 xG f S h L (.indexAddr T xo yo) ty (.pointer (some ⟨b,m,none⟩)):=λa w s _ _ _ _=>by
 subst hi;have h0:(0:Int)<=m:=by omega
 obtain⟨e,hu,inf,hi,hs⟩:=wm hT;simp [execOp,s.eval hx,s.eval hy,Instr.indexAt,run_underlying hu,asIntOf,sizeOf,typeInfo,hi,hs,h0,h1,zB,Instr.sureAddr]
theorem xG.Zx {len b:Nat}{i:Int}(hT:arT f.P T=some (len,1)) (hx:ev S xo=some (.pointer (some ⟨b,0,none⟩))) (hy:ev S yo=some (.int k i)) (h0:0<=i) (h1:i<=len) :
 xG f S h L (.slice T xo (some yo) none none) ty (.slice (some (if len=i.toNat then⟨b,0,none⟩ else⟨b,i.toNat,none⟩)) (len-i.toNat) (len-i.toNat)):=λa w s _ _ _ _=>by
 obtain⟨e,hu,inf,hi,hs⟩:=wm hT;simp [execOp,s.eval hx,s.eval hy,Instr.sliceAt,run_underlying hu,Instr.sliceBounds,Instr.sliceBound,asIntOf,sizeOf,typeInfo,hi,hs,h0,h1,zB,Instr.sureAddr]
end
theorem A3.Pu {R:DI α}{b:Nat}{l:List α}(k:A3 R 1 h (some ⟨b,0,none⟩) l.length l) {i:Nat}(hi:i<=l.length) :
 A3 R 1 h (some (if l.length=i then⟨b,0,none⟩ else⟨b,i,none⟩)) (l.length-i) (l.drop i):=by
 have:=k.take_drop (lo:=i) (hi:=l.length) (m:=l.length) hi (aB _) (aB _) (aB _);rw [aD (by simp)] at this;by_cases hh:l.length=i
 ·simpa [hh] using this
 ·simpa [hh,zB] using this
theorem AB.Pu {R:DI α}{ty T:TypeId}{xo yo:Operand}{len b m:Nat}{l:List α}{i:Int}(hT:arT f.P T=some (len,1)) (hx:ev S xo=some (.pointer (some ⟨b,0,none⟩))) (hy:ev S yo=some (.int k i)) (hi:i=(m:Int)) (hR:A3 R 1 h (some ⟨b,0,none⟩) l.length l) (hl:l.length=len) (h1:m<=len) :
 AB f S h L (.slice T xo (some yo) none none) ty (λv=>∃ a c,v=.slice a (l.drop m).length c/\A3 R 1 h a c (l.drop m)):=by
 subst hl hi;refine⟨_,xG.Zx hT hx hy xE xE,_,_,?_,hR.Pu (i:=m) xE⟩;simp
theorem od (l:LB) (i:Nat) (b:UInt8):(GO l).set i (.int .u8 (b.toNat:Int))=GO (l.set i b):=by simp [GO,List.map_set]
theorem Part.le.mono {a b c:Part}(h:a.le b) (k:b.le c):a.le c:=h.trans k
theorem J.Tp {e:Env}{m:Nat}{n:yF}{x:Nat->yF}{fn:Func}{p:List PanicEntry->yF}{u v:Value}(hv:B7 P e m fn S h L u) (he:u=v) :
 J ⟨P,e,m,CU P e m fn (Cb λu _ _=>u=v),p⟩ .ret n x S h L :=
 dm ⟨u,[],L,hv,.nil,u,U,he⟩
theorem Pure.ofV {args:LV}{v:Value}(c:Fn P F args h [] (Cb λu _ _=>u=v)):Pure P F args h v:=Pure.of c λ_ _ _ hh=>hh
theorem Pure.lib {args:LV}{v:Value}(k:∀ w,Sub h w->Calls P F args.toArray w λe w'=>e=.returned v/\Below w.heap.size w w'):Pure P F args h v:=λw hw=>by
 refine(k w hw.sub).mono λe w' ⟨he,hb⟩=>⟨h,[],⟨v,he,U,U,U⟩,⟨hb.os,hb.tape,hb.output,hb.size,λb yJ _=>hb.block b yJ,λb c hc=>?_,aP _,λb c hc=>.inl hc,(λx hx=>by cases hx),(λb hb=>by cases hb),List.nodup_nil⟩⟩;obtain⟨t,fr,e⟩:=hw.sub b c hc;exact⟨t,fr,by rw [hb.block b (hw.sub.lt hc)];exact e⟩
theorem yD {p:Prop}(u:p:=by decide):p:=u
theorem ne (n:Int) (h0:0<=n) (h1:n<2 ^ 32):IntKind.u32.wrap n=n:=nX n h0 xE
theorem wA (n:Int) (h0:0<=n) (h1:n<2 ^ 64):IntKind.u64.wrap n=n:=gj n h0 xE
theorem wC (n:Int) (h0:0<=n) (h1:n<2 ^ 63):IntKind.i64.wrap n=n:=fB n xE xE
section
variable {f:Fr}{S:AH}{h:Part}{L:LE}{ty T yt:TypeId}{x y:Operand}{p q M:Int}
theorem xG.M_ (i:Nat) (D:Int) (hx:ev S x=some (.int .u8 p)) (hy:ev S y=some (.int .u8 M)) (hM:(2:Int) ^ i-1=M) (hD:(2:Int) ^ i=D) (hi:i<=8) (h0:0<=p) (h1:p<=255):xG f S h L (.binOp .and T x y yt) ty (.int .u8 (p % D)):=by
 subst hM;have:=xG.UN (f:=f) (h:=h) (L:=L) (ty:=ty) (T:=T) (yt:=yt) hx hy;rwa [bits_mask .u8 8 yD wraps_u8 i hi p h0 xE,hD] at this
theorem xG.N' {b:UInt8}(i:Nat) (D:Int) (hx:ev S x=some (.int .u8 (b.toNat:Int))) (hy:ev S y=some (.int .u8 M)) (hM:(2:Int) ^ i-1=M) (hD:(2:Int) ^ i=D) (hi:i<=8):xG f S h L (.binOp .and T x y yt) ty (.int .u8 ((b.toNat:Int) % D)) :=
 xG.M_ i D hx hy hM hD hi xE (by have:=b.toNat_lt;omega)
theorem xG.Y0 (i:Nat) (D:Int) (hx:ev S x=some (.int .u32 p)) (hy:ev S y=some (.int .u32 M)) (hM:(2:Int) ^ i-1=M) (hD:(2:Int) ^ i=D) (hi:i<=32) (h0:0<=p) (h1:p<=4294967295):xG f S h L (.binOp .and T x y yt) ty (.int .u32 (p % D)):=by
 subst hM;have:=xG.UN (f:=f) (h:=h) (L:=L) (ty:=ty) (T:=T) (yt:=yt) hx hy;rwa [bits_mask .u32 32 yD ne i hi p h0 xE,hD] at this
theorem xG.Yi (i:Nat) (D:Int) (hx:ev S x=some (.int .u64 p)) (hy:ev S y=some (.int .u64 q)) (hD:(2:Int) ^ i=D) (h0:0<=p) (hp:p % D=0) (h1:p<=18446744073709551615) (TW:0<=q) (hq:q<D) (hq1:q<=18446744073709551615):xG f S h L (.binOp .or T x y yt) ty (.int .u64 (p+q)):=by
 have:=xG.or_ (f:=f) (h:=h) (L:=L) (ty:=ty) (T:=T) (yt:=yt) hx hy;rwa [bits_join .u64 64 yD wA i p q h0 (by rw [hD];exact hp) xE TW (by rw [hD];exact hq) xE] at this
theorem xG.Ni (i:Nat) (D:Int) (hx:ev S x=some (.int .i64 p)) (hy:ev S y=some (.int .i64 q)) (hD:(2:Int) ^ i=D) (h0:0<=p) (hp:p % D=0) (h1:p<=9223372036854775807) (TW:0<=q) (hq:q<D) (hq1:q<=9223372036854775807):xG f S h L (.binOp .or T x y yt) ty (.int .i64 (p+q)):=by
 have:=xG.or_ (f:=f) (h:=h) (L:=L) (ty:=ty) (T:=T) (yt:=yt) hx hy;rwa [bits_join .i64 63 yD wC i p q h0 (by rw [hD];exact hp) xE TW (by rw [hD];exact hq) xE] at this
theorem xG.toByte (m:Nat) {src dst:TypeId}{k:IntKind}(hc:Bz f.P src dst=some .u8) (hx:ev S x=some (.int k p)) (hm:p=(m:Int)):xG f S h L (.convert src dst x) ty (.int .u8 ((UInt8.ofNat m).toNat:Int)):=by
 subst hm;have:=cB (f:=f) (h:=h) (L:=L) (ty:=ty) hc hx;have e:IntKind.u8.wrap (m:Int)=((UInt8.ofNat m).toNat:Int):=by rw [IntKind.wrap_u8];simp
 rwa [e] at this
set_option maxRecDepth 100000 in
theorem a7u:∀ m:Fin 256,bits .and .u8 (m.val:Int) 32=32*((m.val:Int) / 32 % 2):=by decide
theorem xG.a9B (hx:ev S x=some (.int .u8 p)) (h0:0<=p) (h1:p<=255):xG f S h L (.binOp .and T x (.const (.int .u8 32)) yt) ty (.int .u8 (32*(p / 32 % 2))):=by
 have:=xG.UN (f:=f) (h:=h) (L:=L) (ty:=ty) (T:=T) (yt:=yt) (y:=.const (.int .u8 32)) hx U;obtain⟨m,rfl⟩:=Int.eq_ofNat_of_zero_le h0;have e:=a7u ⟨m,by omega⟩;simp only at e;rwa [e] at this
set_option maxRecDepth 100000 in
theorem a8j:∀ m:Fin 224,m.val % 64<32->bits .or .u8 ((UInt8.ofNat m.val).toNat:Int) 32=((UInt8.ofNat (m.val+32)).toNat:Int):=by decide
theorem xG.a5A (m:Nat) (hx:ev S x=some (.int .u8 ((UInt8.ofNat m).toNat:Int))) (hm:m<224) (h64:m % 64<32):xG f S h L (.binOp .or T x (.const (.int .u8 32)) yt) ty (.int .u8 ((UInt8.ofNat (m+32)).toNat:Int)):=by
 have:=xG.or_ (f:=f) (h:=h) (L:=L) (ty:=ty) (T:=T) (yt:=yt) (y:=.const (.int .u8 32)) hx U;rwa [a8j ⟨m,hm⟩ h64] at this
end
section
variable {f:Fr}{n:yF}{x:Nat->yF}{S:AH}{h:Part}{L L':LE}{l0:LR}{ops:Array Oper}
theorem Ok.PU {e:Env}{b t sz m:Nat}{cs:LV}(k:Ok e h (.yY b t cs::L) w) (hl:cs.length=m*sz) (hm:m<=maxLen):Ok e h (.row (some ⟨b,0,none⟩) m t sz m cs::L) w :=
 k.MO U U U (aB _) (λ_ _ _=>rfl) ⟨hl,.inr ⟨b,m,cs.toArray,U,yQ _,k.own _ (aC ..),aB _,hm,by simpa using hl,by rw [<- hl];simp⟩⟩ (λb' G5=>.inl G5)
end
abbrev aq:=@List.length_map
def OO (P:Program) (T:Nat):Option (LV×List (Nat×Nat)) :=
 match P.info? T,P.underlying T with
 |some it,some (.struct fields) =>
  match it.zero,fields.toList.mapM (λf=>(P.info? f.type).map λi=>(f.offset,i.size)) with
  |some z,some places=>some (z.cells.toList,places)
  |_,_=>none
 |_,_=>none
def K6 (pl:List (Nat×Nat)):LV->List (Nat×Value)->Option LV
 |cs,[]=>some cs
 |cs,(i,v)::r=>match pl[i]? with
  |none=>none
  |some (o,n)=>if v.cells.toList.length=n/\o+n<=cs.length then K6 pl (cs.take o++v.cells.toList++cs.drop (o+n)) r else none
theorem j7 (off:Nat):∀ (cs B A C:LV) (k:Nat),A.length=off+k->B.length=cs.length->(cs.zipIdx k).foldl (λ(a:Array Value) (p:Value×Nat)=>a.setIfInBounds (off+p.2) p.1) (A++B++C).toArray=(A++cs++C).toArray
 |[],B,A,C,k,_,hB=>by
  have:B=[]:=xI (by simpa using hB);subst this;rfl
 |c::r,B,A,C,k,hA,hB=>by
  match B,hB with
  |b::B',hB =>
   rw [List.zipIdx_cons,Cm];have e:(A++b::B'++C).toArray.setIfInBounds (off+k) c=((A++[c])++B'++C).toArray:=by
    rw [<- hA];simp [List.set_append]
   simp only;rw [e,j7 off r B' (A++[c]) C (k+1) (by simp;omega) (by simpa using hB)];simp
theorem ru (pl:List (Nat×Nat)):∀ (ps:List (Nat×Value)) (cs Da:LV),K6 pl cs ps=some Da->Instr.fill (pl.toArray[·]?) cs.toArray ps=some Da.toArray
 |[],cs,Da,h=>by simp only [K6,au] at h;subst h;rfl
 |(i,v)::r,cs,Da,h=>by
  simp only [K6] at h;split at h
  ·cases h
  ·rename_i o n hp;split at h
   ·rename_i hh;obtain⟨h1,h2⟩:=hh;have ih:=ru pl r _ _ h;have hv:v.cells.size=n:=by simpa using h1
    have key:=j7 o v.cells.toList ((cs.drop o).take n) (cs.take o) (cs.drop (o+n)) 0 (by simp;omega) (by rw [h1];simp;omega);have Dk:cs.take o++(cs.drop o).take n++cs.drop (o+n)=cs:=by
     rw [xW,<- Hj,AG,AG]
    rw [Dk] at key;simp only [Instr.fill,FA,hp,hv,ne_eq,not_true_eq_false,decide_false,BN,gt_iff_lt,SN,show ¬ cs.length<o+n by omega,decide_false,bg,if_false];rw [<- ih,<- key,<- Array.toList_zipIdx,Oa];simp
   ·cases h
section
variable {f:Fr}{n:yF}{x:Nat->yF}{S:AH}{h:Part}{L L':LE}{ops:Array Oper}{rest:LR}
variable {ty:TypeId}{pos:String}{af:Array Edge}{d:Nat}{v:Value}{T:TypeId}{xo yo:Operand}
theorem xG.build {zs cs:LV}{pl:List (Nat×Nat)}{ps:List (Nat×Operand)}{vs:List (Nat×Value)}(hT:OO f.P T=some (zs,pl)) (hp:Vh S ps=some vs) (hf:K6 pl zs vs=some cs) :
 xG f S h L (.build T ps.toArray) ty (.agg cs.toArray):=λa w s _ _ _ _=>by
 have hb:f.P.built T vs=some cs.toArray:=by
  unfold OO at hT;unfold Program.built;split at hT<;>try cases hT
  rename_i it fields hi hu;split at hT<;>cases hT;rename_i z places hz Le;simp only [hi,hu,hz,Le];have:=ru _ _ _ _ hf;exact m109
 exact m76
abbrev bi:=@xG.build
theorem JL.PK {R:DI α} [CF R] {e sz bytes nn m:Nat}{a a2:OA}{c c2:Nat}{l l2:List α}(hT:Mq f.P T=some (e,sz,bytes)) (hx:ev S xo=some (.slice a nn c)) (hy:ev S yo=some (.slice a2 m c2))
 (hR1:A3 R sz h a c l) (hnn:nn=l.length) (hc:c=nn) (hR:A3 R sz h a2 c2 l2) (hm:m=l2.length) (hm0:0<m)
 (hb:(l.length+l2.length)*bytes<=140737488355328) (hd:Nat.blt d f.m=true) (hbp:Nat.blt 0 bytes=true)
 (k:∀ a' c' Kq,yl R sz h Kq (l++l2)->(l++l2).length<=140737488355328->JL f ops n x rest ((d,.slice a' (l++l2).length c')::S) h (.row a' c' e sz (l++l2).length Kq::L)) :
 JL f ops n x (⟨some d,.call { callee:=.builtin .append,args:=#[xo,yo],argTypes:=#[T,T] },ty,pos,af,none⟩::rest) S h L:=by
 subst hnn hm hc;cases a with
 |none =>
  have h0:=hR1.nil U;have hl:l=[]:=xI h0;subst hl;exact dh e sz (JL.append (l:=[]) hT hx hy bQ U hR U .here hb hd hbp k)
 |some ad =>
  obtain⟨hu,i,z,hi,hz,CP,hby,O1,h0⟩:=iJ hT;obtain⟨a5E,ho,hso⟩:=Src.sl (e:=f.e) (L:=L) h0 hR1;obtain⟨news,hn,hs⟩:=Src.sl (e:=f.e) (L:=L) h0 hR;have YK:0<bytes:=by simpa using hbp
  have hmul:l.length+l2.length<=(l.length+l2.length)*bytes:=yW _ YK;cases a2 with
  |none=>have:=hR.nil U;have:=hR.len;omega
  |some ad2 =>
   intro ac w s;obtain⟨v',w',hr,h1,h2⟩:=run_append_arg_grows (P:=f.P) (w:=w) T ty e i z sz bytes hu hi hz CP hby O1 h0 ad l.length l.length a5E hso.1 (hso.2.2.2 w s.ok ad U) ad2 l2.length c2 news hs.1 (hs.2.2.2 w s.ok ad2 U) xE (by simp only [maxLen];omega) hb;obtain⟨a',c',rfl,By,BO,_⟩:=li h1;have F7:w'.ownsRow 0 e sz (.slice a' (l.length+l2.length) c') (l.length+l2.length) (a5E++news):=by
    refine⟨h1.1,?_⟩;rcases h1.2 with hh|⟨g,cap,cur,hv,_,rest⟩
    ·exact .inl hh
    ·exact .inr ⟨g,cap,cur,hv,yQ _,rest⟩
   have zt:Ok f.e h (.row a' c' e sz (l.length+l2.length) (a5E++news)::L) w':=by
    refine(s.ok.CQ e sz).MO h2.os h2.tape h2.output h2.size (λb G5 _=>h2.block b G5 (λhh=>by cases hh)) F7 (λb G5=>.inr ?_);exact(World.ownsRow.lt h1 b G5).1
   refine cx (v:=.slice a' (l.length+l2.length) c') (w':=w') U ?_ ?_
   ·simp [execOp,resolve,s.eval hx,s.eval hy,invoke,builtin,hr]
   ·have GU:l.length+l2.length=(l++l2).length:=by simp
    rw [GU] at zt |-
    exact k a' c' _ (ho.append hn) (by rw [<- GU];omega) _ _ (s.put hd _ zt)
theorem xG.a9r {args:LV}(ha:FY S os=some args) (hr:∀ w,Sub h w->(callFunc F args.toArray).run f.P w=.ok (.value v) w) :
 xG f S h L (.call { callee:=.value (.func F),args:=os.toArray,argTypes:=ts }) ty v:=λa w s _ _ _ _=>by
 have hm:os.toArray.map a.eval=args.toArray:=by simp [dI s ha]
 simp [execOp,resolve,hm,Act.eval,Deferred.ofValue,invoke,hr w s.ok.sub]
end
def niT (P:Program) (T:Nat):Bool:=match P.underlying T with
 |some (.interface _)=>false
 |some _=>true
 |none=>false
theorem xG.makeInterface {f:Fr}{S:AH}{h:Part}{L:LE}{ty T:TypeId}{xo:Operand}{v:Value}(hT:niT f.P T=true) (hx:ev S xo=some v):xG f S h L (.makeInterface T xo) ty (.iface T v):=λa w s _ _ _ _=>by
 unfold niT at hT;split at hT<;>try cases hT
 rename_i d hd hu;cases d<;>first|(exact(hd _ rfl).elim)|simp [execOp,s.eval hx,Instr.makeInterface,run_underlying hu]
abbrev de:=@xG.makeInterface
def ifT (P:Program) (T:Nat):Bool:=match P.underlying T with
 |some (.interface _)=>true
 |_=>false
section
variable {f:Fr}{S:AH}{h:Part}{L:LE}{ty T yt:TypeId}{xo:Operand}
theorem xG.II (hT:ifT f.P T=true) (hx:ev S xo=some .nilIface):xG f S h L (.binOp .neq T xo (.const .nilIface) yt) ty (.bool false):=bO (y:=.const .nilIface) hx U λw=>by
 exact m50
theorem xG.Hc {v:Value}(hT:ifT f.P T=true) (hx:ev S xo=some (.iface t v)):xG f S h L (.binOp .neq T xo (.const .nilIface) yt) ty (.bool true):=bO (y:=.const .nilIface) hx U λw=>by
 exact m49
end
def isI (P:Program) (t:Nat):Bool:=match P.underlying t with|some (.int _)=>true|_=>false
theorem qr {t:Nat}(h:isI P t=true) (cs:Array Value) (o:Nat) (v:Value) (hv:cs[o]?=some v) (w:World):(part t cs o).run P w=.ok v w:=by
 unfold isI at h;split at h
 ·rename_i k hk;simp [part,isAgg,run_underlying hk,hv]
 ·cases h
theorem a1d {t:Nat}(h:isI P t=true) (d:Nat) (k:IntKind) (a b:Int) (w:World):(Op.equalIn (d+1) t (.int k a) (.int k b)).run P w=.ok (a == b) w:=by
 unfold isI at h;split at h
 ·rename_i k' hk;exact run_equalIn_int w d t k k' a b hk
 ·cases h
theorem gB {e:Env}{b T sz t:Nat}{cs:LV}(hk:Ok e h L w) (hT:AF P T=some (some sz)) (hm:Br.yY b t cs∈L) (hl:cs.length=sz):(loadVar T ⟨b,0,none⟩).run P w=.ok (.agg cs.toArray) w:=by
 subst hl;have hb:w.heap[b]?=some (.cells cs.toArray t (0,0)):=hk.own _ hm;have V_:(loadCells ⟨b,0,none⟩ cs.length).run P w=.ok cs.toArray w:=run_loadCells_list (P:=P) w ⟨b,0,none⟩ cs (λj u hu=>by
  rw [zB,cell_of_row w b _ _ _ _ hb];simpa using hu)
 simp [loadVar,(dq hT w).1,(dq hT w).2,V_]
section
variable {P:Program}{e:Env}{m:Nat}{fn:Func}{S:AH}{h:Part}{L:LE}
theorem B7.cell {t T b bt sz:Nat}{cs:LV}(hr:fn.results=#[.cell t T]) (hv:look S t=some (.pointer (some ⟨b,0,none⟩))) (hT:AF P T=some (some sz)) (hm:Br.yY b bt cs∈L) (hl:cs.length=sz):B7 P e m fn S h L (.agg cs.toArray):=λa w s=>by
 simp [results,hr,s.slot t _ hv,asAddr,gB s.ok hT hm hl]
abbrev bL:=@B7.cell
theorem B7.a48 {t T b bt sz t' T' b' bt' sz':Nat}{cs Da:LV}(hr:fn.results=#[.cell t T,.cell t' T']) (hv:look S t=some (.pointer (some ⟨b,0,none⟩))) (hT:AF P T=some (some sz)) (hm:Br.yY b bt cs∈L) (hl:cs.length=sz)
 (hv':look S t'=some (.pointer (some ⟨b',0,none⟩))) (Ll:AF P T'=some (some sz')) (hm':Br.yY b' bt' Da∈L) (Kt:Da.length=sz'):B7 P e m fn S h L (.tuple #[.agg cs.toArray,.agg Da.toArray]):=λa w s=>by
 simp [results,hr,s.slot t _ hv,s.slot t' _ hv',asAddr,gB s.ok hT hm hl,gB s.ok Ll hm' Kt]
end
theorem ma (s:Sub h w) {a:OA}{c:Nat}{l:LB}(hR:A3 DJ 1 h a c l):(Extern.Bytes.bytesOf (.slice a l.length c)).run P w=.ok ⟨l.toArray⟩ w:=by
 cases a with
 |none =>
  have:=hR.nil U;have:=hR.len;have hl:l=[]:=xI xE;subst hl;rfl
 |some ad =>
  obtain⟨cs,h1,h2⟩:=hR.cells yD;have Dk:=h1.u8;subst Dk;have hx:∀ j (x:Int),(l.map λb:UInt8=>(b.toNat:Int))[j]?=some x->w.cell? (ad.add j)=some (.int .u8 x):=λj x hj=>by
   have hj':(GO l)[j]?=some (.int .u8 x):=by
    simp only [GO,DF] at hj |-
    cases hl:l[j]? with
    |none=>simp [hl] at hj
    |some b=>simp [hl] at hj |-;exact hj
   obtain⟨b,o,cc,ha,hb,hc⟩:=h2 j _ hj';cases ha;rw [zB];exact s.cell hb hc
  have:=Go.Lib.run_loadBytesX (P:=P) (w:=w) (l.map λb:UInt8=>(b.toNat:Int)) ad .empty hx;simp only [aq] at this;show(Extern.Bytes.loadBytes ad l.length .empty).run P w=_;rw [this];congr 1;apply ByteArray.ext;show(#[]:Array UInt8)++_=_;simp only [Go.Lib.bytesOf,yv,Array.empty_append];congr 1;exact(xO (λz _=>by simp)).trans (Ag _)
theorem qs (s:Sub h w) {a b:OA}{c d:Nat}{l r:LB}(hl:A3 DJ 1 h a c l) (hr:A3 DJ 1 h b d r) :
 (Extern.BytealgCompare.compare #[.slice a l.length c,.slice b r.length d]).run P w=.ok (.int .i64 (Go.Lib.compareBytes l r)) w:=by
 change Sem.run P (do pure (goInt (Extern.BytealgCompare.cmp (<- Extern.Bytes.bytesOf (.slice a l.length c)) (<- Extern.Bytes.bytesOf (.slice b r.length d))))) w=_;simp only [AW,ma s hl,ma s hr,Sem.run_pure,Result.andThen];rw [Go.Lib.cmp_eq];rfl
section
abbrev a_:=@decide_eq_true_eq
open Go Go.RowKit Go.ChangeShapes Go.WideShapes
def partOf (w:World):Part:=λb=>match w.heap[b]? with
 |some (.cells c _ _)=>some c
 |_=>none
theorem wT (w:World):Sub (partOf w) w:=λb c hc=>by
 unfold partOf at hc;split at hc
 ·rename_i c' t fr hh;cases hc;exact⟨t,fr,hh⟩
 ·cases hc
theorem fq {b i:Nat}{v:Value}(h:w.cell? ⟨b,i,none⟩=some v):∃ c,partOf w b=some c/\c[i]?=some v:=by
 unfold World.cell? at h;split at h
 ·rename_i c t fr hh;exact⟨c,by unfold partOf;rw [hh],by simpa using h⟩
 ·cases h
theorem Xu (w:World):Ok ⟨w,(·∈keys []),partOf w,[]⟩ (partOf w) [] w :=
 ⟨U,U,U,aB _,λ_ _ _=>rfl,wT w,aP _,λ_ _ hc=>.inl hc,(λx hx=>by cases hx),(λb hb=>by cases hb),List.nodup_nil⟩
def N5 (P:Program) (ts:List TypeId) (t:TypeId):Bool:=match P.underlying t with
 |some .bool=>true
 |some (.int _)=>true
 |some .string=>true
 |some (.slice e)=>ts.contains e&&decide (0<P.cellsOf e)
 |some (.struct fs)=>fs.toList.all λf=>ts.contains f.type
 |some (.array _ e)=>ts.contains e
 |_=>false
def JM (P:Program) (ts:List TypeId):Bool:=ts.all (N5 P ts)
theorem mG {α β:Type}{f:α->Option β}:∀ {l:List α}{r:List β},l.length=r.length->(∀ (i:Nat) (x:α),l[i]?=some x->f x=r[i]?)->l.mapM f=some r
 |[],[],_,_=>rfl
 |x::l,y::r,hl,h=>by
  have h0:=h 0 x U;have h1:=mG (l:=l) (r:=r) (by simpa using hl) (λi z hz=>by simpa using h (i+1) z (by simpa using hz));rw [List.mapM_cons,h0];simp [h1]
theorem xl {w w':World}(hh:∀ b,b<w.heap.size->w'.heap[b]?=w.heap[b]?) {base n:Nat}{a:Addr}{cs:LV}(h:w.cells? base a n=some cs):w'.cells? base a n=some cs:=by
 unfold World.cells? at h |-
 split at h
 ·rename_i hb;rw [xD hb];refine mapM_carry h λi v _ _ hv=>?_;have yJ:(a.add i).block<w.heap.size:=World.block_lt_of_cell? w _ hv;have:w'.cell? (a.add i)=w.cell? (a.add i):=by unfold World.cell?;rw [hh _ yJ]
  rw [this];exact hv
 ·cases h
section
variable {H:Type}{enc:TypeId×Value->H}{P:Program}{w w':World}{base:Nat}{held:Bool}{sp:Nat->Bool}{ts:List TypeId}
theorem T3 (hp:JM P ts=true) (hh:∀ b,b<w.heap.size->w'.heap[b]?=w.heap[b]?) (hsp:∀ b,b<w.heap.size->sp b=true):∀ (n:Nat) (t:TypeId) (cs:LV) (x:DataW H×List MemPlace),t∈ts ->
 DataW.trod enc P w base (λ_=>true) held n t cs=some x->DataW.trod enc P w' base sp held n t cs=some x:=by
 intro n
 induction n with
 |zero=>intro t cs x _ h;simp [DataW.trod] at h
 |succ n ih =>
  intro t cs x ht h;have h1:=xH.1 hp t ht;unfold N5 at h1;split at h1
  ·rename_i hu;obtain⟨b,rfl,rfl⟩:=DataW.trod_bool hu h;simp [DataW.trod,hu]
  ·rename_i k hu;obtain⟨b,rfl,rfl,hw⟩:=LA hu h;simp [DataW.trod,hu,hw]
  ·rename_i hu;obtain⟨s,rfl,rfl,hw⟩:=DataW.trod_string hu h;simp [DataW.trod,hu,hw]
  ·rename_i e hu;simp only [xB,a_,List.contains_iff_mem] at h1;obtain⟨he,Md⟩:=h1;rcases DataW.trod_slice hu h with ⟨rfl,rfl⟩|⟨a,len,cap,elems,rest,m,hm,rfl,rfl,h2,h3,h4,h5,h6,h7,_⟩
   ·simp [DataW.trod,hu]
   ·obtain rfl:n=m:=by omega
    obtain⟨h7,h8⟩:=h7 U;have one:∀ i y,(w.cells? base (a.add (i*P.cellsOf e)) (P.cellsOf e)).bind (DataW.trod enc P w base (λ_=>true) held n e)=some y->(w'.cells? base (a.add (i*P.cellsOf e)) (P.cellsOf e)).bind (DataW.trod enc P w' base sp held n e)=some y:=λi y hy=>by
     rw [CZ] at hy |-
     obtain⟨c,hc,hy⟩:=hy;exact⟨c,xl hh hc,ih e c y he hy⟩
    have h:(if base<=a.block/\len<=cap/\cap<=maxLen then
     ((List.range len).mapM λi=>(w.cells? base (a.add (i*P.cellsOf e)) (P.cellsOf e)).bind (DataW.trod enc P w base (λ_=>true) held n e)).bind λelems =>
      (if true=true then(List.range (cap-len)).mapM λj=>(w.cells? base (a.add ((len+j)*P.cellsOf e)) (P.cellsOf e)).bind (DataW.trod enc P w base (λ_=>true) held n e) else some []).map λrest =>
       ((.slice (elems.map (·.1)) (rest.map (·.1)):DataW H),MemPlace.row a ((elems.length+rest.length)*P.cellsOf e)++(elems++rest).flatMap (·.2)) else none)=some (.slice (elems.map (·.1)) (rest.map (·.1)),MemPlace.row a ((elems.length+rest.length)*P.cellsOf e)++(elems++rest).flatMap (·.2)):=by
     have:=h;simp only [DataW.trod,hu] at this;exact m109
    show DataW.trod enc P w' base sp held (n+1) t [.slice (some a) len cap]=_;simp only [DataW.trod,hu];rw [xD ⟨h2,h3,h4⟩] at h |-
    rw [CZ] at h |-
    obtain⟨el,g1,g2⟩:=h;refine⟨el,mapM_carry g1 λi y _ _ hy=>one i y hy,?_⟩;rw [zl] at g2 |-;obtain⟨re,g3,g4⟩:=g2;refine⟨re,?_,g4⟩;rw [xD rfl] at g3;by_cases hs:sp a.block=true
    ·rw [xD hs];exact mapM_carry g3 λi y _ _ hy=>one _ y hy
    ·rw [xC hs];have hlen:=mapM_some_length g3;simp only [List.length_range] at hlen;cases re with
     |nil=>rfl
     |cons y r =>
      exfalso;simp only [aw] at hlen;have h9:=mapM_some_get g3 0 0 (by rw [List.getElem?_range xE]);simp only [ze] at h9;rw [CZ] at h9;obtain⟨c,hc,_⟩:=h9;have yJ:=World.cells?_block hc Md;have e1:(a.add ((len+0)*P.cellsOf e)).block=a.block:=by unfold Addr.add;split<;>rfl
      rw [e1] at yJ;exact hs (hsp _ yJ)
  ·rename_i fs hu;obtain⟨xs,m,hm,rfl,hl,O2,zX⟩:=DataW.trod_struct hu h;obtain rfl:n=m:=by omega
   have hx:(fs.toList.mapM λf=>DataW.trod enc P w' base sp held n f.type ((cs.drop f.offset).take (P.cellsOf f.type)))=some xs:=by
    refine mG (by simp [O2]) λi f hf=>?_;have hf':fs[i]?=some f:=by simpa using hf
    have yJ:i<xs.length:=by rw [O2];exact(Hn.1 hf').1
    have h8:=zX i f hf';rw [aH yJ] at h8 |-
    exact ih f.type _ _ (by have:=xH.1 h1 f (G_ hf);simpa using this) h8
   exact trod_struct_mk hu hl hx
  ·rename_i k e hu;simp only [List.contains_iff_mem] at h1;simp only [DataW.trod,hu] at h |-
   have key:∀ xs,((List.range k).mapM λi=>DataW.trod enc P w base (λ_=>true) held n e ((cs.drop (i*P.cellsOf e)).take (P.cellsOf e)))=some xs->((List.range k).mapM λi=>DataW.trod enc P w' base sp held n e ((cs.drop (i*P.cellsOf e)).take (P.cellsOf e)))=some xs:=λxs hx =>
    mapM_carry hx λi y _ _ hy=>ih e _ y h1 hy
   split at h
   ·rename_i hc;rw [xD hc];rw [zl] at h |-
    obtain⟨xs,hx,rfl⟩:=h;exact⟨xs,key xs hx,U⟩
   ·cases h
  ·cases h1
theorem lf (hp:JM P ts=true) (hh:∀ b,b<w.heap.size->w'.heap[b]?=w.heap[b]?) (hsp:∀ b,b<w.heap.size->sp b=true):∀ {us:List TypeId}{vs:LV}{ds:List (DataW H)}{ps:List MemPlace},(∀ t∈us,t∈ts) ->
 DataW.TrodAll enc P w base (λ_=>true) held us vs ds ps->DataW.TrodAll enc P w' base sp held us vs ds ps
 |[],[],[],_,_,h=>h
 |_::_,_::_,_::_,_,hm,⟨a,b,⟨n,h1⟩,h2,e⟩=>⟨a,b,⟨n,T3 hp hh hsp n _ _ _ (hm _ (aC ..)) h1⟩,lf hp hh hsp (λt ht=>hm t (aE _ ht)) h2,e⟩
theorem Tw {f:Func}{s:ChangeSpec}{apart fresh handsOn again:Bool}{W W':World}{args:Array Value}{ds gs:List (DataW H)}{before:List MemPlace}{tb:TypeId}(hp:JM P ts=true) (Lc:∀ t∈f.params.toList,t∈ts) (a2w:f.resultTypes=#[tb]) (htb:P.underlying tb=some .bool) (hv:s.vars=[])
 (hfn:s.fn H (ds++gs)={ results:=[.lit (.bool true)],args:=ds })
 (hW:DataW.Whole enc P f.params.toList s.vars apart W args.toList ds gs before) (Mf:W'.os=W.os) (a6e:W'.output=W.output) (CP:W.heap.size<=W'.heap.size) (hh:∀ b,b<W.heap.size->W'.heap[b]?=W.heap[b]?) :
 s.post enc P f apart fresh handsOn again W args (.bool true) W':=by
 have yJ:=hW.lt;have hW':=hW;obtain⟨pa,pv,hA,hV,rfl,hz,hn⟩:=hW;rw [hv] at hV;obtain⟨rfl,rfl⟩:=trodVars_none hV;have a3U:∀ (b:Nat) (sp:Nat->Bool) (hd:Bool),DataW.TrodAll enc P W' b sp hd f.resultTypes.toList ((Value.bool true).resultList f.resultTypes.size) [.lit (.bool true)] []:=λb sp hd=>by
  rw [a2w];exact trodAll_mk1 (shut_bool htb true)
 have hA':∀ sp:Nat->Bool,(∀ b,b<W.heap.size->sp b=true)->DataW.TrodAll enc P W' 0 sp true f.params.toList args.toList ds pa:=λsp hsp=>lf hp hh hsp Lc hA;have hk:W.keptBut W' (λ_=>False):=by
  refine⟨Mf,a6e,λi hi=>?_⟩;rw [hh i hi];cases W.heap[i]? with
  |none=>simp
  |some o=>cases o<;>simp
 refine⟨ds,[],pa++[],[],pa,[],hW',by rw [hfn];exact a3U _ _ _,by rw [hfn];exact hA' _ (λb hb=>by simpa using hb),by rw [hfn,hv];exact(rfl:[]=[]),World.keptBut_mono (λp hp=>hp.elim) hk,λ_=>⟨λj t r h1 h2=>?_,_,[],([]++pa)++[],⟨[]++pa,[],trodAll_append (hA' (λ_=>true) (λ_ _=>rfl)) (a3U _ _ _),by rw [hv];exact(rfl:[]=[]),U,?_,?_⟩,?_⟩⟩
 ·rw [a2w] at h1 h2
  match j,h1,h2 with
  |0,h1,h2 =>
   simp only [FA,ze,au] at h1;subst h1;have:r=.bool true:=by simpa [Value.resultList] using h2.symm
   subst this;exact okWide_bool_mk htb true
  |j+1,h1,h2=>simp at h1
 ·intro b off hp;have V9:MemPlace.cell b off∈pa++[]:=by simpa using hp
  have hb:b<W.heap.size:=yJ _ V9;have:W'.frozen? ⟨b,off,none⟩=W.frozen? ⟨b,off,none⟩:=by unfold World.frozen?;rw [hh b hb]
  rw [this];exact hz b off V9
 ·intro ha;have:=hn ha;exact m109
 ·intro p hp _;simpa using hp
end
def EJ {α:Type}(P:Program) (n:Nat) (t:TypeId) (R:DI α) (sz:Nat) (μ:α->Nat):Prop :=
 ∀ {H:Type} (enc:TypeId×Value->H) (W:World) (cs:LV) (x:DataW H×List MemPlace),DataW.trod enc P W 0 (λ_=>true) true n t cs=some x->(x.1.weights P t).all (·<=reachBytes)=true ->
  ∃ y,cs.length=sz/\R (partOf W) cs y/\μ y<=Rows.uptoBulk x.1
theorem Xp {n:Nat}(ht:P.underlying t=some (.int .u8)):EJ P n t DJ 1 (λ_=>1):=λenc W cs x h _=>by
 obtain⟨k,rfl,rfl,hw⟩:=LA ht h;have hb:=bounds_u8 hw;refine⟨UInt8.ofNat k.toNat,U,?_,by simp [Rows.uptoBulk]⟩;unfold DJ;congr 2;simp;omega
theorem Ty {n:Nat}(ht:P.underlying t=some (.int .u32)):EJ P n t Bf 1 (λ_=>1):=λenc W cs x h _=>by
 obtain⟨k,rfl,rfl,hw⟩:=LA ht h;have hb:=bounds_u32 hw;refine⟨UInt32.ofNat k.toNat,U,?_,by simp [Rows.uptoBulk]⟩;unfold Bf;congr 2;simp;omega
def a7U:DI LB:=λ_ cs x=>cs=[.string ⟨x.toArray⟩]/\x.length<=reachBytes
theorem Tz {n:Nat}(ht:P.underlying t=some .string):EJ P n t a7U 1 (λl=>l.length+1):=λenc W cs x h hw=>by
 obtain⟨s,rfl,rfl,hs⟩:=DataW.trod_string ht h;refine⟨s.data.toList,U,⟨by simp,?_⟩,by simp [Rows.uptoBulk]⟩;simpa [DataW.weights] using hw
theorem R7 {α:Type}{p:Nat->α->Prop}:∀ (n:Nat),(∀ i,i<n->∃ x,p i x)->∃ l:List α,l.length=n/\∀ i x,l[i]?=some x->p i x
 |0,_=>⟨[],U,λi x h=>by simp at h⟩
 |n+1,h=>by
  obtain⟨l,hl,hp⟩:=R7 n (λi hi=>h i xE);obtain⟨x,hx⟩:=h n xE;refine⟨l++[x],by simp [hl],λi y hy=>?_⟩;by_cases hi:i<l.length
  ·rw [Cd hi] at hy;exact hp i y hy
  ·rw [C0 xE] at hy;have:i-l.length=0:=by
    rcases B_ (i-l.length) with h0|h0
    ·exact h0
    ·rw [bu (by simp;omega)] at hy;cases hy
   rw [this] at hy;simp at hy;subst hy;have:i=n:=by omega
   subst this;exact hx
theorem w_ {H α:Type}{μ:α->Nat}:∀ (l:List α) (ds:List (DataW H)),l.length=ds.length->(∀ (i:Nat) (x:α) (d:DataW H),l[i]?=some x->ds[i]?=some d->μ x<=Rows.uptoBulk d)->(l.map μ).sum<=Rows.uptoBulkAll ds
 |[],[],_,_=>by simp
 |x::l,d::ds,hl,h=>by
  have h0:=h 0 x d U U;have h1:=w_ l ds (by simpa using hl) (λi x d hx hd=>h (i+1) x d (by simpa using hx) (by simpa using hd));simp only [yy,List.sum_cons,Rows.uptoBulkAll];omega
theorem lZ {H:Type}{P:Program}{e:TypeId}:∀ (ds:List (DataW H)) (i:Nat) (d:DataW H),(DataW.weightsAll P e ds).all (·<=reachBytes)=true->ds[i]?=some d->(d.weights P e).all (·<=reachBytes)=true
 |d0::r,0,d,h,hd=>by
  simp only [DataW.weightsAll,yr,xB] at h;simp only [ze,au] at hd;subst hd;exact h.1
 |d0::r,i+1,d,h,hd=>by
  simp only [DataW.weightsAll,yr,xB] at h;exact lZ r i d h.2 (by simpa using hd)
theorem iY {n:Nat}{t e:TypeId}{R:DI α}{sz:Nat}{μ:α->Nat}(ht:P.underlying t=some (.slice e)) (hc:P.cellsOf e=sz) (CP:0<sz) (hb:0<P.bytesOf e) (k:EJ P n e R sz μ):EJ P (n+1) t (slR R sz) 1 (λl=>(l.map μ).sum+1):=λenc W cs x h hw=>by
 rcases DataW.trod_slice ht h with ⟨rfl,rfl⟩|⟨a,len,cap,elems,rest,m,hm,rfl,rfl,h2,h3,h4,h5,h6,h7,_⟩
 ·exact⟨[],U,⟨none,0,U,bA⟩,by simp [Rows.uptoBulk]⟩
 ·obtain rfl:n=m:=by omega
  have hwt:(elems.length+rest.length)*P.bytesOf e<=reachBytes/\(DataW.weightsAll P e (elems.map (·.1))).all (·<=reachBytes)=true:=by
   simp only [DataW.weights,ht,ya,yr,xB,a_,aq] at hw;exact⟨hw.1,hw.2.1⟩
  have hmul:elems.length+rest.length<=(elems.length+rest.length)*P.bytesOf e:=yW _ hb;have hrb:reachBytes<=140737488355328:=by decide
  have key:∀ i,i<len->∃ y:α,(∃ b o,some a=some ⟨b,o,none⟩/\I_ R sz (partOf W) b (o+i*sz) y)/\∃ z,(elems.map (·.1))[i]?=some z/\μ y<=Rows.uptoBulk z:=λi hi=>by
   have h8:=h6 i hi;have hel:elems[i]?=some (elems[i]'xE):=aH xE;rw [hel,CZ] at h8;obtain⟨c,By,BO⟩:=h8;have hwe:=lZ (elems.map (·.1)) i (elems[i]'xE).1 hwt.2 (by simp [hel]);obtain⟨y,hy1,hy2,hy3⟩:=k enc W c _ BO hwe;obtain⟨_,hl,K1⟩:=World.cells?_some By;rw [hc] at hl K1 By;have h0:W.cell? ((a.add (i*sz)).add 0)=some (c[0]'xE):=by rw [K1 0 CP];exact aH xE
   have a3S:a.spot=none:=by
    have h8:=h6 0 xE;have b0U:elems[0]?=some (elems[0]'xE):=aH xE;rw [b0U,CZ] at h8;obtain⟨c',O6,_⟩:=h8;obtain⟨_,Kt,YI⟩:=World.cells?_some O6;rw [hc] at Kt YI;have h9:=YI 0 CP;rw [aH xE] at h9;simp only [Jt,Addr.add,if_true] at h9;unfold World.cell? at h9;split at h9
    ·split at h9
     ·cases h9
     ·rename_i hs;simpa using hs
    ·cases h9
   obtain⟨b,o,spot⟩:=a;simp only at a3S;subst a3S;refine⟨y,⟨b,o,U,?_⟩,_,by simp [hel],hy3⟩;have a92:∀ j,(Addr.add ⟨b,o,none⟩ (i*sz)).add j=⟨b,o+i*sz+j,none⟩:=λj=>by rw [zB,zB]
   rw [a92] at h0;obtain⟨C,hC,_⟩:=fq h0;refine⟨C,c,hC,hl,λj hj=>?_,hy2⟩;have V':W.cell? ⟨b,o+i*sz+j,none⟩=c[j]?:=by rw [<- a92];exact K1 j hj
   have Rz:W.cell? ⟨b,o+i*sz+j,none⟩=some (c[j]'xE):=by rw [V'];exact aH xE
   obtain⟨C',Lm,hC2⟩:=fq Rz;rw [hC] at Lm;cases Lm;rw [hC2];exact(aH xE).symm
  obtain⟨l,hl,hp⟩:=R7 len key;subst hl;refine⟨l,U,⟨some a,cap,U,⟨h3,h4,by omega,(λhh=>by cases hh),λi y hy=>(hp i y hy).1⟩⟩,?_⟩;have:=w_ (μ:=μ) l (elems.map (·.1)) (by simp [h5]) (λi y d hy hd=>by
   obtain⟨z,hz,hle⟩:=(hp i y hy).2;rw [hz] at hd;cases hd;exact hle)
  simp only [Rows.uptoBulk];omega
end
class CY (P:Program) where
 sl:List (Nat×Nat×Nat)
 fo:List (Nat×Nat×Nat)
 O3:(sl.all λt=>Ig P t.1 == some t.2)=true
 J_:(fo.all λt=>CM P t.1 t.2.1 == some t.2.2)=true
def EG:List (Nat×Nat×Nat)->Nat->Option (Nat×Nat)
 |[],_=>none
 |(a,b)::r,k=>bif Nat.beq a k then some b else EG r k
def K5:List (Nat×Nat×Nat)->Nat->Nat->Option Nat
 |[],_,_=>none
 |(a,b,c)::r,k,j=>bif Nat.beq a k&&Nat.beq b j then some c else K5 r k j
theorem rq {l:List (Nat×Nat×Nat)}{k:Nat}{v:Nat×Nat}(h:EG l k=some v):(k,v)∈l:=by
 induction l with
 |nil=>cases h
 |cons x r ih =>
  obtain⟨a,b⟩:=x;simp only [EG] at h;exact m36
theorem rp {l:List (Nat×Nat×Nat)}{k j v:Nat}(h:K5 l k j=some v):(k,j,v)∈l:=by
 induction l with
 |nil=>cases h
 |cons x r ih =>
  obtain⟨a,b,c⟩:=x;simp only [K5] at h;cases hb:(Nat.beq a k&&Nat.beq b j) with
  |true =>
   simp only [xB] at hb;obtain rfl:=am hb.1;obtain rfl:=am hb.2;simp only [Nat.beq_refl,Bool.and_self,cond_true,au] at h;subst h;exact aC ..
  |false=>simp only [hb,cond_false] at h;exact aE _ (ih h)
def a34:BinOp->Int->Int->Option Value
 |.lss,p,q=>some (.bool (decide (p<q)))
 |.leq,p,q=>some (.bool (decide (p<=q)))
 |.gtr,p,q=>some (.bool (decide (q<p)))
 |.geq,p,q=>some (.bool (decide (q<=p)))
 |.eql,p,q=>some (.bool (decide (p=q)))
 |.neq,p,q=>some (.bool (decide (p≠q)))
 |_,_,_=>none
def nth:LV->Nat->Option Value
 |[],_=>none
 |v::_,0=>some v
 |_::r,i+1=>nth r i
theorem XJ:∀ (l:LV) (i:Nat),nth l i=l[i]?
 |[],_=>by simp [nth]
 |v::_,0=>by simp [nth]
 |_::r,i+1=>by simp [nth,XJ r i]
def K_:LR->Nat->Option Nat
 |[],_=>none
 |o::_,0=>o.dst
 |_::r,i+1=>K_ r i
theorem j9:∀ (l:LR) (i:Nat),K_ l i=(l[i]?).bind (·.dst)
 |[],_=>by simp [K_]
 |v::_,0=>by simp [K_]
 |_::r,i+1=>by simp [K_,j9 r i]
def a33 (o:BinOp) (k k':IntKind) (p q:Int):Option Value:=bif decide (k=k') then a34 o p q else none
theorem Sj {o:BinOp}{k k':IntKind}{p q:Int}{v:Value}(h:a33 o k k' p q=some v):k=k'/\a34 o p q=some v:=by
 unfold a33 at h;cases hk:decide (k=k') with
 |false=>rw [hk] at h;cases h
 |true=>rw [hk] at h;exact⟨xV hk,h⟩
def a0y (P:Program) [CY P] (S:AH):Op->Option Value
 |.move x=>ev S x
 |.assign x=>ev S x
 |.pick c x y=>match ev S c with
  |some (.bool true)=>ev S x
  |some (.bool false)=>ev S y
  |_=>none
 |.extract x i=>match ev S x with
  |some (.tuple vs)=>nth vs.toList i
  |_=>none
 |.nilCheck x=>match ev S x with
  |some (.pointer (some a))=>some (.pointer (some a))
  |_=>none
 |.unOp .not _ x=>match ev S x with
  |some (.bool b)=>some (.bool (!b))
  |_=>none
 |.binOp o _ x y _=>match ev S x,ev S y with
  |some (.int k p),some (.int k' q)=>a33 o k k' p q
  |_,_=>none
 |.call c=>match c.callee,c.args.toList,c.argTypes.toList with
  |.builtin .len,[x],[T]=>match ev S x with
   |some (.slice _ n _)=>match EG (CY.sl P) T with
    |some _=>some (.int .i64 (n:Int))
    |none=>none
   |_=>none
  |_,_,_=>none
 |.fieldAddr T x i=>match ev S x with
  |some (.pointer (some ⟨b,o,none⟩))=>match K5 (CY.fo P) T i with
   |some off=>some (.pointer (some ⟨b,bif Nat.beq o 0 then off else o+off,none⟩))
   |none=>none
  |_=>none
 |_=>none
def X9 (m d:Nat) (S:AH):Option Value->Option AH
 |some v=>bif Nat.blt d m then some ((d,v)::S) else none
 |none=>none
def gd:Option Value->Bool->Option Bool
 |some (.bool true),b=>some b
 |some (.bool false),b=>some (!b)
 |some (.tuple _),_=>some false
 |_,_=>none
variable{u:Option Value}
theorem U' {b:Bool}(h:gd u b=some true):u=some (.bool b):=by
 unfold gd at h;split at h
 ·cases h;rfl
 ·cases b<;>cases h;rfl
 ·cases h
 ·cases h
theorem Ua {b:Bool}(h:gd u b=some false):u=some (.bool (!b))\/∃ vs,u=some (.tuple vs):=by
 unfold gd at h;split at h
 ·cases h;exact .inl U
 ·cases b<;>cases h;exact .inl U
 ·exact .inr ⟨_,U⟩
 ·cases h
def stp (P:Program) [CY P] (m:Nat) (ops:Array Oper) (S:AH):Oper->Option AH
 |⟨some d,q,_,_,_,none⟩=>X9 m d S (a0y P S q)
 |⟨some d,q,_,_,_,some (j,b)⟩=>match K_ ops.toList j with
  |some dj=>match gd (look S dj) b with
   |some true=>X9 m d S (a0y P S q)
   |some false=>X9 m d S (some undef)
   |none=>none
  |none=>none
 |_=>none
def LK (P:Program) [CY P] (m:Nat) (ops:Array Oper):Nat->AH->LR->Option (AH×LR)
 |0,S,l=>some (S,l)
 |k+1,S,o::l=>match stp P m ops S o with
  |some S'=>LK P m ops k S' l
  |none=>none
 |_+1,_,[]=>none
section
variable {P:Program} [CY P] {e:Env}{m:Nat}{r:yF}{p:List PanicEntry->yF}{n:yF}{x:Nat->yF}{S S':AH}{h:Part}{L:LE}{ops:Array Oper}{rest l l':LR}{ty:TypeId}
omit [CY P] in
theorem ZE {o:BinOp}{T yt:TypeId}{xo yo:Operand}{i j:Int}{v:Value}(hx:ev S xo=some (.int k i)) (hy:ev S yo=some (.int k j)) (hv:a34 o i j=some v):xG ⟨P,e,m,r,p⟩ S h L (.binOp o T xo yo yt) ty v:=by
 cases o<;>simp only [a34,au,reduceCtorEq] at hv<;>subst hv
 ·exact xG.eql hx hy
 ·exact xG.neq hx hy
 ·exact xG.lss hx hy
 ·exact xG.leq hx hy
 ·exact xG.gtr hx hy
 ·exact xG.geq hx hy
theorem o_ {q:Op}{v:Value}(hv:a0y P S q=some v):xG ⟨P,e,m,r,p⟩ S h L q ty v:=by
 unfold a0y at hv;split at hv
 ·exact aY hv
 ·exact xG.assign hv
 ·split at hv
  ·rename_i hc;exact xG.JO hc hv
  ·rename_i hc;exact xG.JP hc hv
  ·cases hv
 ·split at hv
  ·rename_i hc;rw [XJ] at hv;exact xG.extract hc (by simpa using hv)
  ·cases hv
 ·split at hv
  ·rename_i hc;cases hv;exact dz hc
  ·cases hv
 ·split at hv
  ·rename_i hc;cases hv;exact xG.XM hc
  ·cases hv
 ·split at hv
  ·rename_i hx hy;obtain⟨hk,hw⟩:=Sj hv;subst hk;exact ZE hx hy hw
  ·cases hv
 ·rename_i c;obtain⟨callee,args,argTypes⟩:=c;split at hv
  ·rename_i x T hc ha ht;simp only at hc ha ht;split at hv
   ·rename_i a ln cp hx;split at hv
    ·rename_i v' hf;cases hv;have hm:=xH.1 (CY.O3 (P:=P)) _ (rq hf);have hT:=eq_of_beq hm;have ea:args=#[x]:=by apply Jz;simpa using ha
     have et:argTypes=#[T]:=by apply Jz;simpa using ht
     subst hc ea et;exact xG.len (e:=v'.1) (sz:=v'.2) hT hx
    ·cases hv
   ·cases hv
  ·cases hv
 ·split at hv
  ·rename_i T x i b o hx;split at hv
   ·rename_i off hf;have hm:=xH.1 (CY.J_ (P:=P)) _ (rp hf);have hT:=eq_of_beq hm;cases hv;cases ho:Nat.beq o 0 with
    |true =>
     obtain rfl:=am ho;exact bY hT hx
    |false=>exact bH hT hx
   ·cases hv
  ·cases hv
 ·cases hv
omit [CY P] in
theorem ki {d:Nat}(hp:X9 m d S u=some S'):∃ v,u=some v/\Nat.blt d m=true/\S'=(d,v)::S:=by
 unfold X9 at hp;split at hp
 ·cases hb:Nat.blt d m with
  |true=>simp only [hb,cond_true,au] at hp;exact⟨_,U,U,hp.symm⟩
  |false=>simp [hb] at hp
 ·cases hp
omit [CY P] in
theorem jf {a:Act}(s:Sat f.e f.m S h L a w) {j dj:Nat}{vs:Array Value}(hj:(ops[j]?).bind (·.dst)=some dj) (hs:look S dj=some (.tuple vs)):yielded ops a.tmps j=none:=by
 simp [yielded,hj,s.slot _ _ hs]
omit [CY P] in
theorem JL.MU {pos:String}{af:Array Edge}{q:Op}{d:Nat}{j dj:Nat}{b:Bool}(hj:(ops[j]?).bind (·.dst)=some dj) (hs:look S dj=some (.bool (!b))\/∃ vs,look S dj=some (.tuple vs)) (hd:Nat.blt d f.m=true) (k:JL f ops n x rest ((d,undef)::S) h L) :
 JL f ops n x (⟨some d,q,ty,pos,af,some (j,b)⟩::rest) S h L:=by
 rcases hs with hs|⟨vs,hs⟩
 ·exact JL.skip hj hs hd k
 ·intro a w s;unfold wpList;rw [xC (by simp [Region.wanted,jf s hj hs])];exact m162
omit [CY P] in
theorem JQ.MU {pos:String}{af:Array Edge}{q:Op}{d:Nat}{j dj:Nat}{b:Bool}(hj:(ops[j]?).bind (·.dst)=some dj) (hs:look S dj=some (.bool (!b))\/∃ vs,look S dj=some (.tuple vs)) (hd:Nat.blt d f.m=true) (k:JQ f ops n rest ((d,undef)::S) h L) :
 JQ f ops n (⟨some d,q,ty,pos,af,some (j,b)⟩::rest) S h L:=by
 rcases hs with hs|⟨vs,hs⟩
 ·exact JQ.skip hj hs hd k
 ·intro a w s;unfold wpQuiet;rw [xC (by simp [Region.wanted,jf s hj hs])];exact m162
theorem a4M (hs:stp P m ops S o=some S') (k:JL ⟨P,e,m,r,p⟩ ops n x rest S' h L):JL ⟨P,e,m,r,p⟩ ops n x (o::rest) S h L:=by
 unfold stp at hs;split at hs
 ·obtain⟨v,hv,hd,rfl⟩:=ki hs;exact aA (o_ hv) hd k
 ·split at hs
  ·rename_i j b dj hj;rw [j9,yX] at hj;split at hs
   ·rename_i hl;obtain⟨v,hv,hd,rfl⟩:=ki hs;exact bz hj (U' hl) (o_ hv) hd k
   ·rename_i hl;obtain⟨v,hv,hd,rfl⟩:=ki hs;cases hv;exact JL.MU hj (Ua hl) hd k
   ·cases hs
  ·cases hs
 ·cases hs
theorem a4L (hs:stp P m ops S o=some S') (k:JQ ⟨P,e,m,r,p⟩ ops n rest S' h L):JQ ⟨P,e,m,r,p⟩ ops n (o::rest) S h L:=by
 unfold stp at hs;split at hs
 ·obtain⟨v,hv,hd,rfl⟩:=ki hs;exact JQ.op (o_ hv) hd k
 ·split at hs
  ·rename_i j b dj hj;rw [j9,yX] at hj;split at hs
   ·rename_i hl;obtain⟨v,hv,hd,rfl⟩:=ki hs;exact JQ.NY hj (U' hl) (o_ hv) hd k
   ·rename_i hl;obtain⟨v,hv,hd,rfl⟩:=ki hs;cases hv;exact JQ.MU hj (Ua hl) hd k
   ·cases hs
  ·cases hs
 ·cases hs
theorem Ru (k:Nat) (hs:LK P m ops k S l=some (S',l')) (kk:JL ⟨P,e,m,r,p⟩ ops n x l' S' h L):JL ⟨P,e,m,r,p⟩ ops n x l S h L:=by
 induction k generalizing S l with
 |zero=>simp only [LK,au,zu] at hs;obtain⟨rfl,rfl⟩:=hs;exact kk
 |succ k ih =>
  cases l with
  |nil=>simp [LK] at hs
  |cons o l =>
   simp only [LK] at hs;split at hs
   ·rename_i S1 h1;exact a4M h1 (ih hs)
   ·cases hs
theorem Rq (k:Nat) (hs:LK P m ops k S l=some (S',l')) (kk:JQ ⟨P,e,m,r,p⟩ ops n l' S' h L):JQ ⟨P,e,m,r,p⟩ ops n l S h L:=by
 induction k generalizing S l with
 |zero=>simp only [LK,au,zu] at hs;obtain⟨rfl,rfl⟩:=hs;exact kk
 |succ k ih =>
  cases l with
  |nil=>simp [LK] at hs
  |cons o l =>
   simp only [LK] at hs;split at hs
   ·rename_i S1 h1;exact a4L h1 (ih hs)
   ·cases hs
end
def Fv:List Nat->AH->Option AH
 |[],_=>some []
 |k::r,S=>match look S k,Fv r S with
  |some v,some S'=>some ((k,v)::S')
  |_,_=>none
theorem fJ:∀ {ks:List Nat}{S S':AH},Fv ks S=some S'->IB S' S
 |[],S,S',h=>by simp only [Fv,au] at h;subst h;exact trivial
 |k::r,S,S',h=>by
  simp only [Fv] at h;split at h
  ·rename_i v S1 hv h1;simp only [au] at h;subst h;exact⟨hv,fJ h1⟩
  ·cases h
section
variable {f:Fr}{n:yF}{x:Nat->yF}{S S':AH}{h:Part}{L:LE}{ops:Array Oper}{c d:Code}
theorem Kp (ks:List Nat) (hk:Fv ks S=some S') (k:J f c n x S' h L):J f c n x S h L:=ba S' (fJ hk) k
theorem Nk {x':Nat->yF}(ks:List Nat) (hk:Fv ks S=some S') (k:J f c n x S' h L):JL f ops (J f c n x) x' [] S h L:=aj (ba S' (fJ hk) k)
theorem Nq (ks:List Nat) (hk:Fv ks S=some S') (k:J f c n x S' h L):JQ f ops (J f c n x) [] S h L:=JQ.nil (ba S' (fJ hk) k)
theorem Sr {id:Nat}{l:LR}(k:JL f l.toArray (J f d n x) x l S h L):J f (.seq (.region id l.toArray false) d) n x S h L:=aK (J.region k)
theorem Rg {id:Nat}{l:LR}(k:JL f l.toArray n x l S h L):J f (.region id l.toArray false) n x S h L:=J.region k
end
class Sp (b:Bool) (p q:outParam Prop):Prop where
 t:b=true->p
 f:b=false->q
instance (priority:=low) Sp.any (b:Bool):Sp b (b=true) (b=false):=⟨id,id⟩
instance Sp.dec (p:Prop) [d:Decidable p]:Sp (decide p) p (¬ p):=⟨xV,zz⟩
instance (priority:=high) Sp.b2G (p:Prop) [d:Decidable (¬ p)]:Sp (decide (¬ p)) (¬ p) p:=⟨xV,λh=>Cg (zz h)⟩
instance Sp.XM (b:Bool) (p q:Prop) [s:Sp b p q]:Sp (!b) q p:=⟨λh=>s.f (by simpa using h),λh=>s.t (by simpa using h)⟩
section
variable {f:Fr}{n:yF}{x:Nat->yF}{S:AH}{h:Part}{L:LE}{ops:Array Oper}{b:Bool}{p q:Prop}{c d:Code}{l:LR}
theorem Cs {t:Nat}(ht:look S t=some (.bool b)) [s:Sp b p q] (k1:p->J f c n x ((t,.bool true)::S) h L) (k2:q->J f d n x ((t,.bool false)::S) h L):J f (.cond (.tmp t) c d) n x S h L :=
 J.EI t ht (λhb=>bP (by simp [ev,look]) (k1 (s.t hb))) (λhb=>J.Df (by simp [ev,look]) (k2 (s.f hb)))
theorem Bs (t:Nat) (ht:look S t=some (.bool b)) [s:Sp b p q] (k1:p->JL f ops n x l ((t,.bool true)::S) h L) (k2:q->JL f ops n x l ((t,.bool false)::S) h L):JL f ops n x l S h L :=
 JL.EI t ht (λhb=>k1 (s.t hb)) (λhb=>k2 (s.f hb))
theorem Bq (t:Nat) (ht:look S t=some (.bool b)) [s:Sp b p q] (k1:p->JQ f ops n l ((t,.bool true)::S) h L) (k2:q->JQ f ops n l ((t,.bool false)::S) h L):JQ f ops n l S h L :=
 JQ.EI t ht (λhb=>k1 (s.t hb)) (λhb=>k2 (s.f hb))
end
instance b1Y:CY prog:=⟨[(22,5,1),(24,55,11),(25,59,6),(26,62,7),(31,33,5),(49,278,1),(50,237,3),(53,147,3),(57,156,2),(60,67,2),(65,22,1),(227,230,6),(245,9,1),(256,213,1)],[(28,0,0),(28,1,1),(28,2,2),(28,3,3),(28,4,4),(28,5,5),(33,0,0),(33,1,1),(33,2,2),(33,3,3),(33,4,4),(36,1,1),(52,0,0),(52,1,1),(52,2,2),(55,0,0),(55,1,1),(55,2,2),(55,3,3),(55,4,4),(55,5,5),(55,6,6),(55,7,9),(55,8,10),(59,0,0),(59,1,1),(59,2,2),(59,3,3),(59,4,4),(59,5,5),(62,0,0),(62,1,1),(62,2,2),(62,3,3),(62,4,4),(62,5,5),(62,6,6),(67,0,0),(67,1,1),(125,0,0),(125,1,1),(132,0,0),(132,1,1),(147,0,0),(147,1,1),(147,2,2),(156,0,0),(156,1,1),(206,0,0),(230,0,0),(230,1,1),(237,0,0),(237,1,1),(237,2,2),(247,0,0),(247,1,1),(247,2,2),(247,3,3),(247,4,4),(247,5,5),(247,6,6),(289,0,0),(301,2,2),(301,7,7),(328,0,0),(339,0,0),(339,1,1),(339,2,2),(339,3,3),(339,4,4),(339,5,5),(339,6,6)],by kernel_rfl,by kernel_rfl⟩
abbrev ai:=@List.take_succ_eq_append_getElem
inductive Nd where
 |mk (c t:Int) (k:Bool) (bs:LB) (ks:List Nd)
abbrev LN:=List Nd
def Nd.cls:Nd->Int|.mk c _ _ _ _=>c
def Nd.tag:Nd->Int|.mk _ t _ _ _=>t
def Nd.cons:Nd->Bool|.mk _ _ k _ _=>k
def Nd.bytes:Nd->LB|.mk _ _ _ b _=>b
def Nd.kids:Nd->LN|.mk _ _ _ _ l=>l
inductive B9:Part->LV->Nd->Prop where
 |mk {h:Part} {c t:Int} {k:Bool} {bs:LB} {ks:LN} {a b:OA} {ca cb:Nat} (hb:A3 DJ 1 h a ca bs)
  (len:ks.length<=cb) (cap:cb<=maxLen) (GX:ks.length<=140737488355328) (nil:b=none->cb=0)
  (B O:Nat) (C:Array Value) (F:Nat->LV) (at_:∀ i,i<ks.length->b=some ⟨B,O,none⟩/\h B=some C/\(F i).length=5/\∀ j,j<5->C[O+i*5+j]?=(F i)[j]?)
  (rec:∀ i x,ks[i]?=some x->B9 h (F i) x) :
  B9 h [.int .i64 c,.int .i64 t,.bool k,.slice a bs.length ca,.slice b ks.length cb] (.mk c t k bs ks)
theorem B9.inv {cs:LV}{c t:Int}{k:Bool}{bs:LB}{ks:LN}(r:B9 h cs (.mk c t k bs ks)) :
 ∃ a ca b cb,cs=[.int .i64 c,.int .i64 t,.bool k,.slice a bs.length ca,.slice b ks.length cb]/\A3 DJ 1 h a ca bs/\A3 B9 5 h b cb ks:=by
 cases r with
 |mk hb len cap GX nil B O C F at_ rec =>
  refine⟨_,_,_,_,U,hb,⟨len,cap,GX,nil,λi x hx=>?_⟩⟩;have hi:=(xS.1 hx).1;obtain⟨h1,h2,h3,h4⟩:=at_ i hi;exact⟨B,O,h1,C,F i,h2,h3,h4,rec i x hx⟩
theorem B9.of {c t:Int}{k:Bool}{bs:LB}{ks:LN}{a b:OA}{ca cb:Nat}(hb:A3 DJ 1 h a ca bs) (hk:A3 B9 5 h b cb ks) :
 B9 h [.int .i64 c,.int .i64 t,.bool k,.slice a bs.length ca,.slice b ks.length cb] (.mk c t k bs ks):=by
 cases ks with
 |nil=>exact .mk hb hk.len hk.cap hk.GX hk.nil 0 0 #[] (λ_=>[]) (λi hi=>by simp at hi) (λi x hx=>by simp at hx)
 |cons y r =>
  obtain⟨B,O,hbo,C,_,hC,_⟩:=hk.Z' 0 y U;have key:∀ i x,(y::r)[i]?=some x->∃ F:LV,F.length=5/\(∀ j,j<5->C[O+i*5+j]?=F[j]?)/\B9 h F x:=λi x hx=>by
   obtain⟨B',O',a8Y,C',cs,Lm,h1,h2,h3⟩:=hk.Z' i x hx;rw [hbo] at a8Y;cases a8Y;rw [hC] at Lm;cases Lm;exact⟨cs,h1,h2,h3⟩
  have F:∀ i,∃ F:LV,∀ x,(y::r)[i]?=some x->F.length=5/\(∀ j,j<5->C[O+i*5+j]?=F[j]?)/\B9 h F x:=λi=>by
   cases hx:(y::r)[i]? with
   |none=>exact⟨[],λx hh=>by cases hh⟩
   |some x=>obtain⟨F,hF⟩:=key i x hx;exact⟨F,λx' hh=>by cases hh;exact hF⟩
  refine .mk hb hk.len hk.cap hk.GX hk.nil B O C (λi=>(F i).choose) (λi hi=>?_) (λi x hx=>?_)
  ·obtain⟨h1,h2,_⟩:=(F i).choose_spec _ (aH hi);exact⟨hbo,hC,h1,h2⟩
  ·exact((F i).choose_spec _ hx).2.2
mutual
def Nd.rk:Nd->Nat
 |.mk _ _ _ _ ks=>Nd.CO ks+1
def Nd.CO:LN->Nat
 |[]=>0
 |x::r=>max (Nd.rk x) (Nd.CO r)
end
theorem Nd.La {ks:LN}{x:Nd}(h:x∈ks):x.rk<=Nd.CO ks:=by
 induction ks with
 |nil=>cases h
 |cons y r ih =>
  simp only [Nd.CO];cases h with
  |head=>omega
  |tail _ h=>have:=ih h;omega
mutual
def Nd.sz:Nd->Nat
 |.mk _ _ _ bs ks=>1+bs.length+Nd.yP ks
def Nd.yP:LN->Nat
 |[]=>0
 |x::r=>Nd.sz x+Nd.yP r
end
theorem Nd.Hp (a b:LN):Nd.yP (a++b)=Nd.yP a+Nd.yP b:=by
 induction a with
 |nil=>simp [Nd.yP]
 |cons x r ih=>simp [Nd.yP,ih];omega
theorem Nd.HN:∀ (n:Nat) (x:Nd),x.rk<=n->x.rk<=x.sz:=by
 intro n
 induction n with
 |zero=>intro x hx;cases x;simp [Nd.rk] at hx
 |succ n ih =>
  intro x hx;cases x with
  |mk c t k bs ks =>
   simp only [Nd.rk,Nd.sz] at hx |-
   have:∀ l:LN,Nd.CO l<=n->Nd.CO l<=Nd.yP l:=by
    intro l
    induction l with
    |nil=>intro _;simp [Nd.CO]
    |cons y r ihl =>
     intro hl;simp only [Nd.CO,Nd.yP] at hl |-
     have:=ih y xE;have:=ihl xE;omega
   have:=this ks xE;omega
theorem Nd.a7R {ks:LN}{x:Nd}(h:x∈ks):x.sz<=Nd.yP ks:=by
 induction ks with
 |nil=>cases h
 |cons y r ih =>
  simp only [Nd.yP];cases h with
  |head=>omega
  |tail _ h=>have:=ih h;omega
abbrev bX:=@Nd.a7R
theorem Nd.Hu (l:LN):Nd.CO l<=Nd.yP l:=by
 induction l with
 |nil=>simp [Nd.CO]
 |cons y r ih =>
  simp only [Nd.CO,Nd.yP];have:=Nd.HN _ y (aB _);omega
theorem B9.a3N {h h':Part}(hle:h.le h'):∀ (n:Nat) (x:Nd) (cs:LV),x.rk<=n->B9 h cs x->B9 h' cs x:=by
 intro n
 induction n with
 |zero=>intro x cs hx;cases x;simp [Nd.rk] at hx
 |succ n ih =>
  intro x cs hx r;cases r with
  |@mk c t k bs ks a b ca cb hb len cap GX nil B O C F at_ rec =>
   refine .mk (hb.mono hle) len cap GX nil B O C F (λi hi=>?_) (λi y hy=>?_)
   ·obtain⟨h1,h2,h3,h4⟩:=at_ i hi;exact⟨h1,hle _ _ h2,h3,h4⟩
   ·refine ih y _ ?_ (rec i y hy);have:=Nd.La (G_ hy);simp only [Nd.rk] at hx;omega
theorem B9.a5C {cs:LV}{x:Nd}(r:B9 h cs x):∀ u∈cs,u.oneCell'=true:=by
 cases x with
 |mk c t k bs ks =>
  obtain⟨a,ca,b,cb,rfl,_,_⟩:=r.inv;intro u hu;simp only [zE,Vn,or_false] at hu;rcases hu with rfl|rfl|rfl|rfl|rfl<;>rfl
instance:CF B9:=⟨λhle r=>B9.a3N hle _ _ _ (aB _) r,λr=>r.a5C⟩
theorem B9.mono {h h':Part}{cs:LV}{x:Nd}(r:B9 h cs x) (hle:h.le h'):B9 h' cs x:=B9.a3N hle _ _ _ (aB _) r
theorem B9.a0g {cs:LV}{x:Nd}(r:B9 h cs x):cs.all (·.oneCell')=true:=xH.2 r.a5C
theorem B9.M' {cs:LV}{x:Nd}(r:B9 h cs x):cs.length=5:=by
 cases x with
 |mk c t k bs ks=>obtain⟨a,ca,b,cb,rfl,_,_⟩:=r.inv;rfl
theorem Nd.Gz (ks:LN) (k:Nat) (hk:k<ks.length):Nd.CO (ks.take (k+1))=max (Nd.CO (ks.take k)) ks[k].rk:=by
 rw [ai hk];generalize ks.take k=l
 induction l with
 |nil=>simp [Nd.CO]
 |cons x r ih=>simp only [xX,Nd.CO,ih];omega
theorem Nd.Hv (ks:LN) (k:Nat):Nd.CO (ks.take k)<=Nd.CO ks:=by
 induction ks generalizing k with
 |nil=>simp [Nd.CO]
 |cons x r ih=>cases k with
  |zero=>simp [Nd.CO]
  |succ k=>simp only [A7,Nd.CO];have:=ih k;omega
mutual
def Nd.beq:Nd->Nd->Bool
 |.mk c t k bs ks,.mk c' t' k' bs' V0=>decide (c=c')&&(decide (t=t')&&(decide (k=k')&&(decide (bs=bs')&&Nd.UI ks V0)))
def Nd.UI:LN->LN->Bool
 |[],[]=>true
 |x::r,y::s=>Nd.beq x y&&Nd.UI r s
 |[],_::_=>false
 |_::_,[]=>false
end
theorem Nd.beq_eq:∀ (n:Nat) (x y:Nd),x.rk<=n->(x.beq y=true<->x=y):=by
 intro n
 induction n with
 |zero=>intro x y hx;cases x;simp [Nd.rk] at hx
 |succ n ih =>
  intro x y hx;cases x with
  |mk c t k bs ks =>
   cases y with
   |mk c' t' k' bs' V0 =>
    simp only [Nd.rk] at hx;have key:∀ l l':LN,Nd.CO l<=n->(Nd.UI l l'=true<->l=l'):=by
     intro l
     induction l with
     |nil=>intro l' _;cases l'<;>simp [Nd.UI]
     |cons a r ihr =>
      intro l' hl;simp only [Nd.CO] at hl;cases l' with
      |nil=>simp [Nd.UI]
      |cons b s=>simp [Nd.UI,ih a b xE,ihr s xE]
    simp [Nd.beq,key ks V0 xE]
abbrev aL:=@List.drop_eq_getElem_cons
abbrev ax:=@List.getElem_mem
theorem zL {p:Prop}(u:p:=by assumption):p:=u
theorem n7 {p:Prop}(u:p:=by first|with_reducible rfl|exact(zk xE).symm):p:=u
theorem eD:AF prog 22=some none:=by kernel_rfl
theorem fN:AF prog 3=some none:=by kernel_rfl
theorem l7:AF prog 31=some none:=by kernel_rfl
theorem ci:AF prog 33=some (some 5):=by kernel_rfl
theorem a9F:AF prog 4=some none:=by kernel_rfl
theorem KZ:AF prog 5=some none:=by kernel_rfl
theorem a6T:yH prog 333=true:=by kernel_rfl
theorem dY:prog.follows .mixedOrders=true:=by kernel_rfl
theorem Qd:a0N prog 22 9=true:=by kernel_rfl
theorem gH:Ig prog 22=some (5,1):=by kernel_rfl
theorem a3v:Ig prog 31=some (33,5):=by kernel_rfl
def form (t:Int):Int:=if t=16\/t=17 then 2 else if t=1\/t=2\/t=3\/t=4\/t=5\/t=6\/t=10\/t=12\/t=19\/t=22\/t=23\/t=24 then 1 else 0
def B6 (c t:Int) (cons:Bool):Bool :=
 decide (0<=t/\t<=30)&&(decide (c=2)||(decide (c=0)&&((decide (form t=1)&&!cons)||(decide (form t=2)&&cons))))
def C7:LB->LB->Bool
 |_,[]=>false
 |[],_::_=>true
 |a::l,b::r=>if a=b then C7 l r else decide (a<b)
theorem tS (l r:LB) (k:Nat) (hk:k<l.length) (hr:k<r.length):C7 (l.drop k) (r.drop k)=if l[k]=r[k] then C7 (l.drop (k+1)) (r.drop (k+1)) else decide (l[k]<r[k]):=by
 rw [aL hk,aL hr];rfl
theorem xt (l r:LB) (k:Nat) (hk:k<=l.length) (hr:k<=r.length) (h:l.length<=k\/r.length<=k):C7 (l.drop k) (r.drop k)=decide ((l.length:Int)<r.length):=by
 rcases h with h|h
 ·rw [yw h];cases hd:r.drop k with
  |nil=>have:=congrArg List.length hd;simp at this;simp [C7];omega
  |cons x t=>have:=congrArg List.length hd;simp at this;simp [C7];omega
 ·rw [yw h];have:C7 (l.drop k) []=false:=by cases l.drop k<;>rfl
  rw [this];simp;omega
theorem a2Q:∀ (n:Nat) (x:Nd) (cs:LV) (h:Part),x.rk<=n->B9 h cs x->x.sz<=1125899906842624->Pure prog 333 [.agg cs.toArray] h (.int .i64 x.rk):=by
 intro n
 induction n with
 |zero=>intro x cs h hx;cases x;simp [Nd.rk] at hx
 |succ n ih =>
 intro x cs h hx r CP;cases x with
 |mk c t k bs ks =>
 obtain⟨a,ca,b,cb,rfl,ha,hb⟩:=r.inv;have hl:=hb.GX;simp only [Nd.rk] at hx;simp only [Nd.sz] at CP;have hkr:∀ i (hi:i<ks.length),ks[i].rk<=n/\ks[i].sz<=1125899906842624:=λi hi=>by
  have h1:=Nd.La (ax hi);have h2:ks[i].sz<=Nd.yP ks:=bX (ax hi);omega
 have hrk:∀ i,Nd.CO (ks.take i)<=1125899906842624:=λi=>by
  have h1:=Nd.Hv ks i;have h2:=Nd.Hu ks;omega
 refine aQ func333 U ntmps333 U (λe he=>?_);refine ba [(0,_)] y9 (Sr (JL.box U U U (λb1=>?_)));refine Ru 1 U (aj (Sr (Ru 1 U (aj (aK (Sr (Ru 1 U (aj (aV (bU (λt_ S_ h_ L_=>∃ (i:Nat),t_=ks.length-i/\S_=[(1,.pointer (some ⟨b1,0,none⟩)),(3,.int .i64 (Nd.CO (ks.take i))),(4,.int .i64 i)]/\h=h_/\L_=[.yY b1 33 [.int .i64 c,.int .i64 t,.bool k,.slice a bs.length ca,.slice b ks.length cb]]/\(i<=ks.length)) ⟨_,_,?_,⟨0,U,U,U,U,by omega⟩⟩ ?_))))))))))
 ·exact m68
 rintro _ _ _ _ ⟨i,rfl,rfl,rfl,rfl,hi⟩;have hri:=hrk i;refine aK (Sr (Ru 2 U (aA (aG l7 U zV U) U (Ru 2 U (aj (Cs U (λBO=>?_) λBO=>?_))))))
 ·refine aO (aK (aV (Sr (Ru 1 U (aA (aG l7 U zV U) U (Ru 1 U (cX (aX a3v U U n7 zL U xE) U ?_)))))));rintro _ ⟨b3,o3,hi3,rfl,hE3⟩;refine cX (AB.Na ci U zL) U ?_;rintro _ ⟨_,rfl,b2m⟩;refine cj a6T U (ih _ _ _ (hkr _ xE).1 zL (hkr _ xE).2) U (Ru 1 U (aj (Sr (Ru 3 U (aj (Cs U (λLj=>?_) λLj=>?_))))))
  ·refine Rg (Ru 2 U (aj (Rg (Ru 1 U (aA Fc U (Ru 1 U (aj (⟨_,?_,_,?_,⟨i+1,U,U,U,U,by omega⟩⟩))))))))
   ·omega
   exact m68
  refine aO (Rg (Ru 1 U (aA Fc U (Ru 1 U (aj (⟨_,?_,_,?_,⟨i+1,U,U,U,U,by omega⟩⟩))))))
  ·omega
  exact m68
 exact bJ (Kp [3] U (Sr (Ru 1 U (aA Fc U (Ru 1 U (aj (cn (aW U U) (by simp only [Nd.rk];rw [aD xE];simp) U)))))))
theorem Zh {x:Nd}{cs:LV}(r:B9 h cs x) (hs:x.sz<=1125899906842624):Pure prog 333 [.agg cs.toArray] h (.int .i64 x.rk):=a2Q _ x cs h (aB _) r hs
abbrev ah:=@decide_eq_false
abbrev ae:=@decide_eq_true
theorem Ps:Bz prog 5 3=some .i64:=by kernel_rfl
theorem xz:prog.underlying 9=some .string:=by kernel_rfl
def IJ (y:Int):Bool:=decide (y % 4=0)&&(decide (y % 100≠0)||decide (y % 400=0))
def zR (y m:Int):Int:=if m=2 then(if IJ y then 29 else 28) else if m=4\/m=6\/m=9\/m=11 then 30 else 31
theorem cO (y m:Int):28<=zR y m/\zR y m<=31:=by unfold zR;repeat' split<;>omega
def xT (y:Int):Int:=if y=0 then 0 else 365*y+(y-1) / 4-(y-1) / 100+(y-1) / 400+1
theorem iI (y:Int) (h0:0<=y) (h1:y<=1000000):0<=xT y/\xT y<=366000001:=by unfold xT;split<;>omega
def yx (s:LB) (i:Nat):Int :=
 if xF s i<48\/57<xF s i\/xF s (i+1)<48\/57<xF s (i+1) then -1048576 else(xF s i-48:Int)*10+(xF s (i+1)-48:Int)
theorem cM (s:LB) (i:Nat):(yx s i=-1048576\/0<=yx s i)/\yx s i<=99:=by
 have:=bn s i;have:=bn s (i+1);unfold yx;split<;>omega
def zM (y:Int):Nat->Int
 |0=>0
 |k+1=>zM y k+zR y (k+1)
theorem ph (y:Int) (k:Nat):0<=zM y k/\zM y k<=31*k:=by
 induction k with
 |zero=>simp [zM]
 |succ k ih=>have:=cO y (k+1);simp only [zM];omega
def Az (y:Int) (s:LB):Bool :=
 decide (0<=y/\1<=yx s 0/\yx s 0<=12/\1<=yx s 2/\yx s 2<=zR y (yx s 0)/\0<=yx s 4/\yx s 4<=23/\0<=yx s 6/\yx s 6<=59/\0<=yx s 8/\yx s 8<=59)
def FR (y:Int) (s:LB):Int :=
 -62167219200+(xT y+(yx s 2-1)+zM y ((yx s 0).toNat-1))*86400+(yx s 4*3600+yx s 6*60+yx s 8)
def Ij (y:Int) (s:LB):Int:=if Az y s then FR y s else 0
def GS (s:LB):Int:=if 0<=yx s 0 then(if yx s 0+1900<1950 then yx s 0+1900+100 else yx s 0+1900) else yx s 0
def DT (s:LB):Bool:=decide (s.length=13/\xF s 12=90)&&Az (GS s) ((s.drop 2).take 10)
def N3 (s:LB):Int:=if DT s then FR (GS s) ((s.drop 2).take 10) else 0
def Er (s:LB):Nat->Int
 |0=>0
 |k+1=>Er s k*10+(if 15+k+1<s.length then(xF s (15+k):Int)-48 else 0)
def BY (s:LB):Nat->Bool
 |0=>true
 |k+1=>BY s k&&(if 15+k+1<s.length then decide (48<=xF s (15+k)/\xF s (15+k)<=57) else true)
theorem QZ (s:LB) (k:Nat) (h:BY s k=true):0<=Er s k/\Er s k<10 ^ k:=by
 induction k with
 |zero=>simp [Er]
 |succ k ih =>
  simp only [BY,xB] at h;obtain⟨h1,h2⟩:=h;have:=ih h1;have e:(10:Int) ^ (k+1)=10 ^ k*10:=F0 ..;simp only [Er];split at h2
  ·rename_i hh;rw [xD hh];have:=xV h2;omega
  ·rename_i hh;rw [xC hh];omega
def BS (s:LB):Bool :=
 decide (15<=s.length/\s.length<=22/\xF s (s.length-1)=90)&&((decide (s.length=15)||(decide (xF s 14=46/\s.length≠16/\xF s (s.length-2)≠48)&&BY s 6))&&Az (yx s 0*100+yx s 2) ((s.drop 4).take 10))
def N7 (s:LB):Int:=if s.length=15 then 0 else Er s 6
theorem wR {s:LB}(h:¬ (15<=s.length/\s.length<=22/\xF s (s.length-1)=90)):BS s=false:=by
 unfold BS;rw [ah h];rfl
theorem wQ {s:LB}(h1:s.length≠15) (h:¬ (xF s 14=46/\s.length≠16/\xF s (s.length-2)≠48)):BS s=false:=by
 unfold BS;rw [ah h1,ah h];simp
theorem lK {s:LB}(k:Nat):∀ j,BY s (k+j)=true->BY s k=true
 |0,h=>h
 |j+1,h=>lK k j (by rw [<- CG,BY,xB] at h;exact h.1)
theorem Xf {s:LB}(k:Nat) (h1:s.length≠15) (hk:k<=6) (h:BY s k=false):BS s=false:=by
 have h6:BY s 6=false:=by
  cases hh:BY s 6 with
  |false=>rfl
  |true=>have:=lK k (6-k) (by rw [show k+(6-k)=6 by omega];exact hh);rw [h] at this;cases this
 unfold BS;rw [ah h1,h6];simp
theorem a3F {s:LB}(h:15<=s.length/\s.length<=22/\xF s (s.length-1)=90) (h1:s.length=15):BS s=Az (yx s 0*100+yx s 2) ((s.drop 4).take 10):=by
 unfold BS;rw [ae h,ae h1];rfl
theorem a3E {s:LB}(h:15<=s.length/\s.length<=22/\xF s (s.length-1)=90) (h1:s.length≠15) (h2:xF s 14=46/\s.length≠16/\xF s (s.length-2)≠48) (h3:BY s 6=true):BS s=Az (yx s 0*100+yx s 2) ((s.drop 4).take 10):=by
 unfold BS;rw [ae h,ah h1,ae h2,h3];rfl
theorem Du {p:Prop}(u:p:=by repeat (first|exact trivial|refine⟨rfl,?_⟩)):p:=u
theorem z8_ {p:Prop}(u:p:=by repeat (first|exact trivial|refine⟨rfl,?_⟩|refine⟨(by exact gQ (by first|exact y7.2 xE|exact(ah xE).symm|exact(ae xE).symm|simp_all)),?_⟩)):p:=u
theorem a6U:yH prog 313=true:=by kernel_rfl
def D_ (h:Part):Prop:=∃ C1 C2,h 1=some C1/\h 2=some C2/\(∀ c,c<256->C1[c]?=some (.int .u8 (Go.Lib.firstT c))) /\
 (∀ i,i<16->C2[2*i]?=some (.int .u8 (Go.Lib.accLo i))/\C2[2*i+1]?=some (.int .u8 (Go.Lib.accHi i)))
theorem D_.mono {h h':Part}(k:D_ h) (hle:h.le h'):D_ h':=by
 obtain⟨C1,C2,h1,h2,h3⟩:=k;exact⟨C1,C2,hle _ _ h1,hle _ _ h2,h3⟩
theorem D_.a9X (k:D_ h) {w:World}(s:Sub h w):Go.Lib.Utf8Tabs 1 2 w:=by
 obtain⟨C1,C2,h1,h2,h3,h4⟩:=k;exact⟨λc hc=>s.cell h1 (h3 c hc),λi hi=>⟨s.cell h2 (h4 i hi).1,s.cell h2 (h4 i hi).2⟩⟩
theorem pM (s:LB) (hs:s≠[]):Go.Lib.decodeGo ⟨s.toArray⟩=(Gi s,wid s):=by
 unfold Go.Lib.decodeGo;rw [lv,xC (λh=>hs (AQ.1 h))];rfl
theorem Uq (s:LB) (h:Part) (hT:D_ h) (hs:s≠[]):Pure prog 313 [.string ⟨s.toArray⟩] h (.tuple #[.int .i32 (Gi s),.int .i64 (wid s)]) :=
 Pure.lib λw hw=>(Tryz.utf8_DecodeRuneInString ⟨s.toArray⟩ w (hT.a9X hw)).mono λe w' ⟨he,hb⟩=>by
  rw [pM s hs] at he;exact⟨he,hb⟩
def Aw (ok:Nat->Nat->Bool):LB->Nat->Bool
 |[],_=>true
 |_::r,k+1=>Aw ok r k
 |b::r,0=>ok (Gi (b::r)) (wid (b::r))&&Aw ok r (wid (b::r)-1)
theorem nm (ok:Nat->Nat->Bool):∀ (l:LB) (k:Nat),Aw ok l k=Aw ok (l.drop k) 0
 |[],k=>by cases k<;>simp [Aw]
 |b::r,0=>rfl
 |b::r,k+1=>by simp only [Aw,AZ];exact nm ok r k
theorem fp (ok:Nat->Nat->Bool) (s:LB) (p:Nat) (h:s.length<=p):Aw ok (s.drop p) 0=true:=by
 rw [yw h];rfl
theorem bx (ok:Nat->Nat->Bool) (s:LB) (p:Nat) (h:p<s.length):Aw ok (s.drop p) 0=(ok (Gi (s.drop p)) (wid (s.drop p))&&Aw ok (s.drop (p+wid (s.drop p))) 0):=by
 have e:s.drop p=s[p]::s.drop (p+1):=aL h;have hw:=jO (s.drop p);rw [<- Hj];generalize s.drop p=q at *;subst e;simp only [Aw];rw [nm];congr 2;cases hk:wid (s[p]::s.drop (p+1)) with
 |zero=>omega
 |succ k=>simp only [Af,AZ]
theorem a6_ (s:LB) (h:Part) (h2:s.length<=140737488355328):Pure prog 255 [.string ⟨s.toArray⟩] h (.bool (Aw (λc _=>decide (c<=127)) s 0)):=by
 refine aQ func255 U ntmps255 U (λe he=>?_);refine ba [(0,_)] y9 (Sr (Ru 1 U (aj (aK (Sr (Ru 1 U (JL.range xz U U (λb1=>?_))))))));refine aj (aV (bU (λt_ S_ h_ L_=>∃ (p:Nat),t_=s.length-p/\S_=[(6,.pointer (some ⟨b1,0,none⟩))]/\h=h_/\L_=[.it b1 s p]/\(Aw (λc _=>decide (c<=127)) s 0=Aw (λc _=>decide (c<=127)) (s.drop p) 0)) ⟨_,_,?_,⟨0,U,U,U,U,U⟩⟩ ?_))
 ·exact Du
 rintro _ _ _ _ ⟨p,rfl,rfl,rfl,rfl,he⟩;have hw:=jO (s.drop p);refine Sr (JL.next U zW U (λYu=>?_) (λYu=>?_))
 ·refine Ru 1 U (aj (aK (bP U (aO (aV (Sr (Ru 2 U (aj (Sr (Ru 2 U (aj (Cs U (λDv=>?_) λDv=>?_))))))))))))
  ·exact Sr (Ru 1 U (aj (cn (aW U U) (by first|(exfalso;omega)|(rw [he,fp _ _ _ xE])|(rw [he,bx _ s p xE,ah xE];rfl)) U)))
  refine aO (⟨_,?_,_,?_,⟨p+wid (s.drop p),U,U,U,U,by rw [he,bx _ s p xE,ae xE];rfl⟩⟩)
  ·omega
  exact Du
 exact Ru 1 U (aj (aK (J.Df U (bJ (Sr (Ru 1 U (aj (cn (aW U U) (by first|(exfalso;omega)|(rw [he,fp _ _ _ xE])|(rw [he,bx _ s p xE,ah xE];rfl)) U))))))))
def H' (c:Nat):Bool:=decide (65<=c/\c<=90\/97<=c/\c<=122\/48<=c/\c<=57\/c=32\/c=39\/c=40\/c=41\/c=43\/c=44\/c=45\/c=46\/c=47\/c=58\/c=61\/c=63)
theorem qN (s:LB) (h:Part) (h2:s.length<=140737488355328):Pure prog 254 [.string ⟨s.toArray⟩] h (.bool (Aw (λc _=>H' c) s 0)):=by
 refine aQ func254 U ntmps254 U (λe he=>?_);refine ba [(0,_)] y9 (Sr (Ru 1 U (aj (aK (Sr (Ru 1 U (JL.range xz U U (λb1=>?_))))))));refine aj (aV (bU (λt_ S_ h_ L_=>∃ (p:Nat),t_=s.length-p/\S_=[(6,.pointer (some ⟨b1,0,none⟩))]/\h=h_/\L_=[.it b1 s p]/\(Aw (λc _=>H' c) s 0=Aw (λc _=>H' c) (s.drop p) 0)) ⟨_,_,?_,⟨0,U,U,U,U,U⟩⟩ ?_))
 ·exact Du
 rintro _ _ _ _ ⟨p,rfl,rfl,rfl,rfl,he⟩;have hw:=jO (s.drop p);refine Sr (JL.next U zW U (λYu=>?_) (λYu=>?_))
 ·refine Ru 1 U (aj (aK (bP U (aO (aV (Sr (Ru 2 U (aj (aV (aK (aK (J.meet [(10,.bool (decide (65<=Gi (s.drop p)/\Gi (s.drop p)<=90)))] [(4,_),(9,_),(8,_),(7,_),(6,_)] y9 ?_ ?_))))))))))))
  ·refine Rg (Ru 3 U (Bs 13 U (λDv=>?_) λDv=>?_))
   ·exact m77
   exact m77
  refine Cs U (λJ'=>?_) λJ'=>?_
  ·exact m12
  refine aK (J.meet [(10,.bool (decide (97<=Gi (s.drop p)/\Gi (s.drop p)<=122)))] [(4,_),(9,_),(8,_),(7,_),(6,_)] y9 ?_ ?_)
  ·refine Rg (Ru 3 U (Bs 19 U (λPa=>?_) λPa=>?_))
   ·exact m77
   exact m77
  refine Cs U (λLj=>?_) λLj=>?_
  ·exact m12
  refine J.meet [(10,.bool (decide (48<=Gi (s.drop p)/\Gi (s.drop p)<=57)))] [(4,_),(9,_),(8,_),(7,_),(6,_)] y9 ?_ ?_
  ·refine Rg (Ru 3 U (Bs 25 U (λP'=>?_) λP'=>?_))
   ·exact m77
   exact m77
  refine Cs U (λMB=>?_) λMB=>?_
  ·exact m122
  refine aK (Sr (Ru 3 U (aj (Cs U (λU6=>?_) λU6=>?_))))
  ·exact m12
  refine Sr (Ru 3 U (aj (Cs U (λIq=>?_) λIq=>?_)))
  ·exact m12
  refine Sr (Ru 3 U (Nk [29,35,34,33,32,31,30,10,4,9,8,7,6] U (Cs U (λPe=>?_) λPe=>?_)))
  ·exact m12
  refine Sr (Ru 3 U (aj (Cs U (λPd=>?_) λPd=>?_)))
  ·exact m12
  refine Sr (Ru 3 U (aj (Cs U (λPc=>?_) λPc=>?_)))
  ·refine aO (Kp [29,39,38,37,36,35,34,33,32,31,30,10,4,9,8,7,6] U (bP U (aO (⟨_,?_,_,?_,⟨p+wid (s.drop p),U,U,U,U,by rw [he,bx _ s p xE,H',ae xE,xQ]⟩⟩))))
   ·omega
   exact Du
  refine Sr (Ru 3 U (Nk [29,41,40,39,38,37,36,35,34,33,32,31,30,10,4,9,8,7,6] U (Cs U (λKS=>?_) λKS=>?_)))
  ·exact m12
  refine Sr (Ru 3 U (aj (Cs U (λU8=>?_) λU8=>?_)))
  ·exact m12
  refine Sr (Ru 3 U (aj (Cs U (λU7=>?_) λU7=>?_)))
  ·refine aO (Kp [29,45,44,43,42,41,40,39,38,37,36,35,34,33,32,31,30,10,4,9,8,7,6] U (bP U (aO (⟨_,?_,_,?_,⟨p+wid (s.drop p),U,U,U,U,by rw [he,bx _ s p xE,H',ae xE,xQ]⟩⟩))))
   ·omega
   exact Du
  refine Sr (Ru 3 U (Nk [29,47,46,45,44,43,42,41,40,39,38,37,36,35,34,33,32,31,30,10,4,9,8,7,6] U (Cs U (λa2A=>?_) λa2A=>?_)))
  ·exact m12
  refine Sr (Ru 3 U (aj (Cs U (λb1d=>?_) λb1d=>?_)))
  ·exact m12
  refine Sr (Ru 3 U (aj (Cs U (λMj=>?_) λMj=>?_)))
  ·refine aO (Kp [29,51,50,49,48,47,46,45,44,43,42,41,40,39,38,37,36,35,34,33,32,31,30,10,4,9,8,7,6] U (bP U (aO (⟨_,?_,_,?_,⟨p+wid (s.drop p),U,U,U,U,by rw [he,bx _ s p xE,H',ae xE,xQ]⟩⟩))))
   ·omega
   exact Du
  refine Rg (Ru 3 U (Nk [29,53,52,51,50,49,48,47,46,45,44,43,42,41,40,39,38,37,36,35,34,33,32,31,30,10,4,9,8,7,6] U (Cs U (λa6r=>?_) λa6r=>?_)))
  ·exact m122
  exact Sr (Ru 1 U (aj (cn (aW U U) (by first|(exfalso;omega)|(rw [he,fp _ _ _ xE])|(rw [he,bx _ s p xE,H',ah xE];rfl)) U)))
 exact Ru 1 U (aj (aK (J.Df U (bJ (Sr (Ru 1 U (aj (cn (aW U U) (by first|(exfalso;omega)|(rw [he,fp _ _ _ xE])|(rw [he,bx _ s p xE,H',ah xE];rfl)) U))))))))
theorem a0A (s:LB) (h:Part) (hT:D_ h) (h2:s.length<=140737488355328):Pure prog 253 [.string ⟨s.toArray⟩] h (.bool (Aw (λc n=>!decide (c=65533/\n=1)) s 0)):=by
 refine aQ func253 U ntmps253 U (λe he=>?_);refine ba [(0,_)] y9 (Sr (Ru 1 U (aj (aK (Sr (Ru 1 U (JL.range xz U U (λb1=>?_))))))));refine aj (aV (bU (λt_ S_ h_ L_=>∃ (p:Nat),t_=s.length-p/\S_=[(0,.string ⟨s.toArray⟩),(8,.pointer (some ⟨b1,0,none⟩))]/\h=h_/\L_=[.it b1 s p]/\(Aw (λc n=>!decide (c=65533/\n=1)) s 0=Aw (λc n=>!decide (c=65533/\n=1)) (s.drop p) 0)) ⟨_,_,?_,⟨0,U,U,U,U,U⟩⟩ ?_))
 ·exact Du
 rintro _ _ _ _ ⟨p,rfl,rfl,rfl,rfl,he⟩;have hw:=jO (s.drop p);refine Sr (JL.next U zW U (λYu=>?_) (λYu=>?_))
 ·refine Ru 1 U (aj (aK (bP U (aO (aV (Sr (Ru 4 U (aj (Sr (Ru 2 U (aj (Cs U (λDv=>?_) λDv=>?_))))))))))))
  ·refine Sr (Ru 2 U (aA (xG.JC xz U U n7 xE) U (cj a6U U (Uq (s.drop p) _ hT (by intro hh;have:=congrArg List.length hh;simp at this;omega)) U ?_)));refine Ru 5 U (aj (Sr (Ru 2 U (aj (Cs U (λPa=>?_) λPa=>?_)))))
   ·exact Sr (Ru 1 U (aj (cn (aW U U) (by first|(exfalso;omega)|(rw [he,fp _ _ _ xE])|(rw [he,bx _ s p xE,ae xE];rfl)) U)))
   exact m126
  exact m126
 exact Ru 1 U (aj (aK (J.Df U (bJ (Sr (Ru 1 U (aj (cn (aW U U) (by first|(exfalso;omega)|(rw [he,fp _ _ _ xE])|(rw [he,bx _ s p xE,ae xE];rfl)) U))))))))
abbrev ay:=@List.length_nil
theorem LD {p:Prop}(u:p:=by first|omega|(simp only [aF,aw,ay];omega)):p:=u
theorem iR {p:Prop}(u:p:=by first|rfl|(simp;omega)):p:=u
theorem tV:Mq prog 22=some (5,1,1):=by kernel_rfl
theorem a0c:arT prog 287=some (20,1):=by kernel_rfl
theorem jE:Bz prog 213 5=some .u8:=by kernel_rfl
theorem a4k:CH prog 287=some [.int .u8 0,.int .u8 0,.int .u8 0,.int .u8 0,.int .u8 0,.int .u8 0,.int .u8 0,.int .u8 0,.int .u8 0,.int .u8 0,.int .u8 0,.int .u8 0,.int .u8 0,.int .u8 0,.int .u8 0,.int .u8 0,.int .u8 0,.int .u8 0,.int .u8 0,.int .u8 0]:=by kernel_rfl
theorem a7F:CH prog 5=some [.int .u8 0]:=by kernel_rfl
def Hh:Nat->Nat->Nat->Nat->LB
 |0,_,_,_=>[]
 |f+1,n,len,least=>if 0<n\/len<least then Hh f (n / 10) (len+1) least++[UInt8.ofNat (48+n % 10)] else []
def CS (n least:Nat):LB:=Hh 20 n 0 least
theorem mO {f n len least:Nat}(h:¬ (0<n\/len<least)):Hh f n len least=[]:=by
 cases f with
 |zero=>rfl
 |succ f=>simp only [Hh];rw [xC h]
theorem RZ:∀ f n len least,(Hh f n len least).length<=f
 |0,_,_,_=>aB _
 |f+1,n,len,least=>by
  simp only [Hh];split
  ·have:=RZ f (n / 10) (len+1) least;simp;omega
  ·simp
theorem cG (n least:Nat):(CS n least).length<=20:=RZ _ _ _ _
theorem qT {n:Nat}(h:n<256):((UInt8.ofNat n).toNat:Int)=n:=by simp;omega
theorem pI (l:List α) (j:Nat) (x:α) (h:j<l.length):(l.set j x).drop j=x::l.drop (j+1):=by
 rw [aL (by simpa using h),List.getElem_set_self];congr 1;apply DG;intro i;simp [SP,show ¬ j=j+1+i by omega]
theorem Ul {a:OA}{c:Nat}{l:LB}{n least:Nat}(hn:n<18446744073709551616) (hl:least<=20) (hb:l.length<=70368744177664) :
 Fn prog 166 [.slice a l.length c,.int .u64 n,.int .i64 least] h [.row a c 5 1 l.length (GO l)]
  (Cb λv _ Lo=>∃ a' c',v=.slice a' (l++CS n least).length c'/\Lo=[.row a' c' 5 1 (l++CS n least).length (GO (l++CS n least))]):=by
 refine aQ func166 U ntmps166 U (λe he=>?_);refine ba [(0,_),(1,_),(2,_)] y9 (Sr (Ru 1 U (aj (Sr (bp a4k U (λb1=>?_))))));refine aj (Sr (Ru 1 U (aj (aK (aV (bU (λt_ S_ h_ L_=>∃ (k m:Nat) (bs:LB),t_=m+k/\S_=[(0,.slice a l.length c),(1,.int .u64 m),(2,.int .i64 least),(7,.pointer (some ⟨b1,0,none⟩)),(8,.int .i64 k)]/\h=h_/\L_=[.yY b1 287 (GO bs),.row a c 5 1 l.length (GO l)]/\(k<=20/\bs.length=20/\m<=n/\m<10 ^ k/\CS n least=Hh k m (20-k) least++bs.drop k)) ⟨_,_,?_,⟨20,n,List.replicate 20 0,U,U,U,U,⟨by omega,U,by omega,by omega,by simp [CS]⟩⟩⟩ ?_))))))
 ·exact m61
 rintro _ _ _ _ ⟨k,m,bs,rfl,rfl,rfl,rfl,hk,RG,hmn,hm,he⟩;have hul:(GO bs).length=20:=by rw [ik,RG]
 refine aK (aK (J.meet [(16,.bool (decide (0<m\/20-k<least)))] [(0,_),(1,_),(2,_),(7,_),(8,_)] y9 ?_ ?_))
 ·refine Rg (Ru 3 U (Bs 11 U (λBO=>?_) λBO=>?_))
  ·refine Ru 5 U (aj (⟨U,U,?_⟩));exact z8_
  refine Ru 1 U (bz U U  GP U (Ru 3 U (aj (⟨U,U,?_⟩))));exact z8_
 refine Cs U (λDv=>?_) λDv=>?_
 ·obtain⟨j,rfl⟩:∃ j,k=j+1:=⟨k-1,by have:k≠0:=(by rintro rfl;simp at hm;omega);omega⟩;refine aO (aV (Sr (Ru 1 U (aA GP U (Ru 1 U (aj (Sr (Ru 2 U (aA (by first|exact xG.HO rfl rfl xE xE|exact xG.rem rfl rfl xE) U ?_)))))))));refine aA (by first|exact xG.Jd rfl rfl xE xE|exact xG.add rfl rfl) U ?_;refine aA (by first|exact xG.Sf jE rfl xE xE|exact cB jE rfl) U ?_;refine aA (xG.Nn a0c U U n7 xE) U (bj KZ U U U zW iR (aj (Rg (Ru 1 U (aA (by first|exact xG.ET rfl rfl xE xE xE|exact xG.quo rfl rfl xE) U ?_)))));refine Ru 1 U (aj ?_);rw [show(((j+1:Nat):Int)-1).toNat=j by omega,show(48+(m:Int) % 10)=((UInt8.ofNat (48+m % 10)).toNat:Int) by rw [qT xE];omega,od];refine⟨_,?_,_,?_,⟨j,m / 10,bs.set j (UInt8.ofNat (48+m % 10)),U,U,U,U,⟨by omega,by simp [RG],by omega,by rw [yh] at hm;omega,by rw [he,Hh,xD Dv,xW,show 20-(j+1)+1=20-j by omega,pI bs j _ xE];rfl⟩⟩⟩
  ·omega
  exact m61
 refine bJ (Sr (Ru 2 U ?_));have P_:(bs.drop k).length<=20:=(by simp;omega);have hd:CS n least=bs.drop k:=by rw [he,mO xE];rfl
 refine JL.LY (R:=DJ) (sz:=1) zW cJ xE (λh4 Nt hB4=>?_);refine cX (AB.Pu a0c U U n7 hB4 xE xE) U ?_;rintro _ ⟨a4,c4,rfl,hS4⟩;refine JL.append tV U U cJ U zL U zW LD U U (λa5 c5 xs5 hC5 hN5=>?_);obtain rfl:=hC5.u8;refine Ru 1 U (Nk [6] U ?_);rw [<- hd];exact dm ⟨_,[_],_,(aW U U),.cons .here .nil,_,U,_,_,U,U⟩
theorem xi {a:OA}{c:Nat}{l:LB}{n least:Nat}{N Q:Int}(hN:N=(n:Int)) (hQ:Q=(least:Int)) (hn:n<18446744073709551616) (hl:least<=20) (hb:l.length<=70368744177664) :
 Fn prog 166 [.slice a l.length c,.int .u64 N,.int .i64 Q] h [.row a c 5 1 l.length (GO l)]
  (Cb λv _ Lo=>∃ a' c',v=.slice a' (l++CS n least).length c'/\Lo=[.row a' c' 5 1 (l++CS n least).length (GO (l++CS n least))]):=by
 subst hN hQ;exact Ul hn hl hb
def Em:LB->LB->Nat->Bool->Bool->Option LB
 |[],out,_,fresh,first=>if !fresh||first then none else some out
 |c::r,out,n,fresh,first =>
  if(fresh&&decide (c.toNat=128))||decide (72057594037927935<n) then none
  else if 127<c.toNat then Em r out (n*128+c.toNat % 128) false first
  else if first then Em r (out++CS (min ((n*128+c.toNat % 128) / 40) 2) 1++[46]++CS (n*128+c.toNat % 128-40*min ((n*128+c.toNat % 128) / 40) 2) 1) 0 true false
  else Em r (out++[46]++CS (n*128+c.toNat % 128) 1) 0 true false
def AK (b:LB):Option LB:=Em b [] 0 true true
def AY (b:LB):Bool:=if b.length=0 then false else if b.length=1 then true else decide (¬ (xF b 0=0/\xF b 1<128\/xF b 0=255/\127<xF b 1))
def DM (b:LB):Bool:=decide (¬ (b.length=0\/7<xF b 0\/b.length=1/\0<xF b 0)/\(xF b 0=0\/xF b (b.length-1) % 2 ^ xF b 0=0))
def AJ (t:Int) (b:LB):Bool :=
 if t=1 then decide (b.length=1/\(xF b 0=0\/xF b 0=255)) else if t=2\/t=10 then AY b else if t=3 then DM b else if t=5 then decide (b.length=0)
 else if t=6 then(AK b).isSome else if t=12 then Aw (λc n=>!decide (c=65533/\n=1)) b 0 else if t=19 then Aw (λc _=>H' c) b 0 else if t=22 then Aw (λc _=>decide (c<=127)) b 0
 else if t=23 then DT b else if t=24 then BS b else true
theorem VJ {t:Int}{b:LB}(h:t=1):AJ t b=decide (b.length=1/\(xF b 0=0\/xF b 0=255)):=by
 unfold AJ;rw [xD xE]
theorem m6 {t:Int}{b:LB}(h:t=2\/t=10):AJ t b=AY b:=by
 unfold AJ;rw [xC xE];rw [xD xE]
theorem qd {t:Int}{b:LB}(h:t=3):AJ t b=DM b:=by
 unfold AJ;rw [xC xE];rw [xC xE];rw [xD xE]
theorem u6 {t:Int}{b:LB}(h:t=5):AJ t b=decide (b.length=0):=by
 unfold AJ;rw [xC xE];rw [xC xE];rw [xC xE];rw [xD xE]
theorem VI {t:Int}{b:LB}(h:t=6):AJ t b=(AK b).isSome:=by
 unfold AJ;exact m56
theorem sh {t:Int}{b:LB}(h:t=12):AJ t b=Aw (λc n=>!decide (c=65533/\n=1)) b 0:=by
 unfold AJ;rw [xC xE];exact m56
theorem sf {t:Int}{b:LB}(h:t=19):AJ t b=Aw (λc _=>H' c) b 0:=by
 unfold AJ;exact m209
theorem se {t:Int}{b:LB}(h:t=22):AJ t b=Aw (λc _=>decide (c<=127)) b 0:=by
 unfold AJ;rw [xC xE];exact m209
theorem sd {t:Int}{b:LB}(h:t=23):AJ t b=DT b:=by
 unfold AJ;rw [xC xE];rw [xC xE];exact m209
theorem sb {t:Int}{b:LB}(h:t=24):AJ t b=BS b:=by
 unfold AJ;rw [xC xE];rw [xC xE];rw [xC xE];exact m209
theorem VK {t:Int}{b:LB}(h:¬ (t=1\/t=2\/t=10\/t=3\/t=5\/t=6\/t=12\/t=19\/t=22\/t=23\/t=24)):AJ t b=true:=by
 unfold AJ;rw [xC xE];rw [xC xE];rw [xC xE];rw [xC xE];rw [xC xE];rw [xC xE];rw [xC xE];rw [xC xE];rw [xC xE];rw [xC xE]
def be:Nat->Nat->LB
 |0,_=>[]
 |k+1,n=>UInt8.ofNat (n / 256 ^ k)::be k n
def EV (n:Nat):Nat:=if n<256 then 1 else if n<65536 then 2 else if n<16777216 then 3 else if n<4294967296 then 4 else if n<1099511627776 then 5 else 6
def EL (n:Nat):LB:=if n<128 then [UInt8.ofNat n] else UInt8.ofNat (128+EV n)::be (EV n) n
def Ee (c t:Int) (k:Bool):Nat:=(64*c+t).toNat+(if k then 32 else 0)
def BM (c t:Int) (k:Bool) (n:Nat):LB:=UInt8.ofNat (Ee c t k)::EL n
theorem mD (n:Nat):1<=EV n/\EV n<=6:=by unfold EV;(repeat' split)<;>omega
theorem lr (k n:Nat):(be k n).length=k:=by induction k with
 |zero=>rfl
 |succ k ih=>simp [be,ih]
theorem oh (n j:Nat) (e:Int) (he:e=8*(j:Int)):(n:Int) / 2 ^ e.toNat=((n / 256 ^ j:Nat):Int):=by
 subst he;have h1:(8*(j:Int)).toNat=8*j:=by omega
 have h2:(256:Nat) ^ j=2 ^ (8*j):=by rw [CB]
 rw [h1,h2];simp
theorem XS (n j:Nat) (hn:n<=140737488355328) (h1:1<=j) (h2:j<=EV n):0<n / 256 ^ j<->j<EV n:=by
 have hb:=mD n;have hj:j=1\/j=2\/j=3\/j=4\/j=5\/j=6:=by omega
 have e1:(256:Nat) ^ 1=256:=rfl;have e2:(256:Nat) ^ 2=65536:=rfl;have e3:(256:Nat) ^ 3=16777216:=rfl;have e4:(256:Nat) ^ 4=4294967296:=rfl;have e5:(256:Nat) ^ 5=1099511627776:=rfl;have e6:(256:Nat) ^ 6=281474976710656:=rfl;unfold EV at *;rcases hj with rfl|rfl|rfl|rfl|rfl|rfl<;>simp only [e1,e2,e3,e4,e5,e6]<;>(repeat' split)<;>omega
theorem j6 {c t:Int}{k:Bool}{n:Nat}(h:n<128):BM c t k n=[UInt8.ofNat (Ee c t k)]++[UInt8.ofNat n]:=by
 unfold BM EL;rw [xD h];rfl
theorem x9 {c t:Int}{k:Bool}{n:Nat}(h:¬ n<128):BM c t k n=([UInt8.ofNat (Ee c t k)]++[UInt8.ofNat (128+EV n)])++be (EV n) n:=by
 unfold BM EL;rw [xC h];rfl
theorem cq {p:Prop}(u:p:=by kernel_rfl):p:=u
section
open Go Go.RowKit Go.ChangeShapes Go.WideShapes Go.Lib
theorem lU:prog.cellsOf 5=1:=by kernel_rfl
theorem a01:0<prog.bytesOf 5:=by rw [show prog.bytesOf 5=1 by kernel_rfl];decide
theorem IH (n:Nat):EJ prog (n+1) 22 (slR DJ 1) 1 (λl=>(l.map λ_=>1).sum+1):=iY Tryz.underlying22 lU yD a01 (Xp Tryz.underlying5)
section
variable {H:Type}{enc:TypeId×Value->H}{W:World}{base:Nat}{v:Value}{d:DataW H}{ps:List MemPlace}
theorem a7s {R:DI α}{sz:Nat}{μ:List α->Nat}{t e:TypeId}(hu:prog.underlying t=some (.slice e)) (ho:∀ n,EJ prog (n+1) t (slR R sz) 1 μ) (Il:Value.okWide prog W .any base t v) (hd:DataW.Trod enc prog W 0 (λ_=>true) true t v d ps)
 (hw:(d.weights prog t).all (·<=reachBytes)=true):∃ a c l,v=.slice a (List.length l) c/\A3 R sz (partOf W) a c l/\μ l<=Rows.uptoBulk d:=by
 obtain⟨n,hn⟩:=hd;cases n with
 |zero=>simp [DataW.trod] at hn
 |succ n =>
  obtain⟨l,_,⟨a,c,Dk,hR⟩,hs⟩:=ho n enc W _ _ hn hw;refine⟨a,c,l,?_,hR,hs⟩;simp only [Value.okWide,hu] at Il;cases v<;>simp [Value.cells] at Dk<;>first|(simp [Dk];done)|(simp [Cell.okWide,Cell.ok,hu] at Il)
end
theorem T5 {W : World} {l : List (String × DataW Unit)} (h : laidMet prog l W) (m3 : ("unicode/utf8.first", Go.Pinned.utf8First) ∈ l) (m4 : ("unicode/utf8.acceptRanges", acceptData) ∈ l) : D_ (partOf W) := by
 obtain⟨g,t,cs,fuel,p,hg,hty,a2v,hd⟩:=laidMet.reads h m3;obtain rfl := Ki ((show prog.globalNamed "unicode/utf8.first" = some 1 by kernel_rfl).symm.trans hg);obtain rfl:=Ki ((show(prog.globals[1]?).map (·.type)=some 357 by kernel_rfl).symm.trans hty);rw [show Go.Pinned.utf8First=firstData by kernel_rfl] at hd;have Dk:=cells_of_tab Tryz.underlying357 Tryz.underlying5 lU cq hd;have h1:∀ c,c<256->W.cell? ⟨1,c,none⟩=some (.int .u8 (firstT c)):=λc hc=>by
  rw [World.var?_cell hg a2v c,<- yX,Dk];simp [firstTab,hc]
 obtain⟨g,t,cs,fuel,p,hg,hty,a2v,hd⟩:=laidMet.reads h m4;obtain rfl := Ki ((show prog.globalNamed "unicode/utf8.acceptRanges" = some 2 by kernel_rfl).symm.trans hg);obtain rfl:=Ki ((show(prog.globals[2]?).map (·.type)=some 360 by kernel_rfl).symm.trans hty);have h2:∀ i,i<16->W.cell? ⟨2,2*i,none⟩=some (.int .u8 (accLo i))/\W.cell? ⟨2,2*i+1,none⟩=some (.int .u8 (accHi i)):=λi hi=>by
  obtain⟨b1O,d,q,hdi,he⟩:=array_elem Tryz.underlying360 hd i hi;simp only [DF,List.getElem?_range hi,AI,au] at hdi;subst hdi;have BO:prog.cellsOf 359=2:=by kernel_rfl
  rw [BO] at he;have Dk:=ints_of_struct Tryz.underlying359 (λj f hj=>by
   match j,hj with
   |0,hj=>simp at hj;subst hj;exact⟨Tryz.underlying5,U,lU⟩
   |1,hj=>simp at hj;subst hj;exact⟨Tryz.underlying5,U,lU⟩
   |j+2,hj=>simp at hj) (by rw [BO];rfl) he
  have e0:=congrArg (·[0]?) Dk;have e1:=congrArg (·[1]?) Dk;simp only [yz,yC] at e0 e1;constructor
  ·rw [World.var?_cell hg a2v (2*i),<- yX];simpa [zP] using e0
  ·rw [World.var?_cell hg a2v (2*i+1),<- yX];simpa [zP] using e1
 obtain⟨C1,k1,_⟩:=fq (h1 0 yD);obtain⟨C2,k2,_⟩:=fq (h2 0 yD).1;have same:∀ {b i v C},partOf W b=some C->W.cell? ⟨b,i,none⟩=some v->C[i]?=some v:=λhC hv=>by
  obtain⟨C',Lm,hi⟩:=fq hv;rw [hC] at Lm;cases Lm;exact hi
 exact⟨C1,C2,k1,k2,λc hc=>same k1 (h1 c hc),λi hi=>⟨same k2 (h2 i hi).1,same k2 (h2 i hi).2⟩⟩
theorem finish {H:Type}{enc:TypeId×Value->H}{ts:List TypeId}{f:Func}{s:ChangeSpec}{apart fresh handsOn again:Bool}{W:World}{args:Array Value}{ds gs:List (DataW H)}{before:List MemPlace}(hp:JM prog ts=true) (Lc:∀ t∈f.params.toList,t∈ts) (a2w:f.resultTypes=#[4]) (hv:s.vars=[])
 (hfn:s.fn H (ds++gs)={ results:=[.lit (.bool true)],args:=ds }) (hW:DataW.Whole enc prog f.params.toList s.vars apart W args.toList ds gs before) (hF:Pure prog F args.toList (partOf W) (.bool true)) :
 Calls prog F args W λe W'=>∃ v,e=.returned v/\s.post enc prog f apart fresh handsOn again W args v W':=by
 have:=hF W (Xu W);rw [Array.toArray_toList] at this;refine this.mono λe w' ⟨h',Lo,⟨u,he,hu,_,_⟩,hO⟩=>?_;subst hu;exact⟨.bool true,he,Tw hp Lc a2w Tryz.underlying4 hv hfn hW hO.os hO.output hO.size (λb hb=>hO.M1 b hb (by simp [keys]))⟩
def Nc (cs:LV):Obj->Obj
 |.cells _ t frozen=>.cells cs.toArray t frozen
 |o=>o
noncomputable def Ik (os:Os):World :=
 { World.holding prog os ⟨#[],#[],[]⟩ with heap:=((World.holding prog os ⟨#[],#[],[]⟩).heap.modify 1 (Nc (firstTab.map λz=>Value.int .u8 z))).modify 2 (Nc ((List.range 16).flatMap λi=>[Value.int .u8 (accLo i),Value.int .u8 (accHi i)])) }
end
abbrev bZ:=@Int.natCast_mul
theorem pj {z:Array Value}{z0:Value}(hz:z=#[z0]) (n:Nat):madeCells z n=(List.replicate n z0).toArray:=by
 subst hz;apply Array.ext
 ·simp [madeCells]
 ·intro i h1 h2;simp [madeCells,Lx]
def mkT (P:Program) (T:Nat):Option (Nat×Value×Nat) :=
 match P.underlying T with
 |some (.slice e)=>match P.info? e with
  |some i=>match i.zero with
   |some z=>match z.cells.toList with
    |[z0]=>if i.size=1 then some (e,z0,i.bytes) else none
    |_=>none
   |none=>none
  |none=>none
 |_=>none
theorem XW {T e bytes:Nat}{z0:Value}(h:mkT P T=some (e,z0,bytes)):P.underlying T=some (.slice e)/\∃ i z,P.info? e=some i/\i.zero=some z/\z.cells=#[z0]/\i.size=1/\i.bytes=bytes:=by
 unfold mkT at h;split at h<;>try cases h
 rename_i e' hT;split at h<;>try cases h
 rename_i i hi;split at h<;>try cases h
 rename_i z hz;split at h<;>try cases h
 rename_i z1 O1;split at h<;>cases h;rename_i hs;exact⟨hT,i,z,hi,hz,by apply Jz;simpa using O1,hs,U⟩
section
variable {f:Fr}{n:yF}{x:Nat->yF}{S:AH}{h:Part}{L L':LE}{ops:Array Oper}{rest:LR}
variable {ty:TypeId}{pos:String}{af:Array Edge}{d:Nat}{v:Value}{T:TypeId}{xo yo:Operand}
theorem JL.Y1 {e bytes m:Nat}{z0:Value}{k1 k2:IntKind}{p q:Int}(hT:mkT f.P T=some (e,z0,bytes)) (hx:ev S xo=some (.int k1 p)) (hy:ev S yo=some (.int k2 q)) (hp:p=(m:Int)) (hq:q=(m:Int)) (hb:bytes*m<=140737488355328) (H3:Nat.blt 0 bytes=true) (hd:Nat.blt d f.m=true)
 (k:∀ b,JL f ops n x rest ((d,.slice (some ⟨b,0,none⟩) m m)::S) h (.row (some ⟨b,0,none⟩) m e 1 m (List.replicate m z0)::L)) :
 JL f ops n x (⟨some d,.makeSlice T xo yo,ty,pos,af,none⟩::rest) S h L:=λa w s=>by
 subst hp hq;obtain⟨hu,i,z,hi,hz,O1,hs,hby⟩:=XW hT;have b1f:0<bytes:=by simpa using H3
 have hmb:m<=bytes*m:=Nat.le_mul_of_pos_left _ b1f;have hbi:(i.bytes:Int)*(m:Int)<=281474976710656:=by
  rw [hby];have:((bytes*m:Nat):Int)<=281474976710656:=by omega
  rwa [bZ] at this
 have hr:=run_make (P:=f.P) w T e i z hu hi hz k1 k2 (m:Int) (m:Int) xE (Int.le_refl _) hbi xE;simp only [CC,hs,DP,pj O1] at hr;have zt:=(s.ok.alloc e (List.replicate m z0)).PU (m:=m) (sz:=1) (by simp) (by simp only [maxLen];omega);refine cx (v:=.slice (some ⟨w.heap.size,0,none⟩) m m) (w':=w.alloc (.cells (List.replicate m z0).toArray e)) U ?_ (k w.heap.size _ _ (s.put hd _ zt));simp [execOp,s.eval hx,s.eval hy,hr]
theorem lg (m:Nat):List.replicate m (Value.int .u8 0)=GO (List.replicate m 0):=by simp [GO]
theorem Ok.WK {e:Env}{a:OA}{c t sz m:Nat}(k:Ok e h L w) (hm:Br.row a c t sz m xs∈L) (h0:0<m):∃ g,a=some ⟨g,0,none⟩:=by
 have F7:w.ownsRow 0 t sz (.slice a m c) m xs:=k.own _ hm;rcases F7.2 with ⟨hv,hl⟩|⟨g,cap,cur,hv,_⟩
 ·omega
 ·injection hv with e1 e2 e3;exact⟨g,e1⟩
theorem xG.Fw {e g ln c m:Nat}{i:Int}(hT:Ig f.P T=some (e,1)) (hx:ev S xo=some (.slice (some ⟨g,0,none⟩) ln c)) (hy:ev S yo=some (.int k i)) (hi:i=(m:Int)) (h1:m<ln) :
 xG f S h L (.indexAddr T xo yo) ty (.pointer (some ⟨g,m,none⟩)):=λac w s _ _ _ _=>by
 exact m70
theorem uy {g c t m i:Nat}(hk:Ok f.e h L w) (hm:Br.row (some ⟨g,0,none⟩) c t 1 m xs∈L) (hi:i<xs.length):w.cell? ⟨g,i,none⟩=xs[i]?:=by
 have F7:w.ownsRow 0 t 1 (.slice (some ⟨g,0,none⟩) m c) m xs:=hk.own _ hm;exact m147
theorem xG.Qj {g c t m i:Nat}(hT:AF f.P T=some none) (hx:ev S xo=some (.pointer (some ⟨g,i,none⟩))) (hm:Br.row (some ⟨g,0,none⟩) c t 1 m xs∈L) (hv:xs[i]?=some v):xG f S h L (.load T xo) ty v:=λac w s _ _ _ _=>by
 have hc:w.cell? ⟨g,i,none⟩=some v:=by rw [uy s.ok hm (xS.1 hv).1,hv]
 exact m148
theorem JL.HH {g c t m i:Nat}(hT:AF f.P T=some none) (hx:ev S xo=some (.pointer (some ⟨g,i,none⟩))) (hy:ev S yo=some v) (hv:v.oneCell'=true) (u:Dt (.row (some ⟨g,0,none⟩) c t 1 m xs) L L') (hi:i<xs.length)
 (k:JL f ops n x rest S h (.row (some ⟨g,0,none⟩) c t 1 m (xs.set i v)::L')):JL f ops n x (⟨none,.store T xo yo,ty,pos,af,none⟩::rest) S h L:=λa w s=>by
 have Gm:=s.ok.perm u.perm;have F7:w.ownsRow 0 t 1 (.slice (some ⟨g,0,none⟩) m c) m xs:=Gm.own _ (aC ..);have K1:w.cell? ⟨g,i,none⟩=some xs[i]:=by rw [uy s.ok u.mem hi,aH hi]
 rcases F7.2 with ⟨V5,_⟩|⟨g',cap,cur,V5,hbg,hg,h1,h2,h3,h4⟩
 ·cases V5
 ·injection V5 with e1 e2 e3;injection e1 with e1;injection e1 with e1;subst e1 e3;have O2:xs.length=m:=by simpa using F7.1
  have hf:=frozen_of_row w g i _ t hg;have e1:w.setCell ⟨g,i,none⟩ v=w.setRow g (cur.setIfInBounds i v):=setCell_eq_setRow w g i _ t _ v hg;have zt:Ok f.e h (.row (some ⟨g,0,none⟩) c t 1 m (xs.set i v)::L') (w.setRow g (cur.setIfInBounds i v)):=by
   refine Gm.MO U U U (by simp) (λb' _ D5=>setRow_other w g b' _ (λe=>D5 (by rw [e];rfl))) ?_ (λb' G5=>.inl G5);refine⟨by simpa using F7.1,.inr ⟨g,c,_,U,hbg,setRow_heap w g _ _ t _ hg,h1,h2,by simpa using h3,?_⟩⟩;have Is:cur.toList.take m=xs:=by simpa using h4
   simp only [DP,Array.toList_setIfInBounds];rw [List.take_set,Is]
  refine ef (w':=w.setRow g (cur.setIfInBounds i v)) U ?_ (k _ _ (s.with zt));have K0:v.cells=#[v]:=by cases v<;>first|rfl|(simp [Value.oneCell'] at hv)
  have DW:(store (Addr.add ⟨g,i,none⟩ 0) v).run f.P w=.ok () (w.setRow g (cur.setIfInBounds i v)):=by
   rw [Addr.add_zero',run_store f.P w _ v _ hv,K1,<- e1];simp [hf]
  exact m131
end
section
variable {f:Fr}{n:yF}{x:Nat->yF}{S:AH}{h:Part}{L L':LE}{ops:Array Oper}{rest:LR}
variable {ty:TypeId}{pos:String}{af:Array Edge}{d:Nat}{v:Value}{T T2:TypeId}{xo yo:Operand}
def over (xs:LV) (o:Nat) (cs:LV):LV:=xs.take o++cs++xs.drop (o+cs.length)
theorem iu {xs cs:LV}{o:Nat}(h:o+cs.length<=xs.length):(over xs o cs).length=xs.length:=by simp [over];omega
theorem T4 (l cs:LV) (o m:Nat) (hm:m<=l.length) (h:o+cs.length<=m):(l.take o++cs++l.drop (o+cs.length)).take m=over (l.take m) o cs:=by
 unfold over;have e1:(l.take m).take o=l.take o:=by rw [List.take_take,Gp xE]
 have e2:(l.take m).drop (o+cs.length)=(l.drop (o+cs.length)).take (m-(o+cs.length)):=by rw [List.drop_take]
 rw [e1,e2,List.take_append,aD (by simp;omega)];congr 2;simp;omega
end
end Go.Proofs.YtilafeifbaaagaaGreatDoor
