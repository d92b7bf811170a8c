/- Parts. -/
import Derived.WalkKit
import Derived.WalkSpells
import Derived.WalkLawsBesides
import Derived.Deep.Quiet
import Derived.Deep.AppendLies
import Derived.ScopeJumps
import Derived.Maps.AppendAt
import Derived.Lib.SpaceU
import Derived.Lib.DecodeN
import Derived.Laws.RangeString
import Derived.Laws.BitsLemmas
import Derived.Laws.Tables
import Derived.Laws.Externs
import Derived.Laws.StructEq
import Derived.Lib.Bytealg
import Derived.Lib.BytesEntry
import Derived.ArgAppend
import Derived.Test.YtojokloclmcloaaGreatDoorCards
import Derived.Test.YtojokloclmcloaaGreatDoorTie
import Derived.ProofKit
import Derived.OpenShut
import Derived.Deep.DeepHandedRow
import Derived.Lib.LaidTab
import Derived.SevenTiedAt
import Derived.Test.YtojokloclmcloaaGreatDoorChecked
import Derived.Test.YtojokloclmcloaaGreatDoorShf
set_option linter.unusedSimpArgs false
set_option linter.unusedVariables false
set_option linter.constructorNameAsVariable false
namespace Go.Proofs.YtojokloclmcloaaGreatDoor
open Go.Proofs.Tryz
open Go Go.RowKit
abbrev LR:=List Oper
abbrev OA:=Option Addr
abbrev LV:=List Value
abbrev LB:=List UInt8
theorem U.{u} {α:Sort u}{a:α}:a=a:=rfl
abbrev aP:=@List.mem_cons_of_mem
abbrev aK:=@List.mem_cons_self
abbrev aB:=@Option.some.injEq
abbrev aq:=@Nat.eq_of_beq_eq_true
abbrev Part:=Nat->Option (Array Value)
def Part.le (h h':Part):Prop:=∀ b c,h b=some c->h' b=some c
theorem Part.le.refl (h:Part):h.le h:=λ_ _ x=>x
abbrev aT:=@Part.le.refl
theorem Part.le.trans {a b c:Part}(h:a.le b) (k:b.le c):a.le c:=λ_ _ x=>k _ _ (h _ _ x)
def Sub (h:Part) (w:World):Prop:=∀ b c,h b=some c->∃ t fr,w.heap[b]?=some (.cells c t fr)
theorem Sub.lt {h:Part}{w:World}(s:Sub h w) {b:Nat}{c:Array Value}(hb:h b=some c):b<w.heap.size:=by
 obtain⟨t,fr,e⟩:=s b c hb;rcases Nat.lt_or_ge b w.heap.size with l|l
 ·exact l
 ·rw [Array.getElem?_eq_none l] at e;cases e
theorem Sub.cell {h:Part}{w:World}(s:Sub h w) {b i:Nat}{c:Array Value}{v:Value}(hb:h b=some c) (hi:c[i]?=some v):w.cell? ⟨b,i,none⟩=some v:=by
 obtain⟨t,fr,e⟩:=s b c hb;simp [World.cell?,e,hi]
inductive Ent where
 |blk (b:Nat) (t:TypeId) (cs:LV)
 |row (a:OA) (c:Nat) (t:TypeId) (sz n:Nat) (xs:LV)
 |it (b:Nat) (s:LB) (pos:Nat)
 |obj (b:Nat) (o:Obj)
abbrev LE:=List Ent
def Ent.key:Ent->Option Nat
 |.blk b _ _=>some b
 |.row a c _ _ n _=>(Value.slice a n c).ownBlock
 |.it b _ _=>some b
 |.obj b _=>some b
def Ent.holds (w:World):Ent->Prop
 |.blk b t cs=>w.heap[b]?=some (.cells cs.toArray t (0,0))
 |.row a c t sz n xs=>w.ownsRow 0 t sz (.slice a n c) n xs
 |.it b s pos=>w.heap[b]?=some (.stringIter ⟨s.toArray⟩ pos)
 |.obj b o=>w.heap[b]?=some o
def keys (L:LE):List Nat:=L.filterMap Ent.key
theorem Ent.lt {w:World}{x:Ent}(h:x.holds w) {b:Nat}(hb:x.key=some b):b<w.heap.size:=by
 cases x with
 |blk b' t cs =>
  simp only [Ent.key,aB] at hb;subst hb;simp only [Ent.holds] at h;rcases Nat.lt_or_ge b' w.heap.size with l|l
  ·exact l
  ·rw [Array.getElem?_eq_none l] at h;cases h
 |row a c t sz n xs=>exact(World.ownsRow.lt (show w.ownsRow 0 t sz (.slice a n c) n xs from h) b hb).2
 |it b' s pos =>
  simp only [Ent.key,aB] at hb;subst hb;simp only [Ent.holds] at h;rcases Nat.lt_or_ge b' w.heap.size with l|l
  ·exact l
  ·rw [Array.getElem?_eq_none l] at h;cases h
 |obj b' o =>
  simp only [Ent.key,aB] at hb;subst hb;simp only [Ent.holds] at h;rcases Nat.lt_or_ge b' w.heap.size with l|l
  ·exact l
  ·rw [Array.getElem?_eq_none l] at h;cases h
theorem Ent.keep {w w':World}{x:Ent}(h:x.holds w) (hk:∀ b,x.key=some b->w'.heap[b]?=w.heap[b]?):x.holds w':=by
 cases x with
 |blk b t cs=>simp only [Ent.holds] at h |-;rw [hk b rfl];exact h
 |it b s pos=>simp only [Ent.holds] at h |-;rw [hk b rfl];exact h
 |obj b o=>simp only [Ent.holds] at h |-;rw [hk b rfl];exact h
 |row a c t sz n xs =>
  obtain⟨h1,h2⟩:=(show w.ownsRow 0 t sz (.slice a n c) n xs from h);refine⟨h1,?_⟩;rcases h2 with h2|⟨g,cap,cur,hv,hg,hh,r⟩
  ·exact .inl h2
  ·exact .inr ⟨g,cap,cur,hv,hg,by rw [hk g (by simp only [Ent.key,hv,Value.ownBlock])];exact hh,r⟩
structure Env where
 w0:World
 may:Nat->Prop
 h0:Part
 ds:List Deferred
structure Ok (e:Env) (h:Part) (L:LE) (w:World):Prop where
 os:w.os=e.w0.os
 tape:w.tape=e.w0.tape
 output:w.output=e.w0.output
 size:e.w0.heap.size<=w.heap.size
 old:∀ b,b<e.w0.heap.size->¬ e.may b->w.heap[b]?=e.w0.heap[b]?
 sub:Sub h w
 le:e.h0.le h
 fresh:∀ b c,h b=some c->e.h0 b=some c\/e.w0.heap.size<=b\/e.may b
 own:∀ x∈L,x.holds w
 key:∀ b∈keys L,h b=none/\(e.w0.heap.size<=b\/e.may b)
 nodup:(keys L).Nodup
theorem ll {L:LE}{x:Ent}{b:Nat}(hx:x∈L) (hb:x.key=some b):b∈keys L:=List.mem_filterMap.2 ⟨x,hx,hb⟩
theorem Ok.drawn {e:Env}{h:Part}{L:LE}{w:World}(k:Ok e h L w) (n:Nat):Ok e h L { w with drawn:=n } :=
 ⟨k.os,k.tape,k.output,k.size,k.old,k.sub,k.le,k.fresh,k.own,k.key,k.nodup⟩
theorem Ok.klt {e:Env}{h:Part}{L:LE}{w:World}(k:Ok e h L w) {b:Nat}(hb:b∈keys L):b<w.heap.size:=by
 obtain⟨x,hx,hxb⟩:=List.mem_filterMap.1 hb;exact Ent.lt (k.own x hx) hxb
theorem Ok.alloc {e:Env}{h:Part}{L:LE}{w:World}(k:Ok e h L w) (t:TypeId) (cs:LV) :
 Ok e h (.blk w.heap.size t cs::L) (w.alloc (.cells cs.toArray t)):=by
 have keepOld:∀ b,b<w.heap.size->(w.alloc (.cells cs.toArray t)).heap[b]?=w.heap[b]?:=λb hb=>Below.heap_alloc _ _ _ hb;refine⟨k.os,k.tape,k.output,by have:=k.size;simp;omega,λb hb hm=>?_,λb c hc=>?_,k.le,k.fresh,λx hx=>?_,λb hb=>?_,?_⟩
 ·rw [keepOld b (Nat.lt_of_lt_of_le hb k.size)];exact k.old b hb hm
 ·obtain⟨t',fr,he⟩:=k.sub b c hc;exact⟨t',fr,by rw [keepOld b (k.sub.lt hc)];exact he⟩
 ·cases hx with
  |head=>exact heap_alloc_new w _
  |tail _ hx=>exact Ent.keep (k.own x hx) λb hb=>keepOld b (Ent.lt (k.own x hx) hb)
 ·simp only [keys,List.filterMap_cons,Ent.key,List.mem_cons] at hb;rcases hb with rfl|hb
  ·refine⟨?_,.inl k.size⟩;cases hh:h w.heap.size with
   |none=>rfl
   |some c=>have:=k.sub.lt hh;omega
  ·exact k.key b hb
 ·simp only [keys,List.filterMap_cons,Ent.key];exact List.nodup_cons.2 ⟨λhm=>by have:=k.klt hm;omega,k.nodup⟩
theorem Ok.drop {e:Env}{h:Part}{L L':LE}{w:World}(k:Ok e h L w) (s:L'.Sublist L):Ok e h L' w :=
 ⟨k.os,k.tape,k.output,k.size,k.old,k.sub,k.le,k.fresh,λx hx=>k.own x (s.subset hx),λb hb=>k.key b ((s.filterMap _).subset hb),(s.filterMap _).nodup k.nodup⟩
theorem qj {L L':LE}(p:L.Perm L'):(keys L).Perm (keys L'):=p.filterMap _
theorem Ok.perm {e:Env}{h:Part}{L L':LE}{w:World}(k:Ok e h L w) (p:L.Perm L'):Ok e h L' w :=
 ⟨k.os,k.tape,k.output,k.size,k.old,k.sub,k.le,k.fresh,λx hx=>k.own x (p.symm.subset hx),λb hb=>k.key b ((qj p.symm).subset hb),(qj p).nodup k.nodup⟩
theorem Ok.turn {e:Env}{h:Part}{x x':Ent}{L:LE}{w w':World}(k:Ok e h (x::L) w) (hos:w'.os=w.os) (htp:w'.tape=w.tape) (hout:w'.output=w.output)
 (hsz:w.heap.size<=w'.heap.size) (hold:∀ b,b<w.heap.size->x.key≠some b->w'.heap[b]?=w.heap[b]?) (hx':x'.holds w')
 (hkey:∀ b,x'.key=some b->x.key=some b\/w.heap.size<=b):Ok e h (x'::L) w':=by
 have kx:∀ b,x.key=some b->b∈keys (x::L):=λb hb=>ll (aK ..) hb;have rest:∀ b∈keys L,x.key≠some b:=λb hb hxb=>by
  have:=k.nodup;simp only [keys,List.filterMap_cons,hxb] at this;exact(List.nodup_cons.1 this).1 hb
 have kL:∀ b∈keys L,b∈keys (x::L):=λb hb=>by
  simp only [keys,List.filterMap_cons];split
  ·exact hb
  ·exact aP _ hb
 refine⟨hos.trans k.os,htp.trans k.tape,hout.trans k.output,Nat.le_trans k.size hsz,λb hb hm=>?_,λb c hc=>?_,k.le,k.fresh,λy hy=>?_,λb hb=>?_,?_⟩
 ·rw [hold b (Nat.lt_of_lt_of_le hb k.size) (λhxb=>by
   rcases(k.key b (kx b hxb)).2 with l|l
   ·omega
   ·exact hm l)]
  exact k.old b hb hm
 ·obtain⟨t',fr,he⟩:=k.sub b c hc;exact⟨t',fr,by rw [hold b (k.sub.lt hc) (λhxb=>by rw [(k.key b (kx b hxb)).1] at hc;cases hc)];exact he⟩
 ·cases hy with
  |head=>exact hx'
  |tail _ hy =>
   have hy':=k.own y (aP _ hy);exact Ent.keep hy' λb hb=>hold b (Ent.lt hy' hb) (rest b (ll hy hb))
 ·simp only [keys,List.filterMap_cons] at hb;split at hb
  ·exact k.key b (kL b hb)
  ·rename_i b' hb';rcases List.mem_cons.1 hb with rfl|hb
   ·rcases hkey b hb' with hxb|hge
    ·exact k.key b (kx b hxb)
    ·refine⟨?_,.inl (Nat.le_trans k.size hge)⟩;cases hh:h b with
     |none=>rfl
     |some c=>have:=k.sub.lt hh;omega
   ·exact k.key b (kL b hb)
 ·simp only [keys,List.filterMap_cons];have hn:(keys L).Nodup:=by
   have:=k.nodup;simp only [keys,List.filterMap_cons] at this;split at this
   ·exact this
   ·exact(List.nodup_cons.1 this).2
  split
  ·exact hn
  ·rename_i b' hb';refine List.nodup_cons.2 ⟨λhm=>?_,hn⟩;rcases hkey b' hb' with hxb|hge
   ·exact rest b' hm hxb
   ·have:=k.klt (kL b' hm);omega
def Part.add (h:Part) (b:Nat) (c:Array Value):Part:=λb'=>if b'=b then some c else h b'
theorem Ok.publish_ {e:Env}{h:Part}{b:Nat}{t:TypeId}{cs:Array Value}{x:Ent}{L:LE}{w:World}(k:Ok e h (x::L) w) (hx:x.key=some b) (hw:w.heap[b]?=some (.cells cs t (0,0))):h.le (h.add b cs)/\Ok e (h.add b cs) L w:=by
 have hb:=k.key b (ll (aK ..) hx);have hle:h.le (h.add b cs):=λb' c hc=>by
  unfold Part.add;split
  ·rename_i heq;subst heq;rw [hb.1] at hc;cases hc
  ·exact hc
 have kd:=k.drop (List.sublist_cons_self _ _);have hnd:b ∉ keys L:=by
  have:=k.nodup;simp only [keys,List.filterMap_cons,hx] at this;exact(List.nodup_cons.1 this).1
 refine⟨hle,kd.os,kd.tape,kd.output,kd.size,kd.old,λb' c hc=>?_,kd.le.trans hle,λb' c hc=>?_,kd.own,λb' hb'=>?_,kd.nodup⟩
 ·unfold Part.add at hc;split at hc
  ·rename_i heq;subst heq;cases hc;exact⟨t,_,hw⟩
  ·exact kd.sub b' c hc
 ·unfold Part.add at hc;split at hc
  ·rename_i heq;subst heq;exact .inr hb.2
  ·exact kd.fresh b' c hc
 ·refine⟨?_,(kd.key b' hb').2⟩;unfold Part.add;rw [if_neg (λheq:b'=b=>hnd (heq ▸ hb'))];exact(kd.key b' hb').1
theorem Ok.publish {e:Env}{h:Part}{b:Nat}{t:TypeId}{cs:LV}{L:LE}{w:World}(k:Ok e h (.blk b t cs::L) w):h.le (h.add b cs.toArray)/\Ok e (h.add b cs.toArray) L w :=
 k.publish_ U (k.own _ (aK ..))
theorem Ok.shrink {e:Env}{h h':Part}{L:LE}{w:World}(k:Ok e h' L w) (hle:h.le h') (h0:e.h0.le h):Ok e h L w :=
 ⟨k.os,k.tape,k.output,k.size,k.old,λb c hc=>k.sub b c (hle b c hc),h0,λb c hc=>k.fresh b c (hle b c hc),k.own,λb hb=>⟨(by
  cases hh:h b with
  |none=>rfl
  |some c=>have:=hle b c hh;rw [(k.key b hb).1] at this;cases this),(k.key b hb).2⟩,k.nodup⟩
theorem Ok.row_nil {e:Env}{h:Part}{L:LE}{w:World}(k:Ok e h L w) (t:TypeId) (sz:Nat):Ok e h (.row none 0 t sz 0 []::L) w :=
 ⟨k.os,k.tape,k.output,k.size,k.old,k.sub,k.le,k.fresh,λx hx=>by
  cases hx with
  |head=>exact World.ownsRow_nil w 0 t sz
  |tail _ hx=>exact k.own x hx,k.key,k.nodup⟩
inductive Del (x:Ent):LE->LE->Prop where
 |here {L:LE}:Del x (x::L) L
 |there {y:Ent} {L L':LE} (u:Del x L L'):Del x (y::L) (y::L')
theorem Del.perm {x:Ent}{L L':LE}(u:Del x L L'):L.Perm (x::L'):=by
 induction u with
 |here=>exact .refl _
 |there u ih=>exact(ih.cons _).trans (.swap ..)
theorem Del.mem {x:Ent}{L L':LE}(u:Del x L L'):x∈L:=u.perm.symm.subset (aK ..)
inductive Parts:LE->LE->LE->Prop where
 |nil {L:LE}:Parts [] L L
 |cons {x:Ent} {Li L L' Lr:LE} (u:Del x L L') (p:Parts Li L' Lr):Parts (x::Li) L Lr
theorem Parts.perm {Li L Lr:LE}(p:Parts Li L Lr):L.Perm (Li++Lr):=by
 induction p with
 |nil=>exact .refl _
 |cons u _ ih=>exact u.perm.trans (ih.cons _)
theorem fF (A B:LE):keys (A++B)=keys A++keys B:=List.filterMap_append
theorem Ok.call {e:Env}{h h':Part}{Li Lr Lo:LE}{w w':World}{ds:List Deferred}(k:Ok e h (Li++Lr) w) (c:Ok ⟨w,(·∈keys Li),h,ds⟩ h' Lo w'):Ok e h' (Lo++Lr) w':=by
 have kn:=k.nodup;rw [fF] at kn;have disj:∀ b∈keys Lr,b ∉ keys Li:=λb hb hi=>(List.nodup_append.1 kn).2.2 b hi b hb U;have memL:∀ b∈keys Li,b∈keys (Li++Lr):=λb hb=>by rw [fF];exact List.mem_append_left _ hb
 have memR:∀ b∈keys Lr,b∈keys (Li++Lr):=λb hb=>by rw [fF];exact List.mem_append_right _ hb
 have hc:=c.le;have same:∀ b,b<w.heap.size->b ∉ keys Li->w'.heap[b]?=w.heap[b]?:=λb hb hn=>c.old b hb hn;have hnone:∀ b∈keys Lr,h' b=none:=λb hb=>by
  cases hh:h' b with
  |none=>rfl
  |some cc =>
   rcases c.fresh b cc hh with h1|h1|h1
   ·have:=(k.key b (memR b hb)).1;simp only at h1;rw [this] at h1;cases h1
   ·have:=k.klt (memR b hb);simp only at h1;omega
   ·exact absurd h1 (disj b hb)
 refine⟨c.os.trans k.os,c.tape.trans k.tape,c.output.trans k.output,Nat.le_trans k.size c.size,λb hb hm=>?_,c.sub,k.le.trans hc,λb cc hcc=>?_,λx hx=>?_,λb hb=>?_,?_⟩
 ·rw [same b (Nat.lt_of_lt_of_le hb k.size) (λhi=>by
   rcases(k.key b (memL b hi)).2 with l|l
   ·omega
   ·exact hm l)]
  exact k.old b hb hm
 ·rcases c.fresh b cc hcc with h1|h1|h1
  ·exact k.fresh b cc h1
  ·exact .inr (.inl (Nat.le_trans k.size h1))
  ·exact .inr (k.key b (memL b h1)).2
 ·rcases List.mem_append.1 hx with hx|hx
  ·exact c.own x hx
  ·have hw:=k.own x (List.mem_append_right _ hx);exact Ent.keep hw λb hb=>same b (Ent.lt hw hb) (disj b (ll hx hb))
 ·rw [fF] at hb;rcases List.mem_append.1 hb with hb|hb
  ·refine⟨(c.key b hb).1,?_⟩;rcases(c.key b hb).2 with l|l
   ·exact .inl (Nat.le_trans k.size l)
   ·exact(k.key b (memL b l)).2
  ·exact⟨hnone b hb,(k.key b (memR b hb)).2⟩
 ·rw [fF];refine List.nodup_append.2 ⟨c.nodup,(List.nodup_append.1 kn).2.1,λb hb b' hb' heq=>?_⟩;subst heq;rcases(c.key b hb).2 with l|l
  ·have:=k.klt (memR b hb');simp only at l;omega
  ·exact disj b hb' l
abbrev Sig:=List (Nat×Value)
def look:Sig->Nat->Option Value
 |[],_=>none
 |(k,v)::r,s=>bif Nat.beq k s then some v else look r s
def ev (S:Sig):Operand->Option Value
 |.tmp t=>look S t
 |.const v=>some v
 |.global g=>some (.pointer (some ⟨g,0,none⟩))
 |.func f=>some (.func (.func f) #[] #[])
def Weak:Sig->Sig->Prop
 |[],_=>True
 |(s,v)::r,S=>look S s=some v/\Weak r S
structure Sat (e:Env) (m:Nat) (S:Sig) (h:Part) (L:LE) (a:Act) (w:World):Prop where
 size:a.tmps.size=m
 slot:∀ s v,look S s=some v->a.tmps[s]?=some v
 ds:a.defers=e.ds
 ok:Ok e h L w
section
variable {e:Env}{m:Nat}{S:Sig}{h:Part}{L:LE}{a:Act}{w:World}
theorem Sat.eval (s:Sat e m S h L a w) {x:Operand}{v:Value}(hx:ev S x=some v):a.eval x=v:=by
 cases x with
 |tmp t=>simp only [ev] at hx;simp [Act.eval,s.slot t v hx]
 |const c=>simp only [ev,aB] at hx;exact hx
 |global g=>simp only [ev,aB] at hx;exact hx
 |func f=>simp only [ev,aB] at hx;exact hx
theorem Sat.put (s:Sat e m S h L a w) {d:Nat}(hd:Nat.blt d m=true) (v:Value) {h':Part}{L':LE}{w':World}(ok:Ok e h' L' w'):Sat e m ((d,v)::S) h' L' (a.put (some d) v) w':=by
 have hlt:d<m:=by simpa using hd
 refine⟨by simp [Act.put,s.size],λt u hu=>?_,by simp [Act.put,s.ds],ok⟩;simp only [look] at hu;cases hb:Nat.beq d t with
 |true =>
  have:d=t:=aq hb;subst this;simp only [hb,cond_true,aB] at hu;subst hu;simp [Act.put,s.size,hlt]
 |false =>
  have:d≠t:=Nat.ne_of_beq_eq_false hb;simp only [hb,cond_false] at hu;simp [Act.put,Array.getElem?_setIfInBounds,this,s.slot t u hu]
theorem Weak.look {S' S:Sig}(hw:Weak S' S) {t:Nat}{v:Value}(h:look S' t=some v):Go.Proofs.YtojokloclmcloaaGreatDoor.look S t=some v:=by
 induction S' with
 |nil=>simp [Go.Proofs.YtojokloclmcloaaGreatDoor.look] at h
 |cons p r ih =>
  obtain⟨k,u⟩:=p;simp only [Go.Proofs.YtojokloclmcloaaGreatDoor.look] at h;cases hb:Nat.beq k t with
  |true =>
   have:k=t:=aq hb;subst this;simp only [hb,cond_true,aB] at h;subst h;exact hw.1
  |false =>
   simp only [hb,cond_false] at h;exact ih hw.2 h
theorem Sat.weak (s:Sat e m S h L a w) {S':Sig}(hw:Weak S' S):Sat e m S' h L a w:=⟨s.size,λt v hv=>s.slot t v (hw.look hv),s.ds,s.ok⟩
theorem Sat.weak' (s:Sat e m S h L a w) {S':Sig}(hw:∀ t v,look S' t=some v->look S t=some v):Sat e m S' h L a w:=⟨s.size,λt v hv=>s.slot t v (hw t v hv),s.ds,s.ok⟩
theorem Sat.with (s:Sat e m S h L a w) {h':Part}{L':LE}{w':World}(ok:Ok e h' L' w'):Sat e m S h' L' a w':=⟨s.size,s.slot,s.ds,ok⟩
end
theorem wpm {P:Program}{c:Code}{Q Q':Exit->Act->World->Prop}{a:Act}{w:World}(h:c.wp P Q a w) (hq:∀ e a w,Q e a w->Q' e a w):c.wp P Q' a w:=Code.wp_mono hq h
abbrev Post:=Sig->Part->LE->Prop
structure Fr where
 P:Program
 e:Env
 m:Nat
 r:Post
 p:List PanicEntry->Post
def Fr.Q (f:Fr) (n:Post) (x:Nat->Post):Exit->Act->World->Prop
 |.normal,a,w=>∃ S h L,Sat f.e f.m S h L a w/\n S h L
 |.exit i,a,w=>∃ S h L,Sat f.e f.m S h L a w/\x i S h L/\i<1000000
 |.ret,a,w=>∃ S h L,Sat f.e f.m S h L a w/\f.r S h L
 |.panic c,a,w=>∃ S h L,Sat f.e f.m S h L a w/\f.p c S h L
 |.goto l,a,w=>∃ S h L,Sat f.e f.m S h L a w/\x (l+1000000) S h L
 |_,_,_=>False
def J (f:Fr) (c:Code) (n:Post) (x:Nat->Post):Post:=λS h L=>∀ a w,Sat f.e f.m S h L a w->c.wp f.P (f.Q n x) a w
def JL (f:Fr) (ops:Array Oper) (n:Post) (x:Nat->Post) (l:LR):Post:=λS h L=>∀ a w,Sat f.e f.m S h L a w->wpList f.P ops (f.Q n x) l a w
section
variable {f:Fr}{n:Post}{x:Nat->Post}{S:Sig}{h:Part}{L:LE}
theorem J.weak {c:Code}(S':Sig) (hw:Weak S' S) (k:J f c n x S' h L):J f c n x S h L:=λa w s=>k a w (s.weak hw)
abbrev bg:=@J.weak
theorem J.skip (k:n S h L):J f .skip n x S h L:=λ_ _ s=>wp_skip ⟨_,_,_,s,k⟩
abbrev aA:=@J.skip
theorem J.seq {c d:Code}(k:J f c (J f d n x) x S h L):J f (.seq c d) n x S h L:=λa w s=>by
 refine wp_seq (wpm (k a w s) (λex a' w' q=>?_));cases ex with
 |normal=>obtain⟨S',h',L',s',k'⟩:=q;exact k' a' w' s'
 |_=>exact q
abbrev az:=@J.seq
theorem J.cond_t {t:Operand}{c d:Code}(ht:ev S t=some (.bool true)) (k1:J f c n x S h L):J f (.cond t c d) n x S h L:=λa w s=>wp_cond_true (s.eval ht) (k1 a w s)
abbrev aY:=@J.cond_t
theorem J.cond_f {t:Operand}{c d:Code}(ht:ev S t=some (.bool false)) (k1:J f d n x S h L):J f (.cond t c d) n x S h L:=λa w s=>wp_cond_false (s.eval ht) (k1 a w s)
abbrev dA:=@J.cond_f
theorem J.block {id:Nat}{c:Code}(k:J f c n (λi=>bif Nat.beq i id then n else x i) S h L) (hid:Nat.blt id 1000000=true:=by rfl):J f (.block id c) n x S h L:=λa w s=>by
 refine wp_block (wpm (k a w s) (λex a' w' q=>?_));cases ex with
 |exit i =>
  obtain⟨S',h',L',s',k',hi⟩:=q;simp only [Exit.inBlock];cases hb:Nat.beq i id with
  |true =>
   have:i=id:=aq hb;simp only [hb,cond_true] at k';rw [if_pos this];exact⟨S',h',L',s',k'⟩
  |false =>
   have:i≠id:=Nat.ne_of_beq_eq_false hb;simp only [hb,cond_false] at k';rw [if_neg this];exact⟨S',h',L',s',k',hi⟩
 |goto l =>
  obtain⟨S',h',L',s',k'⟩:=q;have hlt:id<1000000:=by simpa using hid
  have hne:Nat.beq (l+1000000) id=false:=by
   cases hb:Nat.beq (l+1000000) id with
   |true=>have:=aq hb;omega
   |false=>rfl
  simp only [hne,cond_false] at k';exact⟨S',h',L',s',k'⟩
 |_=>exact q
abbrev aJ:=@J.block
theorem J.exit {i:Nat}(k:x i S h L) (hi:Nat.blt i 1000000=true:=by rfl):J f (.exit i) n x S h L:=λ_ _ s=>wp_exit ⟨_,_,_,s,k,by simpa using hi⟩
abbrev bA:=@J.exit
theorem J.ret (k:f.r S h L):J f .ret n x S h L:=λ_ _ s=>wp_ret ⟨_,_,_,s,k⟩
abbrev dE:=@J.ret
theorem lJ {P:Program}{c:Code}{Q:Exit->Act->World->Prop}(I:Nat->Act->World->Prop)
 (round:∀ t a w,I t a w->c.wp P (Exit.then (λa' w'=>∃ t',t'<t/\I t' a' w') Q) a w) (t:Nat) (a:Act) (w:World) (h₀:I t a w):(Code.loop c).wp P Q a w:=by
 intro b k cs;have key:∀ t a w,I t a w->∃ e a' w',Q e a' w'/\Arrives P (lone (b.at a (.code c::.inLoop c::k)) cs w) b k cs e a' w':=by
  intro t
  induction t using Nat.strongRecOn with
  |_ t ih =>
   intro a w hI;obtain⟨e,a₁,w₁,hq,harr⟩:=round t a w hI b (.inLoop c::k) cs;cases e with
   |normal =>
    obtain⟨t',hlt,hI₁⟩:=hq;obtain⟨e₂,a₂,w₂,hq₂,harr₂⟩:=ih t' hlt a₁ w₁ hI₁;exact⟨e₂,a₂,w₂,hq₂,.of_steps (Steps.trans harr (.one step_inLoop)) harr₂⟩
   |exit id=>exact⟨_,a₁,w₁,hq,.pass (x:=.inLoop c) U (λ_ _=>.inl (by simp)) harr⟩
   |goto l=>exact⟨_,a₁,w₁,hq,.pass (x:=.inLoop c) U (λ_ _=>.inl (by simp)) harr⟩
   |ret=>exact⟨_,a₁,w₁,hq,.pass (x:=.inLoop c) U (λ_ _=>.inl (by simp)) harr⟩
   |panic ch=>exact⟨_,a₁,w₁,hq,.pass (x:=.inLoop c) U (λ_ _=>.inl (by simp)) harr⟩
   |outgrown=>exact⟨_,a₁,w₁,hq,.pass (x:=.inLoop c) U (λ_ _=>.inl (by simp)) harr⟩
 obtain⟨e,a',w',hq,harr⟩:=key t a w h₀;exact⟨e,a',w',hq,.of_steps (.one step_loop) harr⟩
theorem J.loop {c:Code}(I:Nat->Post) (init:∃ t S',Weak S' S/\I t S' h L)
 (round:∀ t S h L,I t S h L->J f c (λS' h' L'=>∃ t',t'<t/\∃ S'',Weak S'' S'/\I t' S'' h' L') x S h L):J f (.loop c) n x S h L:=λa w s=>by
 obtain⟨t,S',hw,hI⟩:=init;refine lJ (λt a w=>∃ S h L,Sat f.e f.m S h L a w/\I t S h L) ?_ t a w ⟨S',h,L,s.weak hw,hI⟩;rintro t a w ⟨S,h,L,s,hI⟩;refine wpm (round t S h L hI a w s) (λex a' w' q=>?_);cases ex with
 |normal=>obtain⟨S',h',L',s',t',hlt,S'',hw,hI'⟩:=q;exact⟨t',hlt,S'',h',L',s'.weak hw,hI'⟩
 |_=>exact q
abbrev bM:=@J.loop
theorem J.cut {c:Code}{n':Post}{x':Nat->Post}(k:J f c n' x' S h L) (hn:∀ S h L,n' S h L->n S h L) (hx:∀ i S h L,x' i S h L->x i S h L):J f c n x S h L:=λa w s =>
 wpm (k a w s) (λex a' w' q=>by
  cases ex with
  |normal=>obtain⟨S',h',L',s',k'⟩:=q;exact⟨S',h',L',s',hn _ _ _ k'⟩
  |exit i=>obtain⟨S',h',L',s',k',hi⟩:=q;exact⟨S',h',L',s',hx _ _ _ _ k',hi⟩
  |goto i=>obtain⟨S',h',L',s',k'⟩:=q;exact⟨S',h',L',s',hx _ _ _ _ k'⟩
  |_=>exact q)
theorem J.meet {c:Code}(A K:Sig) (_:Weak K S) (k1:J f c (λS1 h1 L1=>h1=h/\L1=L/\Weak (A++K) S1) x S h L) (k2:n (A++K) h L):J f c n x S h L :=
 λa w s=>wpm (k1 a w s) (λex a' w' q=>by
  cases ex with
  |normal=>obtain⟨S1,h1,L1,s1,rfl,rfl,hw⟩:=q;exact⟨A++K,_,_,s1.weak hw,k2⟩
  |_=>exact q)
abbrev cJ:=@J.meet
theorem J.region {id:Nat}{l:LR}(k:JL f l.toArray n x l S h L):J f (.region id l.toArray false) n x S h L:=λa w s=>wp_region_lit (k a w s)
theorem JL.nil {ops:Array Oper}(k:n S h L):JL f ops n x [] S h L:=λ_ _ s=>wpList_nil ⟨_,_,_,s,k⟩
abbrev a_:=@JL.nil
theorem JL.weak {ops:Array Oper}{l:LR}(S':Sig) (hw:Weak S' S) (k:JL f ops n x l S' h L):JL f ops n x l S h L:=λa w s=>k a w (s.weak hw)
end
theorem mm_ {x:Ent}{L:LE}(u:x∈L:=by repeat (first|exact aK ..|apply aP)):x∈L:=u
theorem dl_ {x:Ent}{L L':LE}(u:Del x L L':=by repeat (first|exact Del.here|apply Del.there)):Del x L L':=u
theorem pt_ {Li L Lr:LE}(u:Parts Li L Lr:=by repeat first|exact Parts.nil|exact Del.here|apply Del.there|apply Parts.cons):Parts Li L Lr:=u
def RunV (f:Fr) (S:Sig) (h:Part) (L:LE) (q:Op) (ty:TypeId) (v:Value):Prop :=
 ∀ a w,Sat f.e f.m S h L a w->∀ d pos af g,(execOp a.eval ⟨d,q,ty,pos,af,g⟩).run f.P w=.ok (.value v) w
section
variable {f:Fr}{n:Post}{x:Nat->Post}{S:Sig}{h:Part}{L:LE}{ops:Array Oper}{rest:LR}
variable {ty:TypeId}{pos:String}{af:Array Edge}{q:Op}{d:Nat}{v:Value}
theorem kG {o:Oper}{a:Act}{w:World}{Q:Exit->Act->World->Prop}{P:Program}(hw:Region.wanted o (yielded ops a.tmps)=true) (hr:(execOp a.eval o).run P w=.ok (.value v) w)
 (k:wpList P ops Q rest (a.put o.dst v) w):wpList P ops Q (o::rest) a w:=by
 unfold wpList;rw [if_pos hw];exact .inl (by simp only [Oper.wp,hr,Oper.upon];exact k)
theorem JL.op (r:RunV f S h L q ty v) (hd:Nat.blt d f.m=true) (k:JL f ops n x rest ((d,v)::S) h L):JL f ops n x (⟨some d,q,ty,pos,af,none⟩::rest) S h L:=λa w s =>
 kG (v:=v) (by simp [Region.wanted]) (r a w s _ _ _ _) (k _ w (s.put hd v s.ok))
abbrev ah:=@JL.op
theorem dK {a:Act}{w:World}(s:Sat f.e f.m S h L a w) {j dj:Nat}{b:Bool}(hj:(ops[j]?).bind (·.dst)=some dj) (hs:look S dj=some (.bool b)):yielded ops a.tmps j=some b:=by
 simp [yielded,hj,s.slot _ _ hs]
theorem JL.opg {j dj:Nat}{b:Bool}(hj:(ops[j]?).bind (·.dst)=some dj) (hs:look S dj=some (.bool b)) (r:RunV f S h L q ty v) (hd:Nat.blt d f.m=true) (k:JL f ops n x rest ((d,v)::S) h L) :
 JL f ops n x (⟨some d,q,ty,pos,af,some (j,b)⟩::rest) S h L:=λa w s =>
 kG (v:=v) (by simp [Region.wanted,dK s hj hs]) (r a w s _ _ _ _) (k _ w (s.put hd v s.ok))
abbrev aQ:=@JL.opg
theorem JL.skip {j dj:Nat}{b:Bool}(hj:(ops[j]?).bind (·.dst)=some dj) (hs:look S dj=some (.bool (!b))) (hd:Nat.blt d f.m=true) (k:JL f ops n x rest ((d,undef)::S) h L) :
 JL f ops n x (⟨some d,q,ty,pos,af,some (j,b)⟩::rest) S h L:=λa w s=>by
 unfold wpList;rw [if_neg (by simp [Region.wanted,dK s hj hs])];exact k _ w (s.put hd undef s.ok)
abbrev bW:=@JL.skip
theorem Sat.bool {a:Act}{w:World}(s:Sat f.e f.m S h L a w) {t:Nat}{b c:Bool}(ht:look S t=some (.bool b)) (hb:b=c):Sat f.e f.m ((t,.bool c)::S) h L a w :=
 s.weak' λu v hv=>by
  simp only [look] at hv;cases hq:Nat.beq t u with
  |true =>
   have:t=u:=aq hq;subst this;simp only [hq,cond_true,aB] at hv;rw [ht,hb,hv]
  |false=>simpa [hq] using hv
theorem J.bsplit {c:Code}(t:Nat) {b:Bool}(ht:look S t=some (.bool b)) (k1:b=true->J f c n x ((t,.bool true)::S) h L) (k2:b=false->J f c n x ((t,.bool false)::S) h L):J f c n x S h L:=λa w s=>by
 cases hb:b with
 |true=>exact k1 hb a w (s.bool ht hb)
 |false=>exact k2 hb a w (s.bool ht hb)
theorem JL.bsplit {l:LR}(t:Nat) {b:Bool}(ht:look S t=some (.bool b)) (k1:b=true->JL f ops n x l ((t,.bool true)::S) h L) (k2:b=false->JL f ops n x l ((t,.bool false)::S) h L):JL f ops n x l S h L:=λa w s=>by
 cases hb:b with
 |true=>exact k1 hb a w (s.bool ht hb)
 |false=>exact k2 hb a w (s.bool ht hb)
def RunE (f:Fr) (S:Sig) (h:Part) (L:LE) (q:Op) (ty:TypeId) (V:Value->Prop):Prop:=∃ v,RunV f S h L q ty v/\V v
theorem JL.ope {V:Value->Prop}(r:RunE f S h L q ty V) (hd:Nat.blt d f.m=true) (k:∀ v,V v->JL f ops n x rest ((d,v)::S) h L):JL f ops n x (⟨some d,q,ty,pos,af,none⟩::rest) S h L:=by
 obtain⟨v,r,hv⟩:=r;exact ah r hd (k v hv)
abbrev cm:=@JL.ope
theorem JL.opeg {j dj:Nat}{b:Bool}{V:Value->Prop}(hj:(ops[j]?).bind (·.dst)=some dj) (hs:look S dj=some (.bool b)) (r:RunE f S h L q ty V) (hd:Nat.blt d f.m=true) (k:∀ v,V v->JL f ops n x rest ((d,v)::S) h L) :
 JL f ops n x (⟨some d,q,ty,pos,af,some (j,b)⟩::rest) S h L:=by
 obtain⟨v,r,hv⟩:=r;exact aQ hj hs r hd (k v hv)
abbrev cH:=@JL.opeg
def JQ (f:Fr) (ops:Array Oper) (n:Post) (l:LR):Post:=λS h L=>∀ a w,Sat f.e f.m S h L a w ->
 wpQuiet f.P ops (λw'=>Ok f.e h L w') (λa'=>∀ w',Ok f.e h L w'->∃ S',Sat f.e f.m S' h L a' w'/\n S' h L) l a
theorem JQ.nil (k:n S h L):JQ f ops n [] S h L:=λa w s=>wpQuiet_nil λw' hw'=>⟨S,s.with hw',k⟩
abbrev eH:=@JQ.nil
theorem JQ.op (r:RunV f S h L q ty v) (hd:Nat.blt d f.m=true) (k:JQ f ops n rest ((d,v)::S) h L):JQ f ops n (⟨some d,q,ty,pos,af,none⟩::rest) S h L:=λa w s=>by
 unfold wpQuiet;rw [if_pos (by simp [Region.wanted])];exact⟨v,λw' hw'=>by simp only [Oper.quietAt,r a w' (s.with hw'),Oper.quietUpon,and_self],k _ w (s.put hd v s.ok)⟩
abbrev cq:=@JQ.op
theorem JQ.ope {V:Value->Prop}(r:RunE f S h L q ty V) (hd:Nat.blt d f.m=true) (k:∀ v,V v->JQ f ops n rest ((d,v)::S) h L):JQ f ops n (⟨some d,q,ty,pos,af,none⟩::rest) S h L:=by
 obtain⟨v,r,hv⟩:=r;exact cq r hd (k v hv)
abbrev du:=@JQ.ope
theorem JQ.opg {j dj:Nat}{b:Bool}(hj:(ops[j]?).bind (·.dst)=some dj) (hs:look S dj=some (.bool b)) (r:RunV f S h L q ty v) (hd:Nat.blt d f.m=true) (k:JQ f ops n rest ((d,v)::S) h L) :
 JQ f ops n (⟨some d,q,ty,pos,af,some (j,b)⟩::rest) S h L:=λa w s=>by
 unfold wpQuiet;rw [if_pos (by simp [Region.wanted,dK s hj hs])];exact⟨v,λw' hw'=>by simp only [Oper.quietAt,r a w' (s.with hw'),Oper.quietUpon,and_self],k _ w (s.put hd v s.ok)⟩
abbrev dx:=@JQ.opg
theorem JQ.opeg {j dj:Nat}{b:Bool}{V:Value->Prop}(hj:(ops[j]?).bind (·.dst)=some dj) (hs:look S dj=some (.bool b)) (r:RunE f S h L q ty V) (hd:Nat.blt d f.m=true) (k:∀ v,V v->JQ f ops n rest ((d,v)::S) h L) :
 JQ f ops n (⟨some d,q,ty,pos,af,some (j,b)⟩::rest) S h L:=by
 obtain⟨v,r,hv⟩:=r;exact dx hj hs r hd (k v hv)
theorem JQ.skip {j dj:Nat}{b:Bool}(hj:(ops[j]?).bind (·.dst)=some dj) (hs:look S dj=some (.bool (!b))) (hd:Nat.blt d f.m=true) (k:JQ f ops n rest ((d,undef)::S) h L) :
 JQ f ops n (⟨some d,q,ty,pos,af,some (j,b)⟩::rest) S h L:=λa w s=>by
 unfold wpQuiet;rw [if_neg (by simp [Region.wanted,dK s hj hs])];exact k _ w (s.put hd undef s.ok)
theorem gF {P:Program}{C:World->Prop}{Q Q':Act->Prop}(hq:∀ a,Q a->Q' a):∀ (l:LR) (a:Act),wpQuiet P ops C Q l a->wpQuiet P ops C Q' l a
 |[],a,hh=>hq a hh
 |o::l,a,hh=>by
  unfold wpQuiet at hh |-
  split
  ·rename_i hw;rw [if_pos hw] at hh;obtain⟨v,h1,h2⟩:=hh;exact⟨v,h1,gF hq l _ h2⟩
  ·rename_i hw;rw [if_neg hw] at hh;exact gF hq l _ hh
theorem JQ.bsplit {l:LR}(t:Nat) {b:Bool}(ht:look S t=some (.bool b)) (k1:b=true->JQ f ops n l ((t,.bool true)::S) h L) (k2:b=false->JQ f ops n l ((t,.bool false)::S) h L):JQ f ops n l S h L:=λa w s=>by
 cases hb:b with
 |true=>exact k1 hb a w (s.bool ht hb)
 |false=>exact k2 hb a w (s.bool ht hb)
theorem J.drawn {id:Nat}{l:LR}(hm:f.P.follows .mixedOrders=true) (hB:Region.lexB .any l.toArray=true) (k:JQ f l.toArray n l S h L):J f (.region id l.toArray true) n x S h L:=λa w s =>
 wp_region_quiet (C:=λw'=>Ok f.e h L w') hm hB (s.ok.drawn _) (by
  simp only [List.toList_toArray];exact gF (λa' hh w' hw'=>by obtain⟨S',s',k'⟩:=hh w' hw';exact⟨S',h,L,s',k'⟩) _ _ (k a w s))
abbrev de:=@J.drawn
end
theorem z2_ {p:Prop}(u:p:=by omega):p:=u
def convI (P:Program) (src dst:TypeId):Option IntKind :=
 match (P.underlying src).isSome,P.underlying dst with
 |true,some (.int k)=>some k
 |_,_=>none
def fieldOff (P:Program) (T i:Nat):Option Nat :=
 match P.underlying T with
 |some (.struct fs)=>match fs[i]? with
  |some fd=>match P.info? fd.type with
   |some inf=>if inf.size=0 then none else some fd.offset
   |none=>none
  |none=>none
 |_=>none
section
variable {f:Fr}{S:Sig}{h:Part}{L:LE}{ty:TypeId}
theorem RunV.move {x:Operand}{v:Value}(hx:ev S x=some v):RunV f S h L (.move x) ty v:=λa w s _ _ _ _=>by simp [execOp,s.eval hx]
abbrev aO:=@RunV.move
theorem RunV.assign {x:Operand}{v:Value}(hx:ev S x=some v):RunV f S h L (.assign x) ty v:=λa w s _ _ _ _=>by simp [execOp,s.eval hx]
abbrev bS:=@RunV.assign
theorem RunV.pick_t {c x y:Operand}{v:Value}(hc:ev S c=some (.bool true)) (hx:ev S x=some v):RunV f S h L (.pick c x y) ty v:=λa w s _ _ _ _=>by simp [execOp,s.eval hx,s.eval hc,asBool]
abbrev cU:=@RunV.pick_t
theorem RunV.pick_f {c x y:Operand}{v:Value}(hc:ev S c=some (.bool false)) (hx:ev S y=some v):RunV f S h L (.pick c x y) ty v:=λa w s _ _ _ _=>by simp [execOp,s.eval hx,s.eval hc,asBool]
abbrev bp:=@RunV.pick_f
theorem RunV.not_ {x:Operand}{b:Bool}{T:TypeId}(hx:ev S x=some (.bool b)):RunV f S h L (.unOp .not T x) ty (.bool (!b)):=λa w s _ _ _ _=>by simp [execOp,s.eval hx,Op.unary]
theorem RunV.nilCheck {x:Operand}{a0:Addr}(hx:ev S x=some (.pointer (some a0))):RunV f S h L (.nilCheck x) ty (.pointer (some a0)):=λa w s _ _ _ _=>by simp [execOp,s.eval hx]
abbrev eh:=@RunV.nilCheck
theorem RunV.extract {x:Operand}{vs:Array Value}{i:Nat}{v:Value}(hx:ev S x=some (.tuple vs)) (hi:vs[i]?=some v):RunV f S h L (.extract x i) ty v:=λa w s _ _ _ _=>by simp [execOp,s.eval hx,Instr.extract,hi]
theorem RunV.bin {o:BinOp}{T yt:TypeId}{x y:Operand}{u v r:Value}(hx:ev S x=some u) (hy:ev S y=some v)
 (hr:∀ w,(do eqGuard o T x y u v;binOp o T u v:Sem Value).run f.P w=.ok r w):RunV f S h L (.binOp o T x y yt) ty r:=λa w s _ _ _ _=>by
 have:=hr w;simp only [execOp,s.eval hx,s.eval hy];simp only [Sem.run_bind] at this |-
 cases hg:(eqGuard o T x y u v).run f.P w with
 |halt hh w'=>rw [hg] at this;cases this
 |ok u' w' =>
  rw [hg] at this;simp only [Result.andThen] at this |-
  rw [this];simp
abbrev cX:=@RunV.bin
section ints
variable {T yt:TypeId}{x y:Operand}{k:IntKind}{p q:Int}
theorem RunV.add (hx:ev S x=some (.int k p)) (hy:ev S y=some (.int k q)):RunV f S h L (.binOp .add T x y yt) ty (.int k (k.wrap (p+q))):=cX hx hy λw=>by simp [go_sem,Op.intArith]
theorem RunV.sub (hx:ev S x=some (.int k p)) (hy:ev S y=some (.int k q)):RunV f S h L (.binOp .sub T x y yt) ty (.int k (k.wrap (p-q))):=cX hx hy λw=>by simp [go_sem,Op.intArith]
abbrev dW:=@RunV.sub
theorem RunV.mul (hx:ev S x=some (.int k p)) (hy:ev S y=some (.int k q)):RunV f S h L (.binOp .mul T x y yt) ty (.int k (k.wrap (p*q))):=cX hx hy λw=>by simp [go_sem,Op.intArith]
theorem RunV.quo (hx:ev S x=some (.int k p)) (hy:ev S y=some (.int k q)) (hq:q≠0):RunV f S h L (.binOp .quo T x y yt) ty (.int k (k.wrap (p.tdiv q))):=cX hx hy λw=>by simp [go_sem,Op.intDiv,hq]
theorem RunV.rem (hx:ev S x=some (.int k p)) (hy:ev S y=some (.int k q)) (hq:q≠0):RunV f S h L (.binOp .rem T x y yt) ty (.int k (p.tmod q)):=cX hx hy λw=>by simp [go_sem,Op.intDiv,hq]
theorem RunV.and_ (hx:ev S x=some (.int k p)) (hy:ev S y=some (.int k q)):RunV f S h L (.binOp .and T x y yt) ty (.int k (bits .and k p q)):=cX hx hy λw=>by simp [go_sem]
theorem RunV.or_ (hx:ev S x=some (.int k p)) (hy:ev S y=some (.int k q)):RunV f S h L (.binOp .or T x y yt) ty (.int k (bits .or k p q)):=cX hx hy λw=>by simp [go_sem]
theorem RunV.shr {yk:IntKind}(hx:ev S x=some (.int k p)) (hy:ev S y=some (.int yk q)) (h0:0<=q) (h1:q<=k.bits):RunV f S h L (.binOp .shr T x y yt) ty (.int k (p / 2 ^ q.toNat)) :=
 cX hx hy λw=>by rw [binOp_shr,shift_shr k yk p q h0 h1];simp [go_sem]
theorem RunV.shl {yk:IntKind}(hx:ev S x=some (.int k p)) (hy:ev S y=some (.int yk q)) (h0:0<=q) (h1:q<=k.bits):RunV f S h L (.binOp .shl T x y yt) ty (.int k (k.wrap (p*2 ^ q.toNat))) :=
 cX hx hy λw=>by rw [binOp_shl,shift_shl k yk p q h0 h1];simp [go_sem]
theorem RunV.lss (hx:ev S x=some (.int k p)) (hy:ev S y=some (.int k q)):RunV f S h L (.binOp .lss T x y yt) ty (.bool (decide (p<q))):=cX hx hy λw=>by simp [go_sem]
theorem RunV.leq (hx:ev S x=some (.int k p)) (hy:ev S y=some (.int k q)):RunV f S h L (.binOp .leq T x y yt) ty (.bool (decide (p<=q))):=cX hx hy λw=>by simp [go_sem]
theorem RunV.gtr (hx:ev S x=some (.int k p)) (hy:ev S y=some (.int k q)):RunV f S h L (.binOp .gtr T x y yt) ty (.bool (decide (q<p))):=cX hx hy λw=>by simp [go_sem]
theorem RunV.geq (hx:ev S x=some (.int k p)) (hy:ev S y=some (.int k q)):RunV f S h L (.binOp .geq T x y yt) ty (.bool (decide (q<=p))):=cX hx hy λw=>by simp [go_sem]
theorem RunV.eql (hx:ev S x=some (.int k p)) (hy:ev S y=some (.int k q)):RunV f S h L (.binOp .eql T x y yt) ty (.bool (decide (p=q))):=cX hx hy λw=>by simp [go_sem];rfl
theorem RunV.neq (hx:ev S x=some (.int k p)) (hy:ev S y=some (.int k q)):RunV f S h L (.binOp .neq T x y yt) ty (.bool (decide (p≠q))):=cX hx hy λw=>by simp [go_sem];by_cases hpq:p=q<;>simp [hpq,bne]
theorem RunV.conv {src dst:TypeId}{k':IntKind}(hc:convI f.P src dst=some k') (hx:ev S x=some (.int k p)) :
 RunV f S h L (.convert src dst x) ty (.int k' (k'.wrap p)):=λa w s _ _ _ _=>by
 unfold convI at hc;split at hc<;>try cases hc
 rename_i k0 hs hd;obtain⟨ds,hs⟩:=Option.isSome_iff_exists.1 hs;simp [execOp,s.eval hx,convert,run_underlying hs,run_underlying hd,Conv.intToInt]
abbrev cL:=@RunV.conv
end ints
section bools
variable {T yt:TypeId}{x y:Operand}{p q:Bool}
theorem RunV.eqlB (hT:f.P.underlying T=some .bool) (hx:ev S x=some (.bool p)) (hy:ev S y=some (.bool q)):RunV f S h L (.binOp .eql T x y yt) ty (.bool (p == q)) :=
 cX hx hy λw=>by simp [go_sem,run_eql_bool w T p q hT]
theorem RunV.neqB (hT:f.P.underlying T=some .bool) (hx:ev S x=some (.bool p)) (hy:ev S y=some (.bool q)):RunV f S h L (.binOp .neq T x y yt) ty (.bool (!(p == q))) :=
 cX hx hy λw=>by simp [go_sem,run_neq_bool w T p q hT]
end bools
theorem RunV.fieldAddr {T:TypeId}{x:Operand}{i o:Nat}{a0:Addr}(hf:fieldOff f.P T i=some o) (hx:ev S x=some (.pointer (some a0))):RunV f S h L (.fieldAddr T x i) ty (.pointer (some (a0.add o))):=λa w s _ _ _ _=>by
 unfold fieldOff at hf;split at hf<;>try cases hf
 rename_i fs hT;split at hf<;>try cases hf
 rename_i fd hfd;split at hf<;>try cases hf
 rename_i inf hi;split at hf<;>cases hf;rename_i hz;simp [execOp,s.eval hx,Instr.fieldAt,run_underlying hT,hfd,Instr.sureAddr,fieldPlace,sizeOf,typeInfo,hi,hz]
end
theorem fM (n:Int) (h0:-9223372036854775808<=n) (h1:n<=9223372036854775807):IntKind.i64.wrap n=n:=by unfold IntKind.wrap;simp [IntKind.signed,IntKind.bits];omega
theorem wrap_i32 (n:Int) (h0:-2147483648<=n) (h1:n<=2147483647):IntKind.i32.wrap n=n:=by unfold IntKind.wrap;simp [IntKind.signed,IntKind.bits];omega
theorem lI (n:Int) (h0:0<=n) (h1:n<=255):IntKind.u8.wrap n=n:=by unfold IntKind.wrap;simp [IntKind.signed,IntKind.bits];omega
theorem wrap_u16 (n:Int) (h0:0<=n) (h1:n<=65535):IntKind.u16.wrap n=n:=by unfold IntKind.wrap;simp [IntKind.signed,IntKind.bits];omega
theorem sS (n:Int) (h0:0<=n) (h1:n<=4294967295):IntKind.u32.wrap n=n:=by unfold IntKind.wrap;simp [IntKind.signed,IntKind.bits];omega
theorem ge (n:Int) (h0:0<=n) (h1:n<=18446744073709551615):IntKind.u64.wrap n=n:=by unfold IntKind.wrap;simp [IntKind.signed,IntKind.bits];omega
theorem RunV.add_i64 {f:Fr}{S:Sig}{h:Part}{L:LE}{ty T yt:TypeId}{x y:Operand}{p q:Int}(hx:ev S x=some (.int .i64 p)) (hy:ev S y=some (.int .i64 q)) (h0:-9223372036854775808<=p+q) (h1:p+q<=9223372036854775807):RunV f S h L (.binOp .add T x y yt) ty (.int .i64 (p+q)):=by
 have:=RunV.add (f:=f) (h:=h) (L:=L) (ty:=ty) (T:=T) (yt:=yt) hx hy;rwa [fM _ h0 h1] at this
theorem RunV.add_u8 {f:Fr}{S:Sig}{h:Part}{L:LE}{ty T yt:TypeId}{x y:Operand}{p q:Int}(hx:ev S x=some (.int .u8 p)) (hy:ev S y=some (.int .u8 q)) (h0:0<=p+q) (h1:p+q<=255):RunV f S h L (.binOp .add T x y yt) ty (.int .u8 (p+q)):=by
 have:=RunV.add (f:=f) (h:=h) (L:=L) (ty:=ty) (T:=T) (yt:=yt) hx hy;rwa [lI _ h0 h1] at this
theorem RunV.add_u64 {f:Fr}{S:Sig}{h:Part}{L:LE}{ty T yt:TypeId}{x y:Operand}{p q:Int}(hx:ev S x=some (.int .u64 p)) (hy:ev S y=some (.int .u64 q)) (h0:0<=p+q) (h1:p+q<=18446744073709551615):RunV f S h L (.binOp .add T x y yt) ty (.int .u64 (p+q)):=by
 have:=RunV.add (f:=f) (h:=h) (L:=L) (ty:=ty) (T:=T) (yt:=yt) hx hy;rwa [ge _ h0 h1] at this
theorem RunV.sub_i64 {f:Fr}{S:Sig}{h:Part}{L:LE}{ty T yt:TypeId}{x y:Operand}{p q:Int}(hx:ev S x=some (.int .i64 p)) (hy:ev S y=some (.int .i64 q)) (h0:-9223372036854775808<=p-q) (h1:p-q<=9223372036854775807):RunV f S h L (.binOp .sub T x y yt) ty (.int .i64 (p-q)):=by
 have:=dW (f:=f) (h:=h) (L:=L) (ty:=ty) (T:=T) (yt:=yt) hx hy;rwa [fM _ h0 h1] at this
theorem RunV.sub_i32 {f:Fr}{S:Sig}{h:Part}{L:LE}{ty T yt:TypeId}{x y:Operand}{p q:Int}(hx:ev S x=some (.int .i32 p)) (hy:ev S y=some (.int .i32 q)) (h0:-2147483648<=p-q) (h1:p-q<=2147483647):RunV f S h L (.binOp .sub T x y yt) ty (.int .i32 (p-q)):=by
 have:=dW (f:=f) (h:=h) (L:=L) (ty:=ty) (T:=T) (yt:=yt) hx hy;rwa [wrap_i32 _ h0 h1] at this
theorem RunV.sub_u8 {f:Fr}{S:Sig}{h:Part}{L:LE}{ty T yt:TypeId}{x y:Operand}{p q:Int}(hx:ev S x=some (.int .u8 p)) (hy:ev S y=some (.int .u8 q)) (h0:0<=p-q) (h1:p-q<=255):RunV f S h L (.binOp .sub T x y yt) ty (.int .u8 (p-q)):=by
 have:=dW (f:=f) (h:=h) (L:=L) (ty:=ty) (T:=T) (yt:=yt) hx hy;rwa [lI _ h0 h1] at this
theorem RunV.sub_u64 {f:Fr}{S:Sig}{h:Part}{L:LE}{ty T yt:TypeId}{x y:Operand}{p q:Int}(hx:ev S x=some (.int .u64 p)) (hy:ev S y=some (.int .u64 q)) (h0:0<=p-q) (h1:p-q<=18446744073709551615):RunV f S h L (.binOp .sub T x y yt) ty (.int .u64 (p-q)):=by
 have:=dW (f:=f) (h:=h) (L:=L) (ty:=ty) (T:=T) (yt:=yt) hx hy;rwa [ge _ h0 h1] at this
theorem RunV.mul_i64 {f:Fr}{S:Sig}{h:Part}{L:LE}{ty T yt:TypeId}{x y:Operand}{p q:Int}(hx:ev S x=some (.int .i64 p)) (hy:ev S y=some (.int .i64 q)) (h0:-9223372036854775808<=p*q) (h1:p*q<=9223372036854775807):RunV f S h L (.binOp .mul T x y yt) ty (.int .i64 (p*q)):=by
 have:=RunV.mul (f:=f) (h:=h) (L:=L) (ty:=ty) (T:=T) (yt:=yt) hx hy;rwa [fM _ h0 h1] at this
theorem RunV.mul_u64 {f:Fr}{S:Sig}{h:Part}{L:LE}{ty T yt:TypeId}{x y:Operand}{p q:Int}(hx:ev S x=some (.int .u64 p)) (hy:ev S y=some (.int .u64 q)) (h0:0<=p*q) (h1:p*q<=18446744073709551615):RunV f S h L (.binOp .mul T x y yt) ty (.int .u64 (p*q)):=by
 have:=RunV.mul (f:=f) (h:=h) (L:=L) (ty:=ty) (T:=T) (yt:=yt) hx hy;rwa [ge _ h0 h1] at this
theorem RunV.conv_i64 {f:Fr}{S:Sig}{h:Part}{L:LE}{ty src dst:TypeId}{x:Operand}{k:IntKind}{p:Int}(hc:convI f.P src dst=some .i64) (hx:ev S x=some (.int k p)) (h0:-9223372036854775808<=p) (h1:p<=9223372036854775807):RunV f S h L (.convert src dst x) ty (.int .i64 p):=by
 have:=cL (f:=f) (h:=h) (L:=L) (ty:=ty) hc hx;rwa [fM _ h0 h1] at this
theorem RunV.convb_i64 {f:Fr}{S:Sig}{h:Part}{L:LE}{ty src dst:TypeId}{x:Operand}{k:IntKind}{b:UInt8}(hc:convI f.P src dst=some .i64) (hx:ev S x=some (.int k (b.toNat:Int))):RunV f S h L (.convert src dst x) ty (.int .i64 (b.toNat:Int)):=by
 have:=UInt8.toNat_lt b;exact RunV.conv_i64 hc hx z2_ z2_
theorem RunV.conv_u8 {f:Fr}{S:Sig}{h:Part}{L:LE}{ty src dst:TypeId}{x:Operand}{k:IntKind}{p:Int}(hc:convI f.P src dst=some .u8) (hx:ev S x=some (.int k p)) (h0:0<=p) (h1:p<=255):RunV f S h L (.convert src dst x) ty (.int .u8 p):=by
 have:=cL (f:=f) (h:=h) (L:=L) (ty:=ty) hc hx;rwa [lI _ h0 h1] at this
theorem RunV.conv_u16 {f:Fr}{S:Sig}{h:Part}{L:LE}{ty src dst:TypeId}{x:Operand}{k:IntKind}{p:Int}(hc:convI f.P src dst=some .u16) (hx:ev S x=some (.int k p)) (h0:0<=p) (h1:p<=65535):RunV f S h L (.convert src dst x) ty (.int .u16 p):=by
 have:=cL (f:=f) (h:=h) (L:=L) (ty:=ty) hc hx;rwa [wrap_u16 _ h0 h1] at this
theorem RunV.convb_u16 {f:Fr}{S:Sig}{h:Part}{L:LE}{ty src dst:TypeId}{x:Operand}{k:IntKind}{b:UInt8}(hc:convI f.P src dst=some .u16) (hx:ev S x=some (.int k (b.toNat:Int))):RunV f S h L (.convert src dst x) ty (.int .u16 (b.toNat:Int)):=by
 have:=UInt8.toNat_lt b;exact RunV.conv_u16 hc hx z2_ z2_
theorem RunV.conv_u32 {f:Fr}{S:Sig}{h:Part}{L:LE}{ty src dst:TypeId}{x:Operand}{k:IntKind}{p:Int}(hc:convI f.P src dst=some .u32) (hx:ev S x=some (.int k p)) (h0:0<=p) (h1:p<=4294967295):RunV f S h L (.convert src dst x) ty (.int .u32 p):=by
 have:=cL (f:=f) (h:=h) (L:=L) (ty:=ty) hc hx;rwa [sS _ h0 h1] at this
theorem RunV.conv_u64 {f:Fr}{S:Sig}{h:Part}{L:LE}{ty src dst:TypeId}{x:Operand}{k:IntKind}{p:Int}(hc:convI f.P src dst=some .u64) (hx:ev S x=some (.int k p)) (h0:0<=p) (h1:p<=18446744073709551615):RunV f S h L (.convert src dst x) ty (.int .u64 p):=by
 have:=cL (f:=f) (h:=h) (L:=L) (ty:=ty) hc hx;rwa [ge _ h0 h1] at this
abbrev dJ:=@RunV.conv_u64
theorem RunV.convb_u64 {f:Fr}{S:Sig}{h:Part}{L:LE}{ty src dst:TypeId}{x:Operand}{k:IntKind}{b:UInt8}(hc:convI f.P src dst=some .u64) (hx:ev S x=some (.int k (b.toNat:Int))):RunV f S h L (.convert src dst x) ty (.int .u64 (b.toNat:Int)):=by
 have:=UInt8.toNat_lt b;exact dJ hc hx z2_ z2_
theorem RunV.convw_u64 {f:Fr}{S:Sig}{h:Part}{L:LE}{ty src dst:TypeId}{x:Operand}{k:IntKind}{b:UInt32}(hc:convI f.P src dst=some .u64) (hx:ev S x=some (.int k (b.toNat:Int))):RunV f S h L (.convert src dst x) ty (.int .u64 (b.toNat:Int)):=by
 have:=UInt32.toNat_lt b;exact dJ hc hx z2_ z2_
theorem RunV.quo_i64 {f:Fr}{S:Sig}{h:Part}{L:LE}{ty T yt:TypeId}{x y:Operand}{p q:Int}(hx:ev S x=some (.int .i64 p)) (hy:ev S y=some (.int .i64 q)) (h0:0<=p) (h1:p<=9223372036854775807) (hq:0<q):RunV f S h L (.binOp .quo T x y yt) ty (.int .i64 (p / q)):=by
 have:=RunV.quo (f:=f) (h:=h) (L:=L) (ty:=ty) (T:=T) (yt:=yt) hx hy z2_;have h2:0<=p / q:=Int.ediv_nonneg h0 z2_;have h3:p / q<=p:=Int.ediv_le_self _ h0;rwa [Int.tdiv_eq_ediv_of_nonneg h0,fM _ z2_ z2_] at this
theorem RunV.rem_i64 {f:Fr}{S:Sig}{h:Part}{L:LE}{ty T yt:TypeId}{x y:Operand}{p q:Int}(hx:ev S x=some (.int .i64 p)) (hy:ev S y=some (.int .i64 q)) (h0:0<=p) (hq:0<q):RunV f S h L (.binOp .rem T x y yt) ty (.int .i64 (p % q)):=by
 have:=RunV.rem (f:=f) (h:=h) (L:=L) (ty:=ty) (T:=T) (yt:=yt) hx hy z2_;rwa [Int.tmod_eq_emod_of_nonneg h0] at this
theorem RunV.rem_u8 {f:Fr}{S:Sig}{h:Part}{L:LE}{ty T yt:TypeId}{x y:Operand}{p q:Int}(hx:ev S x=some (.int .u8 p)) (hy:ev S y=some (.int .u8 q)) (h0:0<=p) (hq:0<q):RunV f S h L (.binOp .rem T x y yt) ty (.int .u8 (p % q)):=by
 have:=RunV.rem (f:=f) (h:=h) (L:=L) (ty:=ty) (T:=T) (yt:=yt) hx hy z2_;rwa [Int.tmod_eq_emod_of_nonneg h0] at this
theorem RunV.rem_u32 {f:Fr}{S:Sig}{h:Part}{L:LE}{ty T yt:TypeId}{x y:Operand}{p q:Int}(hx:ev S x=some (.int .u32 p)) (hy:ev S y=some (.int .u32 q)) (h0:0<=p) (hq:0<q):RunV f S h L (.binOp .rem T x y yt) ty (.int .u32 (p % q)):=by
 have:=RunV.rem (f:=f) (h:=h) (L:=L) (ty:=ty) (T:=T) (yt:=yt) hx hy z2_;rwa [Int.tmod_eq_emod_of_nonneg h0] at this
theorem RunV.quo_u64 {f:Fr}{S:Sig}{h:Part}{L:LE}{ty T yt:TypeId}{x y:Operand}{p q:Int}(hx:ev S x=some (.int .u64 p)) (hy:ev S y=some (.int .u64 q)) (h0:0<=p) (h1:p<=18446744073709551615) (hq:0<q):RunV f S h L (.binOp .quo T x y yt) ty (.int .u64 (p / q)):=by
 have:=RunV.quo (f:=f) (h:=h) (L:=L) (ty:=ty) (T:=T) (yt:=yt) hx hy z2_;have h2:0<=p / q:=Int.ediv_nonneg h0 z2_;have h3:p / q<=p:=Int.ediv_le_self _ h0;rwa [Int.tdiv_eq_ediv_of_nonneg h0,ge _ z2_ z2_] at this
theorem RunV.rem_u64 {f:Fr}{S:Sig}{h:Part}{L:LE}{ty T yt:TypeId}{x y:Operand}{p q:Int}(hx:ev S x=some (.int .u64 p)) (hy:ev S y=some (.int .u64 q)) (h0:0<=p) (hq:0<q):RunV f S h L (.binOp .rem T x y yt) ty (.int .u64 (p % q)):=by
 have:=RunV.rem (f:=f) (h:=h) (L:=L) (ty:=ty) (T:=T) (yt:=yt) hx hy z2_;rwa [Int.tmod_eq_emod_of_nonneg h0] at this
theorem RunV.shr_u8 {f:Fr}{S:Sig}{h:Part}{L:LE}{ty T yt:TypeId}{x y:Operand}{p q:Int}{yk:IntKind}(D:Int) (hx:ev S x=some (.int .u8 p)) (hy:ev S y=some (.int yk q)) (h0:0<=q) (h1:q<=8) (hD:(2:Int) ^ q.toNat=D):RunV f S h L (.binOp .shr T x y yt) ty (.int .u8 (p / D)):=by
 subst hD;exact RunV.shr hx hy h0 h1
theorem RunV.shl_u8 {f:Fr}{S:Sig}{h:Part}{L:LE}{ty T yt:TypeId}{x y:Operand}{p q:Int}{yk:IntKind}(D:Int) (hx:ev S x=some (.int .u8 p)) (hy:ev S y=some (.int yk q)) (h0:0<=q) (h1:q<=8) (hD:(2:Int) ^ q.toNat=D) (h2:0<=p*D) (h3:p*D<=255):RunV f S h L (.binOp .shl T x y yt) ty (.int .u8 (p*D)):=by
 subst hD;have:=RunV.shl (f:=f) (h:=h) (L:=L) (ty:=ty) (T:=T) (yt:=yt) hx hy h0 h1;rwa [lI _ h2 h3] at this
theorem RunV.shr_u32 {f:Fr}{S:Sig}{h:Part}{L:LE}{ty T yt:TypeId}{x y:Operand}{p q:Int}{yk:IntKind}(D:Int) (hx:ev S x=some (.int .u32 p)) (hy:ev S y=some (.int yk q)) (h0:0<=q) (h1:q<=32) (hD:(2:Int) ^ q.toNat=D):RunV f S h L (.binOp .shr T x y yt) ty (.int .u32 (p / D)):=by
 subst hD;exact RunV.shr hx hy h0 h1
theorem RunV.shr_u64 {f:Fr}{S:Sig}{h:Part}{L:LE}{ty T yt:TypeId}{x y:Operand}{p q:Int}{yk:IntKind}(D:Int) (hx:ev S x=some (.int .u64 p)) (hy:ev S y=some (.int yk q)) (h0:0<=q) (h1:q<=64) (hD:(2:Int) ^ q.toNat=D):RunV f S h L (.binOp .shr T x y yt) ty (.int .u64 (p / D)):=by
 subst hD;exact RunV.shr hx hy h0 h1
theorem RunV.shl_u64 {f:Fr}{S:Sig}{h:Part}{L:LE}{ty T yt:TypeId}{x y:Operand}{p q:Int}{yk:IntKind}(D:Int) (hx:ev S x=some (.int .u64 p)) (hy:ev S y=some (.int yk q)) (h0:0<=q) (h1:q<=64) (hD:(2:Int) ^ q.toNat=D) (h2:0<=p*D) (h3:p*D<=18446744073709551615):RunV f S h L (.binOp .shl T x y yt) ty (.int .u64 (p*D)):=by
 subst hD;have:=RunV.shl (f:=f) (h:=h) (L:=L) (ty:=ty) (T:=T) (yt:=yt) hx hy h0 h1;rwa [ge _ h2 h3] at this
theorem RunV.shl_i64 {f:Fr}{S:Sig}{h:Part}{L:LE}{ty T yt:TypeId}{x y:Operand}{p q:Int}{yk:IntKind}(D:Int) (hx:ev S x=some (.int .i64 p)) (hy:ev S y=some (.int yk q)) (h0:0<=q) (h1:q<=64) (hD:(2:Int) ^ q.toNat=D) (h2:-9223372036854775808<=p*D) (h3:p*D<=9223372036854775807):RunV f S h L (.binOp .shl T x y yt) ty (.int .i64 (p*D)):=by
 subst hD;have:=RunV.shl (f:=f) (h:=h) (L:=L) (ty:=ty) (T:=T) (yt:=yt) hx hy h0 h1;rwa [fM _ h2 h3] at this
theorem RunV.fieldAt {f:Fr}{S:Sig}{h:Part}{L:LE}{ty T:TypeId}{x:Operand}{i o b o0:Nat}(hf:fieldOff f.P T i=some o) (hx:ev S x=some (.pointer (some ⟨b,o0,none⟩))):RunV f S h L (.fieldAddr T x i) ty (.pointer (some ⟨b,o0+o,none⟩)):=by
 have:=RunV.fieldAddr (f:=f) (h:=h) (L:=L) (ty:=ty) hf hx;rwa [Addr.add_lit] at this
abbrev bO:=@RunV.fieldAt
theorem RunV.fieldAt0 {f:Fr}{S:Sig}{h:Part}{L:LE}{ty T:TypeId}{x:Operand}{i o b:Nat}(hf:fieldOff f.P T i=some o) (hx:ev S x=some (.pointer (some ⟨b,0,none⟩))):RunV f S h L (.fieldAddr T x i) ty (.pointer (some ⟨b,o,none⟩)):=by
 have:=bO (f:=f) (h:=h) (L:=L) (ty:=ty) hf hx;rwa [Nat.zero_add] at this
abbrev bR:=@RunV.fieldAt0
theorem ai_ {f:Fr}{S:Sig}{h:Part}{L:LE}{ty T yt:TypeId}{x y:Operand}{v:Value}(u:RunV f S h L (.binOp .add T x y yt) ty v:=by first|exact RunV.add_i64 rfl rfl z2_ z2_|exact RunV.add rfl rfl):RunV f S h L (.binOp .add T x y yt) ty v:=u
theorem si_ {f:Fr}{S:Sig}{h:Part}{L:LE}{ty T yt:TypeId}{x y:Operand}{v:Value}(u:RunV f S h L (.binOp .sub T x y yt) ty v:=by first|exact RunV.sub_i64 rfl rfl z2_ z2_|exact dW rfl rfl):RunV f S h L (.binOp .sub T x y yt) ty v:=u
abbrev cv:=@List.getElem?_eq_none
abbrev aW:=@List.getElem?_eq_getElem
abbrev aS:=@List.take_of_length_le
abbrev aL:=@Nat.le_refl
abbrev Rep (α:Type):=Part->LV->α->Prop
class Mono {α:Type} (R:Rep α):Prop where
 mono:∀ {h h':Part} {cs:LV} {x:α},h.le h'->R h cs x->R h' cs x
 one:∀ {h:Part} {cs:LV} {x:α},R h cs x->∀ u∈cs,u.oneCell'=true
def EltR {α:Type}(R:Rep α) (sz:Nat) (h:Part) (b o:Nat) (x:α):Prop:=∃ c cs,h b=some c/\cs.length=sz/\(∀ j,j<sz->c[o+j]?=cs[j]?)/\R h cs x
structure SlR {α:Type} (R:Rep α) (sz:Nat) (h:Part) (a:OA) (c:Nat) (l:List α):Prop where
 len:l.length<=c
 cap:c<=maxLen
 big:l.length<=140737488355328
 nil:a=none->c=0
 elt:∀ i x,l[i]?=some x->∃ b o,a=some ⟨b,o,none⟩/\EltR R sz h b (o+i*sz) x
section
variable {α:Type}{R:Rep α}{sz:Nat}{h h':Part}{a:OA}{c:Nat}{l:List α}
theorem EltR.mono [m:Mono R] {b o:Nat}{x:α}(k:EltR R sz h b o x) (hle:h.le h'):EltR R sz h' b o x:=by
 obtain⟨cc,cs,h1,h2,h3,h4⟩:=k;exact⟨cc,cs,hle _ _ h1,h2,h3,m.mono hle h4⟩
theorem SlR.mono [m:Mono R] (k:SlR R sz h a c l) (hle:h.le h'):SlR R sz h' a c l :=
 ⟨k.len,k.cap,k.big,k.nil,λi x hx=>by obtain⟨b,o,h1,h2⟩:=k.elt i x hx;exact⟨b,o,h1,h2.mono hle⟩⟩
theorem SlR.nil_:SlR R sz h none 0 ([]:List α):=⟨aL _,Nat.zero_le _,Nat.zero_le _,λ_=>rfl,λi x hx=>by simp at hx⟩
abbrev bu:=@SlR.nil_
theorem SlR.le63 (k:SlR R sz h a c l):l.length<=9223372036854775807:=Nat.le_trans k.len k.cap
theorem SlR.take_drop (k:SlR R sz h a c l) {lo hi m:Nat}(h1:lo<=hi) (h2:hi<=l.length) (h3:hi<=m) (h4:m<=c) :
 SlR R sz h (if m=lo then a else a.map (·.add (lo*sz))) (m-lo) ((l.drop lo).take (hi-lo)):=by
 refine⟨by simp;omega,by have:=k.cap;omega,by have:=k.big;simp;omega,λhn=>?_,λi x hx=>?_⟩
 ·split at hn
  ·have:=k.nil hn;omega
  ·rw [Option.map_eq_none_iff] at hn;have:=k.nil hn;omega
 ·have hi':i<hi-lo:=by
   rcases Nat.lt_or_ge i (hi-lo) with hlt|hge
   ·exact hlt
   ·rw [cv (by simp;omega)] at hx;cases hx
  rw [List.getElem?_take,if_pos hi',List.getElem?_drop] at hx;obtain⟨b,o,rfl,he⟩:=k.elt _ x hx;rw [if_neg z2_];refine⟨b,o+lo*sz,by simp [Addr.add_lit],?_⟩;rw [Nat.add_mul] at he;rwa [Nat.add_assoc]
end
def u8R:Rep UInt8:=λ_ cs x=>cs=[.int .u8 (x.toNat:Int)]
def u32R:Rep UInt32:=λ_ cs x=>cs=[.int .u32 (x.toNat:Int)]
def u64R:Rep UInt64:=λ_ cs x=>cs=[.int .u64 (x.toNat:Int)]
def i64R:Rep Int:=λ_ cs x=>cs=[.int .i64 x]
def strR:Rep LB:=λ_ cs x=>cs=[.string ⟨x.toArray⟩]
def slR {α:Type}(R:Rep α) (sz:Nat):Rep (List α):=λh cs l=>∃ a c,cs=[.slice a l.length c]/\SlR R sz h a c l
instance:Mono u8R:=⟨λ_ h=>h,λh u hu=>by cases h;simp at hu;subst hu;rfl⟩
instance:Mono u32R:=⟨λ_ h=>h,λh u hu=>by cases h;simp at hu;subst hu;rfl⟩
instance:Mono u64R:=⟨λ_ h=>h,λh u hu=>by cases h;simp at hu;subst hu;rfl⟩
instance:Mono i64R:=⟨λ_ h=>h,λh u hu=>by cases h;simp at hu;subst hu;rfl⟩
instance:Mono strR:=⟨λ_ h=>h,λh u hu=>by cases h;simp at hu;subst hu;rfl⟩
instance {α:Type}{R:Rep α}{sz:Nat} [Mono R]:Mono (slR R sz):=⟨λhle ⟨a,c,h1,h2⟩=>⟨a,c,h1,h2.mono hle⟩,λ⟨_,_,h,_⟩ u hu=>by cases h;simp at hu;subst hu;rfl⟩
def slT (P:Program) (T:Nat):Option (Nat×Nat) :=
 match P.underlying T with
 |some (.slice e)=>match P.info? e with
  |some i=>some (e,i.size)
  |none=>none
 |_=>none
theorem fN {P:Program}{T e sz:Nat}(h:slT P T=some (e,sz)):P.underlying T=some (.slice e)/\∃ i,P.info? e=some i/\i.size=sz:=by
 unfold slT at h;split at h<;>try cases h
 rename_i e' hT;split at h<;>cases h;rename_i i hi;exact⟨hT,i,hi,U⟩
def aggT (P:Program) (T:Nat):Option (Option Nat) :=
 match P.underlying T with
 |some (.struct _)|some (.array _ _)=>match P.info? T with
  |some i=>some (some i.size)
  |none=>none
 |some _=>match P.info? T with
  |some i=>if i.size=1 then some none else none
  |none=>none
 |none=>none
theorem f7 {P:Program}{T:Nat}(h:aggT P T=some none) (w:World):(isAgg T).run P w=.ok false w/\(sizeOf T).run P w=.ok 1 w:=by
 unfold aggT at h;split at h
 ·split at h<;>cases h
 ·split at h<;>cases h
 ·rename_i d hd1 hd2 hd;split at h<;>try cases h
  rename_i i hi;split at h<;>cases h;rename_i hsz;refine⟨?_,by simp [sizeOf,typeInfo,hi,hsz]⟩;unfold isAgg;rw [Sem.run_bind,run_underlying hd w];cases d<;>simp_all
 ·cases h
theorem dV {P:Program}{T n:Nat}(h:aggT P T=some (some n)) (w:World):(isAgg T).run P w=.ok true w/\(sizeOf T).run P w=.ok n w:=by
 unfold aggT at h;split at h
 ·rename_i fs hT;split at h<;>cases h;rename_i i hi;exact⟨by unfold isAgg;rw [Sem.run_bind,run_underlying hT w];simp,by simp [sizeOf,typeInfo,hi]⟩
 ·rename_i k e hT;split at h<;>cases h;rename_i i hi;exact⟨by unfold isAgg;rw [Sem.run_bind,run_underlying hT w];simp,by simp [sizeOf,typeInfo,hi]⟩
 ·split at h<;>try cases h
  split at h<;>cases h
 ·cases h
def zeroT (P:Program) (T:Nat):Option LV :=
 match P.info? T with
 |some i=>match i.zero with
  |some z=>some z.cells.toList
  |none=>none
 |none=>none
section
variable {f:Fr}{n:Post}{x:Nat->Post}{S:Sig}{h:Part}{L L':LE}{ops:Array Oper}{rest:LR}
variable {ty:TypeId}{pos:String}{af:Array Edge}{d:Nat}{v:Value}{T:TypeId}{xo yo:Operand}{a:OA}{c ln:Nat}
theorem RunV.len {e sz:Nat}(hT:slT f.P T=some (e,sz)) (hx:ev S xo=some (.slice a ln c)):RunV f S h L (.call { callee:=.builtin .len,args:=#[xo],argTypes:=#[T] }) ty (.int .i64 (ln:Int)):=λac w s _ _ _ _=>by
 have hu:=(fN hT).1;simp [execOp,resolve,s.eval hx,invoke,builtin,Builtin.len_,run_underlying hu,goInt]
theorem RunE.index {α:Type}{R:Rep α}{l:List α}{e sz m:Nat}{k:IntKind}{i:Int}(hT:slT f.P T=some (e,sz)) (hx:ev S xo=some (.slice a ln c)) (hy:ev S yo=some (.int k i)) (hi:i=(m:Int)) (hR:SlR R sz h a c l) (hlen:ln=l.length) (h1:m<l.length) :
 RunE f S h L (.indexAddr T xo yo) ty (λv=>∃ (b o:Nat) (hi:m<l.length),v=.pointer (some ⟨b,o,none⟩)/\EltR R sz h b o l[m]):=by
 subst hlen hi;obtain⟨hu,inf,hi,hs⟩:=fN hT;obtain⟨b,o,rfl,he⟩:=hR.elt m l[m] (aW _);refine⟨.pointer (some ⟨b,o+m*sz,none⟩),λac w s _ _ _ _=>?_,b,_,h1,U,he⟩;have h0:(0:Int)<=m:=by omega
 have h2:(m:Int)<l.length:=by omega
 simp [execOp,s.eval hx,s.eval hy,Instr.indexAt,run_underlying hu,asIntOf,sizeOf,typeInfo,hi,hs,h1,Addr.add_lit]
abbrev aI:=@RunE.index
theorem RunE.load1 {α:Type}{R:Rep α}{e:α}{b o:Nat}(hT:aggT f.P T=some none) (hx:ev S xo=some (.pointer (some ⟨b,o,none⟩))) (hE:EltR R 1 h b o e) :
 RunE f S h L (.load T xo) ty (λv=>R h [v] e):=by
 obtain⟨cc,cs,hb,hl,hj,hR⟩:=hE
 match cs,hl with
 |[v],_ =>
  refine⟨v,λac w s _ _ _ _=>?_,hR⟩;have hc:cc[o]?=some v:=by have:=hj 0 z2_;simpa using this
  simp [execOp,s.eval hx,Instr.loadAt,Instr.sureAddr,loadVar,(f7 hT w).1,load,Sem.run,s.ok.sub.cell hb hc]
theorem RunV.ld_u8 {y:UInt8}{b o:Nat}(hT:aggT f.P T=some none) (hx:ev S xo=some (.pointer (some ⟨b,o,none⟩))) (hE:EltR u8R 1 h b o y):RunV f S h L (.load T xo) ty (.int .u8 (y.toNat:Int)):=by
 obtain⟨v,hr,hv⟩:=RunE.load1 (f:=f) (S:=S) (L:=L) (ty:=ty) hT hx hE;have e:v=.int .u8 (y.toNat:Int):=by unfold u8R at hv;injection hv
 rwa [<- e]
abbrev bv:=@RunV.ld_u8
theorem RunV.ld_u32 {y:UInt32}{b o:Nat}(hT:aggT f.P T=some none) (hx:ev S xo=some (.pointer (some ⟨b,o,none⟩))) (hE:EltR u32R 1 h b o y):RunV f S h L (.load T xo) ty (.int .u32 (y.toNat:Int)):=by
 obtain⟨v,hr,hv⟩:=RunE.load1 (f:=f) (S:=S) (L:=L) (ty:=ty) hT hx hE;have e:v=.int .u32 (y.toNat:Int):=by unfold u32R at hv;injection hv
 rwa [<- e]
abbrev dX:=@RunV.ld_u32
theorem RunV.ld_u64 {y:UInt64}{b o:Nat}(hT:aggT f.P T=some none) (hx:ev S xo=some (.pointer (some ⟨b,o,none⟩))) (hE:EltR u64R 1 h b o y):RunV f S h L (.load T xo) ty (.int .u64 (y.toNat:Int)):=by
 obtain⟨v,hr,hv⟩:=RunE.load1 (f:=f) (S:=S) (L:=L) (ty:=ty) hT hx hE;have e:v=.int .u64 (y.toNat:Int):=by unfold u64R at hv;injection hv
 rwa [<- e]
abbrev bU:=@RunV.ld_u64
theorem RunE.loadA {α:Type}{R:Rep α}{e:α}{b o sz:Nat}(hT:aggT f.P T=some (some sz)) (hx:ev S xo=some (.pointer (some ⟨b,o,none⟩))) (hE:EltR R sz h b o e) :
 RunE f S h L (.load T xo) ty (λv=>∃ cs,v=.agg (List.toArray cs)/\R h cs e):=by
 obtain⟨cc,cs,hb,hl,hj,hR⟩:=hE;refine⟨.agg cs.toArray,λac w s _ _ _ _=>?_,cs,U,hR⟩;have hld:(loadCells ⟨b,o,none⟩ cs.length).run f.P w=.ok cs.toArray w:=run_loadCells_list (P:=f.P) w ⟨b,o,none⟩ cs (λj u hu=>by
  have hlt:j<sz:=by rw [<- hl];exact(List.getElem?_eq_some_iff.1 hu).1
  rw [Addr.add_lit];exact s.ok.sub.cell hb ((hj j hlt).trans hu))
 rw [hl] at hld;simp [execOp,s.eval hx,Instr.loadAt,Instr.sureAddr,loadVar,(dV hT w).1,(dV hT w).2,hld]
abbrev dw:=@RunE.loadA
theorem lA {w:World}{b i:Nat}{t:TypeId}{cs:LV}(hk:Ok f.e h L w) (hm:Ent.blk b t cs∈L):w.cell? ⟨b,i,none⟩=cs[i]?:=by
 have:w.heap[b]?=some (.cells cs.toArray t (0,0)):=hk.own _ hm;rw [cell_of_row w b i _ _ _ this];simp
theorem RunV.own1 {b o:Nat}{t:TypeId}{cs:LV}(hT:aggT f.P T=some none) (hx:ev S xo=some (.pointer (some ⟨b,o,none⟩))) (hm:Ent.blk b t cs∈L) (hv:cs[o]?=some v):RunV f S h L (.load T xo) ty v:=λac w s _ _ _ _=>by
 have hc:w.cell? ⟨b,o,none⟩=some v:=(lA s.ok hm).trans hv;simp [execOp,s.eval hx,Instr.loadAt,Instr.sureAddr,loadVar,(f7 hT w).1,load,Sem.run,hc]
abbrev aw:=@RunV.own1
theorem RunV.ownA {b sz:Nat}{t:TypeId}{cs:LV}(hT:aggT f.P T=some (some sz)) (hx:ev S xo=some (.pointer (some ⟨b,0,none⟩))) (hm:Ent.blk b t cs∈L) (hl:cs.length=sz):RunV f S h L (.load T xo) ty (.agg cs.toArray):=λac w s _ _ _ _=>by
 subst hl;have hld:(loadCells ⟨b,0,none⟩ cs.length).run f.P w=.ok cs.toArray w:=run_loadCells_list (P:=f.P) w ⟨b,0,none⟩ cs (λj u hu=>by
  rw [Addr.add_lit,lA s.ok hm];simpa using hu)
 simp [execOp,s.eval hx,Instr.loadAt,Instr.sureAddr,loadVar,(dV hT w).1,(dV hT w).2,hld]
abbrev bJ:=@RunV.ownA
theorem RunE.cutI_lh {α:Type}{R:Rep α}{l:List α}{e sz:Nat}{k k':IntKind}{i j:Int}{lo hi:Operand}(hT:slT f.P T=some (e,sz)) (hx:ev S xo=some (.slice a ln c)) (hl:ev S lo=some (.int k i)) (hh:ev S hi=some (.int k' j)) (hR:SlR R sz h a c l) (hlen:ln=l.length) (h0:0<=i) (h1:i<=j) (h2:j<=l.length) :
 RunE f S h L (.slice T xo (some lo) (some hi) none) ty (λv=>∃ a' c',v=.slice a' ((l.drop i.toNat).take (j.toNat-i.toNat)).length c'/\SlR R sz h a' c' ((l.drop i.toNat).take (j.toNat-i.toNat))):=by
 subst hlen;obtain⟨hu,inf,hi',hs⟩:=fN hT;have hc:=hR.len;refine⟨_,λac w s _ _ _ _=>?_,_,_,U,hR.take_drop (lo:=i.toNat) (hi:=j.toNat) (m:=c) z2_ z2_ z2_ (aL _)⟩;have e1:((l.drop i.toNat).take (j.toNat-i.toNat)).length=j.toNat-i.toNat:=by simp;omega
 rw [e1];have hj0:(0:Int)<=j:=by omega
 have hjc:j<=(c:Int):=by omega
 have ej:(j.toNat:Int)=j:=Int.toNat_of_nonneg hj0;simp [execOp,s.eval hx,s.eval hl,s.eval hh,Instr.sliceAt,Instr.slice,run_underlying hu,Instr.sliceBounds,Instr.sliceBound,asIntOf,sizeOf,typeInfo,hi',hs,h0,h1,hj0,hjc,ej]
theorem RunE.cutI_h {α:Type}{R:Rep α}{l:List α}{e sz:Nat}{k':IntKind}{j:Int}{hi:Operand}(hT:slT f.P T=some (e,sz)) (hx:ev S xo=some (.slice a ln c)) (hh:ev S hi=some (.int k' j)) (hR:SlR R sz h a c l) (hlen:ln=l.length) (h1:0<=j) (h2:j<=l.length) :
 RunE f S h L (.slice T xo none (some hi) none) ty (λv=>∃ a' c',v=.slice a' (l.take j.toNat).length c'/\SlR R sz h a' c' (l.take j.toNat)):=by
 subst hlen;obtain⟨hu,inf,hi',hs⟩:=fN hT;have hc:=hR.len;have:=hR.take_drop (lo:=0) (hi:=j.toNat) (m:=c) z2_ z2_ z2_ (aL _);simp only [List.drop_zero,Nat.sub_zero] at this;refine⟨_,λac w s _ _ _ _=>?_,_,_,U,this⟩;have e1:(l.take j.toNat).length=j.toNat:=by simp;omega
 rw [e1];have hjc:j<=(c:Int):=by omega
 simp [execOp,s.eval hx,s.eval hh,Instr.sliceAt,Instr.slice,run_underlying hu,Instr.sliceBounds,Instr.sliceBound,asIntOf,sizeOf,typeInfo,hi',hs,h1,hjc]
theorem RunE.cutI_l {α:Type}{R:Rep α}{l:List α}{e sz:Nat}{k:IntKind}{i:Int}{lo:Operand}(hT:slT f.P T=some (e,sz)) (hx:ev S xo=some (.slice a ln c)) (hl:ev S lo=some (.int k i)) (hR:SlR R sz h a c l) (hlen:ln=l.length) (h0:0<=i) (h1:i<=l.length) :
 RunE f S h L (.slice T xo (some lo) none none) ty (λv=>∃ a' c',v=.slice a' (l.drop i.toNat).length c'/\SlR R sz h a' c' (l.drop i.toNat)):=by
 subst hlen;obtain⟨hu,inf,hi',hs⟩:=fN hT;have hc:=hR.len;have:=hR.take_drop (lo:=i.toNat) (hi:=l.length) (m:=c) z2_ z2_ z2_ (aL _);rw [aS (by simp)] at this;refine⟨_,λac w s _ _ _ _=>?_,_,_,U,this⟩;have e1:(l.drop i.toNat).length=l.length-i.toNat:=by simp
 rw [e1];simp [execOp,s.eval hx,s.eval hl,Instr.sliceAt,Instr.slice,run_underlying hu,Instr.sliceBounds,Instr.sliceBound,asIntOf,sizeOf,typeInfo,hi',hs,h0,h1]
theorem RunE.cutI_hm {α:Type}{R:Rep α}{l:List α}{e sz:Nat}{k k':IntKind}{j m:Int}{hi mx:Operand}(hT:slT f.P T=some (e,sz)) (hx:ev S xo=some (.slice a ln c)) (hh:ev S hi=some (.int k' j)) (hm:ev S mx=some (.int k m)) (hR:SlR R sz h a c l) (hlen:ln=l.length) (h1:0<=j) (h2:j<=l.length) (h3:j<=m) (h4:m<=c) :
 RunE f S h L (.slice T xo none (some hi) (some mx)) ty (λv=>∃ a',v=.slice a' (l.take j.toNat).length m.toNat/\SlR R sz h a' m.toNat (l.take j.toNat)):=by
 subst hlen;obtain⟨hu,inf,hi',hs⟩:=fN hT;have hc:=hR.len;have:=hR.take_drop (lo:=0) (hi:=j.toNat) (m:=m.toNat) z2_ z2_ z2_ z2_;simp only [List.drop_zero,Nat.sub_zero] at this;refine⟨_,λac w s _ _ _ _=>?_,_,U,this⟩;have e1:(l.take j.toNat).length=j.toNat:=by simp;omega
 rw [e1];have hm0:(0:Int)<=m:=by omega
 have em:(m.toNat:Int)=m:=Int.toNat_of_nonneg hm0;simp [execOp,s.eval hx,s.eval hh,s.eval hm,Instr.sliceAt,Instr.slice,run_underlying hu,Instr.sliceBounds,Instr.sliceBound,asIntOf,sizeOf,typeInfo,hi',hs,h1,h3,h4,hm0,em]
theorem RunE.cut_lh {α:Type}{R:Rep α}{l:List α}{e sz m m':Nat}{k k':IntKind}{i j:Int}{lo hi:Operand}(hT:slT f.P T=some (e,sz)) (hx:ev S xo=some (.slice a ln c)) (hl:ev S lo=some (.int k i)) (hh:ev S hi=some (.int k' j)) (hi':i=(m:Int)) (hj:j=(m':Int)) (hR:SlR R sz h a c l) (hlen:ln=l.length) (h1:m<=m') (h2:m'<=l.length) :
 RunE f S h L (.slice T xo (some lo) (some hi) none) ty (λv=>∃ a' c',v=.slice a' ((l.drop m).take (m'-m)).length c'/\SlR R sz h a' c' ((l.drop m).take (m'-m))):=by
 subst hi' hj;simpa using RunE.cutI_lh (f:=f) (L:=L) (ty:=ty) hT hx hl hh hR hlen z2_ z2_ z2_
abbrev eJ:=@RunE.cut_lh
theorem RunE.cut_h {α:Type}{R:Rep α}{l:List α}{e sz m:Nat}{k':IntKind}{j:Int}{hi:Operand}(hT:slT f.P T=some (e,sz)) (hx:ev S xo=some (.slice a ln c)) (hh:ev S hi=some (.int k' j)) (hj:j=(m:Int)) (hR:SlR R sz h a c l) (hlen:ln=l.length) (h2:m<=l.length) :
 RunE f S h L (.slice T xo none (some hi) none) ty (λv=>∃ a' c',v=.slice a' (l.take m).length c'/\SlR R sz h a' c' (l.take m)):=by
 subst hj;simpa using RunE.cutI_h (f:=f) (L:=L) (ty:=ty) hT hx hh hR hlen z2_ z2_
theorem RunE.cut_l {α:Type}{R:Rep α}{l:List α}{e sz m:Nat}{k:IntKind}{i:Int}{lo:Operand}(hT:slT f.P T=some (e,sz)) (hx:ev S xo=some (.slice a ln c)) (hl:ev S lo=some (.int k i)) (hi:i=(m:Int)) (hR:SlR R sz h a c l) (hlen:ln=l.length) (h1:m<=l.length) :
 RunE f S h L (.slice T xo (some lo) none none) ty (λv=>∃ a' c',v=.slice a' (l.drop m).length c'/\SlR R sz h a' c' (l.drop m)):=by
 subst hi;simpa using RunE.cutI_l (f:=f) (L:=L) (ty:=ty) hT hx hl hR hlen z2_ z2_
abbrev ei:=@RunE.cut_l
theorem RunE.cut_hm {α:Type}{R:Rep α}{l:List α}{e sz m m':Nat}{k k':IntKind}{j q:Int}{hi mx:Operand}(hT:slT f.P T=some (e,sz)) (hx:ev S xo=some (.slice a ln c)) (hh:ev S hi=some (.int k' j)) (hm:ev S mx=some (.int k q)) (hj:j=(m:Int)) (hq:q=(m':Int)) (hR:SlR R sz h a c l) (hlen:ln=l.length) (h2:m<=l.length) (h3:m<=m') (h4:m'<=c) :
 RunE f S h L (.slice T xo none (some hi) (some mx)) ty (λv=>∃ a',v=.slice a' (l.take m).length m'/\SlR R sz h a' m' (l.take m)):=by
 subst hj hq;simpa using RunE.cutI_hm (f:=f) (L:=L) (ty:=ty) hT hx hh hm hR hlen z2_ z2_ z2_ z2_
theorem RunE.cut_full {α:Type}{R:Rep α}{l:List α}{e sz:Nat}{k k':IntKind}{j q:Int}{hi mx:Operand}(hT:slT f.P T=some (e,sz)) (hx:ev S xo=some (.slice a ln c)) (hh:ev S hi=some (.int k' j)) (hm:ev S mx=some (.int k q)) (hR:SlR R sz h a c l) (hlen:ln=l.length) (hj:j=(l.length:Int)) (hq:q=(l.length:Int)) :
 RunE f S h L (.slice T xo none (some hi) (some mx)) ty (λv=>∃ a',v=.slice a' l.length l.length/\SlR R sz h a' l.length l):=by
 have:=RunE.cut_hm (f:=f) (L:=L) (ty:=ty) hT hx hh hm hj hq hR hlen (aL _) (aL _) hR.len;simpa using this
end
abbrev c_:=@Bool.false_eq_true
abbrev bD:=@Nat.mul_le_mul_right
abbrev bC:=@List.length_drop
abbrev bz:=@List.length_take
abbrev aC:=@List.length_cons
def CellsR {α:Type}(R:Rep α) (sz:Nat) (h:Part) (cs:LV) (l:List α):Prop:=cs.length=l.length*sz/\∀ i x,l[i]?=some x->R h ((cs.drop (i*sz)).take sz) x
section
variable {α:Type}{R:Rep α}{sz:Nat}{h h':Part}{a:OA}{c:Nat}{l l':List α}{cs cs':LV}
theorem CellsR.mono [m:Mono R] (k:CellsR R sz h cs l) (hle:h.le h'):CellsR R sz h' cs l:=⟨k.1,λi x hx=>m.mono hle (k.2 i x hx)⟩
theorem CellsR.nil:CellsR R sz h [] ([]:List α):=⟨by simp,λi x hx=>by simp at hx⟩
abbrev bQ:=@CellsR.nil
theorem CellsR.append (k:CellsR R sz h cs l) (k':CellsR R sz h cs' l'):CellsR R sz h (cs++cs') (l++l'):=by
 refine⟨by simp [k.1,k'.1,Nat.add_mul],λi x hx=>?_⟩;by_cases hi:i<l.length
 ·rw [List.getElem?_append_left hi] at hx;have:=k.2 i x hx;have hle:i*sz+sz<=cs.length:=by rw [k.1,<- Nat.succ_mul];exact bD _ hi
  rw [List.drop_append_of_le_length z2_,List.take_append_of_le_length (by simp;omega)];exact this
 ·rw [List.getElem?_append_right z2_] at hx;have:=k'.2 _ x hx;have hge:cs.length<=i*sz:=by rw [k.1];exact bD _ z2_
  rw [List.drop_append,List.drop_of_length_le hge,List.nil_append];have e:i*sz-cs.length=(i-l.length)*sz:=by rw [k.1,Nat.sub_mul]
  rw [e];exact this
theorem CellsR.one {x:α}(k:R h cs x) (hl:cs.length=sz):CellsR R sz h cs [x]:=⟨by simp [hl],λi y hy=>by
 match i with
 |0=>simp at hy;subst hy;simp [<- hl];exact k
 |i+1=>simp at hy⟩
theorem CellsR.oneCell [m:Mono R] (hsz:0<sz) (k:CellsR R sz h cs l):∀ u∈cs,u.oneCell'=true:=λu hu=>by
 obtain⟨j,hj,rfl⟩:=List.getElem_of_mem hu;have hd:j / sz<l.length:=by rw [k.1] at hj;exact Nat.div_lt_of_lt_mul (by rwa [Nat.mul_comm])
 refine m.one (k.2 (j / sz) _ (aW hd)) _ ?_;have hm:j % sz<sz:=Nat.mod_lt _ hsz;have he:j / sz*sz+j % sz=j:=by rw [Nat.mul_comm];exact Nat.div_add_mod j sz
 refine List.mem_of_getElem? (i:=j % sz) ?_;rw [List.getElem?_take,if_pos hm,List.getElem?_drop,he,aW hj]
theorem SlR.cells (hsz:0<sz) (k:SlR R sz h a c l):∃ cs,CellsR R sz h cs l/\∀ j u,cs[j]?=some u->∃ b o cc,a=some ⟨b,o,none⟩/\h b=some cc/\cc[o+j]?=some u:=by
 cases l with
 |nil=>exact⟨[],bQ,λj u hu=>by simp at hu⟩
 |cons x0 r =>
  obtain⟨b,o,ha,cc,cs0,hb,_,_,_⟩:=k.elt 0 x0 U;have hE:∀ i x,(x0::r)[i]?=some x->∃ cs,cs.length=sz/\(∀ j,j<sz->cc[o+i*sz+j]?=cs[j]?)/\R h cs x:=λi x hx=>by
   obtain⟨b',o',ha',cc',cs,hb',h1,h2,h3⟩:=k.elt i x hx;rw [ha] at ha';cases ha';rw [hb] at hb';cases hb';exact⟨cs,h1,h2,h3⟩
  have hlen:o+(x0::r).length*sz<=cc.size:=by
   obtain⟨cs,h1,h2,_⟩:=hE r.length _ (aW (by simp));have h3:=h2 (sz-1) z2_;rw [aW z2_] at h3;have:=(Array.getElem?_eq_some_iff.1 h3).1;simp only [aC,Nat.succ_mul];omega
  refine⟨(cc.toList.drop o).take ((x0::r).length*sz),⟨by simp only [bz,bC,Array.length_toList];omega,λi x hx=>?_⟩,λj u hu=>?_⟩
  ·obtain⟨cs,h1,h2,h3⟩:=hE i x hx;have hi:i<(x0::r).length:=(List.getElem?_eq_some_iff.1 hx).1;have hle:i*sz+sz<=(x0::r).length*sz:=by rw [<- Nat.succ_mul];exact bD _ hi
   have:(List.drop (i*sz) (List.take ((x0::r).length*sz) (List.drop o cc.toList))).take sz=cs:=by
    apply List.ext_getElem?;intro j;by_cases hj:j<sz
    ·rw [List.getElem?_take,if_pos hj,List.getElem?_drop,List.getElem?_take,if_pos z2_,List.getElem?_drop,Array.getElem?_toList,<- h2 j hj,Nat.add_assoc]
    ·rw [List.getElem?_take,if_neg hj,cv z2_]
   rw [this];exact h3
  ·rw [List.getElem?_take] at hu;split at hu
   ·rw [List.getElem?_drop,Array.getElem?_toList] at hu;exact⟨b,o,cc,ha,hb,hu⟩
   ·cases hu
end
def u8s (l:LB):LV:=l.map λx=>.int .u8 (x.toNat:Int)
theorem CellsR.u8 {h:Part}{cs:LV}{l:LB}(k:CellsR u8R 1 h cs l):cs=u8s l:=by
 apply List.ext_getElem?;intro i;by_cases hi:i<l.length
 ·have:=k.2 i _ (aW hi);unfold u8R at this;have h1:((cs.drop (i*1)).take 1)[0]?=some (.int .u8 (l[i].toNat:Int)):=by rw [this];rfl
  rw [List.getElem?_take,if_pos z2_,List.getElem?_drop] at h1;simp only [Nat.mul_one,Nat.add_zero] at h1;rw [h1];simp [u8s,hi]
 ·rw [cv (by have:=k.1;omega),cv (by simp [u8s];omega)]
theorem CellsR.of_u8 {h:Part}{l:LB}:CellsR u8R 1 h (u8s l) l:=⟨by simp [u8s],λi x hx=>by
 unfold u8R;have hi:=(List.getElem?_eq_some_iff.1 hx).1;have hx':=(List.getElem?_eq_some_iff.1 hx).2;rw [Nat.mul_one,List.take_one,List.head?_drop];simp [u8s,hx]⟩
abbrev bm:=@CellsR.of_u8
theorem gZ (a:LB):(u8s a).length=a.length:=by simp [u8s]
def apT (P:Program) (T:Nat):Option (Nat×Nat×Nat) :=
 match P.underlying T with
 |some (.slice e)=>match P.info? e with
  |some i=>match i.zero with
   |some z=>if z.cells.size=i.size/\0<i.size then some (e,i.size,i.bytes) else none
   |none=>none
  |none=>none
 |_=>none
theorem gy {P:Program}{T e sz bytes:Nat}(h:apT P T=some (e,sz,bytes)):P.underlying T=some (.slice e)/\∃ i z,P.info? e=some i/\i.zero=some z/\i.size=sz/\i.bytes=bytes/\z.cells.size=sz/\0<sz:=by
 unfold apT at h;split at h<;>try cases h
 rename_i e' hT;split at h<;>try cases h
 rename_i i hi;split at h<;>try cases h
 rename_i z hz;split at h<;>cases h;rename_i hc;exact⟨hT,i,z,hi,hz,U,U,hc.1,hc.2⟩
section
variable {f:Fr}{n:Post}{x:Nat->Post}{S:Sig}{h:Part}{L L':LE}{ops:Array Oper}{rest:LR}
variable {ty:TypeId}{pos:String}{af:Array Edge}{d:Nat}{v:Value}{T:TypeId}{xo yo:Operand}
theorem d8 {o:Oper}{a:Act}{w w':World}{Q:Exit->Act->World->Prop}{P:Program}(hg:o.guard=none) (hr:(execOp a.eval o).run P w=.ok (.value v) w')
 (k:wpList P ops Q rest (a.put o.dst v) w'):wpList P ops Q (o::rest) a w:=by
 unfold wpList;rw [if_pos (by simp [Region.wanted,hg])];exact .inl (by simp only [Oper.wp,hr,Oper.upon];exact k)
theorem eW {o:Oper}{a:Act}{w w':World}{Q:Exit->Act->World->Prop}{P:Program}(hg:o.guard=none) (hr:(execOp a.eval o).run P w=.ok .skip w')
 (k:wpList P ops Q rest (a.put o.dst undef) w'):wpList P ops Q (o::rest) a w:=by
 unfold wpList;rw [if_pos (by simp [Region.wanted,hg])];exact .inl (by simp only [Oper.wp,hr,Oper.upon];exact k)
theorem JL.alloc {zs:LV}(hz:zeroT f.P T=some zs) (hd:Nat.blt d f.m=true) (k:∀ b,JL f ops n x rest ((d,.pointer (some ⟨b,0,none⟩))::S) h (.blk b T zs::L)) :
 JL f ops n x (⟨some d,.alloc T,ty,pos,af,none⟩::rest) S h L:=λa w s=>by
 unfold zeroT at hz;split at hz<;>try cases hz
 rename_i i hi;split at hz<;>cases hz;rename_i z hzz;refine d8 (v:=.pointer (some ⟨w.heap.size,0,none⟩)) (w':=w.alloc (.cells z.cells.toList.toArray T)) U ?_ (k w.heap.size _ _ (s.put hd _ (s.ok.alloc T z.cells.toList)));simp [execOp,Instr.alloc,zeroValue,typeInfo,hi,hzz,newVar,newRow,newObj,Sem.run]
abbrev bI:=@JL.alloc
theorem JL.box {cs:LV}(hx:ev S xo=some v) (hc:v.cells=cs.toArray) (hd:Nat.blt d f.m=true) (k:∀ b,JL f ops n x rest ((d,.pointer (some ⟨b,0,none⟩))::S) h (.blk b T cs::L)) :
 JL f ops n x (⟨some d,.box T xo,ty,pos,af,none⟩::rest) S h L:=λa w s=>by
 refine d8 (v:=.pointer (some ⟨w.heap.size,0,none⟩)) (w':=w.alloc (.cells cs.toArray T)) U ?_ (k w.heap.size _ _ (s.put hd _ (s.ok.alloc T cs)));simp [execOp,s.eval hx,Instr.box,newVar,newRow,newObj,Sem.run,hc]
abbrev dh:=@JL.box
theorem Ok.setBlk {e:Env}{h:Part}{L L':LE}{w:World}{b:Nat}{t:TypeId}{cs:LV}(k:Ok e h L w) (u:Del (.blk b t cs) L L') (cs':LV):Ok e h (.blk b t cs'::L') (w.setRow b cs'.toArray):=by
 have hw:w.heap[b]?=some (.cells cs.toArray t (0,0)):=k.own _ u.mem;exact(k.perm u.perm).turn U U U (by simp) (λb' _ hne=>setRow_other w b b' _ (λe=>hne (by rw [e];rfl))) (setRow_heap w b _ _ t _ hw) (λb' hb'=>.inl hb')
theorem JL.store1 {b o:Nat}{t:TypeId}{cs:LV}(hT:aggT f.P T=some none) (hx:ev S xo=some (.pointer (some ⟨b,o,none⟩))) (hy:ev S yo=some v) (hv:v.oneCell'=true) (u:Del (.blk b t cs) L L') (ho:Nat.blt o cs.length=true)
 (k:JL f ops n x rest S h (.blk b t (cs.set o v)::L')):JL f ops n x (⟨none,.store T xo yo,ty,pos,af,none⟩::rest) S h L:=λa w s=>by
 have ho':o<cs.length:=by simpa using ho
 have hw:w.heap[b]?=some (.cells cs.toArray t (0,0)):=s.ok.own _ u.mem;have hc:w.cell? ⟨b,o,none⟩=some cs[o]:=by rw [lA s.ok u.mem];exact aW ho'
 have hf:=frozen_of_row w b o _ t hw;have e1:w.setCell ⟨b,o,none⟩ v=w.setRow b (cs.set o v).toArray:=by
  rw [setCell_eq_setRow w b o _ t _ v hw];simp
 refine eW (w':=w.setRow b (cs.set o v).toArray) U ?_ (k _ _ (s.with (s.ok.setBlk u _)));have hcells:v.cells=#[v]:=by cases v<;>first|rfl|(simp [Value.oneCell'] at hv)
 have hst:(store (Addr.add ⟨b,o,none⟩ 0) v).run f.P w=.ok () (w.setRow b (cs.set o v).toArray):=by
  rw [Addr.add_zero',run_store f.P w _ v _ hv,hc,<- e1];simp [hf]
 simp [execOp,s.eval hx,s.eval hy,Instr.storeAt,Instr.sureAddr,storeVar,(f7 hT w).2,hcells,storeCells,hst]
abbrev bK:=@JL.store1
theorem JL.storeA {b sz:Nat}{t:TypeId}{cs cs':LV}(hT:aggT f.P T=some (some sz)) (hx:ev S xo=some (.pointer (some ⟨b,0,none⟩))) (hy:ev S yo=some (.agg cs'.toArray)) (u:Del (.blk b t cs) L L') (hv:cs'.all (·.oneCell')=true) (hl0:cs.length=sz) (hl':cs'.length=sz)
 (k:JL f ops n x rest S h (.blk b t cs'::L')):JL f ops n x (⟨none,.store T xo yo,ty,pos,af,none⟩::rest) S h L:=λa w s=>by
 subst hl0;have hl:=hl';have hw:w.heap[b]?=some (.cells cs.toArray t (0,0)):=s.ok.own _ u.mem;have hi:(f.P.info? T).map (·.size)=some cs'.toArray.size:=by
  have:=(dV hT w).2;unfold sizeOf typeInfo at this;cases hq:f.P.info? T with
  |none=>simp [hq] at this
  |some i=>simp [hq] at this;simp [this,hl]
 refine eW (w':=w.setRow b cs'.toArray) U ?_ (k _ _ (s.with (s.ok.setBlk u _)));have:=run_storeVar_row (P:=f.P) w b t T _ _ hw hi (by simp [hl]) (by simpa using hv);simp [execOp,s.eval hx,s.eval hy,Instr.storeAt,Instr.sureAddr,this]
abbrev aV:=@JL.storeA
def fill1:LV->List (Nat×Value)->LV
 |cs,[]=>cs
 |cs,(i,v)::r=>fill1 (cs.set i v) r
theorem oJ:∀ (ps:List (Nat×Value)) (cs:LV),(ps.all λp=>p.2.oneCell'&&Nat.blt p.1 cs.length)=true->Instr.fill (λi=>some (i*1,1)) cs.toArray ps=some (fill1 cs ps).toArray
 |[],cs,_=>rfl
 |(i,v)::r,cs,hh=>by
  simp only [List.all_cons,Bool.and_eq_true] at hh;obtain⟨⟨h1,h2⟩,h3⟩:=hh;have hcells:v.cells=#[v]:=by cases v<;>first|rfl|(simp [Value.oneCell'] at h1)
  have hlt:i<cs.length:=by simpa using h2
  have ih:=oJ r (cs.set i v) (by simpa using h3);simp [Instr.fill,hcells,fill1,show ¬ cs.length<i+1 by omega];simpa using ih
def evs (S:Sig):List (Nat×Operand)->Option (List (Nat×Value))
 |[]=>some []
 |(i,o)::r=>match ev S o,evs S r with
  |some v,some vs=>some ((i,v)::vs)
  |_,_=>none
theorem ip {f:Fr}{a:Act}{w:World}(s:Sat f.e f.m S h L a w):∀ {ps:List (Nat×Operand)}{vs:List (Nat×Value)},evs S ps=some vs->ps.map (λp=>(p.1,a.eval p.2))=vs
 |[],vs,hh=>by simp [evs] at hh;simp [hh]
 |(i,o)::r,vs,hh=>by
  simp only [evs] at hh;split at hh<;>cases hh;rename_i v vs' h1 h2;simp [s.eval h1,ip s h2]
theorem JL.lit1 {e bytes len:Nat}{ps:List (Nat×Operand)}{vs:List (Nat×Value)}{zs:LV}(hT:apT f.P T=some (e,1,bytes)) (hz:zeroT f.P e=some zs) (hl0:Nat.blt 0 len=true) (hl:Nat.ble len 16777216=true) (hp:evs S ps=some vs)
 (hv:(vs.all λp=>p.2.oneCell'&&Nat.blt p.1 len)=true) (hd:Nat.blt d f.m=true)
 (k:∀ b,JL f ops n x rest ((d,.slice (some ⟨b,0,none⟩) len len)::S) h (.blk b e (fill1 (List.replicate len (zs.headD undef)) vs)::L)) :
 JL f ops n x (⟨some d,.buildSlice T len ps.toArray,ty,pos,af,none⟩::rest) S h L:=λa w s=>by
 obtain⟨hu,i,z,hi,hzz,hs,_,hzc,_⟩:=gy hT;have hl':len<=16777216:=by simpa using hl
 unfold zeroT at hz;rw [hi] at hz;simp only [hzz] at hz;cases hz;have hz1:∃ z0,z.cells=#[z0]:=by
  generalize z.cells=zc at hzc;obtain⟨l⟩:=zc
  match l,hzc with
  |[z0],_=>exact⟨z0,U⟩
 obtain⟨z0,hz0⟩:=hz1;have hmap:Array.map (λp:Nat×Operand=>(p.1,a.eval p.2)) ps.toArray=vs.toArray:=by
  have:=ip s hp;simp [this]
 have hrep:(Array.range len).map (λj=>z.cells[j % z.cells.size]!)=(List.replicate len z0).toArray:=by
  apply Array.ext
  ·simp
  ·intro j h1 h2;simp [hz0,Nat.mod_one]
 have hfill:=oJ vs (List.replicate len z0) (by simpa using hv);refine d8 (v:=.slice (some ⟨w.heap.size,0,none⟩) len len) (w':=w.alloc (.cells (fill1 (List.replicate len z0) vs).toArray e)) U ?_ ?_
 ·have h0':0<len:=by simpa using hl0
  have h0:len≠0:=by omega
  simp only [Nat.mul_one,List.toArray_replicate] at hfill hrep;simp only [execOp,hmap,Instr.buildSlice,Sem.run_bind,run_underlying hu,Result.andThen,sizeOf,typeInfo];simp [hi,hs,show ¬ 16777216<len by omega,h0,zeroValue,typeInfo,hzz,hrep,newRow,newObj,Sem.run];rw [hfill];simp [Sem.run]
 ·rw [show z0=z.cells.toList.headD undef by simp [hz0]];exact k w.heap.size _ _ (s.put hd _ (s.ok.alloc e _))
abbrev cF:=@JL.lit1
theorem qn:∀ (cs:LV) (k:Nat) (acc:Array Value),k+cs.length=acc.size->(cs.zipIdx k).foldl (λ(a:Array Value) (p:Value×Nat)=>a.setIfInBounds p.2 p.1) acc=(acc.toList.take k++cs).toArray
 |[],k,acc,hk=>by
  rw [aS (by simp at hk |-;omega)];simp
 |c::r,k,acc,hk=>by
  simp only [aC] at hk;rw [List.zipIdx_cons,List.foldl_cons,qn r (k+1) _ (by simp;omega)];congr 1;apply List.ext_getElem?;intro j;simp only [Array.toList_setIfInBounds,List.getElem?_append,bz,List.length_set,Array.length_toList,List.getElem?_take,List.getElem?_set];by_cases hj:j<k
  ·simp [hj,show j<k+1 by omega,show min (k+1) acc.size=k+1 by omega,show min k acc.size=k by omega,show k≠j by omega]
  ·by_cases hj2:j=k
   ·subst hj2;simp [show min (j+1) acc.size=j+1 by omega,show min j acc.size=j by omega,show j<acc.size by omega]
   ·simp [hj,show ¬ j<k+1 by omega,show min (k+1) acc.size=k+1 by omega,show min k acc.size=k by omega,show j-k=(j-(k+1))+1 by omega]
theorem JL.litA {e sz bytes:Nat}{y:Operand}{cs:LV}(hT:apT f.P T=some (e,sz,bytes)) (hy:ev S y=some (.agg cs.toArray)) (hl:cs.length=sz) (hsz:Nat.ble sz 16777216=true) (hd:Nat.blt d f.m=true)
 (k:∀ b,JL f ops n x rest ((d,.slice (some ⟨b,0,none⟩) 1 1)::S) h (.blk b e cs::L)) :
 JL f ops n x (⟨some d,.buildSlice T 1 #[(0,y)],ty,pos,af,none⟩::rest) S h L:=λa w s=>by
 obtain⟨hu,i,z,hi,hzz,hs,_,hzc,h0⟩:=gy hT;have hl':sz<=16777216:=by simpa using hsz
 have hfill:∀ zc:Array Value,zc.size=sz->Instr.fill (λi=>some (i*sz,sz)) zc [(0,.agg cs.toArray)]=some cs.toArray:=λzc hzc=>by
  simp only [Instr.fill,Value.cells,List.size_toArray,hl,Nat.zero_mul,Nat.zero_add,hzc,gt_iff_lt,Nat.lt_irrefl,decide_false,Bool.or_false,ne_eq,not_true_eq_false,decide_false,c_,if_false];congr 1;have:=qn cs 0 zc z2_;simp only [List.take_zero,List.nil_append] at this;rw [<- Array.foldl_toList];simpa using this
 refine d8 (v:=.slice (some ⟨w.heap.size,0,none⟩) 1 1) (w':=w.alloc (.cells cs.toArray e)) U ?_ (k w.heap.size _ _ (s.put hd _ (s.ok.alloc e cs)));have hf:=hfill ((Array.range (1*sz)).map (λj=>z.cells[j % z.cells.size]!)) (by simp);simp only [execOp,Instr.buildSlice,Sem.run_bind,run_underlying hu,Result.andThen,sizeOf,typeInfo];simp [hi,hs,show ¬ 16777216<sz by omega,show sz≠0 by omega,zeroValue,typeInfo,hzz,s.eval hy,newRow,newObj,Sem.run];simp only [Nat.one_mul] at hf;rw [hf];simp [Sem.run]
end
abbrev aU:=@List.length_append
section
variable {f:Fr}{n:Post}{x:Nat->Post}{S:Sig}{h:Part}{L L':LE}{ops:Array Oper}{rest:LR}
variable {ty:TypeId}{pos:String}{af:Array Edge}{d:Nat}{v:Value}{T:TypeId}{xo yo:Operand}
theorem JL.own {l:LR}(hk:∀ w,Ok f.e h L w->Ok f.e h L' w) (k:JL f ops n x l S h L'):JL f ops n x l S h L:=λa w s=>k a w (s.with (hk w s.ok))
theorem J.own {c:Code}(hk:∀ w,Ok f.e h L w->Ok f.e h L' w) (k:J f c n x S h L'):J f c n x S h L:=λa w s=>k a w (s.with (hk w s.ok))
theorem JL.row_nil {l:LR}(t:TypeId) (sz:Nat) (k:JL f ops n x l S h (.row none 0 t sz 0 []::L)):JL f ops n x l S h L:=JL.own (λ_ hk=>hk.row_nil t sz) k
abbrev bZ:=@JL.row_nil
theorem Parts.ok {e:Env}{Li Lr:LE}(p:Parts Li L Lr) (w:World) (hk:Ok e h L w):Ok e h Li w:=(hk.perm p.perm).drop (List.sublist_append_left _ _)
theorem J.ents {c:Code}(Li:LE) {Lr:LE}(p:Parts Li L Lr) (k:J f c n x S h Li):J f c n x S h L:=J.own p.ok k
theorem JL.ents {l:LR}(Li:LE) {Lr:LE}(p:Parts Li L Lr) (k:JL f ops n x l S h Li):JL f ops n x l S h L:=JL.own p.ok k
def Src (e:Env) (h:Part) (L:LE) (a:OA) (m c sz:Nat) (news:LV):Prop :=
 news.length=m*sz/\(∀ u∈news,u.oneCell'=true)/\(a=none->m=0/\c=0)/\∀ w,Ok e h L w->∀ ad,a=some ad->∀ j u,news[j]?=some u->w.cell? (ad.add j)=some u
theorem Src.sl {α:Type}{R:Rep α} [Mono R] {e:Env}{sz:Nat}{a:OA}{c:Nat}{l:List α}(hsz:0<sz) (hR:SlR R sz h a c l):∃ news,CellsR R sz h news l/\Src e h L a l.length c sz news:=by
 obtain⟨cs,h1,h2⟩:=hR.cells hsz;refine⟨cs,h1,h1.1,h1.oneCell hsz,λha=>?_,λw hk ad hd j u hu=>?_⟩
 ·have:=hR.nil ha;have:=hR.len;omega
 ·obtain⟨b,o,cc,ha,hb,hc⟩:=h2 j u hu;rw [ha] at hd;cases hd;rw [Addr.add_lit];exact hk.sub.cell hb hc
theorem Src.blk {e:Env}{b t sz m c:Nat}{cs:LV}(hm:Ent.blk b t cs∈L) (hl:cs.length=m*sz) (h1:∀ u∈cs,u.oneCell'=true):Src e h L (some ⟨b,0,none⟩) m c sz cs :=
 ⟨hl,h1,(λha=>by cases ha),λw hk ad hd j u hu=>by
  cases hd;have:w.heap[b]?=some (.cells cs.toArray t (0,0)):=hk.own _ hm;rw [Addr.add_lit,cell_of_row w b _ _ _ _ this];simpa using hu⟩
theorem Ok.grown {e:Env}{x x':Ent}{w w':World}(k:Ok e h (x::L) w) (g:w.grownBy w' x.key) (hx':x'.holds w') (hkey:x'.key=x.key\/x'.key=some w.heap.size):Ok e h (x'::L) w' :=
 k.turn g.os g.tape g.output g.size (λb hb hne=>g.block b hb (λhe=>hne he.symm)) hx' (λb hb=>by
  rcases hkey with hk|hk
  ·exact .inl (hk ▸ hb)
  ·rw [hk] at hb;cases hb;exact .inr (aL _))
theorem kW {w:World}{base:Nat}{e:TypeId}{size:Nat}{v:Value}{n:Nat}{xs:LV}(h:w.ownsRow base e size v n xs):∃ a c,v=.slice a n c/\n<=c/\c<=maxLen/\(a=none->c=0):=by
 rcases h.2 with ⟨rfl,rfl⟩|⟨g,cap,cur,rfl,_,_,h1,h2,_⟩
 ·exact⟨none,0,U,aL _,Nat.zero_le _,λ_=>rfl⟩
 ·exact⟨_,cap,U,h1,h2,λhh=>by cases hh⟩
theorem JL.append_ {e sz bytes nn m:Nat}{a a2:OA}{c c2:Nat}{xs news:LV}(hT:apT f.P T=some (e,sz,bytes)) (hx:ev S xo=some (.slice a nn c)) (hy:ev S yo=some (.slice a2 m c2)) (hs:Src f.e h L a2 m c2 sz news)
 (u:Del (.row a c e sz nn xs) L L') (h63:nn+m<=maxLen) (hb:(nn+m)*bytes<=140737488355328) (hd:Nat.blt d f.m=true)
 (k:∀ a' c',nn+m<=c'->c'<=maxLen->JL f ops n x rest ((d,.slice a' (nn+m) c')::S) h (.row a' c' e sz (nn+m) (xs++news)::L')) :
 JL f ops n x (⟨some d,.call { callee:=.builtin .append,args:=#[xo,yo],argTypes:=#[T,T] },ty,pos,af,none⟩::rest) S h L:=λac w s=>by
 obtain⟨hu,i,z,hi,hz,hsz,hby,hzc,h0⟩:=gy hT;have okp:=s.ok.perm u.perm;have hown:w.ownsRow 0 e sz (.slice a nn c) nn xs:=okp.own _ (aK ..);have fin:∀ v' w',(Builtin.append_ #[T,T] ty #[.slice a nn c,.slice a2 m c2]).run f.P w=.ok v' w'->w'.ownsRow 0 e sz v' (nn+m) (xs++news)->w.grownBy w' (Value.slice a nn c).ownBlock ->
  (v'.ownBlock=(Value.slice a nn c).ownBlock\/v'.ownBlock=some w.heap.size) ->
  wpList f.P ops (f.Q n x) (⟨some d,.call { callee:=.builtin .append,args:=#[xo,yo],argTypes:=#[T,T] },ty,pos,af,none⟩::rest) ac w:=λv' w' hrun ho hg hat=>by
  obtain⟨a',c',rfl,hc1,hc2,_⟩:=kW ho;refine d8 (v:=.slice a' (nn+m) c') (w':=w') U ?_ (k a' c' hc1 hc2 _ _ (s.put hd _ (okp.grown (x':=.row a' c' e sz (nn+m) (xs++news)) hg ho hat)));simp [execOp,resolve,s.eval hx,s.eval hy,invoke,builtin,hrun]
 obtain⟨n1,n2,n3,n4⟩:=hs;cases a2 with
 |some ad =>
  obtain⟨v',w',hrun,ho,hg,_,hat⟩:=run_append_own_at (P:=f.P) w 0 T ty e i z sz bytes hu hi hz hsz hby hzc h0 _ nn xs hown ad m c2 news n1 (n4 w s.ok ad U) n2 h63 hb (Nat.zero_le _);exact fin v' w' hrun ho hg hat
 |none =>
  obtain⟨rfl,rfl⟩:=n3 U;have hn:news=[]:=List.eq_nil_of_length_eq_zero (by simpa using n1);subst hn;have hrun:=run_append_owned_none (P:=f.P) (w:=w) 0 T ty e i sz hu hi _ nn xs hown;exact fin _ w hrun (by simpa using hown) ⟨U,U,U,aL _,λ_ _ _=>rfl⟩ (.inl U)
theorem JL.append {α:Type}{R:Rep α} [Mono R] {e sz bytes nn m:Nat}{a a2:OA}{c c2:Nat}{xs:LV}{l l2:List α}(hT:apT f.P T=some (e,sz,bytes)) (hx:ev S xo=some (.slice a nn c)) (hy:ev S yo=some (.slice a2 m c2))
 (hc:CellsR R sz h xs l) (hnn:nn=l.length) (hR:SlR R sz h a2 c2 l2) (hm:m=l2.length)
 (u:Del (.row a c e sz nn xs) L L') (hb:(l.length+l2.length)*bytes<=140737488355328) (hd:Nat.blt d f.m=true) (hbp:Nat.blt 0 bytes=true)
 (k:∀ a' c' xs',CellsR R sz h xs' (l++l2)->(l++l2).length<=140737488355328->JL f ops n x rest ((d,.slice a' (l++l2).length c')::S) h (.row a' c' e sz (l++l2).length xs'::L')) :
 JL f ops n x (⟨some d,.call { callee:=.builtin .append,args:=#[xo,yo],argTypes:=#[T,T] },ty,pos,af,none⟩::rest) S h L:=by
 subst hnn hm;have h0:=(gy hT).2;obtain⟨_,_,_,_,_,_,_,hsz⟩:=h0;obtain⟨news,hn,hs⟩:=Src.sl (e:=f.e) (L:=L) hsz hR;have hbp':0<bytes:=by simpa using hbp
 have hmul:l.length+l2.length<=(l.length+l2.length)*bytes:=Nat.le_mul_of_pos_right _ hbp';refine JL.append_ hT hx hy hs u (by simp only [maxLen];omega) hb hd λa' c' _ _=>?_;rw [<- aU];exact k a' c' _ (hc.append hn) (by rw [aU];omega)
abbrev bX:=@JL.append
theorem JL.append1 {α:Type}{R:Rep α} [Mono R] {e sz bytes nn:Nat}{a:OA}{c b:Nat}{xs cs:LV}{L2:LE}{l:List α}{y:α}(hT:apT f.P T=some (e,sz,bytes)) (hx:ev S xo=some (.slice a nn c)) (hy:ev S yo=some (.slice (some ⟨b,0,none⟩) 1 1))
 (hc:CellsR R sz h xs l) (hnn:nn=l.length) (u:Del (.row a c e sz nn xs) L L') (u2:Del (.blk b e cs) L' L2) (hl:cs.length=sz) (hR:R h cs y)
 (hb:(l.length+1)*bytes<=140737488355328) (hd:Nat.blt d f.m=true) (hbp:Nat.blt 0 bytes=true)
 (k:∀ a' c' xs',CellsR R sz h xs' (l++[y])->(l++[y]).length<=140737488355328->JL f ops n x rest ((d,.slice a' (l++[y]).length c')::S) h (.row a' c' e sz (l++[y]).length xs'::L2)) :
 JL f ops n x (⟨some d,.call { callee:=.builtin .append,args:=#[xo,yo],argTypes:=#[T,T] },ty,pos,af,none⟩::rest) S h L:=by
 subst hnn;have hbp':0<bytes:=by simpa using hbp
 have hmul:l.length+1<=(l.length+1)*bytes:=Nat.le_mul_of_pos_right _ hbp';have hm:Ent.blk b e cs∈L:=u.perm.symm.subset (aP _ u2.mem);refine JL.append_ hT hx hy (Src.blk (e:=f.e) hm (by simpa using hl) (Mono.one hR)) u (by simp only [maxLen];omega) hb hd λa' c' _ _=>?_;have hlen:l.length+1=(l++[y]).length:=by simp
 rw [hlen];exact JL.own (λw hk=>(hk.perm ((u2.perm.cons _).trans (.swap ..))).drop (List.sublist_cons_self _ _)) (k a' c' _ (hc.append (CellsR.one hR hl)) (by rw [<- hlen];omega))
abbrev bV:=@JL.append1
end
theorem Ok.pub_row {α:Type}{R:Rep α} [Mono R] {e:Env}{h:Part}{L:LE}{w:World}{a:OA}{c t sz nn:Nat}{xs:LV}{l:List α}(k:Ok e h (.row a c t sz nn xs::L) w) (hc:CellsR R sz h xs l) (hn:nn=l.length) (hb:l.length<=140737488355328) :
 ∃ h',h.le h'/\SlR R sz h' a c l/\Ok e h' L w:=by
 subst hn;have hown:w.ownsRow 0 t sz (.slice a l.length c) l.length xs:=k.own _ (aK ..);rcases hown.2 with ⟨hv,hl⟩|⟨g,cap,cur,hv,_,hg,h1,h2,h3,h4⟩
 ·injection hv with e1 e2 e3;subst e1 e3;have:l=[]:=List.eq_nil_of_length_eq_zero hl;subst this;exact⟨h,aT _,bu,k.drop (List.sublist_cons_self _ _)⟩
 ·injection hv with e1 e2 e3;subst e1 e3;obtain⟨hle,hok⟩:=k.publish_ (b:=g) U hg;refine⟨h.add g cur,hle,⟨h1,h2,hb,(λhh=>by cases hh),λi x hx=>⟨g,0,U,cur,(xs.drop (i*sz)).take sz,by simp [Part.add],?_,λj hj=>?_,Mono.mono hle (hc.2 i x hx)⟩⟩,hok⟩
  ·have hi:=(List.getElem?_eq_some_iff.1 hx).1;have hle2:i*sz+sz<=l.length*sz:=by rw [<- Nat.succ_mul];exact bD _ hi
   have:=hc.1;simp only [bz,bC];omega
  ·have hi:=(List.getElem?_eq_some_iff.1 hx).1;have hle2:i*sz+sz<=l.length*sz:=by rw [<- Nat.succ_mul];exact bD _ hi
   rw [List.getElem?_take,if_pos hj,List.getElem?_drop,<- h4,List.getElem?_take,if_pos z2_,Array.getElem?_toList,Nat.zero_add]
theorem Ok.pub_blk {α:Type}{R:Rep α} [Mono R] {e:Env}{h:Part}{L:LE}{w:World}{b t sz:Nat}{xs:LV}{l:List α}(k:Ok e h (.blk b t xs::L) w) (hc:CellsR R sz h xs l) (hb:l.length<=140737488355328) :
 ∃ h',h.le h'/\SlR R sz h' (some ⟨b,0,none⟩) l.length l/\Ok e h' L w:=by
 obtain⟨hle,hok⟩:=k.publish;refine⟨h.add b xs.toArray,hle,⟨aL _,by simp only [maxLen];omega,hb,(λhh=>by cases hh),λi x hx=>⟨b,0,U,xs.toArray,(xs.drop (i*sz)).take sz,by simp [Part.add],?_,λj hj=>?_,Mono.mono hle (hc.2 i x hx)⟩⟩,hok⟩
 ·have hi:=(List.getElem?_eq_some_iff.1 hx).1;have hle2:i*sz+sz<=l.length*sz:=by rw [<- Nat.succ_mul];exact bD _ hi
  have:=hc.1;simp only [bz,bC];omega
 ·rw [List.getElem?_take,if_pos hj,List.getElem?_drop,Nat.zero_add];simp
section
variable {f:Fr}{n:Post}{x:Nat->Post}{S:Sig}{h:Part}{L L':LE}{ops:Array Oper}{l0:LR}{c0:Code}
variable {α:Type}{R:Rep α} [Mono R] {a:OA}{c t sz nn b:Nat}{xs:LV}{l:List α}
theorem J.pub (u:Del (.row a c t sz nn xs) L L') (hc:CellsR R sz h xs l) (hn:nn=l.length) (hb:l.length<=140737488355328) (k:∀ h',h.le h'->SlR R sz h' a c l->J f c0 n x S h' L'):J f c0 n x S h L:=λac w s=>by
 obtain⟨h',h1,h2,h3⟩:=(s.ok.perm u.perm).pub_row hc hn hb;exact k h' h1 h2 ac w (s.with h3)
theorem JL.pub (u:Del (.row a c t sz nn xs) L L') (hc:CellsR R sz h xs l) (hn:nn=l.length) (hb:l.length<=140737488355328) (k:∀ h',h.le h'->SlR R sz h' a c l->JL f ops n x l0 S h' L'):JL f ops n x l0 S h L:=λac w s=>by
 obtain⟨h',h1,h2,h3⟩:=(s.ok.perm u.perm).pub_row hc hn hb;exact k h' h1 h2 ac w (s.with h3)
abbrev cW:=@JL.pub
theorem JL.pubB (u:Del (.blk b t xs) L L') (hc:CellsR R sz h xs l) (hb:l.length<=140737488355328) (k:∀ h',h.le h'->SlR R sz h' (some ⟨b,0,none⟩) l.length l->JL f ops n x l0 S h' L'):JL f ops n x l0 S h L:=λac w s=>by
 obtain⟨h',h1,h2,h3⟩:=(s.ok.perm u.perm).pub_blk hc hb;exact k h' h1 h2 ac w (s.with h3)
end
def callT (P:Program) (F:Nat):Bool :=
 match P.funcs[F]? with
 | some fn => fn.name != "runtime.NumGoroutine" && fn.body.isSome
 |none=>false
theorem fl {P:Program}{F:Nat}(hF:callT P F=true) (args:Array Value) (w:World):(callFunc F args).run P w=.ok (.enter F args) w:=by
 unfold callT at hF;split at hF
 ·rename_i fn hfn;simp only [Bool.and_eq_true,bne_iff_ne,ne_eq] at hF;have h2:¬ fn.body=none:=λhh=>by rw [hh] at hF;simp at hF
  simp [callFunc,hfn];rw [if_neg hF.1,if_neg h2]
 ·cases hF
def Fn (P:Program) (F:Nat) (args:LV) (h:Part) (Li:LE) (R:Ending->Part->LE->Prop):Prop :=
 ∀ w,Ok ⟨w,(·∈keys Li),h,[]⟩ h Li w->Calls P F args.toArray w λe w'=>∃ h' Lo,R e h' Lo/\Ok ⟨w,(·∈keys Li),h,[]⟩ h' Lo w'
theorem Fn.mono {P:Program}{F:Nat}{args:LV}{h:Part}{Li:LE}{R R':Ending->Part->LE->Prop}(k:Fn P F args h Li R) (hr:∀ e h' Lo,h.le h'->R e h' Lo->R' e h' Lo):Fn P F args h Li R':=λw hw =>
 (k w hw).mono λe w' ⟨h',Lo,r,o⟩=>⟨h',Lo,hr _ _ _ o.le r,o⟩
def Rets (R:Value->Part->LE->Prop):Ending->Part->LE->Prop:=λe h' Lo=>∃ v,e=.returned v/\R v h' Lo
theorem Ok.enter {e:Env}{h:Part}{Li Lr:LE}{w:World}(k:Ok e h (Li++Lr) w):Ok ⟨w,(·∈keys Li),h,[]⟩ h Li w:=by
 have kd:=k.drop (List.sublist_append_left Li Lr);exact⟨U,U,U,aL _,λ_ _ _=>rfl,k.sub,aT _,λb c hc=>.inl hc,kd.own,λb hb=>⟨(kd.key b hb).1,.inr hb⟩,kd.nodup⟩
section
variable {f:Fr}{n:Post}{x:Nat->Post}{S:Sig}{h:Part}{L Li Lr:LE}{ops:Array Oper}{rest:LR}
variable {ty:TypeId}{pos:String}{af:Array Edge}{d F:Nat}{R:Ending->Part->LE->Prop}
def evl (S:Sig):List Operand->Option LV
 |[]=>some []
 |o::r=>match ev S o,evl S r with
  |some v,some vs=>some (v::vs)
  |_,_=>none
theorem eD {a:Act}{w:World}(s:Sat f.e f.m S h L a w):∀ {os:List Operand}{vs:LV},evl S os=some vs->os.map a.eval=vs
 |[],vs,hh=>by simp [evl] at hh;simp [hh]
 |o::r,vs,hh=>by
  simp only [evl] at hh;split at hh<;>cases hh;rename_i v vs' h1 h2;simp [s.eval h1,eD s h2]
theorem f_ {o:Oper}{a:Act}{w:World}{args:LV}(hF:callT f.P F=true) (hw:Region.wanted o (yielded ops a.tmps)=true) (hr:(execOp a.eval o).run f.P w=.ok (.enter F args.toArray) w)
 (c:Fn f.P F args h Li R) (p:Parts Li L Lr) (s:Sat f.e f.m S h L a w) (hdst:o.dst=some d) (hd:Nat.blt d f.m=true) (ko:∀ h' Lo,¬ R .outgrown h' Lo)
 (kp:∀ ch h' Lo,h.le h'->R (.panicked ch) h' Lo->f.p ch S h' (Lo++Lr))
 (k:∀ v h' Lo,h.le h'->R (.returned v) h' Lo->JL f ops n x rest ((d,v)::S) h' (Lo++Lr)):wpList f.P ops (f.Q n x) (o::rest) a w:=by
 unfold wpList;rw [if_pos hw];refine .inl ?_;simp only [Oper.wp,hr,Oper.upon];have okp:=s.ok.perm p.perm;refine(c w okp.enter).mono λe w' hh=>?_;obtain⟨h',Lo,hR,hO⟩:=hh;have okc:=okp.call hO;cases e with
 |returned v=>simp only;rw [hdst];exact k v h' Lo hO.le hR _ _ (s.put hd v okc)
 |panicked ch=>exact⟨S,h',Lo++Lr,s.with okc,kp ch h' Lo hO.le hR⟩
 |outgrown=>exact absurd hR (ko h' Lo)
theorem JL.call_ {args:LV}{os:List Operand}{ts:Array TypeId}(hF:callT f.P F=true) (ha:evl S os=some args) (c:Fn f.P F args h Li R) (p:Parts Li L Lr) (hd:Nat.blt d f.m=true) (ko:∀ h' Lo,¬ R .outgrown h' Lo)
 (kp:∀ ch h' Lo,h.le h'->R (.panicked ch) h' Lo->f.p ch S h' (Lo++Lr))
 (k:∀ v h' Lo,h.le h'->R (.returned v) h' Lo->JL f ops n x rest ((d,v)::S) h' (Lo++Lr)) :
 JL f ops n x (⟨some d,.call { callee:=.value (.func F),args:=os.toArray,argTypes:=ts },ty,pos,af,none⟩::rest) S h L:=λa w s=>by
 refine f_ hF (by simp [Region.wanted]) ?_ c p s U hd ko kp k;have hm:os.toArray.map a.eval=args.toArray:=by simp [eD s ha]
 simp [execOp,resolve,hm,Act.eval,Deferred.ofValue,invoke,fl hF]
theorem JL.call {R:Value->Part->LE->Prop}{args:LV}{os:List Operand}{ts:Array TypeId}(hF:callT f.P F=true) (ha:evl S os=some args) (c:Fn f.P F args h Li (Rets R)) (p:Parts Li L Lr) (hd:Nat.blt d f.m=true)
 (k:∀ v h' Lo,h.le h'->R v h' Lo->JL f ops n x rest ((d,v)::S) h' (Lo++Lr)) :
 JL f ops n x (⟨some d,.call { callee:=.value (.func F),args:=os.toArray,argTypes:=ts },ty,pos,af,none⟩::rest) S h L :=
 JL.call_ hF ha c p hd (λ_ _ ⟨_,hh,_⟩=>by cases hh) (λ_ _ _ _ ⟨_,hh,_⟩=>by cases hh) (λv h' Lo hle ⟨_,hh,hR⟩=>by cases hh;exact k v h' Lo hle hR)
abbrev d6:=@JL.call
theorem JL.callg {R:Value->Part->LE->Prop}{args:LV}{os:List Operand}{ts:Array TypeId}{j dj:Nat}{b:Bool}(hj:(ops[j]?).bind (·.dst)=some dj) (hs:look S dj=some (.bool b)) (hF:callT f.P F=true) (ha:evl S os=some args) (c:Fn f.P F args h Li (Rets R)) (p:Parts Li L Lr) (hd:Nat.blt d f.m=true)
 (k:∀ v h' Lo,h.le h'->R v h' Lo->JL f ops n x rest ((d,v)::S) h' (Lo++Lr)) :
 JL f ops n x (⟨some d,.call { callee:=.value (.func F),args:=os.toArray,argTypes:=ts },ty,pos,af,some (j,b)⟩::rest) S h L:=λa w s=>by
 refine f_ hF (by simp [Region.wanted,dK s hj hs]) ?_ c p s U hd (λ_ _ ⟨_,hh,_⟩=>by cases hh) (λ_ _ _ _ ⟨_,hh,_⟩=>by cases hh) (λv h' Lo hle ⟨_,hh,hR⟩=>by cases hh;exact k v h' Lo hle hR);have hm:os.toArray.map a.eval=args.toArray:=by simp [eD s ha]
 simp [execOp,resolve,hm,Act.eval,Deferred.ofValue,invoke,fl hF]
theorem JL.callv {args:LV}{os:List Operand}{ts:Array TypeId}{fo:Operand}{cap:Array Value}(hF:callT f.P F=true) (hf:ev S fo=some (.func (.func F) #[] cap)) (ha:evl S os=some args) (c:Fn f.P F (args++cap.toList) h Li R) (p:Parts Li L Lr) (hd:Nat.blt d f.m=true) (ko:∀ h' Lo,¬ R .outgrown h' Lo)
 (kp:∀ ch h' Lo,h.le h'->R (.panicked ch) h' Lo->f.p ch S h' (Lo++Lr))
 (k:∀ v h' Lo,h.le h'->R (.returned v) h' Lo->JL f ops n x rest ((d,v)::S) h' (Lo++Lr)) :
 JL f ops n x (⟨some d,.call { callee:=.value fo,args:=os.toArray,argTypes:=ts },ty,pos,af,none⟩::rest) S h L:=λa w s=>by
 refine f_ hF (by simp [Region.wanted]) ?_ c p s U hd ko kp k;have hm:os.toArray.map a.eval=args.toArray:=by simp [eD s ha]
 have he:(args++cap.toList).toArray=args.toArray++cap:=by simp
 rw [he];simp [execOp,resolve,hm,s.eval hf,Deferred.ofValue,invoke,fl hF]
theorem Ok.ext {e:Env}{w w':World}(k:Ok e h L w) (h1:w'.os=w.os) (h2:w'.tape=w.tape) (h3:w'.output=w.output) (h4:w.heap.size<=w'.heap.size) (h5:∀ b,b<w.heap.size->w'.heap[b]?=w.heap[b]?):Ok e h L w' :=
 ⟨h1.trans k.os,h2.trans k.tape,h3.trans k.output,Nat.le_trans k.size h4,λb hb hm=>(h5 b (Nat.lt_of_lt_of_le hb k.size)).trans (k.old b hb hm),
  λb c hc=>by obtain⟨t,fr,he⟩:=k.sub b c hc;exact⟨t,fr,by rw [h5 b (k.sub.lt hc)];exact he⟩,k.le,k.fresh,
  λy hy=>Ent.keep (k.own y hy) λb hb=>h5 b (Ent.lt (k.own y hy) hb),k.key,k.nodup⟩
theorem JQ.call {args:LV}{os:List Operand}{ts:Array TypeId}{v:Value}(hF:callT f.P F=true) (ha:evl S os=some args) (c:Fn f.P F args h [] (Rets λu _ _=>u=v)) (hd:Nat.blt d f.m=true)
 (k:JQ f ops n rest ((d,v)::S) h L):JQ f ops n (⟨some d,.call { callee:=.value (.func F),args:=os.toArray,argTypes:=ts },ty,pos,af,none⟩::rest) S h L:=λa w s=>by
 have hm:os.toArray.map a.eval=args.toArray:=by simp [eD s ha]
 unfold wpQuiet;rw [if_pos (by simp [Region.wanted])];refine⟨v,λw' hw'=>?_,k _ w (s.put hd v s.ok)⟩;simp only [Oper.quietAt];have hr:(execOp a.eval ⟨some d,.call { callee:=.value (.func F),args:=os.toArray,argTypes:=ts },ty,pos,af,none⟩).run f.P w'=.ok (.enter F args.toArray) w':=by
  simp [execOp,resolve,hm,Act.eval,Deferred.ofValue,invoke,fl hF]
 rw [hr];refine⟨U,(c w' (Ok.enter (Li:=[]) (Lr:=L) (by simpa using hw'))).mono λe w'' hh=>?_⟩;obtain⟨h',Lo,⟨u,he,hu⟩,hO⟩:=hh;exact⟨by rw [he,hu],hw'.ext hO.os hO.tape hO.output hO.size λb hb=>hO.old b hb (by simp [keys])⟩
theorem JQ.callg {j dj:Nat}{b:Bool}{args:LV}{os:List Operand}{ts:Array TypeId}{v:Value}(hj:(ops[j]?).bind (·.dst)=some dj) (hs:look S dj=some (.bool b)) (hF:callT f.P F=true) (ha:evl S os=some args) (c:Fn f.P F args h [] (Rets λu _ _=>u=v)) (hd:Nat.blt d f.m=true)
 (k:JQ f ops n rest ((d,v)::S) h L):JQ f ops n (⟨some d,.call { callee:=.value (.func F),args:=os.toArray,argTypes:=ts },ty,pos,af,some (j,b)⟩::rest) S h L:=λa w s=>by
 have hm:os.toArray.map a.eval=args.toArray:=by simp [eD s ha]
 unfold wpQuiet;rw [if_pos (by simp [Region.wanted,dK s hj hs])];refine⟨v,λw' hw'=>?_,k _ w (s.put hd v s.ok)⟩;simp only [Oper.quietAt];have hr:(execOp a.eval ⟨some d,.call { callee:=.value (.func F),args:=os.toArray,argTypes:=ts },ty,pos,af,some (j,b)⟩).run f.P w'=.ok (.enter F args.toArray) w':=by
  simp [execOp,resolve,hm,Act.eval,Deferred.ofValue,invoke,fl hF]
 rw [hr];refine⟨U,(c w' (Ok.enter (Li:=[]) (Lr:=L) (by simpa using hw'))).mono λe w'' hh=>?_⟩;obtain⟨h',Lo,⟨u,he,hu⟩,hO⟩:=hh;exact⟨by rw [he,hu],hw'.ext hO.os hO.tape hO.output hO.size λb hb=>hO.old b hb (by simp [keys])⟩
end
section
variable {f:Fr}{n:Post}{x:Nat->Post}{S:Sig}{h:Part}{L L':LE}{ops:Array Oper}{rest:LR}
variable {ty:TypeId}{pos:String}{af:Array Edge}{d F:Nat}{xo:Operand}
theorem JL.panic {t:TypeId}{v:Value}(hx:ev S xo=some (.iface t v)) (k:f.p [{ v:=.iface t v,recovered:=false }] S h L):JL f ops n x (⟨none,.panic xo,ty,pos,af,none⟩::rest) S h L:=λa w s=>by
 unfold wpList;rw [if_pos (by simp [Region.wanted])];refine .inl ?_;have hr:(execOp a.eval ⟨none,.panic xo,ty,pos,af,none⟩).run f.P w=.halt (.panic (.iface t v)) w:=by simp [execOp,s.eval hx,Instr.panic]
 simp only [Oper.wp,hr,Oper.upon];exact⟨S,h,L,s,k⟩
def FailR (ok:Bool) (v:Value) (bf t:Nat) (cs:LV):Ending->Part->LE->Prop:=λe _ Lo =>
 (ok=true/\e=.returned (.tuple #[])/\Lo=[.blk bf t cs])\/(ok=false/\e=.panicked [{ v:=v,recovered:=false }]/\Lo=[.blk bf t cs])
theorem JL.fail {ok:Bool}{v:Value}{bf t:Nat}{cs:LV}{args:LV}{os:List Operand}{ts:Array TypeId}{fo:Operand}{cap:Array Value}(hF:callT f.P F=true) (hf:ev S fo=some (.func (.func F) #[] cap)) (ha:evl S os=some args)
 (c:Fn f.P F (args++cap.toList) h [.blk bf t cs] (FailR ok v bf t cs)) (u:Del (.blk bf t cs) L L') (hd:Nat.blt d f.m=true)
 (k2:ok=false->∀ h',h.le h'->f.p [{ v:=v,recovered:=false }] S h' (.blk bf t cs::L'))
 (k1:ok=true->∀ h',h.le h'->JL f ops n x rest ((d,.tuple #[])::S) h' (.blk bf t cs::L')) :
 JL f ops n x (⟨some d,.call { callee:=.value fo,args:=os.toArray,argTypes:=ts },ty,pos,af,none⟩::rest) S h L :=
 JL.callv hF hf ha c (.cons u .nil) hd (λh' Lo hh=>by rcases hh with ⟨_,hh,_⟩|⟨_,hh,_⟩<;>cases hh)
  (λch h' Lo hle hh=>by
   rcases hh with ⟨_,hh,_⟩|⟨h1,hh,h3⟩
   ·cases hh
   ·cases hh;subst h3;exact k2 h1 h' hle)
  (λv' h' Lo hle hh=>by
   rcases hh with ⟨h1,hh,h3⟩|⟨_,hh,_⟩
   ·cases hh;subst h3;exact k1 h1 h' hle
   ·cases hh)
end
def argSig:Nat->LV->Sig
 |_,[]=>[]
 |i,v::r=>(i,v)::argSig (i+1) r
theorem fK:∀ (args:LV) (i s:Nat) (v:Value),look (argSig i args) s=some v->i<=s/\args[s-i]?=some v
 |[],i,s,v,hh=>by simp [argSig,look] at hh
 |u::r,i,s,v,hh=>by
  simp only [argSig,look] at hh;cases hb:Nat.beq i s with
  |true =>
   have:i=s:=aq hb;subst this;simp only [hb,cond_true,aB] at hh;simp [hh]
  |false =>
   have:i≠s:=Nat.ne_of_beq_eq_false hb;simp only [hb,cond_false] at hh;obtain⟨h1,h2⟩:=fK r (i+1) s v hh;refine⟨by omega,?_⟩;rw [show s-i=(s-(i+1))+1 by omega];simpa using h2
def RetV (P:Program) (e:Env) (m:Nat) (fn:Func) (S:Sig) (h:Part) (L:LE) (v:Value):Prop:=∀ a w,Sat e m S h L a w->(results fn a.tmps).run P w=.ok v w
def RetPost (P:Program) (e:Env) (m:Nat) (fn:Func) (R:Ending->Part->LE->Prop):Post:=λS h L=>∃ v Lo Lr,RetV P e m fn S h L v/\Parts Lo L Lr/\R (.returned v) h Lo
def PanPost (R:Ending->Part->LE->Prop):List PanicEntry->Post:=λc _ h L=>∃ Lo Lr,Parts Lo L Lr/\R (.panicked c) h Lo
def NoExit:Nat->Post:=λ_ _ _ _=>False
theorem Fn.intro {P:Program}{F m:Nat}{fn:Func}{c:Code}{args:LV}{h:Part}{Li:LE}{R:Ending->Part->LE->Prop}(hf:P.funcs[F]?=some fn) (hb:fn.body=some c) (hm:fn.ntmps=m) (hl:Nat.ble args.length m=true)
 (k:∀ e:Env,e.ds=[]->J ⟨P,e,m,RetPost P e m fn R,PanPost R⟩ c (RetPost P e m fn R) NoExit (argSig 0 args) h Li):Fn P F args h Li R:=λw hw=>by
 have hl':args.length<=m:=by simpa using hl
 refine calls_of_wp hf hb ?_;have hs:Sat ⟨w,(·∈keys Li),h,[]⟩ m (argSig 0 args) h Li ⟨args.toArray++Array.replicate (fn.ntmps-args.toArray.size) undef,[]⟩ w:=by
  refine⟨by simp [hm];omega,λs v hv=>?_,U,hw⟩;obtain⟨_,h2⟩:=fK _ _ _ _ hv;have hlt:=(List.getElem?_eq_some_iff.1 h2).1;simp only [Nat.sub_zero] at h2 hlt;rw [Array.getElem?_append_left (by simpa using hlt)];simpa using h2
 refine wpm (k _ U _ w hs) (λex a' w' q=>?_);cases ex with
 |normal =>
  obtain⟨S,h',L',s',v,Lo,Lr,hv,hp,hR⟩:=q;exact⟨s'.ds,v,hv a' w' s',h',Lo,hR,hp.ok _ s'.ok⟩
 |ret =>
  obtain⟨S,h',L',s',v,Lo,Lr,hv,hp,hR⟩:=q;exact⟨s'.ds,v,hv a' w' s',h',Lo,hR,hp.ok _ s'.ok⟩
 |exit i=>obtain⟨_,_,_,_,hh⟩:=q;exact hh.1
 |panic ch =>
  obtain⟨S,h',L',s',Lo,Lr,hp,hR⟩:=q;exact⟨s'.ds,h',Lo,hR,hp.ok _ s'.ok⟩
 |goto l=>obtain⟨_,_,_,_,hh⟩:=q;exact hh.elim
 |outgrown=>exact False.elim q
abbrev aM:=@Fn.intro
section
variable {P:Program}{e:Env}{m:Nat}{fn:Func}{S:Sig}{h:Part}{L:LE}
theorem RetV.one {t:Nat}{v:Value}(hr:fn.results=#[.tmp t]) (hv:look S t=some v):RetV P e m fn S h L v:=λa w s=>by
 rw [results_tmp hr];simp [s.slot t v hv]
abbrev ay:=@RetV.one
theorem RetV.two {t u:Nat}{v1 v2:Value}(hr:fn.results=#[.tmp t,.tmp u]) (h1:look S t=some v1) (h2:look S u=some v2):RetV P e m fn S h L (.tuple #[v1,v2]):=λa w s=>by
 rw [results_tmp2 hr];simp [s.slot t v1 h1,s.slot u v2 h2]
abbrev b_:=@RetV.two
theorem RetV.three {t u r:Nat}{v1 v2 v3:Value}(hr:fn.results=#[.tmp t,.tmp u,.tmp r]) (h1:look S t=some v1) (h2:look S u=some v2) (h3:look S r=some v3):RetV P e m fn S h L (.tuple #[v1,v2,v3]):=λa w s=>by
 simp [results,hr,s.slot t v1 h1,s.slot u v2 h2,s.slot r v3 h3]
abbrev cw:=@RetV.three
theorem RetV.none_ (hr:fn.results=#[]):RetV P e m fn S h L (.tuple #[]):=λa w s=>results_none hr _ _ _
abbrev eo:=@RetV.none_
end
def Pure (P:Program) (F:Nat) (args:LV) (h:Part) (v:Value):Prop:=Fn P F args h [] (Rets λu h' Lo=>u=v/\h'=h/\Lo=[])
def FnR (P:Program) (F:Nat) (args:LV) (h:Part) (R:Value->Part->Prop):Prop:=Fn P F args h [] (Rets λu h' Lo=>Lo=[]/\R u h')
theorem Pure.of {P:Program}{F:Nat}{args:LV}{h:Part}{v:Value}{R:Value->Part->LE->Prop}(c:Fn P F args h [] (Rets R)) (hr:∀ u h' Lo,R u h' Lo->u=v):Pure P F args h v:=λw hw =>
 (c w hw).mono λe w' ⟨h',Lo,⟨u,he,hu⟩,hO⟩=>⟨h,[],⟨u,he,hr _ _ _ hu,U,U⟩,(hO.drop (List.nil_sublist _)).shrink hO.le (aT _)⟩
theorem FnR.mono {P:Program}{F:Nat}{args:LV}{h:Part}{R R':Value->Part->Prop}(c:FnR P F args h R) (hr:∀ u h',h.le h'->R u h'->R' u h'):FnR P F args h R' :=
 Fn.mono c λ_ _ _ hle ⟨u,he,hL,hu⟩=>⟨u,he,hL,hr _ _ hle hu⟩
theorem Pure.cast {P:Program}{F:Nat}{args:LV}{h:Part}{v v':Value}(c:Pure P F args h v) (hv:v=v'):Pure P F args h v':=hv ▸ c
section
variable {f:Fr}{n:Post}{x:Nat->Post}{S:Sig}{h:Part}{L:LE}{ops:Array Oper}{rest:LR}
variable {ty:TypeId}{pos:String}{af:Array Edge}{d F:Nat}{args:LV}{os:List Operand}{ts:Array TypeId}{v:Value}{R:Value->Part->Prop}
theorem JL.callP (hF:callT f.P F=true) (ha:evl S os=some args) (c:Pure f.P F args h v) (hd:Nat.blt d f.m=true) (k:JL f ops n x rest ((d,v)::S) h L) :
 JL f ops n x (⟨some d,.call { callee:=.value (.func F),args:=os.toArray,argTypes:=ts },ty,pos,af,none⟩::rest) S h L :=
 d6 hF ha c .nil hd λu h' Lo _ ⟨h1,h2,h3⟩=>by subst h1 h2 h3;exact k
abbrev bh:=@JL.callP
theorem JL.callPg {j dj:Nat}{b:Bool}(hj:(ops[j]?).bind (·.dst)=some dj) (hs:look S dj=some (.bool b)) (hF:callT f.P F=true) (ha:evl S os=some args) (c:Pure f.P F args h v) (hd:Nat.blt d f.m=true) (k:JL f ops n x rest ((d,v)::S) h L) :
 JL f ops n x (⟨some d,.call { callee:=.value (.func F),args:=os.toArray,argTypes:=ts },ty,pos,af,some (j,b)⟩::rest) S h L :=
 JL.callg hj hs hF ha c .nil hd λu h' Lo _ ⟨h1,h2,h3⟩=>by subst h1 h2 h3;exact k
abbrev cG:=@JL.callPg
theorem JL.callR (hF:callT f.P F=true) (ha:evl S os=some args) (c:FnR f.P F args h R) (hd:Nat.blt d f.m=true) (k:∀ v h',h.le h'->R v h'->JL f ops n x rest ((d,v)::S) h' L) :
 JL f ops n x (⟨some d,.call { callee:=.value (.func F),args:=os.toArray,argTypes:=ts },ty,pos,af,none⟩::rest) S h L :=
 d6 hF ha c .nil hd λu h' Lo hle ⟨h1,h2⟩=>by subst h1;exact k u h' hle h2
abbrev bL:=@JL.callR
theorem JL.callRg {j dj:Nat}{b:Bool}(hj:(ops[j]?).bind (·.dst)=some dj) (hs:look S dj=some (.bool b)) (hF:callT f.P F=true) (ha:evl S os=some args) (c:FnR f.P F args h R) (hd:Nat.blt d f.m=true) (k:∀ v h',h.le h'->R v h'->JL f ops n x rest ((d,v)::S) h' L) :
 JL f ops n x (⟨some d,.call { callee:=.value (.func F),args:=os.toArray,argTypes:=ts },ty,pos,af,some (j,b)⟩::rest) S h L :=
 JL.callg hj hs hF ha c .nil hd λu h' Lo hle ⟨h1,h2⟩=>by subst h1;exact k u h' hle h2
theorem JQ.callP (hF:callT f.P F=true) (ha:evl S os=some args) (c:Pure f.P F args h v) (hd:Nat.blt d f.m=true) (k:JQ f ops n rest ((d,v)::S) h L) :
 JQ f ops n (⟨some d,.call { callee:=.value (.func F),args:=os.toArray,argTypes:=ts },ty,pos,af,none⟩::rest) S h L :=
 JQ.call hF ha (Fn.mono c λ_ _ _ _ ⟨u,he,hu,_⟩=>⟨u,he,hu⟩) hd k
abbrev dG:=@JQ.callP
theorem JQ.callPg {j dj:Nat}{b:Bool}(hj:(ops[j]?).bind (·.dst)=some dj) (hs:look S dj=some (.bool b)) (hF:callT f.P F=true) (ha:evl S os=some args) (c:Pure f.P F args h v) (hd:Nat.blt d f.m=true) (k:JQ f ops n rest ((d,v)::S) h L) :
 JQ f ops n (⟨some d,.call { callee:=.value (.func F),args:=os.toArray,argTypes:=ts },ty,pos,af,some (j,b)⟩::rest) S h L :=
 JQ.callg hj hs hF ha (Fn.mono c λ_ _ _ _ ⟨u,he,hu,_⟩=>⟨u,he,hu⟩) hd k
variable {P:Program}{e:Env}{m:Nat}{fn:Func}
theorem J.retP {P:Program}{fn:Func}{p:List PanicEntry->Post}{u:Value}(hv:RetV P e m fn S h L u) (he:u=v) {h0:Part}(hh:h=h0) :
 J ⟨P,e,m,RetPost P e m fn (Rets λu h' Lo=>u=v/\h'=h0/\Lo=[]),p⟩ .ret n x S h L :=
 dE ⟨u,[],L,hv,.nil,u,U,he,hh,U⟩
abbrev aH:=@J.retP
theorem J.retR {P:Program}{fn:Func}{p:List PanicEntry->Post}{u:Value}(hv:RetV P e m fn S h L u) (hR:R u h) :
 J ⟨P,e,m,RetPost P e m fn (Rets λu h' Lo=>Lo=[]/\R u h'),p⟩ .ret n x S h L :=
 dE ⟨u,[],L,hv,.nil,u,U,U,hR⟩
abbrev bj:=@J.retR
end
def strT (P:Program) (src dst:Nat):Bool :=
 match P.underlying src,P.underlying dst with
 |some (.slice e),some .string=>match P.underlying e with
  |some (.int .u8)=>true
  |_=>false
 |_,_=>false
section
variable {f:Fr}{n:Post}{x:Nat->Post}{S:Sig}{h:Part}{L L':LE}{ops:Array Oper}{rest:LR}
variable {ty:TypeId}{pos:String}{af:Array Edge}{d:Nat}{v:Value}{T yt:TypeId}{xo yo:Operand}{a:OA}{c ln:Nat}{p q:LB}{k k':IntKind}{i j:Int}
theorem l9 (p:LB):(⟨p.toArray⟩:ByteArray).size=p.length:=by
 show p.toArray.size=_;simp
def byteAt (s:LB) (i:Nat):Nat:=(s.getD i 0).toNat
theorem cx (s:LB) (i:Nat):byteAt s i<256:=(s.getD i 0).toNat_lt
theorem bY (s:LB) (i:Nat) (h:i<s.length):(s[i].toNat)=byteAt s i:=by simp [byteAt,h]
theorem RunV.lenS (hT:f.P.underlying T=some .string) (hx:ev S xo=some (.string ⟨p.toArray⟩)):RunV f S h L (.call { callee:=.builtin .len,args:=#[xo],argTypes:=#[T] }) ty (.int .i64 (p.length:Int)):=λac w s _ _ _ _=>by
 simp [execOp,resolve,s.eval hx,invoke,builtin,Builtin.len_,run_underlying hT,goInt,l9]
abbrev cD:=@RunV.lenS
theorem RunV.strIndex {m:Nat}(hT:f.P.underlying T=some .string) (hx:ev S xo=some (.string ⟨p.toArray⟩)) (hy:ev S yo=some (.int k i)) (hi:i=(m:Int)) (h1:m<p.length) :
 RunV f S h L (.index T xo yo) ty (.int .u8 (byteAt p m:Int)):=λac w s _ _ _ _=>by
 subst hi;have hs:(⟨p.toArray⟩:ByteArray)[m]?=some p[m]:=by
  have hlt:m<(⟨p.toArray⟩:ByteArray).size:=by rw [l9];omega
  rw [getElem?_pos (⟨p.toArray⟩:ByteArray) m hlt];rfl
 have hb:byteAt p m=p[m].toNat:=(bY p m h1).symm;have h0:(0:Int)<=m:=by omega
 simp [execOp,s.eval hx,s.eval hy,Instr.index,run_underlying hT,asIntOf,h0,hs,hb]
abbrev bH:=@RunV.strIndex
theorem gT (p:LB) (lo hi:Nat):(⟨p.toArray⟩:ByteArray).extract lo hi=⟨((p.drop lo).take (hi-lo)).toArray⟩:=by
 apply ByteArray.ext;simp
theorem RunV.strCutI_lh {lo hi:Operand}(hT:f.P.underlying T=some .string) (hx:ev S xo=some (.string ⟨p.toArray⟩)) (hl:ev S lo=some (.int k i)) (hh:ev S hi=some (.int k' j)) (h0:0<=i) (h1:i<=j) (h2:j<=p.length) :
 RunV f S h L (.slice T xo (some lo) (some hi) none) ty (.string ⟨((p.drop i.toNat).take (j.toNat-i.toNat)).toArray⟩):=λac w s _ _ _ _=>by
 have hj:0<=j:=by omega
 have ej:(j.toNat:Int)=j:=Int.toNat_of_nonneg hj;simp [execOp,s.eval hx,s.eval hl,s.eval hh,Instr.sliceAt,Instr.slice,run_underlying hT,Instr.sliceBounds,Instr.sliceBound,asIntOf,h0,h1,hj,l9,h2,ej,gT]
theorem RunV.strCutI_h {hi:Operand}(hT:f.P.underlying T=some .string) (hx:ev S xo=some (.string ⟨p.toArray⟩)) (hh:ev S hi=some (.int k' j)) (h1:0<=j) (h2:j<=p.length) :
 RunV f S h L (.slice T xo none (some hi) none) ty (.string ⟨(p.take j.toNat).toArray⟩):=λac w s _ _ _ _=>by
 simp [execOp,s.eval hx,s.eval hh,Instr.sliceAt,Instr.slice,run_underlying hT,Instr.sliceBounds,Instr.sliceBound,asIntOf,h1,l9,h2,gT]
theorem RunV.strCutI_l {lo:Operand}(hT:f.P.underlying T=some .string) (hx:ev S xo=some (.string ⟨p.toArray⟩)) (hl:ev S lo=some (.int k i)) (h0:0<=i) (h1:i<=p.length) :
 RunV f S h L (.slice T xo (some lo) none none) ty (.string ⟨(p.drop i.toNat).toArray⟩):=λac w s _ _ _ _=>by
 have e:(p.drop i.toNat).take (p.length-i.toNat)=p.drop i.toNat:=aS (by simp);simp [execOp,s.eval hx,s.eval hl,Instr.sliceAt,Instr.slice,run_underlying hT,Instr.sliceBounds,Instr.sliceBound,asIntOf,h0,h1,l9,gT,e]
theorem RunV.strCut_lh {m m':Nat}{lo hi:Operand}(hT:f.P.underlying T=some .string) (hx:ev S xo=some (.string ⟨p.toArray⟩)) (hl:ev S lo=some (.int k i)) (hh:ev S hi=some (.int k' j)) (hi':i=(m:Int)) (hj:j=(m':Int)) (h1:m<=m') (h2:m'<=p.length) :
 RunV f S h L (.slice T xo (some lo) (some hi) none) ty (.string ⟨((p.drop m).take (m'-m)).toArray⟩):=by
 subst hi' hj;simpa only [Int.toNat_natCast] using RunV.strCutI_lh (f:=f) (h:=h) (L:=L) (ty:=ty) hT hx hl hh z2_ z2_ z2_
abbrev cC:=@RunV.strCut_lh
theorem RunV.strCut_h {m:Nat}{hi:Operand}(hT:f.P.underlying T=some .string) (hx:ev S xo=some (.string ⟨p.toArray⟩)) (hh:ev S hi=some (.int k' j)) (hj:j=(m:Int)) (h2:m<=p.length) :
 RunV f S h L (.slice T xo none (some hi) none) ty (.string ⟨(p.take m).toArray⟩):=by
 subst hj;simpa only [Int.toNat_natCast] using RunV.strCutI_h (f:=f) (h:=h) (L:=L) (ty:=ty) hT hx hh z2_ z2_
theorem RunV.strCut_l {m:Nat}{lo:Operand}(hT:f.P.underlying T=some .string) (hx:ev S xo=some (.string ⟨p.toArray⟩)) (hl:ev S lo=some (.int k i)) (hi:i=(m:Int)) (h1:m<=p.length) :
 RunV f S h L (.slice T xo (some lo) none none) ty (.string ⟨(p.drop m).toArray⟩):=by
 subst hi;simpa only [Int.toNat_natCast] using RunV.strCutI_l (f:=f) (h:=h) (L:=L) (ty:=ty) hT hx hl z2_ z2_
theorem RunV.eqlS (hx:ev S xo=some (.string ⟨p.toArray⟩)) (hy:ev S yo=some (.string ⟨q.toArray⟩)):RunV f S h L (.binOp .eql T xo yo yt) ty (.bool (decide (p=q))):=cX hx hy λw=>by
 simp [go_sem,binOp,Op.stringOp];by_cases hpq:p=q<;>simp [hpq]
theorem RunV.neqS (hx:ev S xo=some (.string ⟨p.toArray⟩)) (hy:ev S yo=some (.string ⟨q.toArray⟩)):RunV f S h L (.binOp .neq T xo yo yt) ty (.bool (decide (p≠q))):=cX hx hy λw=>by
 simp [go_sem,binOp,Op.stringOp];by_cases hpq:p=q<;>simp [hpq]
theorem RunV.lssS (hx:ev S xo=some (.string ⟨p.toArray⟩)) (hy:ev S yo=some (.string ⟨q.toArray⟩)):RunV f S h L (.binOp .lss T xo yo yt) ty (.bool (Op.bytesLess p q)):=cX hx hy λw=>by
 simp [go_sem,binOp,Op.stringOp]
theorem RunV.addS (hx:ev S xo=some (.string ⟨p.toArray⟩)) (hy:ev S yo=some (.string ⟨q.toArray⟩)) (hb:p.length+q.length<=9223372036854775807):RunV f S h L (.binOp .add T xo yo yt) ty (.string ⟨(p++q).toArray⟩):=cX hx hy λw=>by
 have h1:¬ (9223372036854775807<(p.length:Int)+(q.length:Int)):=by omega
 have h2:(⟨p.toArray⟩:ByteArray)++⟨q.toArray⟩=⟨(p++q).toArray⟩:=by apply ByteArray.ext;simp
 simp [go_sem,binOp,Op.stringOp,l9,h1,h2]
theorem RunV.strB {src dst:TypeId}{l:LB}(hT:strT f.P src dst=true) (hx:ev S xo=some (.slice a ln c)) (hR:SlR u8R 1 h a c l) (hlen:ln=l.length):RunV f S h L (.convert src dst xo) ty (.string ⟨l.toArray⟩):=λac w s _ _ _ _=>by
 subst hlen;unfold strT at hT;split at hT<;>try cases hT
 rename_i e hs hd;split at hT<;>try cases hT
 rename_i he;have key:(convert src dst (.slice a l.length c)).run f.P w=.ok (.string ⟨l.toArray⟩) w:=by
  cases l with
  |nil =>
   cases a with
   |none=>rw [run_convert_bytes_nil w src e hs he _ _ dst hd];rfl
   |some ad =>
    rw [run_convert_bytes_string w src dst e _ _ c hs he hd];exact(run_bytesToString w ad 0 c [] (by simp [loadCells,loadCellsFrom])).trans U
  |cons y r =>
   obtain⟨b,o,rfl,_⟩:=hR.elt 0 y U;have hcell:∀ i,i<(y::r).length->w.cell? ⟨b,o+i,none⟩=some (.int .u8 (((y::r).map λz:UInt8=>(z.toNat:Int)).getD i 0)):=λi hi=>by
    obtain⟨b',o',hbo,cc,cs,hb,hl,hj,hu⟩:=hR.elt i _ (aW hi);cases hbo;have h0:=hj 0 z2_;unfold u8R at hu;rw [hu] at h0;simp only [Nat.mul_one,Nat.add_zero] at h0;rw [s.ok.sub.cell hb h0];simp only [List.getD,List.getElem?_map,aW hi,Option.map_some,Option.getD_some,List.getElem?_cons_zero]
   rw [run_convert_bytes_arg w src e hs he b o _ c ((y::r).map λz:UInt8=>(z.toNat:Int)) (by simp) hcell dst hd];have:strOfNums ((y::r).map λz:UInt8=>(z.toNat:Int))=⟨(y::r).toArray⟩:=by
    unfold strOfNums;rw [List.map_map];congr 2;exact(List.map_congr_left (λz _=>by simp)).trans (List.map_id _)
   rw [this]
 simp [execOp,s.eval hx,key]
abbrev d7:=@RunV.strB
theorem RunV.max2 {ts:Array TypeId}(hx:ev S xo=some (.int k i)) (hy:ev S yo=some (.int k' j)):RunV f S h L (.call { callee:=.builtin .max,args:=#[xo,yo],argTypes:=ts }) ty (.int k (if i<j then j else i)):=λac w s _ _ _ _=>by
 simp [execOp,resolve,s.eval hx,s.eval hy,invoke,builtin,run_max_int2]
theorem RunV.min2 {ts:Array TypeId}(hx:ev S xo=some (.int k i)) (hy:ev S yo=some (.int k' j)):RunV f S h L (.call { callee:=.builtin .min,args:=#[xo,yo],argTypes:=ts }) ty (.int k (if j<i then j else i)):=λac w s _ _ _ _=>by
 simp [execOp,resolve,s.eval hx,s.eval hy,invoke,builtin,run_min_int2]
theorem RunV.makeFunc {fn:Go.Fn}{os1 os2:List Operand}{v1 v2:LV}(h1:evl S os1=some v1) (h2:evl S os2=some v2):RunV f S h L (.makeFunc fn os1.toArray os2.toArray) ty (.func fn v1.toArray v2.toArray):=λac w s _ _ _ _=>by
 simp [execOp,Instr.makeFunc,eD s h1,eD s h2]
end
theorem cV {a b:Bool}(h:a=b):some (Value.bool a)=some (Value.bool b):=by rw [h]
theorem cQ {k:IntKind}{a b:Int}(h:a=b):some (Value.int k a)=some (Value.int k b):=by rw [h]
theorem eB {a b:Int}(h:a=b):some (Value.int .i64 a)=some (Value.int .i64 b):=by rw [h]
theorem get!_list (l:LB) (k:Nat):(⟨l.toArray⟩:ByteArray).get! k=l.getD k default:=by
 show l.toArray[k]! = _;simp [getElem!_def,List.getD];cases l[k]?<;>rfl
theorem sx (l:LB) (i:Nat):Utf8.decode ⟨l.toArray⟩ i=Go.Lib.decodeL (l.drop i):=by
 unfold Go.Lib.decodeL;rw [Go.Lib.decode_at,Go.Lib.decode_at];have e:∀ k,(l.drop i).getD k default=l.getD (i+k) default:=λk=>by simp [List.getD]
 simp only [get!_list,e,l9,bC,Nat.zero_add,Nat.add_zero,Nat.sub_zero]
abbrev chr (l:LB):Nat:=(Go.Lib.decodeL l).1
abbrev wid (l:LB):Nat:=(Go.Lib.decodeL l).2
theorem my (n a b c d:Nat):1<=(Go.Lib.decodeN n a b c d).2/\((Go.Lib.decodeN n a b c d).2<=n\/(Go.Lib.decodeN n a b c d).2=1):=by
 unfold Go.Lib.decodeN
 repeat' split
 all_goals simp
 all_goals omega
theorem jN (l:LB):1<=wid l:=by
 show 1<=(Go.Lib.decodeL l).2;unfold Go.Lib.decodeL;rw [Go.Lib.decode_at];exact(my _ _ _ _ _).1
theorem wid_le (l:LB) (h:l≠[]):wid l<=l.length:=by
 show(Go.Lib.decodeL l).2<=l.length;have hl:=List.length_pos_iff.2 h;unfold Go.Lib.decodeL;rw [Go.Lib.decode_at];rcases(my _ _ _ _ _).2 with hh|hh
 ·refine Nat.le_trans hh ?_;rw [l9];omega
 ·rw [hh];exact hl
theorem sy (n a b c d:Nat) (ha:a<256):(Go.Lib.decodeN n a b c d).1<=1114111:=by
 unfold Go.Lib.decodeN
 repeat' split
 all_goals simp
 all_goals omega
theorem chr_le (l:LB):chr l<=1114111:=by
 show(Go.Lib.decodeL l).1<=_;unfold Go.Lib.decodeL;rw [Go.Lib.decode_at];exact sy _ _ _ _ _ (by have:=((⟨l.toArray⟩:ByteArray).get! 0).toNat_lt;omega)
theorem Ok.alloc_it {e:Env}{h:Part}{L:LE}{w:World}(k:Ok e h L w) (s:LB) (pos:Nat) :
 Ok e h (.it w.heap.size s pos::L) (w.alloc (.stringIter ⟨s.toArray⟩ pos)):=by
 have keepOld:∀ b,b<w.heap.size->(w.alloc (.stringIter ⟨s.toArray⟩ pos)).heap[b]?=w.heap[b]?:=λb hb=>Below.heap_alloc _ _ _ hb;refine⟨k.os,k.tape,k.output,by have:=k.size;simp;omega,λb hb hm=>?_,λb c hc=>?_,k.le,k.fresh,λx hx=>?_,λb hb=>?_,?_⟩
 ·rw [keepOld b (Nat.lt_of_lt_of_le hb k.size)];exact k.old b hb hm
 ·obtain⟨t',fr,he⟩:=k.sub b c hc;exact⟨t',fr,by rw [keepOld b (k.sub.lt hc)];exact he⟩
 ·cases hx with
  |head=>exact heap_alloc_new w _
  |tail _ hx=>exact Ent.keep (k.own x hx) λb hb=>keepOld b (Ent.lt (k.own x hx) hb)
 ·simp only [keys,List.filterMap_cons,Ent.key,List.mem_cons] at hb;rcases hb with rfl|hb
  ·refine⟨?_,.inl k.size⟩;cases hh:h w.heap.size with
   |none=>rfl
   |some c=>have:=k.sub.lt hh;omega
  ·exact k.key b hb
 ·simp only [keys,List.filterMap_cons,Ent.key];exact List.nodup_cons.2 ⟨λhm=>by have:=k.klt hm;omega,k.nodup⟩
def arT (P:Program) (T:Nat):Option (Nat×Nat) :=
 match P.underlying T with
 |some (.array n e)=>match P.info? e with
  |some i=>some (n,i.size)
  |none=>none
 |_=>none
theorem uP {P:Program}{T n sz:Nat}(h:arT P T=some (n,sz)):∃ e,P.underlying T=some (.array n e)/\∃ i,P.info? e=some i/\i.size=sz:=by
 unfold arT at h;split at h<;>try cases h
 rename_i n' e' hT;split at h<;>cases h;rename_i i hi;exact⟨e',hT,i,hi,U⟩
section
variable {f:Fr}{n:Post}{x:Nat->Post}{S:Sig}{h:Part}{L L':LE}{ops:Array Oper}{rest:LR}
variable {ty:TypeId}{pos:String}{af:Array Edge}{d:Nat}{v:Value}{T:TypeId}{xo yo:Operand}{s:LB}
theorem JL.range (hT:f.P.underlying T=some .string) (hx:ev S xo=some (.string ⟨s.toArray⟩)) (hd:Nat.blt d f.m=true) (k:∀ b,JL f ops n x rest ((d,.pointer (some ⟨b,0,none⟩))::S) h (.it b s 0::L)) :
 JL f ops n x (⟨some d,.range T xo,ty,pos,af,none⟩::rest) S h L:=λa w st=>by
 refine d8 (v:=.pointer (some ⟨w.heap.size,0,none⟩)) (w':=w.alloc (.stringIter ⟨s.toArray⟩ 0)) U ?_ (k w.heap.size _ _ (st.put hd _ (st.ok.alloc_it s 0)));have:=run_range_string (P:=f.P) w T ⟨s.toArray⟩ hT;simp [execOp,st.eval hx,this,World.iter]
theorem JL.next {b at_:Nat}(hx:ev S xo=some (.pointer (some ⟨b,0,none⟩))) (u:Del (.it b s at_) L L') (hd:Nat.blt d f.m=true)
 (k1:at_<s.length->JL f ops n x rest ((d,.tuple #[.bool true,.int .i64 at_,.int .i32 (chr (s.drop at_))])::S) h (.it b s (at_+wid (s.drop at_))::L'))
 (k2:s.length<=at_->JL f ops n x rest ((d,.tuple #[.bool false])::S) h (.it b s at_::L')) :
 JL f ops n x (⟨some d,.next xo true,ty,pos,af,none⟩::rest) S h L:=λa w st=>by
 have hw:w.heap[b]?=some (.stringIter ⟨s.toArray⟩ at_):=st.ok.own _ u.mem;have okp:=st.ok.perm u.perm;have hlt:b<w.heap.size:=Ent.lt (st.ok.own _ u.mem) U;by_cases hp:at_<s.length
 ·have e1:Utf8.decode ⟨s.toArray⟩ at_=(chr (s.drop at_),wid (s.drop at_)):=sx s at_
  let w':World:={ w with heap:=w.heap.setIfInBounds b (.stringIter ⟨s.toArray⟩ (at_+wid (s.drop at_))) }
  have hok:Ok f.e h (.it b s (at_+wid (s.drop at_))::L') w':=by
   refine okp.turn U U U (by simp [w']) (λb' _ hne=>?_) ?_ (λb' hb'=>.inl hb')
   ·have hne':b≠b':=λhh=>hne (by rw [<- hh];rfl);simp [w',Array.getElem?_setIfInBounds,hne']
   ·simp only [Ent.holds,w'];rw [Array.getElem?_setIfInBounds];simp [hlt]
  refine d8 (v:=.tuple #[.bool true,.int .i64 at_,.int .i32 (chr (s.drop at_))]) (w':=w') U ?_ (k1 hp _ _ (st.put hd _ hok));simp [execOp,st.eval hx,Instr.next,getObj,Sem.run,hw,l9,hp,e1,setObj,goInt,w']
 ·refine d8 (v:=.tuple #[.bool false]) (w':=w) U ?_ (k2 z2_ _ _ (st.put hd _ (okp.perm (.refl _))));simp [execOp,st.eval hx,Instr.next,getObj,Sem.run,hw,l9,hp]
theorem RunV.indexArr {len b m:Nat}{k:IntKind}{i:Int}(hT:arT f.P T=some (len,1)) (hx:ev S xo=some (.pointer (some ⟨b,0,none⟩))) (hy:ev S yo=some (.int k i)) (hi:i=(m:Int)) (h1:m<len) :
 RunV f S h L (.indexAddr T xo yo) ty (.pointer (some ⟨b,m,none⟩)):=λa w s _ _ _ _=>by
 subst hi;have h0:(0:Int)<=m:=by omega
 obtain⟨e,hu,inf,hi,hs⟩:=uP hT;simp [execOp,s.eval hx,s.eval hy,Instr.indexAt,run_underlying hu,asIntOf,sizeOf,typeInfo,hi,hs,h0,h1,Addr.add_lit,Instr.sureAddr]
theorem RunV.cutArr_l {len b:Nat}{k:IntKind}{i:Int}(hT:arT f.P T=some (len,1)) (hx:ev S xo=some (.pointer (some ⟨b,0,none⟩))) (hy:ev S yo=some (.int k i)) (h0:0<=i) (h1:i<=len) :
 RunV f S h L (.slice T xo (some yo) none none) ty (.slice (some (if len=i.toNat then⟨b,0,none⟩ else⟨b,i.toNat,none⟩)) (len-i.toNat) (len-i.toNat)):=λa w s _ _ _ _=>by
 obtain⟨e,hu,inf,hi,hs⟩:=uP hT;simp [execOp,s.eval hx,s.eval hy,Instr.sliceAt,run_underlying hu,Instr.sliceBounds,Instr.sliceBound,asIntOf,sizeOf,typeInfo,hi,hs,h0,h1,Addr.add_lit,Instr.sureAddr]
end
theorem SlR.cutArr {α:Type}{R:Rep α}{h:Part}{b:Nat}{l:List α}(k:SlR R 1 h (some ⟨b,0,none⟩) l.length l) {i:Nat}(hi:i<=l.length) :
 SlR R 1 h (some (if l.length=i then⟨b,0,none⟩ else⟨b,i,none⟩)) (l.length-i) (l.drop i):=by
 have:=k.take_drop (lo:=i) (hi:=l.length) (m:=l.length) hi (aL _) (aL _) (aL _);rw [aS (by simp)] at this;by_cases hh:l.length=i
 ·simpa [hh] using this
 ·simpa [hh,Addr.add_lit] using this
theorem RunE.cutArr {α:Type}{R:Rep α}{f:Fr}{S:Sig}{h:Part}{L:LE}{ty T:TypeId}{xo yo:Operand}{len b m:Nat}{l:List α}{k:IntKind}{i:Int}(hT:arT f.P T=some (len,1)) (hx:ev S xo=some (.pointer (some ⟨b,0,none⟩))) (hy:ev S yo=some (.int k i)) (hi:i=(m:Int)) (hR:SlR R 1 h (some ⟨b,0,none⟩) l.length l) (hl:l.length=len) (h1:m<=len) :
 RunE f S h L (.slice T xo (some yo) none none) ty (λv=>∃ a c,v=.slice a (l.drop m).length c/\SlR R 1 h a c (l.drop m)):=by
 subst hl hi;refine⟨_,RunV.cutArr_l hT hx hy z2_ z2_,_,_,?_,hR.cutArr (i:=m) z2_⟩;simp
theorem nB (l:LB) (i:Nat) (b:UInt8):(u8s l).set i (.int .u8 (b.toNat:Int))=u8s (l.set i b):=by simp [u8s,List.map_set]
theorem Part.le.mono {a b c:Part}(h:a.le b) (k:b.le c):a.le c:=h.trans k
theorem J.retV {e:Env}{m:Nat}{S:Sig}{h:Part}{L:LE}{n:Post}{x:Nat->Post}{P:Program}{fn:Func}{p:List PanicEntry->Post}{u v:Value}(hv:RetV P e m fn S h L u) (he:u=v) :
 J ⟨P,e,m,RetPost P e m fn (Rets λu _ _=>u=v),p⟩ .ret n x S h L :=
 dE ⟨u,[],L,hv,.nil,u,U,he⟩
abbrev ew:=@J.retV
theorem Pure.ofV {P:Program}{F:Nat}{args:LV}{h:Part}{v:Value}(c:Fn P F args h [] (Rets λu _ _=>u=v)):Pure P F args h v:=Pure.of c λ_ _ _ hh=>hh
abbrev dY:=@Pure.ofV
theorem Pure.lib {P:Program}{F:Nat}{args:LV}{h:Part}{v:Value}(k:∀ w,Sub h w->Calls P F args.toArray w λe w'=>e=.returned v/\Below w.heap.size w w'):Pure P F args h v:=λw hw=>by
 refine(k w hw.sub).mono λe w' ⟨he,hb⟩=>⟨h,[],⟨v,he,U,U,U⟩,⟨hb.os,hb.tape,hb.output,hb.size,λb hlt _=>hb.block b hlt,λb c hc=>?_,aT _,λb c hc=>.inl hc,(λx hx=>by cases hx),(λb hb=>by cases hb),List.nodup_nil⟩⟩;obtain⟨t,fr,e⟩:=hw.sub b c hc;exact⟨t,fr,by rw [hb.block b (hw.sub.lt hc)];exact e⟩
theorem bT {p:Prop}(u:p:=by decide):p:=u
theorem vb (n:Int) (h0:0<=n) (h1:n<2 ^ 32):IntKind.u32.wrap n=n:=sS n h0 z2_
theorem va (n:Int) (h0:0<=n) (h1:n<2 ^ 64):IntKind.u64.wrap n=n:=ge n h0 z2_
theorem vc (n:Int) (h0:0<=n) (h1:n<2 ^ 63):IntKind.i64.wrap n=n:=fM n z2_ z2_
section
variable {f:Fr}{S:Sig}{h:Part}{L:LE}{ty T yt:TypeId}{x y:Operand}{p q M:Int}
theorem RunV.mask_u8 (i:Nat) (D:Int) (hx:ev S x=some (.int .u8 p)) (hy:ev S y=some (.int .u8 M)) (hM:(2:Int) ^ i-1=M) (hD:(2:Int) ^ i=D) (hi:i<=8) (h0:0<=p) (h1:p<=255):RunV f S h L (.binOp .and T x y yt) ty (.int .u8 (p % D)):=by
 subst hM;have:=RunV.and_ (f:=f) (h:=h) (L:=L) (ty:=ty) (T:=T) (yt:=yt) hx hy;rwa [bits_mask .u8 8 bT wraps_u8 i hi p h0 z2_,hD] at this
theorem RunV.maskb_u8 {b:UInt8}(i:Nat) (D:Int) (hx:ev S x=some (.int .u8 (b.toNat:Int))) (hy:ev S y=some (.int .u8 M)) (hM:(2:Int) ^ i-1=M) (hD:(2:Int) ^ i=D) (hi:i<=8):RunV f S h L (.binOp .and T x y yt) ty (.int .u8 ((b.toNat:Int) % D)) :=
 RunV.mask_u8 i D hx hy hM hD hi z2_ (by have:=b.toNat_lt;omega)
theorem RunV.mask_u32 (i:Nat) (D:Int) (hx:ev S x=some (.int .u32 p)) (hy:ev S y=some (.int .u32 M)) (hM:(2:Int) ^ i-1=M) (hD:(2:Int) ^ i=D) (hi:i<=32) (h0:0<=p) (h1:p<=4294967295):RunV f S h L (.binOp .and T x y yt) ty (.int .u32 (p % D)):=by
 subst hM;have:=RunV.and_ (f:=f) (h:=h) (L:=L) (ty:=ty) (T:=T) (yt:=yt) hx hy;rwa [bits_mask .u32 32 bT vb i hi p h0 z2_,hD] at this
theorem RunV.join_u64 (i:Nat) (D:Int) (hx:ev S x=some (.int .u64 p)) (hy:ev S y=some (.int .u64 q)) (hD:(2:Int) ^ i=D) (h0:0<=p) (hp:p % D=0) (h1:p<=18446744073709551615) (hq0:0<=q) (hq:q<D) (hq1:q<=18446744073709551615):RunV f S h L (.binOp .or T x y yt) ty (.int .u64 (p+q)):=by
 have:=RunV.or_ (f:=f) (h:=h) (L:=L) (ty:=ty) (T:=T) (yt:=yt) hx hy;rwa [bits_join .u64 64 bT va i p q h0 (by rw [hD];exact hp) z2_ hq0 (by rw [hD];exact hq) z2_] at this
theorem RunV.join_i64 (i:Nat) (D:Int) (hx:ev S x=some (.int .i64 p)) (hy:ev S y=some (.int .i64 q)) (hD:(2:Int) ^ i=D) (h0:0<=p) (hp:p % D=0) (h1:p<=9223372036854775807) (hq0:0<=q) (hq:q<D) (hq1:q<=9223372036854775807):RunV f S h L (.binOp .or T x y yt) ty (.int .i64 (p+q)):=by
 have:=RunV.or_ (f:=f) (h:=h) (L:=L) (ty:=ty) (T:=T) (yt:=yt) hx hy;rwa [bits_join .i64 63 bT vc i p q h0 (by rw [hD];exact hp) z2_ hq0 (by rw [hD];exact hq) z2_] at this
theorem RunV.toByte (m:Nat) {src dst:TypeId}{k:IntKind}(hc:convI f.P src dst=some .u8) (hx:ev S x=some (.int k p)) (hm:p=(m:Int)):RunV f S h L (.convert src dst x) ty (.int .u8 ((UInt8.ofNat m).toNat:Int)):=by
 subst hm;have:=cL (f:=f) (h:=h) (L:=L) (ty:=ty) hc hx;have e:IntKind.u8.wrap (m:Int)=((UInt8.ofNat m).toNat:Int):=by rw [IntKind.wrap_u8];simp
 rwa [e] at this
abbrev cT:=@RunV.toByte
set_option maxRecDepth 100000 in
theorem and32_:∀ m:Fin 256,bits .and .u8 (m.val:Int) 32=32*((m.val:Int) / 32 % 2):=by decide
theorem RunV.and32 (hx:ev S x=some (.int .u8 p)) (h0:0<=p) (h1:p<=255):RunV f S h L (.binOp .and T x (.const (.int .u8 32)) yt) ty (.int .u8 (32*(p / 32 % 2))):=by
 have:=RunV.and_ (f:=f) (h:=h) (L:=L) (ty:=ty) (T:=T) (yt:=yt) (y:=.const (.int .u8 32)) hx U;obtain⟨m,rfl⟩:=Int.eq_ofNat_of_zero_le h0;have e:=and32_ ⟨m,by omega⟩;simp only at e;rwa [e] at this
set_option maxRecDepth 100000 in
theorem or32_:∀ m:Fin 224,m.val % 64<32->bits .or .u8 ((UInt8.ofNat m.val).toNat:Int) 32=((UInt8.ofNat (m.val+32)).toNat:Int):=by decide
theorem RunV.or32 (m:Nat) (hx:ev S x=some (.int .u8 ((UInt8.ofNat m).toNat:Int))) (hm:m<224) (h64:m % 64<32):RunV f S h L (.binOp .or T x (.const (.int .u8 32)) yt) ty (.int .u8 ((UInt8.ofNat (m+32)).toNat:Int)):=by
 have:=RunV.or_ (f:=f) (h:=h) (L:=L) (ty:=ty) (T:=T) (yt:=yt) (y:=.const (.int .u8 32)) hx U;rwa [or32_ ⟨m,hm⟩ h64] at this
end
section
variable {f:Fr}{n:Post}{x:Nat->Post}{S:Sig}{h:Part}{L L':LE}{l0:LR}{ops:Array Oper}
theorem Ok.toRow {e:Env}{w:World}{b t sz m:Nat}{cs:LV}(k:Ok e h (.blk b t cs::L) w) (hl:cs.length=m*sz) (hm:m<=maxLen):Ok e h (.row (some ⟨b,0,none⟩) m t sz m cs::L) w :=
 k.turn U U U (aL _) (λ_ _ _=>rfl) ⟨hl,.inr ⟨b,m,cs.toArray,U,Nat.zero_le _,k.own _ (aK ..),aL _,hm,by simpa using hl,by rw [<- hl];simp⟩⟩ (λb' hb'=>.inl hb')
theorem JL.rowB {b t:Nat}{y:UInt8}(u:Del (.blk b t [.int .u8 (y.toNat:Int)]) L L') (k:JL f ops n x l0 S h (.row (some ⟨b,0,none⟩) 1 t 1 [y].length (u8s [y])::L')):JL f ops n x l0 S h L:=λac w s =>
 k ac w (s.with ((s.ok.perm u.perm).toRow (m:=1) (sz:=1) U bT))
end
abbrev aD:=@List.length_map
def plT (P:Program) (T:Nat):Option (LV×List (Nat×Nat)) :=
 match P.info? T,P.underlying T with
 |some it,some (.struct fields) =>
  match it.zero,fields.toList.mapM (λf=>(P.info? f.type).map λi=>(f.offset,i.size)) with
  |some z,some places=>some (z.cells.toList,places)
  |_,_=>none
 |_,_=>none
def fillL (pl:List (Nat×Nat)):LV->List (Nat×Value)->Option LV
 |cs,[]=>some cs
 |cs,(i,v)::r=>match pl[i]? with
  |none=>none
  |some (o,n)=>if v.cells.toList.length=n/\o+n<=cs.length then fillL pl (cs.take o++v.cells.toList++cs.drop (o+n)) r else none
theorem gt (off:Nat):∀ (cs B A C:LV) (k:Nat),A.length=off+k->B.length=cs.length->(cs.zipIdx k).foldl (λ(a:Array Value) (p:Value×Nat)=>a.setIfInBounds (off+p.2) p.1) (A++B++C).toArray=(A++cs++C).toArray
 |[],B,A,C,k,_,hB=>by
  have:B=[]:=List.eq_nil_of_length_eq_zero (by simpa using hB);subst this;rfl
 |c::r,B,A,C,k,hA,hB=>by
  match B,hB with
  |b::B',hB =>
   rw [List.zipIdx_cons,List.foldl_cons];have e:(A++b::B'++C).toArray.setIfInBounds (off+k) c=((A++[c])++B'++C).toArray:=by
    rw [<- hA];simp [List.set_append]
   simp only;rw [e,gt off r B' (A++[c]) C (k+1) (by simp;omega) (by simpa using hB)];simp
theorem qt (pl:List (Nat×Nat)):∀ (ps:List (Nat×Value)) (cs cs':LV),fillL pl cs ps=some cs'->Instr.fill (pl.toArray[·]?) cs.toArray ps=some cs'.toArray
 |[],cs,cs',h=>by simp only [fillL,aB] at h;subst h;rfl
 |(i,v)::r,cs,cs',h=>by
  simp only [fillL] at h;split at h
  ·cases h
  ·rename_i o n hp;split at h
   ·rename_i hh;obtain⟨h1,h2⟩:=hh;have ih:=qt pl r _ _ h;have hv:v.cells.size=n:=by simpa using h1
    have key:=gt o v.cells.toList ((cs.drop o).take n) (cs.take o) (cs.drop (o+n)) 0 (by simp;omega) (by rw [h1];simp;omega);have hcs:cs.take o++(cs.drop o).take n++cs.drop (o+n)=cs:=by
     rw [List.append_assoc,<- List.drop_drop,List.take_append_drop,List.take_append_drop]
    rw [hcs] at key;simp only [Instr.fill,List.getElem?_toArray,hp,hv,ne_eq,not_true_eq_false,decide_false,Bool.false_or,gt_iff_lt,List.size_toArray,show ¬ cs.length<o+n by omega,decide_false,c_,if_false];rw [<- ih,<- key,<- Array.toList_zipIdx,Array.foldl_toList];simp
   ·cases h
section
variable {f:Fr}{n:Post}{x:Nat->Post}{S:Sig}{h:Part}{L L':LE}{ops:Array Oper}{rest:LR}
variable {ty:TypeId}{pos:String}{af:Array Edge}{d:Nat}{v:Value}{T:TypeId}{xo yo:Operand}
theorem RunV.build {zs cs:LV}{pl:List (Nat×Nat)}{ps:List (Nat×Operand)}{vs:List (Nat×Value)}(hT:plT f.P T=some (zs,pl)) (hp:evs S ps=some vs) (hf:fillL pl zs vs=some cs) :
 RunV f S h L (.build T ps.toArray) ty (.agg cs.toArray):=λa w s _ _ _ _=>by
 have hb:f.P.built T vs=some cs.toArray:=by
  unfold plT at hT;unfold Program.built;split at hT<;>try cases hT
  rename_i it fields hi hu;split at hT<;>cases hT;rename_i z places hz hpl;simp only [hi,hu,hz,hpl];have:=qt _ _ _ _ hf;simpa using this
 have hm:Array.map (λp:Nat×Operand=>(p.1,a.eval p.2)) ps.toArray=vs.toArray:=by simp [ip s hp]
 have:=run_build (P:=f.P) w T vs.toArray cs.toArray (by simpa using hb);simp [execOp,hm,this]
abbrev bn:=@RunV.build
theorem JL.appendFull {α:Type}{R:Rep α} [Mono R] {e sz bytes nn m:Nat}{a a2:OA}{c c2:Nat}{l l2:List α}(hT:apT f.P T=some (e,sz,bytes)) (hx:ev S xo=some (.slice a nn c)) (hy:ev S yo=some (.slice a2 m c2))
 (hR1:SlR R sz h a c l) (hnn:nn=l.length) (hc:c=nn) (hR:SlR R sz h a2 c2 l2) (hm:m=l2.length) (hm0:0<m)
 (hb:(l.length+l2.length)*bytes<=140737488355328) (hd:Nat.blt d f.m=true) (hbp:Nat.blt 0 bytes=true)
 (k:∀ a' c' xs',CellsR R sz h xs' (l++l2)->(l++l2).length<=140737488355328->JL f ops n x rest ((d,.slice a' (l++l2).length c')::S) h (.row a' c' e sz (l++l2).length xs'::L)) :
 JL f ops n x (⟨some d,.call { callee:=.builtin .append,args:=#[xo,yo],argTypes:=#[T,T] },ty,pos,af,none⟩::rest) S h L:=by
 subst hnn hm hc;cases a with
 |none =>
  have h0:=hR1.nil U;have hl:l=[]:=List.eq_nil_of_length_eq_zero h0;subst hl;exact bZ e sz (bX (l:=[]) hT hx hy bQ U hR U .here hb hd hbp k)
 |some ad =>
  obtain⟨hu,i,z,hi,hz,hsz,hby,hzc,h0⟩:=gy hT;obtain⟨olds,ho,hso⟩:=Src.sl (e:=f.e) (L:=L) h0 hR1;obtain⟨news,hn,hs⟩:=Src.sl (e:=f.e) (L:=L) h0 hR;have hbp':0<bytes:=by simpa using hbp
  have hmul:l.length+l2.length<=(l.length+l2.length)*bytes:=Nat.le_mul_of_pos_right _ hbp';cases a2 with
  |none=>have:=hR.nil U;have:=hR.len;omega
  |some ad2 =>
   intro ac w s;obtain⟨v',w',hr,h1,h2⟩:=run_append_arg_grows (P:=f.P) (w:=w) T ty e i z sz bytes hu hi hz hsz hby hzc h0 ad l.length l.length olds hso.1 (hso.2.2.2 w s.ok ad U) ad2 l2.length c2 news hs.1 (hs.2.2.2 w s.ok ad2 U) z2_ (by simp only [maxLen];omega) hb;obtain⟨a',c',rfl,hc1,hc2,_⟩:=kW h1;have hown:w'.ownsRow 0 e sz (.slice a' (l.length+l2.length) c') (l.length+l2.length) (olds++news):=by
    refine⟨h1.1,?_⟩;rcases h1.2 with hh|⟨g,cap,cur,hv,_,rest⟩
    ·exact .inl hh
    ·exact .inr ⟨g,cap,cur,hv,Nat.zero_le _,rest⟩
   have hok:Ok f.e h (.row a' c' e sz (l.length+l2.length) (olds++news)::L) w':=by
    refine(s.ok.row_nil e sz).turn h2.os h2.tape h2.output h2.size (λb hb' _=>h2.block b hb' (λhh=>by cases hh)) hown (λb hb'=>.inr ?_);exact(World.ownsRow.lt h1 b hb').1
   refine d8 (v:=.slice a' (l.length+l2.length) c') (w':=w') U ?_ ?_
   ·simp [execOp,resolve,s.eval hx,s.eval hy,invoke,builtin,hr]
   ·have hll:l.length+l2.length=(l++l2).length:=by simp
    rw [hll] at hok |-
    exact k a' c' _ (ho.append hn) (by rw [<- hll];omega) _ _ (s.put hd _ hok)
theorem RunV.callX {F:Nat}{os:List Operand}{ts:Array TypeId}{args:LV}(ha:evl S os=some args) (hr:∀ w,Sub h w->(callFunc F args.toArray).run f.P w=.ok (.value v) w) :
 RunV f S h L (.call { callee:=.value (.func F),args:=os.toArray,argTypes:=ts }) ty v:=λa w s _ _ _ _=>by
 have hm:os.toArray.map a.eval=args.toArray:=by simp [eD s ha]
 simp [execOp,resolve,hm,Act.eval,Deferred.ofValue,invoke,hr w s.ok.sub]
end
def niT (P:Program) (T:Nat):Bool:=match P.underlying T with
 |some (.interface _)=>false
 |some _=>true
 |none=>false
theorem RunV.makeInterface {f:Fr}{S:Sig}{h:Part}{L:LE}{ty T:TypeId}{xo:Operand}{v:Value}(hT:niT f.P T=true) (hx:ev S xo=some v):RunV f S h L (.makeInterface T xo) ty (.iface T v):=λa w s _ _ _ _=>by
 unfold niT at hT;split at hT<;>try cases hT
 rename_i d hd hu;cases d<;>first|(exact(hd _ rfl).elim)|simp [execOp,s.eval hx,Instr.makeInterface,run_underlying hu]
def ifT (P:Program) (T:Nat):Bool:=match P.underlying T with
 |some (.interface _)=>true
 |_=>false
section
variable {f:Fr}{S:Sig}{h:Part}{L:LE}{ty T yt:TypeId}{xo:Operand}
theorem RunV.neq_nil_nil (hT:ifT f.P T=true) (hx:ev S xo=some .nilIface):RunV f S h L (.binOp .neq T xo (.const .nilIface) yt) ty (.bool false):=cX (y:=.const .nilIface) hx U λw=>by
 unfold ifT at hT;split at hT<;>try cases hT
 rename_i ms hu;have key:∀ m:Nat,(Op.equalIn (m+1) T .nilIface .nilIface).run f.P w=.ok true w:=λm=>by simp [Op.equalIn,run_underlying hu]
 simp only [go_sem,binOp,Op.equal,Op.maxDepth];simp [eqGuard,key 9999]
theorem RunV.neq_iface_nil {t:TypeId}{v:Value}(hT:ifT f.P T=true) (hx:ev S xo=some (.iface t v)):RunV f S h L (.binOp .neq T xo (.const .nilIface) yt) ty (.bool true):=cX (y:=.const .nilIface) hx U λw=>by
 unfold ifT at hT;split at hT<;>try cases hT
 rename_i ms hu;have key:∀ m:Nat,(Op.equalIn (m+1) T (.iface t v) .nilIface).run f.P w=.ok false w:=λm=>by simp [Op.equalIn,run_underlying hu]
 simp only [go_sem,binOp,Op.equal,Op.maxDepth];simp [eqGuard,key 9999]
end
theorem fR {P:Program}{e:Env}{h:Part}{L:LE}{w:World}{b T sz t:Nat}{cs:LV}(hk:Ok e h L w) (hT:aggT P T=some (some sz)) (hm:Ent.blk b t cs∈L) (hl:cs.length=sz):(loadVar T ⟨b,0,none⟩).run P w=.ok (.agg cs.toArray) w:=by
 subst hl;have hb:w.heap[b]?=some (.cells cs.toArray t (0,0)):=hk.own _ hm;have hld:(loadCells ⟨b,0,none⟩ cs.length).run P w=.ok cs.toArray w:=run_loadCells_list (P:=P) w ⟨b,0,none⟩ cs (λj u hu=>by
  rw [Addr.add_lit,cell_of_row w b _ _ _ _ hb];simpa using hu)
 simp [loadVar,(dV hT w).1,(dV hT w).2,hld]
section
variable {P:Program}{e:Env}{m:Nat}{fn:Func}{S:Sig}{h:Part}{L:LE}
theorem RetV.cell {t T b bt sz:Nat}{cs:LV}(hr:fn.results=#[.cell t T]) (hv:look S t=some (.pointer (some ⟨b,0,none⟩))) (hT:aggT P T=some (some sz)) (hm:Ent.blk b bt cs∈L) (hl:cs.length=sz):RetV P e m fn S h L (.agg cs.toArray):=λa w s=>by
 simp [results,hr,s.slot t _ hv,asAddr,fR s.ok hT hm hl]
abbrev cr:=@RetV.cell
theorem RetV.cell2 {t T b bt sz t' T' b' bt' sz':Nat}{cs cs':LV}(hr:fn.results=#[.cell t T,.cell t' T']) (hv:look S t=some (.pointer (some ⟨b,0,none⟩))) (hT:aggT P T=some (some sz)) (hm:Ent.blk b bt cs∈L) (hl:cs.length=sz)
 (hv':look S t'=some (.pointer (some ⟨b',0,none⟩))) (hT':aggT P T'=some (some sz')) (hm':Ent.blk b' bt' cs'∈L) (hl':cs'.length=sz'):RetV P e m fn S h L (.tuple #[.agg cs.toArray,.agg cs'.toArray]):=λa w s=>by
 simp [results,hr,s.slot t _ hv,s.slot t' _ hv',asAddr,fR s.ok hT hm hl,fR s.ok hT' hm' hl']
end
theorem lU {P:Program}{h:Part}{w:World}(s:Sub h w) {a:OA}{c:Nat}{l:LB}(hR:SlR u8R 1 h a c l):(Extern.Bytes.bytesOf (.slice a l.length c)).run P w=.ok ⟨l.toArray⟩ w:=by
 cases a with
 |none =>
  have:=hR.nil U;have:=hR.len;have hl:l=[]:=List.eq_nil_of_length_eq_zero z2_;subst hl;rfl
 |some ad =>
  obtain⟨cs,h1,h2⟩:=hR.cells bT;have hcs:=h1.u8;subst hcs;have hx:∀ j (x:Int),(l.map λb:UInt8=>(b.toNat:Int))[j]?=some x->w.cell? (ad.add j)=some (.int .u8 x):=λj x hj=>by
   have hj':(u8s l)[j]?=some (.int .u8 x):=by
    simp only [u8s,List.getElem?_map] at hj |-
    cases hl:l[j]? with
    |none=>simp [hl] at hj
    |some b=>simp [hl] at hj |-;exact hj
   obtain⟨b,o,cc,ha,hb,hc⟩:=h2 j _ hj';cases ha;rw [Addr.add_lit];exact s.cell hb hc
  have:=Go.Lib.run_loadBytesX (P:=P) (w:=w) (l.map λb:UInt8=>(b.toNat:Int)) ad .empty hx;simp only [aD] at this;show(Extern.Bytes.loadBytes ad l.length .empty).run P w=_;rw [this];congr 1;apply ByteArray.ext;show(#[]:Array UInt8)++_=_;simp only [Go.Lib.bytesOf,List.map_map,Array.empty_append];congr 1;exact(List.map_congr_left (λz _=>by simp)).trans (List.map_id _)
theorem pB {P:Program}{h:Part}{w:World}(s:Sub h w) {a b:OA}{c d:Nat}{l r:LB}(hl:SlR u8R 1 h a c l) (hr:SlR u8R 1 h b d r) :
 (Extern.BytealgCompare.compare #[.slice a l.length c,.slice b r.length d]).run P w=.ok (.int .i64 (Go.Lib.compareBytes l r)) w:=by
 change Sem.run P (do pure (goInt (Extern.BytealgCompare.cmp (<- Extern.Bytes.bytesOf (.slice a l.length c)) (<- Extern.Bytes.bytesOf (.slice b r.length d))))) w=_;simp only [Sem.run_bind,lU s hl,lU s hr,Sem.run_pure,Result.andThen];rw [Go.Lib.cmp_eq];rfl
section
abbrev ax:=@decide_eq_true_eq
open Go Go.RowKit Go.ChangeShapes Go.WideShapes
def partOf (w:World):Part:=λb=>match w.heap[b]? with
 |some (.cells c _ _)=>some c
 |_=>none
theorem vy (w:World):Sub (partOf w) w:=λb c hc=>by
 unfold partOf at hc;split at hc
 ·rename_i c' t fr hh;cases hc;exact⟨t,fr,hh⟩
 ·cases hc
theorem fE {w:World}{b i:Nat}{v:Value}(h:w.cell? ⟨b,i,none⟩=some v):∃ c,partOf w b=some c/\c[i]?=some v:=by
 unfold World.cell? at h;split at h
 ·rename_i c t fr hh;exact⟨c,by unfold partOf;rw [hh],by simpa using h⟩
 ·cases h
theorem ok_start (w:World):Ok ⟨w,(·∈keys []),partOf w,[]⟩ (partOf w) [] w :=
 ⟨U,U,U,aL _,λ_ _ _=>rfl,vy w,aT _,λ_ _ hc=>.inl hc,(λx hx=>by cases hx),(λb hb=>by cases hb),List.nodup_nil⟩
def plainOne (P:Program) (ts:List TypeId) (t:TypeId):Bool:=match P.underlying t with
 |some .bool=>true
 |some (.int _)=>true
 |some .string=>true
 |some (.slice e)=>ts.contains e&&decide (0<P.cellsOf e)
 |some (.struct fs)=>fs.toList.all λf=>ts.contains f.type
 |some (.array _ e)=>ts.contains e
 |_=>false
def plainB (P:Program) (ts:List TypeId):Bool:=ts.all (plainOne P ts)
theorem ml {α β:Type}{f:α->Option β}:∀ {l:List α}{r:List β},l.length=r.length->(∀ (i:Nat) (x:α),l[i]?=some x->f x=r[i]?)->l.mapM f=some r
 |[],[],_,_=>rfl
 |x::l,y::r,hl,h=>by
  have h0:=h 0 x U;have h1:=ml (l:=l) (r:=r) (by simpa using hl) (λi z hz=>by simpa using h (i+1) z (by simpa using hz));rw [List.mapM_cons,h0];simp [h1]
theorem vP {w w':World}(hh:∀ b,b<w.heap.size->w'.heap[b]?=w.heap[b]?) {base n:Nat}{a:Addr}{cs:LV}(h:w.cells? base a n=some cs):w'.cells? base a n=some cs:=by
 unfold World.cells? at h |-
 split at h
 ·rename_i hb;rw [if_pos hb];refine mapM_carry h λi v _ _ hv=>?_;have hlt:(a.add i).block<w.heap.size:=World.block_lt_of_cell? w _ hv;have:w'.cell? (a.add i)=w.cell? (a.add i):=by unfold World.cell?;rw [hh _ hlt]
  rw [this];exact hv
 ·cases h
section
variable {H:Type}{enc:TypeId×Value->H}{P:Program}{w w':World}{base:Nat}{held:Bool}{sp:Nat->Bool}{ts:List TypeId}
theorem trod_keep (hp:plainB P ts=true) (hh:∀ b,b<w.heap.size->w'.heap[b]?=w.heap[b]?) (hsp:∀ b,b<w.heap.size->sp b=true):∀ (n:Nat) (t:TypeId) (cs:LV) (x:DataW H×List MemPlace),t∈ts ->
 DataW.trod enc P w base (λ_=>true) held n t cs=some x->DataW.trod enc P w' base sp held n t cs=some x:=by
 intro n
 induction n with
 |zero=>intro t cs x _ h;simp [DataW.trod] at h
 |succ n ih =>
  intro t cs x ht h;have h1:=List.all_eq_true.1 hp t ht;unfold plainOne at h1;split at h1
  ·rename_i hu;obtain⟨b,rfl,rfl⟩:=DataW.trod_bool hu h;simp [DataW.trod,hu]
  ·rename_i k hu;obtain⟨b,rfl,rfl,hw⟩:=DataW.trod_int hu h;simp [DataW.trod,hu,hw]
  ·rename_i hu;obtain⟨s,rfl,rfl,hw⟩:=DataW.trod_string hu h;simp [DataW.trod,hu,hw]
  ·rename_i e hu;simp only [Bool.and_eq_true,ax,List.contains_iff_mem] at h1;obtain⟨he,hpos⟩:=h1;rcases DataW.trod_slice hu h with ⟨rfl,rfl⟩|⟨a,len,cap,elems,rest,m,hm,rfl,rfl,h2,h3,h4,h5,h6,h7,_⟩
   ·simp [DataW.trod,hu]
   ·obtain rfl:n=m:=by omega
    obtain⟨h7,h8⟩:=h7 U;have one:∀ i y,(w.cells? base (a.add (i*P.cellsOf e)) (P.cellsOf e)).bind (DataW.trod enc P w base (λ_=>true) held n e)=some y->(w'.cells? base (a.add (i*P.cellsOf e)) (P.cellsOf e)).bind (DataW.trod enc P w' base sp held n e)=some y:=λi y hy=>by
     rw [Option.bind_eq_some_iff] at hy |-
     obtain⟨c,hc,hy⟩:=hy;exact⟨c,vP hh hc,ih e c y he hy⟩
    have h:(if base<=a.block/\len<=cap/\cap<=maxLen then
     ((List.range len).mapM λi=>(w.cells? base (a.add (i*P.cellsOf e)) (P.cellsOf e)).bind (DataW.trod enc P w base (λ_=>true) held n e)).bind λelems =>
      (if true=true then(List.range (cap-len)).mapM λj=>(w.cells? base (a.add ((len+j)*P.cellsOf e)) (P.cellsOf e)).bind (DataW.trod enc P w base (λ_=>true) held n e) else some []).map λrest =>
       ((.slice (elems.map (·.1)) (rest.map (·.1)):DataW H),MemPlace.row a ((elems.length+rest.length)*P.cellsOf e)++(elems++rest).flatMap (·.2)) else none)=some (.slice (elems.map (·.1)) (rest.map (·.1)),MemPlace.row a ((elems.length+rest.length)*P.cellsOf e)++(elems++rest).flatMap (·.2)):=by
     have:=h;simp only [DataW.trod,hu] at this;simpa using this
    show DataW.trod enc P w' base sp held (n+1) t [.slice (some a) len cap]=_;simp only [DataW.trod,hu];rw [if_pos ⟨h2,h3,h4⟩] at h |-
    rw [Option.bind_eq_some_iff] at h |-
    obtain⟨el,g1,g2⟩:=h;refine⟨el,mapM_carry g1 λi y _ _ hy=>one i y hy,?_⟩;rw [Option.map_eq_some_iff] at g2 |-;obtain⟨re,g3,g4⟩:=g2;refine⟨re,?_,g4⟩;rw [if_pos rfl] at g3;by_cases hs:sp a.block=true
    ·rw [if_pos hs];exact mapM_carry g3 λi y _ _ hy=>one _ y hy
    ·rw [if_neg hs];have hlen:=mapM_some_length g3;simp only [List.length_range] at hlen;cases re with
     |nil=>rfl
     |cons y r =>
      exfalso;simp only [aC] at hlen;have h9:=mapM_some_get g3 0 0 (by rw [List.getElem?_range z2_]);simp only [List.getElem?_cons_zero] at h9;rw [Option.bind_eq_some_iff] at h9;obtain⟨c,hc,_⟩:=h9;have hlt:=World.cells?_block hc hpos;have e1:(a.add ((len+0)*P.cellsOf e)).block=a.block:=by unfold Addr.add;split<;>rfl
      rw [e1] at hlt;exact hs (hsp _ hlt)
  ·rename_i fs hu;obtain⟨xs,m,hm,rfl,hl,hxl,hall⟩:=DataW.trod_struct hu h;obtain rfl:n=m:=by omega
   have hx:(fs.toList.mapM λf=>DataW.trod enc P w' base sp held n f.type ((cs.drop f.offset).take (P.cellsOf f.type)))=some xs:=by
    refine ml (by simp [hxl]) λi f hf=>?_;have hf':fs[i]?=some f:=by simpa using hf
    have hlt:i<xs.length:=by rw [hxl];exact(Array.getElem?_eq_some_iff.1 hf').1
    have h8:=hall i f hf';rw [aW hlt] at h8 |-
    exact ih f.type _ _ (by have:=List.all_eq_true.1 h1 f (List.mem_of_getElem? hf);simpa using this) h8
   exact trod_struct_mk hu hl hx
  ·rename_i k e hu;simp only [List.contains_iff_mem] at h1;simp only [DataW.trod,hu] at h |-
   have key:∀ xs,((List.range k).mapM λi=>DataW.trod enc P w base (λ_=>true) held n e ((cs.drop (i*P.cellsOf e)).take (P.cellsOf e)))=some xs->((List.range k).mapM λi=>DataW.trod enc P w' base sp held n e ((cs.drop (i*P.cellsOf e)).take (P.cellsOf e)))=some xs:=λxs hx =>
    mapM_carry hx λi y _ _ hy=>ih e _ y h1 hy
   split at h
   ·rename_i hc;rw [if_pos hc];rw [Option.map_eq_some_iff] at h |-
    obtain⟨xs,hx,rfl⟩:=h;exact⟨xs,key xs hx,U⟩
   ·cases h
  ·cases h1
theorem kJ (hp:plainB P ts=true) (hh:∀ b,b<w.heap.size->w'.heap[b]?=w.heap[b]?) (hsp:∀ b,b<w.heap.size->sp b=true):∀ {us:List TypeId}{vs:LV}{ds:List (DataW H)}{ps:List MemPlace},(∀ t∈us,t∈ts) ->
 DataW.TrodAll enc P w base (λ_=>true) held us vs ds ps->DataW.TrodAll enc P w' base sp held us vs ds ps
 |[],[],[],_,_,h=>h
 |_::_,_::_,_::_,_,hm,⟨a,b,⟨n,h1⟩,h2,e⟩=>⟨a,b,⟨n,trod_keep hp hh hsp n _ _ _ (hm _ (aK ..)) h1⟩,kJ hp hh hsp (λt ht=>hm t (aP _ ht)) h2,e⟩
theorem post_keep {f:Func}{s:ChangeSpec}{apart fresh handsOn again:Bool}{W W':World}{args:Array Value}{ds gs:List (DataW H)}{before:List MemPlace}{tb:TypeId}(hp:plainB P ts=true) (hts:∀ t∈f.params.toList,t∈ts) (hres:f.resultTypes=#[tb]) (htb:P.underlying tb=some .bool) (hv:s.vars=[])
 (hfn:s.fn H (ds++gs)={ results:=[.lit (.bool true)],args:=ds })
 (hW:DataW.Whole enc P f.params.toList s.vars apart W args.toList ds gs before) (hos:W'.os=W.os) (hout:W'.output=W.output) (hsz:W.heap.size<=W'.heap.size) (hh:∀ b,b<W.heap.size->W'.heap[b]?=W.heap[b]?) :
 s.post enc P f apart fresh handsOn again W args (.bool true) W':=by
 have hlt:=hW.lt;have hW':=hW;obtain⟨pa,pv,hA,hV,rfl,hz,hn⟩:=hW;rw [hv] at hV;obtain⟨rfl,rfl⟩:=trodVars_none hV;have hres':∀ (b:Nat) (sp:Nat->Bool) (hd:Bool),DataW.TrodAll enc P W' b sp hd f.resultTypes.toList ((Value.bool true).resultList f.resultTypes.size) [.lit (.bool true)] []:=λb sp hd=>by
  rw [hres];exact trodAll_mk1 (shut_bool htb true)
 have hA':∀ sp:Nat->Bool,(∀ b,b<W.heap.size->sp b=true)->DataW.TrodAll enc P W' 0 sp true f.params.toList args.toList ds pa:=λsp hsp=>kJ hp hh hsp hts hA;have hk:W.keptBut W' (λ_=>False):=by
  refine⟨hos,hout,λi hi=>?_⟩;rw [hh i hi];cases W.heap[i]? with
  |none=>simp
  |some o=>cases o<;>simp
 refine⟨ds,[],pa++[],[],pa,[],hW',by rw [hfn];exact hres' _ _ _,by rw [hfn];exact hA' _ (λb hb=>by simpa using hb),by rw [hfn,hv];exact(rfl:[]=[]),World.keptBut_mono (λp hp=>hp.elim) hk,λ_=>⟨λj t r h1 h2=>?_,_,[],([]++pa)++[],⟨[]++pa,[],trodAll_append (hA' (λ_=>true) (λ_ _=>rfl)) (hres' _ _ _),by rw [hv];exact(rfl:[]=[]),U,?_,?_⟩,?_⟩⟩
 ·rw [hres] at h1 h2
  match j,h1,h2 with
  |0,h1,h2 =>
   simp only [List.getElem?_toArray,List.getElem?_cons_zero,aB] at h1;subst h1;have:r=.bool true:=by simpa [Value.resultList] using h2.symm
   subst this;exact okWide_bool_mk htb true
  |j+1,h1,h2=>simp at h1
 ·intro b off hp;have hp':MemPlace.cell b off∈pa++[]:=by simpa using hp
  have hb:b<W.heap.size:=hlt _ hp';have:W'.frozen? ⟨b,off,none⟩=W.frozen? ⟨b,off,none⟩:=by unfold World.frozen?;rw [hh b hb]
  rw [this];exact hz b off hp'
 ·intro ha;have:=hn ha;simpa using this
 ·intro p hp _;simpa using hp
end
def Opens {α:Type}(P:Program) (n:Nat) (t:TypeId) (R:Rep α) (sz:Nat) (μ:α->Nat):Prop :=
 ∀ {H:Type} (enc:TypeId×Value->H) (W:World) (cs:LV) (x:DataW H×List MemPlace),DataW.trod enc P W 0 (λ_=>true) true n t cs=some x->(x.1.weights P t).all (·<=reachBytes)=true ->
  ∃ y,cs.length=sz/\R (partOf W) cs y/\μ y<=Rows.uptoBulk x.1
theorem opens_u8 {P:Program}{n:Nat}{t:TypeId}(ht:P.underlying t=some (.int .u8)):Opens P n t u8R 1 (λ_=>1):=λenc W cs x h _=>by
 obtain⟨k,rfl,rfl,hw⟩:=DataW.trod_int ht h;have hb:=bounds_u8 hw;refine⟨UInt8.ofNat k.toNat,U,?_,by simp [Rows.uptoBulk]⟩;unfold u8R;congr 2;simp;omega
theorem opens_u32 {P:Program}{n:Nat}{t:TypeId}(ht:P.underlying t=some (.int .u32)):Opens P n t u32R 1 (λ_=>1):=λenc W cs x h _=>by
 obtain⟨k,rfl,rfl,hw⟩:=DataW.trod_int ht h;have hb:=bounds_u32 hw;refine⟨UInt32.ofNat k.toNat,U,?_,by simp [Rows.uptoBulk]⟩;unfold u32R;congr 2;simp;omega
def strR':Rep LB:=λ_ cs x=>cs=[.string ⟨x.toArray⟩]/\x.length<=reachBytes
theorem opens_str {P:Program}{n:Nat}{t:TypeId}(ht:P.underlying t=some .string):Opens P n t strR' 1 (λl=>l.length+1):=λenc W cs x h hw=>by
 obtain⟨s,rfl,rfl,hs⟩:=DataW.trod_string ht h;refine⟨s.data.toList,U,⟨by simp,?_⟩,by simp [Rows.uptoBulk]⟩;simpa [DataW.weights] using hw
theorem list_of {α:Type}{p:Nat->α->Prop}:∀ (n:Nat),(∀ i,i<n->∃ x,p i x)->∃ l:List α,l.length=n/\∀ i x,l[i]?=some x->p i x
 |0,_=>⟨[],U,λi x h=>by simp at h⟩
 |n+1,h=>by
  obtain⟨l,hl,hp⟩:=list_of n (λi hi=>h i z2_);obtain⟨x,hx⟩:=h n z2_;refine⟨l++[x],by simp [hl],λi y hy=>?_⟩;by_cases hi:i<l.length
  ·rw [List.getElem?_append_left hi] at hy;exact hp i y hy
  ·rw [List.getElem?_append_right z2_] at hy;have:i-l.length=0:=by
    rcases Nat.eq_zero_or_pos (i-l.length) with h0|h0
    ·exact h0
    ·rw [cv (by simp;omega)] at hy;cases hy
   rw [this] at hy;simp at hy;subst hy;have:i=n:=by omega
   subst this;exact hx
theorem uH {H α:Type}{μ:α->Nat}:∀ (l:List α) (ds:List (DataW H)),l.length=ds.length->(∀ (i:Nat) (x:α) (d:DataW H),l[i]?=some x->ds[i]?=some d->μ x<=Rows.uptoBulk d)->(l.map μ).sum<=Rows.uptoBulkAll ds
 |[],[],_,_=>by simp
 |x::l,d::ds,hl,h=>by
  have h0:=h 0 x d U U;have h1:=uH l ds (by simpa using hl) (λi x d hx hd=>h (i+1) x d (by simpa using hx) (by simpa using hd));simp only [List.map_cons,List.sum_cons,Rows.uptoBulkAll];omega
theorem lK {H:Type}{P:Program}{e:TypeId}:∀ (ds:List (DataW H)) (i:Nat) (d:DataW H),(DataW.weightsAll P e ds).all (·<=reachBytes)=true->ds[i]?=some d->(d.weights P e).all (·<=reachBytes)=true
 |d0::r,0,d,h,hd=>by
  simp only [DataW.weightsAll,List.all_append,Bool.and_eq_true] at h;simp only [List.getElem?_cons_zero,aB] at hd;subst hd;exact h.1
 |d0::r,i+1,d,h,hd=>by
  simp only [DataW.weightsAll,List.all_append,Bool.and_eq_true] at h;exact lK r i d h.2 (by simpa using hd)
theorem iO {α:Type}{P:Program}{n:Nat}{t e:TypeId}{R:Rep α}{sz:Nat}{μ:α->Nat}(ht:P.underlying t=some (.slice e)) (hc:P.cellsOf e=sz) (hsz:0<sz) (hb:0<P.bytesOf e) (k:Opens P n e R sz μ):Opens P (n+1) t (slR R sz) 1 (λl=>(l.map μ).sum+1):=λenc W cs x h hw=>by
 rcases DataW.trod_slice ht h with ⟨rfl,rfl⟩|⟨a,len,cap,elems,rest,m,hm,rfl,rfl,h2,h3,h4,h5,h6,h7,_⟩
 ·exact⟨[],U,⟨none,0,U,bu⟩,by simp [Rows.uptoBulk]⟩
 ·obtain rfl:n=m:=by omega
  have hwt:(elems.length+rest.length)*P.bytesOf e<=reachBytes/\(DataW.weightsAll P e (elems.map (·.1))).all (·<=reachBytes)=true:=by
   simp only [DataW.weights,ht,List.all_cons,List.all_append,Bool.and_eq_true,ax,aD] at hw;exact⟨hw.1,hw.2.1⟩
  have hmul:elems.length+rest.length<=(elems.length+rest.length)*P.bytesOf e:=Nat.le_mul_of_pos_right _ hb;have hrb:reachBytes<=140737488355328:=by decide
  have key:∀ i,i<len->∃ y:α,(∃ b o,some a=some ⟨b,o,none⟩/\EltR R sz (partOf W) b (o+i*sz) y)/\∃ z,(elems.map (·.1))[i]?=some z/\μ y<=Rows.uptoBulk z:=λi hi=>by
   have h8:=h6 i hi;have hel:elems[i]?=some (elems[i]'z2_):=aW z2_;rw [hel,Option.bind_eq_some_iff] at h8;obtain⟨c,hc1,hc2⟩:=h8;have hwe:=lK (elems.map (·.1)) i (elems[i]'z2_).1 hwt.2 (by simp [hel]);obtain⟨y,hy1,hy2,hy3⟩:=k enc W c _ hc2 hwe;obtain⟨_,hl,hcell⟩:=World.cells?_some hc1;rw [hc] at hl hcell hc1;have h0:W.cell? ((a.add (i*sz)).add 0)=some (c[0]'z2_):=by rw [hcell 0 hsz];exact aW z2_
   have hspot:a.spot=none:=by
    have h8:=h6 0 z2_;have hel0:elems[0]?=some (elems[0]'z2_):=aW z2_;rw [hel0,Option.bind_eq_some_iff] at h8;obtain⟨c',hc',_⟩:=h8;obtain⟨_,hl',hcell'⟩:=World.cells?_some hc';rw [hc] at hl' hcell';have h9:=hcell' 0 hsz;rw [aW z2_] at h9;simp only [Nat.zero_mul,Addr.add,if_true] at h9;unfold World.cell? at h9;split at h9
    ·split at h9
     ·cases h9
     ·rename_i hs;simpa using hs
    ·cases h9
   obtain⟨b,o,spot⟩:=a;simp only at hspot;subst hspot;refine⟨y,⟨b,o,U,?_⟩,_,by simp [hel],hy3⟩;have hadd:∀ j,(Addr.add ⟨b,o,none⟩ (i*sz)).add j=⟨b,o+i*sz+j,none⟩:=λj=>by rw [Addr.add_lit,Addr.add_lit]
   rw [hadd] at h0;obtain⟨C,hC,_⟩:=fE h0;refine⟨C,c,hC,hl,λj hj=>?_,hy2⟩;have hj1:W.cell? ⟨b,o+i*sz+j,none⟩=c[j]?:=by rw [<- hadd];exact hcell j hj
   have hj2:W.cell? ⟨b,o+i*sz+j,none⟩=some (c[j]'z2_):=by rw [hj1];exact aW z2_
   obtain⟨C',hC',hC2⟩:=fE hj2;rw [hC] at hC';cases hC';rw [hC2];exact(aW z2_).symm
  obtain⟨l,hl,hp⟩:=list_of len key;subst hl;refine⟨l,U,⟨some a,cap,U,⟨h3,h4,by omega,(λhh=>by cases hh),λi y hy=>(hp i y hy).1⟩⟩,?_⟩;have:=uH (μ:=μ) l (elems.map (·.1)) (by simp [h5]) (λi y d hy hd=>by
   obtain⟨z,hz,hle⟩:=(hp i y hy).2;rw [hz] at hd;cases hd;exact hle)
  simp only [Rows.uptoBulk];omega
end
class Tbl (P:Program) where
 sl:List (Nat×Nat×Nat)
 fo:List (Nat×Nat×Nat)
 hsl:(sl.all λt=>slT P t.1 == some t.2)=true
 hfo:(fo.all λt=>fieldOff P t.1 t.2.1 == some t.2.2)=true
def find1:List (Nat×Nat×Nat)->Nat->Option (Nat×Nat)
 |[],_=>none
 |(a,b)::r,k=>bif Nat.beq a k then some b else find1 r k
def find2:List (Nat×Nat×Nat)->Nat->Nat->Option Nat
 |[],_,_=>none
 |(a,b,c)::r,k,j=>bif Nat.beq a k&&Nat.beq b j then some c else find2 r k j
theorem qr {l:List (Nat×Nat×Nat)}{k:Nat}{v:Nat×Nat}(h:find1 l k=some v):(k,v)∈l:=by
 induction l with
 |nil=>cases h
 |cons x r ih =>
  obtain⟨a,b⟩:=x;simp only [find1] at h;cases hb:Nat.beq a k with
  |true =>
   obtain rfl:=aq hb;simp only [hb,cond_true,aB] at h;subst h;exact aK ..
  |false=>simp only [hb,cond_false] at h;exact aP _ (ih h)
theorem qp {l:List (Nat×Nat×Nat)}{k j v:Nat}(h:find2 l k j=some v):(k,j,v)∈l:=by
 induction l with
 |nil=>cases h
 |cons x r ih =>
  obtain⟨a,b,c⟩:=x;simp only [find2] at h;cases hb:(Nat.beq a k&&Nat.beq b j) with
  |true =>
   simp only [Bool.and_eq_true] at hb;obtain rfl:=aq hb.1;obtain rfl:=aq hb.2;simp only [Nat.beq_refl,Bool.and_self,cond_true,aB] at h;subst h;exact aK ..
  |false=>simp only [hb,cond_false] at h;exact aP _ (ih h)
def cmpI:BinOp->Int->Int->Option Value
 |.lss,p,q=>some (.bool (decide (p<q)))
 |.leq,p,q=>some (.bool (decide (p<=q)))
 |.gtr,p,q=>some (.bool (decide (q<p)))
 |.geq,p,q=>some (.bool (decide (q<=p)))
 |.eql,p,q=>some (.bool (decide (p=q)))
 |.neq,p,q=>some (.bool (decide (p≠q)))
 |_,_,_=>none
def nth:LV->Nat->Option Value
 |[],_=>none
 |v::_,0=>some v
 |_::r,i+1=>nth r i
theorem nth_eq:∀ (l:LV) (i:Nat),nth l i=l[i]?
 |[],_=>by simp [nth]
 |v::_,0=>by simp [nth]
 |_::r,i+1=>by simp [nth,nth_eq r i]
def dst1:LR->Nat->Option Nat
 |[],_=>none
 |o::_,0=>o.dst
 |_::r,i+1=>dst1 r i
theorem iR:∀ (l:LR) (i:Nat),dst1 l i=(l[i]?).bind (·.dst)
 |[],_=>by simp [dst1]
 |v::_,0=>by simp [dst1]
 |_::r,i+1=>by simp [dst1,iR r i]
def cmpK (o:BinOp) (k k':IntKind) (p q:Int):Option Value:=bif decide (k=k') then cmpI o p q else none
theorem cmpK_eq {o:BinOp}{k k':IntKind}{p q:Int}{v:Value}(h:cmpK o k k' p q=some v):k=k'/\cmpI o p q=some v:=by
 unfold cmpK at h;cases hk:decide (k=k') with
 |false=>rw [hk] at h;cases h
 |true=>rw [hk] at h;exact⟨of_decide_eq_true hk,h⟩
def val1 (P:Program) [Tbl P] (S:Sig):Op->Option Value
 |.move x=>ev S x
 |.assign x=>ev S x
 |.pick c x y=>match ev S c with
  |some (.bool true)=>ev S x
  |some (.bool false)=>ev S y
  |_=>none
 |.extract x i=>match ev S x with
  |some (.tuple vs)=>nth vs.toList i
  |_=>none
 |.nilCheck x=>match ev S x with
  |some (.pointer (some a))=>some (.pointer (some a))
  |_=>none
 |.unOp .not _ x=>match ev S x with
  |some (.bool b)=>some (.bool (!b))
  |_=>none
 |.binOp o _ x y _=>match ev S x,ev S y with
  |some (.int k p),some (.int k' q)=>cmpK o k k' p q
  |_,_=>none
 |.call c=>match c.callee,c.args.toList,c.argTypes.toList with
  |.builtin .len,[x],[T]=>match ev S x with
   |some (.slice _ n _)=>match find1 (Tbl.sl P) T with
    |some _=>some (.int .i64 (n:Int))
    |none=>none
   |_=>none
  |_,_,_=>none
 |.fieldAddr T x i=>match ev S x with
  |some (.pointer (some ⟨b,o,none⟩))=>match find2 (Tbl.fo P) T i with
   |some off=>some (.pointer (some ⟨b,bif Nat.beq o 0 then off else o+off,none⟩))
   |none=>none
  |_=>none
 |_=>none
def put1 (m d:Nat) (S:Sig):Option Value->Option Sig
 |some v=>bif Nat.blt d m then some ((d,v)::S) else none
 |none=>none
def gd:Option Value->Bool->Option Bool
 |some (.bool true),b=>some b
 |some (.bool false),b=>some (!b)
 |some (.tuple _),_=>some false
 |_,_=>none
theorem gd_t {u:Option Value}{b:Bool}(h:gd u b=some true):u=some (.bool b):=by
 unfold gd at h;split at h
 ·cases h;rfl
 ·cases b<;>cases h;rfl
 ·cases h
 ·cases h
theorem gd_f {u:Option Value}{b:Bool}(h:gd u b=some false):u=some (.bool (!b))\/∃ vs,u=some (.tuple vs):=by
 unfold gd at h;split at h
 ·cases h;exact .inl U
 ·cases b<;>cases h;exact .inl U
 ·exact .inr ⟨_,U⟩
 ·cases h
def stp (P:Program) [Tbl P] (m:Nat) (ops:Array Oper) (S:Sig):Oper->Option Sig
 |⟨some d,q,_,_,_,none⟩=>put1 m d S (val1 P S q)
 |⟨some d,q,_,_,_,some (j,b)⟩=>match dst1 ops.toList j with
  |some dj=>match gd (look S dj) b with
   |some true=>put1 m d S (val1 P S q)
   |some false=>put1 m d S (some undef)
   |none=>none
  |none=>none
 |_=>none
def stpN (P:Program) [Tbl P] (m:Nat) (ops:Array Oper):Nat->Sig->LR->Option (Sig×LR)
 |0,S,l=>some (S,l)
 |k+1,S,o::l=>match stp P m ops S o with
  |some S'=>stpN P m ops k S' l
  |none=>none
 |_+1,_,[]=>none
section
variable {P:Program} [Tbl P] {e:Env}{m:Nat}{r:Post}{p:List PanicEntry->Post}{n:Post}{x:Nat->Post}{S S':Sig}{h:Part}{L:LE}{ops:Array Oper}{rest l l':LR}{ty:TypeId}
omit [Tbl P] in
theorem cmp_ok {o:BinOp}{T yt:TypeId}{xo yo:Operand}{k:IntKind}{i j:Int}{v:Value}(hx:ev S xo=some (.int k i)) (hy:ev S yo=some (.int k j)) (hv:cmpI o i j=some v):RunV ⟨P,e,m,r,p⟩ S h L (.binOp o T xo yo yt) ty v:=by
 cases o<;>simp only [cmpI,aB,reduceCtorEq] at hv<;>subst hv
 ·exact RunV.eql hx hy
 ·exact RunV.neq hx hy
 ·exact RunV.lss hx hy
 ·exact RunV.leq hx hy
 ·exact RunV.gtr hx hy
 ·exact RunV.geq hx hy
theorem nA {q:Op}{v:Value}(hv:val1 P S q=some v):RunV ⟨P,e,m,r,p⟩ S h L q ty v:=by
 unfold val1 at hv;split at hv
 ·exact aO hv
 ·exact bS hv
 ·split at hv
  ·rename_i hc;exact cU hc hv
  ·rename_i hc;exact bp hc hv
  ·cases hv
 ·split at hv
  ·rename_i hc;rw [nth_eq] at hv;exact RunV.extract hc (by simpa using hv)
  ·cases hv
 ·split at hv
  ·rename_i hc;cases hv;exact eh hc
  ·cases hv
 ·split at hv
  ·rename_i hc;cases hv;exact RunV.not_ hc
  ·cases hv
 ·split at hv
  ·rename_i hx hy;obtain⟨hk,hw⟩:=cmpK_eq hv;subst hk;exact cmp_ok hx hy hw
  ·cases hv
 ·rename_i c;obtain⟨callee,args,argTypes⟩:=c;split at hv
  ·rename_i x T hc ha ht;simp only at hc ha ht;split at hv
   ·rename_i a ln cp hx;split at hv
    ·rename_i v' hf;cases hv;have hm:=List.all_eq_true.1 (Tbl.hsl (P:=P)) _ (qr hf);have hT:=eq_of_beq hm;have ea:args=#[x]:=by apply Array.ext';simpa using ha
     have et:argTypes=#[T]:=by apply Array.ext';simpa using ht
     subst hc ea et;exact RunV.len (e:=v'.1) (sz:=v'.2) hT hx
    ·cases hv
   ·cases hv
  ·cases hv
 ·split at hv
  ·rename_i T x i b o hx;split at hv
   ·rename_i off hf;have hm:=List.all_eq_true.1 (Tbl.hfo (P:=P)) _ (qp hf);have hT:=eq_of_beq hm;cases hv;cases ho:Nat.beq o 0 with
    |true =>
     obtain rfl:=aq ho;exact bR hT hx
    |false=>exact bO hT hx
   ·cases hv
  ·cases hv
 ·cases hv
omit [Tbl P] in
theorem jT {d:Nat}{u:Option Value}(hp:put1 m d S u=some S'):∃ v,u=some v/\Nat.blt d m=true/\S'=(d,v)::S:=by
 unfold put1 at hp;split at hp
 ·cases hb:Nat.blt d m with
  |true=>simp only [hb,cond_true,aB] at hp;exact⟨_,U,U,hp.symm⟩
  |false=>simp [hb] at hp
 ·cases hp
omit [Tbl P] in
theorem j6 {f:Fr}{a:Act}{w:World}(s:Sat f.e f.m S h L a w) {j dj:Nat}{vs:Array Value}(hj:(ops[j]?).bind (·.dst)=some dj) (hs:look S dj=some (.tuple vs)):yielded ops a.tmps j=none:=by
 simp [yielded,hj,s.slot _ _ hs]
omit [Tbl P] in
theorem JL.skipx {pos:String}{af:Array Edge}{q:Op}{d:Nat}{j dj:Nat}{b:Bool}{f:Fr}(hj:(ops[j]?).bind (·.dst)=some dj) (hs:look S dj=some (.bool (!b))\/∃ vs,look S dj=some (.tuple vs)) (hd:Nat.blt d f.m=true) (k:JL f ops n x rest ((d,undef)::S) h L) :
 JL f ops n x (⟨some d,q,ty,pos,af,some (j,b)⟩::rest) S h L:=by
 rcases hs with hs|⟨vs,hs⟩
 ·exact bW hj hs hd k
 ·intro a w s;unfold wpList;rw [if_neg (by simp [Region.wanted,j6 s hj hs])];exact k _ w (s.put hd undef s.ok)
omit [Tbl P] in
theorem JQ.skipx {pos:String}{af:Array Edge}{q:Op}{d:Nat}{j dj:Nat}{b:Bool}{f:Fr}(hj:(ops[j]?).bind (·.dst)=some dj) (hs:look S dj=some (.bool (!b))\/∃ vs,look S dj=some (.tuple vs)) (hd:Nat.blt d f.m=true) (k:JQ f ops n rest ((d,undef)::S) h L) :
 JQ f ops n (⟨some d,q,ty,pos,af,some (j,b)⟩::rest) S h L:=by
 rcases hs with hs|⟨vs,hs⟩
 ·exact JQ.skip hj hs hd k
 ·intro a w s;unfold wpQuiet;rw [if_neg (by simp [Region.wanted,j6 s hj hs])];exact k _ w (s.put hd undef s.ok)
theorem stp_ok {o:Oper}(hs:stp P m ops S o=some S') (k:JL ⟨P,e,m,r,p⟩ ops n x rest S' h L):JL ⟨P,e,m,r,p⟩ ops n x (o::rest) S h L:=by
 unfold stp at hs;split at hs
 ·obtain⟨v,hv,hd,rfl⟩:=jT hs;exact ah (nA hv) hd k
 ·split at hs
  ·rename_i j b dj hj;rw [iR,Array.getElem?_toList] at hj;split at hs
   ·rename_i hl;obtain⟨v,hv,hd,rfl⟩:=jT hs;exact aQ hj (gd_t hl) (nA hv) hd k
   ·rename_i hl;obtain⟨v,hv,hd,rfl⟩:=jT hs;cases hv;exact JL.skipx hj (gd_f hl) hd k
   ·cases hs
  ·cases hs
 ·cases hs
theorem stq_ok {o:Oper}(hs:stp P m ops S o=some S') (k:JQ ⟨P,e,m,r,p⟩ ops n rest S' h L):JQ ⟨P,e,m,r,p⟩ ops n (o::rest) S h L:=by
 unfold stp at hs;split at hs
 ·obtain⟨v,hv,hd,rfl⟩:=jT hs;exact cq (nA hv) hd k
 ·split at hs
  ·rename_i j b dj hj;rw [iR,Array.getElem?_toList] at hj;split at hs
   ·rename_i hl;obtain⟨v,hv,hd,rfl⟩:=jT hs;exact dx hj (gd_t hl) (nA hv) hd k
   ·rename_i hl;obtain⟨v,hv,hd,rfl⟩:=jT hs;cases hv;exact JQ.skipx hj (gd_f hl) hd k
   ·cases hs
  ·cases hs
 ·cases hs
theorem Ru (k:Nat) (hs:stpN P m ops k S l=some (S',l')) (kk:JL ⟨P,e,m,r,p⟩ ops n x l' S' h L):JL ⟨P,e,m,r,p⟩ ops n x l S h L:=by
 induction k generalizing S l with
 |zero=>simp only [stpN,aB,Prod.mk.injEq] at hs;obtain⟨rfl,rfl⟩:=hs;exact kk
 |succ k ih =>
  cases l with
  |nil=>simp [stpN] at hs
  |cons o l =>
   simp only [stpN] at hs;split at hs
   ·rename_i S1 h1;exact stp_ok h1 (ih hs)
   ·cases hs
theorem Rq (k:Nat) (hs:stpN P m ops k S l=some (S',l')) (kk:JQ ⟨P,e,m,r,p⟩ ops n l' S' h L):JQ ⟨P,e,m,r,p⟩ ops n l S h L:=by
 induction k generalizing S l with
 |zero=>simp only [stpN,aB,Prod.mk.injEq] at hs;obtain⟨rfl,rfl⟩:=hs;exact kk
 |succ k ih =>
  cases l with
  |nil=>simp [stpN] at hs
  |cons o l =>
   simp only [stpN] at hs;split at hs
   ·rename_i S1 h1;exact stq_ok h1 (ih hs)
   ·cases hs
end
def keepS:List Nat->Sig->Option Sig
 |[],_=>some []
 |k::r,S=>match look S k,keepS r S with
  |some v,some S'=>some ((k,v)::S')
  |_,_=>none
theorem fS:∀ {ks:List Nat}{S S':Sig},keepS ks S=some S'->Weak S' S
 |[],S,S',h=>by simp only [keepS,aB] at h;subst h;exact trivial
 |k::r,S,S',h=>by
  simp only [keepS] at h;split at h
  ·rename_i v S1 hv h1;simp only [aB] at h;subst h;exact⟨hv,fS h1⟩
  ·cases h
section
variable {f:Fr}{n:Post}{x:Nat->Post}{S S':Sig}{h:Part}{L:LE}{ops:Array Oper}{c d:Code}
theorem Kp (ks:List Nat) (hk:keepS ks S=some S') (k:J f c n x S' h L):J f c n x S h L:=bg S' (fS hk) k
theorem Nk {x':Nat->Post}(ks:List Nat) (hk:keepS ks S=some S') (k:J f c n x S' h L):JL f ops (J f c n x) x' [] S h L:=a_ (bg S' (fS hk) k)
theorem Nq (ks:List Nat) (hk:keepS ks S=some S') (k:J f c n x S' h L):JQ f ops (J f c n x) [] S h L:=eH (bg S' (fS hk) k)
theorem Sr {id:Nat}{l:LR}(k:JL f l.toArray (J f d n x) x l S h L):J f (.seq (.region id l.toArray false) d) n x S h L:=az (J.region k)
theorem Rg {id:Nat}{l:LR}(k:JL f l.toArray n x l S h L):J f (.region id l.toArray false) n x S h L:=J.region k
end
class Sp (b:Bool) (p q:outParam Prop):Prop where
 t:b=true->p
 f:b=false->q
instance (priority:=low) Sp.any (b:Bool):Sp b (b=true) (b=false):=⟨id,id⟩
instance Sp.dec (p:Prop) [d:Decidable p]:Sp (decide p) p (¬ p):=⟨of_decide_eq_true,of_decide_eq_false⟩
instance (priority:=high) Sp.decn (p:Prop) [d:Decidable (¬ p)]:Sp (decide (¬ p)) (¬ p) p:=⟨of_decide_eq_true,λh=>Classical.byContradiction (of_decide_eq_false h)⟩
instance Sp.not_ (b:Bool) (p q:Prop) [s:Sp b p q]:Sp (!b) q p:=⟨λh=>s.f (by simpa using h),λh=>s.t (by simpa using h)⟩
section
variable {f:Fr}{n:Post}{x:Nat->Post}{S:Sig}{h:Part}{L:LE}{ops:Array Oper}{b:Bool}{p q:Prop}{c d:Code}{l:LR}
theorem Cs {t:Nat}(ht:look S t=some (.bool b)) [s:Sp b p q] (k1:p->J f c n x ((t,.bool true)::S) h L) (k2:q->J f d n x ((t,.bool false)::S) h L):J f (.cond (.tmp t) c d) n x S h L :=
 J.bsplit t ht (λhb=>aY (by simp [ev,look]) (k1 (s.t hb))) (λhb=>dA (by simp [ev,look]) (k2 (s.f hb)))
theorem Bs (t:Nat) (ht:look S t=some (.bool b)) [s:Sp b p q] (k1:p->JL f ops n x l ((t,.bool true)::S) h L) (k2:q->JL f ops n x l ((t,.bool false)::S) h L):JL f ops n x l S h L :=
 JL.bsplit t ht (λhb=>k1 (s.t hb)) (λhb=>k2 (s.f hb))
theorem Bq (t:Nat) (ht:look S t=some (.bool b)) [s:Sp b p q] (k1:p->JQ f ops n l ((t,.bool true)::S) h L) (k2:q->JQ f ops n l ((t,.bool false)::S) h L):JQ f ops n l S h L :=
 JQ.bsplit t ht (λhb=>k1 (s.t hb)) (λhb=>k2 (s.f hb))
end
instance tbl_:Tbl prog:=⟨[(22,5,1),(23,68,11),(24,72,6),(25,75,7),(33,35,5),(44,48,2),(46,22,1),(62,190,1),(63,134,3),(66,173,3),(70,176,2),(157,161,1),(165,167,6),(281,9,1)],[(27,0,0),(27,1,1),(27,2,2),(27,3,3),(27,4,4),(27,5,5),(35,0,0),(35,1,1),(35,2,2),(35,3,3),(35,4,4),(48,0,0),(48,1,1),(65,0,0),(65,1,1),(65,2,2),(68,0,0),(68,1,1),(68,2,2),(68,3,3),(68,4,4),(68,5,5),(68,6,6),(68,7,9),(68,8,10),(72,0,0),(72,1,1),(72,2,2),(72,3,3),(72,4,4),(72,5,5),(75,0,0),(75,1,1),(75,2,2),(75,3,3),(75,4,4),(75,5,5),(75,6,6),(102,1,1),(110,0,0),(110,1,1),(134,0,0),(134,1,1),(134,2,2),(138,0,0),(138,1,1),(167,0,0),(167,1,1),(173,0,0),(173,1,1),(173,2,2),(176,0,0),(176,1,1),(197,0,0),(228,2,2),(228,7,7),(238,0,0),(283,0,0),(283,1,1),(283,2,2),(283,3,3),(283,4,4),(283,5,5),(283,6,6),(286,0,0),(314,0,0),(314,1,1),(314,2,2),(314,3,3),(314,4,4),(314,5,5),(314,6,6)],by kernel_rfl,by kernel_rfl⟩
abbrev aX:=@List.drop_eq_getElem_cons
abbrev am:=@List.take_succ_eq_append_getElem
inductive Nd where
 |mk (c t:Int) (k:Bool) (bs:LB) (ks:List Nd)
abbrev LN:=List Nd
def Nd.cls:Nd->Int|.mk c _ _ _ _=>c
def Nd.tag:Nd->Int|.mk _ t _ _ _=>t
def Nd.cons:Nd->Bool|.mk _ _ k _ _=>k
def Nd.bytes:Nd->LB|.mk _ _ _ b _=>b
def Nd.kids:Nd->LN|.mk _ _ _ _ l=>l
inductive NdR:Part->LV->Nd->Prop where
 |mk {h:Part} {c t:Int} {k:Bool} {bs:LB} {ks:LN} {a b:OA} {ca cb:Nat} (hb:SlR u8R 1 h a ca bs)
  (len:ks.length<=cb) (cap:cb<=maxLen) (big:ks.length<=140737488355328) (nil:b=none->cb=0)
  (B O:Nat) (C:Array Value) (F:Nat->LV) (at_:∀ i,i<ks.length->b=some ⟨B,O,none⟩/\h B=some C/\(F i).length=5/\∀ j,j<5->C[O+i*5+j]?=(F i)[j]?)
  (rec:∀ i x,ks[i]?=some x->NdR h (F i) x) :
  NdR h [.int .i64 c,.int .i64 t,.bool k,.slice a bs.length ca,.slice b ks.length cb] (.mk c t k bs ks)
theorem NdR.inv {h:Part}{cs:LV}{c t:Int}{k:Bool}{bs:LB}{ks:LN}(r:NdR h cs (.mk c t k bs ks)) :
 ∃ a ca b cb,cs=[.int .i64 c,.int .i64 t,.bool k,.slice a bs.length ca,.slice b ks.length cb]/\SlR u8R 1 h a ca bs/\SlR NdR 5 h b cb ks:=by
 cases r with
 |mk hb len cap big nil B O C F at_ rec =>
  refine⟨_,_,_,_,U,hb,⟨len,cap,big,nil,λi x hx=>?_⟩⟩;have hi:=(List.getElem?_eq_some_iff.1 hx).1;obtain⟨h1,h2,h3,h4⟩:=at_ i hi;exact⟨B,O,h1,C,F i,h2,h3,h4,rec i x hx⟩
theorem NdR.of {h:Part}{c t:Int}{k:Bool}{bs:LB}{ks:LN}{a b:OA}{ca cb:Nat}(hb:SlR u8R 1 h a ca bs) (hk:SlR NdR 5 h b cb ks) :
 NdR h [.int .i64 c,.int .i64 t,.bool k,.slice a bs.length ca,.slice b ks.length cb] (.mk c t k bs ks):=by
 cases ks with
 |nil=>exact .mk hb hk.len hk.cap hk.big hk.nil 0 0 #[] (λ_=>[]) (λi hi=>by simp at hi) (λi x hx=>by simp at hx)
 |cons y r =>
  obtain⟨B,O,hbo,C,_,hC,_⟩:=hk.elt 0 y U;have key:∀ i x,(y::r)[i]?=some x->∃ F:LV,F.length=5/\(∀ j,j<5->C[O+i*5+j]?=F[j]?)/\NdR h F x:=λi x hx=>by
   obtain⟨B',O',hbo',C',cs,hC',h1,h2,h3⟩:=hk.elt i x hx;rw [hbo] at hbo';cases hbo';rw [hC] at hC';cases hC';exact⟨cs,h1,h2,h3⟩
  have F:∀ i,∃ F:LV,∀ x,(y::r)[i]?=some x->F.length=5/\(∀ j,j<5->C[O+i*5+j]?=F[j]?)/\NdR h F x:=λi=>by
   cases hx:(y::r)[i]? with
   |none=>exact⟨[],λx hh=>by cases hh⟩
   |some x=>obtain⟨F,hF⟩:=key i x hx;exact⟨F,λx' hh=>by cases hh;exact hF⟩
  refine .mk hb hk.len hk.cap hk.big hk.nil B O C (λi=>(F i).choose) (λi hi=>?_) (λi x hx=>?_)
  ·obtain⟨h1,h2,_⟩:=(F i).choose_spec _ (aW hi);exact⟨hbo,hC,h1,h2⟩
  ·exact((F i).choose_spec _ hx).2.2
abbrev d_:=@NdR.of
mutual
def Nd.rk:Nd->Nat
 |.mk _ _ _ _ ks=>Nd.rkL ks+1
def Nd.rkL:LN->Nat
 |[]=>0
 |x::r=>max (Nd.rk x) (Nd.rkL r)
end
theorem Nd.rk_lt {ks:LN}{x:Nd}(h:x∈ks):x.rk<=Nd.rkL ks:=by
 induction ks with
 |nil=>cases h
 |cons y r ih =>
  simp only [Nd.rkL];cases h with
  |head=>omega
  |tail _ h=>have:=ih h;omega
mutual
def Nd.sz:Nd->Nat
 |.mk _ _ _ bs ks=>1+bs.length+Nd.szL ks
def Nd.szL:LN->Nat
 |[]=>0
 |x::r=>Nd.sz x+Nd.szL r
end
theorem Nd.szL_append (a b:LN):Nd.szL (a++b)=Nd.szL a+Nd.szL b:=by
 induction a with
 |nil=>simp [Nd.szL]
 |cons x r ih=>simp [Nd.szL,ih];omega
theorem Nd.rk_le_sz:∀ (n:Nat) (x:Nd),x.rk<=n->x.rk<=x.sz:=by
 intro n
 induction n with
 |zero=>intro x hx;cases x;simp [Nd.rk] at hx
 |succ n ih =>
  intro x hx;cases x with
  |mk c t k bs ks =>
   simp only [Nd.rk,Nd.sz] at hx |-
   have:∀ l:LN,Nd.rkL l<=n->Nd.rkL l<=Nd.szL l:=by
    intro l
    induction l with
    |nil=>intro _;simp [Nd.rkL]
    |cons y r ihl =>
     intro hl;simp only [Nd.rkL,Nd.szL] at hl |-
     have:=ih y z2_;have:=ihl z2_;omega
   have:=this ks z2_;omega
theorem Nd.sz_le {ks:LN}{x:Nd}(h:x∈ks):x.sz<=Nd.szL ks:=by
 induction ks with
 |nil=>cases h
 |cons y r ih =>
  simp only [Nd.szL];cases h with
  |head=>omega
  |tail _ h=>have:=ih h;omega
theorem Nd.rkL_le_szL (l:LN):Nd.rkL l<=Nd.szL l:=by
 induction l with
 |nil=>simp [Nd.rkL]
 |cons y r ih =>
  simp only [Nd.rkL,Nd.szL];have:=Nd.rk_le_sz _ y (aL _);omega
theorem NdR.mono_ {h h':Part}(hle:h.le h'):∀ (n:Nat) (x:Nd) (cs:LV),x.rk<=n->NdR h cs x->NdR h' cs x:=by
 intro n
 induction n with
 |zero=>intro x cs hx;cases x;simp [Nd.rk] at hx
 |succ n ih =>
  intro x cs hx r;cases r with
  |@mk c t k bs ks a b ca cb hb len cap big nil B O C F at_ rec =>
   refine .mk (hb.mono hle) len cap big nil B O C F (λi hi=>?_) (λi y hy=>?_)
   ·obtain⟨h1,h2,h3,h4⟩:=at_ i hi;exact⟨h1,hle _ _ h2,h3,h4⟩
   ·refine ih y _ ?_ (rec i y hy);have:=Nd.rk_lt (List.mem_of_getElem? hy);simp only [Nd.rk] at hx;omega
theorem NdR.one_ {h:Part}{cs:LV}{x:Nd}(r:NdR h cs x):∀ u∈cs,u.oneCell'=true:=by
 cases x with
 |mk c t k bs ks =>
  obtain⟨a,ca,b,cb,rfl,_,_⟩:=r.inv;intro u hu;simp only [List.mem_cons,List.not_mem_nil,or_false] at hu;rcases hu with rfl|rfl|rfl|rfl|rfl<;>rfl
instance:Mono NdR:=⟨λhle r=>NdR.mono_ hle _ _ _ (aL _) r,λr=>r.one_⟩
theorem NdR.mono {h h':Part}{cs:LV}{x:Nd}(r:NdR h cs x) (hle:h.le h'):NdR h' cs x:=NdR.mono_ hle _ _ _ (aL _) r
theorem NdR.all1 {h:Part}{cs:LV}{x:Nd}(r:NdR h cs x):cs.all (·.oneCell')=true:=List.all_eq_true.2 r.one_
theorem NdR.len5 {h:Part}{cs:LV}{x:Nd}(r:NdR h cs x):cs.length=5:=by
 cases x with
 |mk c t k bs ks=>obtain⟨a,ca,b,cb,rfl,_,_⟩:=r.inv;rfl
theorem Nd.rkL_take (ks:LN) (k:Nat) (hk:k<ks.length):Nd.rkL (ks.take (k+1))=max (Nd.rkL (ks.take k)) ks[k].rk:=by
 rw [am hk];generalize ks.take k=l
 induction l with
 |nil=>simp [Nd.rkL]
 |cons x r ih=>simp only [List.cons_append,Nd.rkL,ih];omega
theorem Nd.rkL_le (ks:LN) (k:Nat):Nd.rkL (ks.take k)<=Nd.rkL ks:=by
 induction ks generalizing k with
 |nil=>simp [Nd.rkL]
 |cons x r ih=>cases k with
  |zero=>simp [Nd.rkL]
  |succ k=>simp only [List.take_succ_cons,Nd.rkL];have:=ih k;omega
mutual
def Nd.beq:Nd->Nd->Bool
 |.mk c t k bs ks,.mk c' t' k' bs' ks'=>decide (c=c')&&(decide (t=t')&&(decide (k=k')&&(decide (bs=bs')&&Nd.beqL ks ks')))
def Nd.beqL:LN->LN->Bool
 |[],[]=>true
 |x::r,y::s=>Nd.beq x y&&Nd.beqL r s
 |[],_::_=>false
 |_::_,[]=>false
end
theorem Nd.beq_eq:∀ (n:Nat) (x y:Nd),x.rk<=n->(x.beq y=true<->x=y):=by
 intro n
 induction n with
 |zero=>intro x y hx;cases x;simp [Nd.rk] at hx
 |succ n ih =>
  intro x y hx;cases x with
  |mk c t k bs ks =>
   cases y with
   |mk c' t' k' bs' ks' =>
    simp only [Nd.rk] at hx;have key:∀ l l':LN,Nd.rkL l<=n->(Nd.beqL l l'=true<->l=l'):=by
     intro l
     induction l with
     |nil=>intro l' _;cases l'<;>simp [Nd.beqL]
     |cons a r ihr =>
      intro l' hl;simp only [Nd.rkL] at hl;cases l' with
      |nil=>simp [Nd.beqL]
      |cons b s=>simp [Nd.beqL,ih a b z2_,ihr s z2_]
    simp [Nd.beq,key ks ks' z2_]
theorem Nd.beq_iff (x y:Nd):x.beq y=true<->x=y:=Nd.beq_eq _ x y (aL _)
theorem Nd.beq_ne {x y:Nd}(h:x≠y):x.beq y=false:=by
 cases hb:x.beq y with
 |false=>rfl
 |true=>exact absurd ((Nd.beq_iff x y).1 hb) h
theorem Nd.beqL_drop (l r:LN) (k:Nat) (h:k<l.length) (h':k<r.length):Nd.beqL (l.drop k) (r.drop k)=(Nd.beq l[k] r[k]&&Nd.beqL (l.drop (k+1)) (r.drop (k+1))):=by
 rw [aX h,aX h'];rfl
abbrev aF:=@List.getElem_mem
theorem z6_ {p:Prop}(u:p:=by repeat (first|exact trivial|refine⟨rfl,?_⟩)):p:=u
theorem z7_ {p:Prop}(u:p:=by assumption):p:=u
theorem z9_ {p:Prop}(u:p:=by first|with_reducible rfl|exact(Int.toNat_of_nonneg z2_).symm):p:=u
theorem cP {p:Prop}(u:p:=by kernel_rfl):p:=u
theorem iZ {p:Prop}(u:p:=by simp [form, *]):p:=u
theorem dt:aggT prog 22=some none:=by kernel_rfl
theorem dI:aggT prog 3=some none:=by kernel_rfl
theorem dz:aggT prog 33=some none:=by kernel_rfl
theorem bP:aggT prog 35=some (some 5):=by kernel_rfl
theorem kC:aggT prog 4=some none:=by kernel_rfl
theorem ff:aggT prog 5=some none:=by kernel_rfl
theorem ca_13:callT prog 13=true:=by kernel_rfl
theorem ca_161:callT prog 161=true:=by kernel_rfl
theorem ca_265:callT prog 265=true:=by kernel_rfl
theorem cM:prog.follows .mixedOrders=true:=by kernel_rfl
theorem dM:strT prog 22 9=true:=by kernel_rfl
theorem cY:slT prog 22=some (5,1):=by kernel_rfl
theorem gJ:slT prog 33=some (35,5):=by kernel_rfl
theorem un_4:prog.underlying 4=some .bool:=by kernel_rfl
def form (t:Int):Int:=if t=16\/t=17 then 2 else if t=1\/t=2\/t=3\/t=4\/t=5\/t=6\/t=10\/t=12\/t=19\/t=22\/t=23\/t=24 then 1 else 0
theorem form_fn (t:Int) (h:Part):Pure prog 161 [.int .i64 t] h (.int .i64 (form t)):=by
 refine aM func161 U ntmps161 U (λe he=>?_);refine bg [(0,_)] ⟨U,trivial⟩ ?_;refine Sr (Ru 1 U (a_ (az ?_)));refine Sr (Ru 1 U (a_ (aJ (az (Sr (Ru 2 U (a_ (Cs U (λhc1=>?_) λhc1=>?_))))))))
 ·exact aA (aY U (Sr (Ru 1 U (Nk [2] U (aH (ay U U) iZ U)))))
 refine Rg (Ru 2 U (Nk [4,3,2] U (Cs U (λhc2=>?_) λhc2=>?_)))
 ·exact Sr (Ru 1 U (a_ (aH (ay U U) iZ U)))
 refine az (Sr (Ru 2 U (a_ (Cs U (λhc3=>?_) λhc3=>?_))))
 ·exact aA (Kp [7,2] U (aY U (Sr (Ru 1 U (a_ (aH (ay U U) iZ U))))))
 refine Sr (Ru 2 U (Nk [7,3,2] U (Cs U (λhc4=>?_) λhc4=>?_)))
 ·exact aA (aY U (Sr (Ru 1 U (a_ (aH (ay U U) iZ U)))))
 refine Sr (Ru 2 U (a_ (Cs U (λhc5=>?_) λhc5=>?_)))
 ·exact aA (Kp [7,2] U (aY U (Sr (Ru 1 U (a_ (aH (ay U U) iZ U))))))
 refine Sr (Ru 2 U (Nk [7,3,2] U (Cs U (λhc6=>?_) λhc6=>?_)))
 ·exact aA (aY U (Sr (Ru 1 U (a_ (aH (ay U U) iZ U)))))
 refine Sr (Ru 2 U (a_ (Cs U (λhc7=>?_) λhc7=>?_)))
 ·exact aA (Kp [7,2] U (aY U (Sr (Ru 1 U (a_ (aH (ay U U) iZ U))))))
 refine Sr (Ru 2 U (Nk [7,3,2] U (Cs U (λhc8=>?_) λhc8=>?_)))
 ·exact aA (aY U (Sr (Ru 1 U (a_ (aH (ay U U) iZ U)))))
 refine Sr (Ru 2 U (a_ (Cs U (λhc9=>?_) λhc9=>?_)))
 ·exact aA (Kp [7,2] U (aY U (Sr (Ru 1 U (a_ (aH (ay U U) iZ U))))))
 refine Sr (Ru 2 U (Nk [7,3,2] U (Cs U (λhc10=>?_) λhc10=>?_)))
 ·exact aA (aY U (Sr (Ru 1 U (a_ (aH (ay U U) iZ U)))))
 refine Sr (Ru 2 U (a_ (Cs U (λhc11=>?_) λhc11=>?_)))
 ·exact aA (Kp [7,2] U (aY U (Sr (Ru 1 U (a_ (aH (ay U U) iZ U))))))
 refine Sr (Ru 2 U (Nk [7,3,2] U (Cs U (λhc12=>?_) λhc12=>?_)))
 ·exact aA (aY U (Sr (Ru 1 U (a_ (aH (ay U U) iZ U)))))
 refine Sr (Ru 2 U (a_ (Cs U (λhc13=>?_) λhc13=>?_)))
 ·exact aA (Kp [7,2] U (aY U (Sr (Ru 1 U (a_ (aH (ay U U) iZ U))))))
 refine Rg (Ru 2 U (Nk [7,2] U (Cs U (λhc14=>?_) λhc14=>?_)))
 ·exact Sr (Ru 1 U (a_ (aH (ay U U) iZ U)))
 exact aA (Sr (Ru 1 U (a_ (aH (ay U U) iZ U))))
def mayB (c t:Int) (cons:Bool):Bool :=
 decide (0<=t/\t<=30)&&(decide (c=2)||(decide (c=0)&&((decide (form t=1)&&!cons)||(decide (form t=2)&&cons))))
theorem rmay_fn (c t:Int) (k:Bool) (h:Part):Pure prog 112 [.int .i64 c,.int .i64 t,.bool k] h (.bool (mayB c t k)):=by
 refine aM func112 U ntmps112 U (λe he=>?_);refine bg [(0,_),(1,_),(2,_)] ⟨U,U,U,trivial⟩ ?_;refine Sr (Ru 1 U (a_ (az (Sr (Ru 3 U (Bs 10 U (λhc1=>?_) λhc1=>?_))))))
 ·exact Ru 3 U (Nk [13,6,0,1,2] U (aY U (Sr (Ru 1 U (a_ (aH (ay U U) (by cases k<;>simp_all [mayB]<;>omega) U))))))
 refine Ru 3 U (Nk [13,6,0,1,2] U (Cs U (λhc2=>?_) λhc2=>?_))
 ·exact Sr (Ru 1 U (a_ (aH (ay U U) (by cases k<;>simp_all [mayB]<;>omega) U)))
 refine aA (az (Sr (Ru 2 U (a_ (Cs U (λhc3=>?_) λhc3=>?_)))))
 ·exact Sr (Ru 1 U (Nk [6,0,1,2] U (aH (ay U U) (by cases k<;>simp_all [mayB]<;>omega) U)))
 refine aA (Kp [6,0,1,2] U (Sr (Ru 1 U (bh ca_161 U (form_fn _ _) U ?_))));refine Ru 1 U (a_ (Sr (Ru 3 U (Bs 20 U (λhc5=>?_) λhc5=>?_))))
 ·refine Ru 3 U (Bs 23 U (λhc6=>?_) λhc6=>?_)
  ·refine Ru 4 U (Bs 27 U (λhc7=>?_) λhc7=>?_)
   ·exact Ru 8 U (Nk [6] U (aH (ay U U) (by cases k<;>simp_all [mayB]<;>omega) U))
   refine Ru 3 U (Bs 30 U (λhc8=>?_) λhc8=>?_)
   ·exact Ru 5 U (Nk [6] U (aH (ay U U) (by cases k<;>simp_all [mayB]<;>omega) U))
   exact Ru 5 U (Nk [6] U (aH (ay U U) (by cases k<;>simp_all [mayB]<;>omega) U))
  refine Ru 7 U (Bs 30 U (λhc9=>?_) λhc9=>?_)
  ·exact Ru 5 U (Nk [6] U (aH (ay U U) (by cases k<;>simp_all [mayB]<;>omega) U))
  exact Ru 5 U (Nk [6] U (aH (ay U U) (by cases k<;>simp_all [mayB]<;>omega) U))
 exact Ru 15 U (Nk [6] U (aH (ay U U) (by cases k<;>simp_all [mayB]<;>omega) U))
def belowB:LB->LB->Bool
 |_,[]=>false
 |[],_::_=>true
 |a::l,b::r=>if a=b then belowB l r else decide (a<b)
theorem mG (l r:LB) (k:Nat) (hk:k<l.length) (hr:k<r.length):belowB (l.drop k) (r.drop k)=if l[k]=r[k] then belowB (l.drop (k+1)) (r.drop (k+1)) else decide (l[k]<r[k]):=by
 rw [aX hk,aX hr];rfl
theorem np (l r:LB) (k:Nat) (hk:k<=l.length) (hr:k<=r.length) (h:l.length<=k\/r.length<=k):belowB (l.drop k) (r.drop k)=decide ((l.length:Int)<r.length):=by
 rcases h with h|h
 ·rw [List.drop_of_length_le h];cases hd:r.drop k with
  |nil=>have:=congrArg List.length hd;simp at this;simp [belowB];omega
  |cons x t=>have:=congrArg List.length hd;simp at this;simp [belowB];omega
 ·rw [List.drop_of_length_le h];have:belowB (l.drop k) []=false:=by cases l.drop k<;>rfl
  rw [this];simp;omega
theorem below_fn {a b:OA}{ca cb:Nat}{l r:LB}{h:Part}(ha:SlR u8R 1 h a ca l) (hb:SlR u8R 1 h b cb r) :
 Pure prog 76 [.slice a l.length ca,.slice b r.length cb] h (.bool (belowB l r)):=by
 have hl:=ha.le63;have hr:=hb.le63;refine aM func76 U ntmps76 U (λe he=>?_);refine bg [(0,_),(1,_)] ⟨U,U,trivial⟩ ?_;refine Sr (Ru 1 U (a_ (az (Sr (Ru 1 U (a_ (aJ (bM (λt_ S_ h_ L_=>∃ (k:Nat),t_=l.length-k/\S_=[(0,.slice a l.length ca),(1,.slice b r.length cb),(5,.int .i64 k)]/\h=h_/\L_=[]/\(k<=l.length/\k<=r.length/\belowB l r=belowB (l.drop k) (r.drop k))) ⟨_,_,?_,⟨0,U,U,U,U,⟨by omega,by omega,U⟩⟩⟩ ?_))))))))
 ·exact z6_
 rintro _ _ _ _ ⟨k,rfl,rfl,rfl,rfl,hk,hk',he⟩;refine az (Sr (Ru 5 U (Bs 10 U (λhc1=>?_) λhc1=>?_)))
 ·refine Ru 5 U (a_ (Cs U (λhc2=>?_) λhc2=>?_))
  ·refine aA (az (aJ (az (de cM cP ?_))));refine Rq 2 U ?_;refine du (aI cY U U z9_ z7_ U z2_) U ?_;rintro _ ⟨b3,o3,hi3,rfl,hE3⟩;refine cq (bv ff U z7_) U ?_;refine Rq 2 U ?_;refine du (aI cY U U z9_ z7_ U z2_) U ?_;rintro _ ⟨b5,o5,hi5,rfl,hE5⟩;refine cq (bv ff U z7_) U ?_;refine Rq 1 U ?_;refine eH ?_;refine Cs U (λhc7=>?_) λhc7=>?_
   ·refine az (de cM cP ?_);refine Rq 2 U ?_;refine du (aI cY U U z9_ z7_ U z2_) U ?_;rintro _ ⟨b8,o8,hi8,rfl,hE8⟩;refine cq (bv ff U z7_) U ?_;refine Rq 2 U ?_;refine du (aI cY U U z9_ z7_ U z2_) U ?_;rintro _ ⟨b10,o10,hi10,rfl,hE10⟩;refine cq (bv ff U z7_) U ?_;refine Rq 2 U ?_;refine eH ?_;exact aH (ay U U) (by rw [he,mG l r k z2_ z2_,if_neg (λe=>hc7 (by simp [e]))];simp [UInt8.lt_iff_toNat_lt]) U
   refine aA (Rg (Ru 1 U (ah ai_ U ?_)));refine Ru 1 U (a_ (⟨_,?_,_,?_,⟨k+1,U,U,U,U,⟨by omega,by omega,by rw [he,mG l r k z2_ z2_,if_pos (UInt8.toNat_inj.1 (by have h7:(l[k].toNat:Int)=r[k].toNat:=hc7;omega))]⟩⟩⟩))
   ·omega
   exact z6_
  exact bA (Kp [0,1] U (Sr (Ru 6 U (Nk [4] U (aH (ay U U) (by rw [he,np l r k hk hk' z2_]) U)))))
 refine Ru 5 U (a_ (dA U ?_));exact bA (Kp [0,1] U (Sr (Ru 6 U (Nk [4] U (aH (ay U U) (by rw [he,np l r k hk hk' z2_]) U)))))
theorem deep_fn:∀ (n:Nat) (x:Nd) (cs:LV) (h:Part),x.rk<=n->NdR h cs x->x.sz<=1125899906842624->Pure prog 265 [.agg cs.toArray] h (.int .i64 x.rk):=by
 intro n
 induction n with
 |zero=>intro x cs h hx;cases x;simp [Nd.rk] at hx
 |succ n ih =>
 intro x cs h hx r hsz;cases x with
 |mk c t k bs ks =>
 obtain⟨a,ca,b,cb,rfl,ha,hb⟩:=r.inv;have hl:=hb.big;simp only [Nd.rk] at hx;simp only [Nd.sz] at hsz;have hkr:∀ i (hi:i<ks.length),ks[i].rk<=n/\ks[i].sz<=1125899906842624:=λi hi=>by
  have h1:=Nd.rk_lt (aF hi);have h2:ks[i].sz<=Nd.szL ks:=Nd.sz_le (aF hi);omega
 have hrk:∀ i,Nd.rkL (ks.take i)<=1125899906842624:=λi=>by
  have h1:=Nd.rkL_le ks i;have h2:=Nd.rkL_le_szL ks;omega
 refine aM func265 U ntmps265 U (λe he=>?_);refine bg [(0,_)] ⟨U,trivial⟩ ?_;refine Sr (dh U U U (λb1=>?_));refine Ru 1 U (a_ ?_);refine Sr (Ru 1 U (a_ (az (Sr (Ru 1 U (a_ (aJ (bM (λt_ S_ h_ L_=>∃ (i:Nat),t_=ks.length-i/\S_=[(1,.pointer (some ⟨b1,0,none⟩)),(3,.int .i64 (Nd.rkL (ks.take i))),(4,.int .i64 i)]/\h=h_/\L_=[.blk b1 35 [.int .i64 c,.int .i64 t,.bool k,.slice a bs.length ca,.slice b ks.length cb]]/\(i<=ks.length)) ⟨_,_,?_,⟨0,U,U,U,U,by omega⟩⟩ ?_))))))))
 ·repeat (first|exact trivial|refine⟨rfl,?_⟩|refine⟨(by exact eB (by rw [Nd.rkL_take ks i z2_];omega)),?_⟩)
 rintro _ _ _ _ ⟨i,rfl,rfl,rfl,rfl,hi⟩;have hri:=hrk i;refine az (Sr (Ru 2 U (ah (aw dz U mm_ U) U ?_)));refine Ru 2 U (a_ (Cs U (λhc2=>?_) λhc2=>?_))
 ·refine aA (az (aJ (Sr (Ru 1 U (ah (aw dz U mm_ U) U ?_)))));refine Ru 1 U (cm (aI gJ U U z9_ z7_ U z2_) U ?_);rintro _ ⟨b3,o3,hi3,rfl,hE3⟩;refine cm (dw bP U z7_) U ?_;rintro _ ⟨_,rfl,hNd4⟩;refine bh ca_265 U (ih _ _ _ (hkr _ z2_).1 z7_ (hkr _ z2_).2) U ?_;refine Ru 1 U (a_ (Sr (Ru 3 U (a_ (Cs U (λhc6=>?_) λhc6=>?_)))))
  ·refine Rg (Ru 2 U (a_ (Rg (Ru 1 U (ah ai_ U ?_)))));refine Ru 1 U (a_ (⟨_,?_,_,?_,⟨i+1,U,U,U,U,by omega⟩⟩))
   ·omega
   repeat (first|exact trivial|refine⟨rfl,?_⟩|refine⟨(by exact eB (by rw [Nd.rkL_take ks i z2_];omega)),?_⟩)
  refine aA (Rg (Ru 1 U (ah ai_ U ?_)));refine Ru 1 U (a_ (⟨_,?_,_,?_,⟨i+1,U,U,U,U,by omega⟩⟩))
  ·omega
  repeat (first|exact trivial|refine⟨rfl,?_⟩|refine⟨(by exact eB (by rw [Nd.rkL_take ks i z2_];omega)),?_⟩)
 refine bA (Kp [3] U (Sr (Ru 1 U (ah ai_ U ?_))));exact Ru 1 U (a_ (aH (ay U U) (by simp only [Nd.rk];rw [aS z2_];simp) U))
theorem deep_fn' {x:Nd}{cs:LV}{h:Part}(r:NdR h cs x) (hs:x.sz<=1125899906842624):Pure prog 265 [.agg cs.toArray] h (.int .i64 x.rk):=deep_fn _ x cs h (aL _) r hs
theorem same_fn:∀ (n:Nat) (x y:Nd) (cs cs':LV) (h:Part),x.rk<=n->NdR h cs x->NdR h cs' y->Pure prog 13 [.agg cs.toArray,.agg cs'.toArray] h (.bool (x.beq y)):=by
 intro n
 induction n with
 |zero=>intro x y cs cs' h hx;cases x;simp [Nd.rk] at hx
 |succ n ih =>
 intro x y cs cs' h hx r r';cases x with
 |mk c t k bs ks =>
 cases y with
 |mk c' t' k' bs' ks' =>
 obtain⟨a,ca,b,cb,rfl,ha,hb⟩:=r.inv;obtain⟨a',ca',b',cb',rfl,ha',hb'⟩:=r'.inv;have hl:=hb.big;have hl':=hb'.big;have hl2:=ha.big;have hl2':=ha'.big;simp only [Nd.rk] at hx;have hkr:∀ i (hi:i<ks.length),ks[i].rk<=n:=λi hi=>by
  have h1:=Nd.rk_lt (aF hi);omega
 refine aM func13 U ntmps13 U (λe he=>?_);refine bg [(0,_),(1,_)] ⟨U,U,trivial⟩ ?_;refine Sr (dh U U U (λb1=>?_));refine dh U U U (λb2=>?_);refine Ru 1 U (a_ (az (Sr (Ru 1 U (ah (aw dI U mm_ U) U ?_)))));refine Ru 1 U (ah (aw dI U mm_ U) U ?_);refine Ru 2 U (Bs 11 U (λhc3=>?_) λhc3=>?_)
 ·exact Ru 31 U (Nk [42,4,3,2] U (aY U (Sr (Ru 1 U (a_ (aH (ay U U) (by rw [Nd.beq_ne (by intro e;injection e;simp_all)]) U))))))
 refine Ru 1 U (aQ U U  (aw dI U mm_ U) U ?_);refine Ru 1 U (aQ U U  (aw dI U mm_ U) U ?_);refine Ru 3 U (Bs 18 U (λhc4=>?_) λhc4=>?_)
 ·exact Ru 24 U (Nk [42,4,3,2] U (aY U (Sr (Ru 1 U (a_ (aH (ay U U) (by rw [Nd.beq_ne (by intro e;injection e;simp_all)]) U))))))
 refine Ru 1 U (aQ U U  (aw kC U mm_ U) U ?_);refine Ru 1 U (aQ U U  (aw kC U mm_ U) U ?_);refine aQ U U  (RunV.neqB un_4 U U) U ?_;refine Ru 2 U (Bs 25 U (λhc5=>?_) λhc5=>?_)
 ·exact Ru 17 U (Nk [42,4,3,2] U (aY U (Sr (Ru 1 U (a_ (aH (ay U U) (by rw [Nd.beq_ne (by intro e;injection e;simp_all)]) U))))))
 refine Ru 1 U (aQ U U  (aw dt U mm_ U) U ?_);refine aQ U U  (d7 dM U z7_ U) U ?_;refine Ru 1 U (aQ U U  (aw dt U mm_ U) U ?_);refine aQ U U  (d7 dM U z7_ U) U ?_;refine aQ U U  (RunV.neqS U U) U ?_;refine Ru 2 U (Bs 34 U (λhc6=>?_) λhc6=>?_)
 ·exact Ru 8 U (Nk [42,4,3,2] U (aY U (Sr (Ru 1 U (a_ (aH (ay U U) (by rw [Nd.beq_ne (by intro e;injection e;simp_all)]) U))))))
 refine Ru 1 U (aQ U U  (aw dz U mm_ U) U ?_);refine Ru 2 U (aQ U U  (aw dz U mm_ U) U ?_);refine Ru 3 U (Nk [42,4,3,2] U (Cs U (λhc7=>?_) λhc7=>?_))
 ·exact Sr (Ru 1 U (a_ (aH (ay U U) (by rw [Nd.beq_ne (by intro e;injection e;simp_all)]) U)))
 refine aA (az (Sr (Ru 1 U (a_ (aJ (bM (λt_ S_ h_ L_=>∃ (i:Nat),t_=ks.length-i/\S_=[(2,.pointer (some ⟨b1,0,none⟩)),(3,.pointer (some ⟨b2,0,none⟩)),(5,.int .i64 i)]/\h=h_/\L_=[.blk b2 35 [.int .i64 c',.int .i64 t',.bool k',.slice a' bs'.length ca',.slice b' ks'.length cb'],.blk b1 35 [.int .i64 c,.int .i64 t,.bool k,.slice a bs.length ca,.slice b ks.length cb]]/\(i<=ks.length/\Nd.beqL ks ks'=Nd.beqL (ks.drop i) (ks'.drop i))) ⟨_,_,?_,⟨0,U,U,U,U,⟨by omega,U⟩⟩⟩ ?_))))))
 ·exact z6_
 rintro _ _ _ _ ⟨i,rfl,rfl,rfl,rfl,hi,he⟩;refine az (Sr (Ru 2 U (ah (aw dz U mm_ U) U ?_)));refine Ru 2 U (a_ (Cs U (λhc8=>?_) λhc8=>?_))
 ·refine aA (az (aJ (az (de cM cP ?_))));refine Rq 1 U ?_;refine cq (aw dz U mm_ U) U ?_;refine Rq 1 U ?_;refine du (aI gJ U U z9_ z7_ U z2_) U ?_;rintro _ ⟨b9,o9,hi9,rfl,hE9⟩;refine du (dw bP U z7_) U ?_;rintro _ ⟨_,rfl,hNd10⟩;refine Rq 1 U ?_;refine cq (aw dz U mm_ U) U ?_;refine Rq 1 U ?_;refine du (aI gJ U U z9_ z7_ U z2_) U ?_;rintro _ ⟨b11,o11,hi11,rfl,hE11⟩;refine du (dw bP U z7_) U ?_;rintro _ ⟨_,rfl,hNd12⟩;refine dG ca_13 U (ih _ _ _ _ _ (hkr _ z2_) z7_ z7_) U ?_;refine Rq 1 U ?_;refine eH ?_;refine Cs U (λhc14=>?_) λhc14=>?_
  ·exact Sr (Ru 1 U (a_ (aH (ay U U) (by have h8:Nd.beq (ks[i]'z2_) (ks'[i]'z2_)=false:=hc14;simp only [Nd.beq];rw [he,Nd.beqL_drop _ _ i z2_ z2_,h8];simp) U)))
  refine aA (Rg (Ru 1 U (ah ai_ U ?_)));refine Ru 1 U (a_ (⟨_,?_,_,?_,⟨i+1,U,U,U,U,⟨by omega,by rw [he,Nd.beqL_drop _ _ i z2_ z2_,show Nd.beq (ks[i]'z2_) (ks'[i]'z2_)=true from hc14];rfl⟩⟩⟩))
  ·omega
  exact z6_
 exact bA (Kp [] U (Sr (Ru 1 U (a_ (aH (ay U U) (by have hk:k=k':=(by simpa using hc5);subst hc3 hc4 hk hc6;simp only [Nd.beq];rw [he,List.drop_of_length_le z2_,List.drop_of_length_le z2_];simp [Nd.beqL]) U)))))
theorem same_fn' {x y:Nd}{cs cs':LV}{h:Part}(r:NdR h cs x) (r':NdR h cs' y):Pure prog 13 [.agg cs.toArray,.agg cs'.toArray] h (.bool (x.beq y)):=same_fn _ x y cs cs' h (aL _) r r'
abbrev au:=@decide_eq_false
abbrev aj:=@decide_eq_true
theorem z8_ {p:Prop}(u:p:=by (try rw [e1] at *);(try rw [e2] at *);(first|rw [pl_f1 z2_]|rw [pl_f2 z2_ z2_]|rw [pl_f3 (i+1) z2_ z2_ (by simp only [micOk,hm,Bool.true_and];rw [if_pos z2_];exact au z2_)]|(have h6:i=6:=z2_;subst h6;have hpm:plM s=micI s 6:=if_neg z2_;rw [pl_t1 z2_ z2_ z2_ hm,hpm];simp [momV,hcz])|(have hpm:plM s=0:=if_pos z2_;rw [pl_t0 z2_ z2_,hpm];simp [momV,hcz]));all_goals rfl):p:=u
theorem lH {p:Prop}(u:p:=by first|exact RunV.convb_i64 cv_5_3 rfl|exact RunV.conv_i64 cv_5_3 rfl z2_ z2_|exact cL cv_5_3 rfl):p:=u
theorem vY {p:Prop}(u:p:=by first|(have hm:momOk y s=false:=au z2_;rw [momV,hm];rfl)|(have hk2:(twoI s 0).toNat-1=k:=by omega);have hm:momOk y s=true:=aj z2_;rw [momV,hm,momT,hk2];rfl):p:=u
theorem jM {p:Prop}(u:p:=by first|exact RunV.mul_i64 rfl rfl z2_ z2_|exact RunV.mul rfl rfl):p:=u
theorem z29_ {p:Prop}(u:p:=by rw [<- hy] at *;first|(have hm:psOk s=false:=(by unfold psOk;simp_all);rw [psT,hm];rfl)|(have hm:psOk s=true:=(by unfold psOk;rw [aj z2_];simp_all);rw [psT,hm];simp_all [momV])):p:=u
theorem qX {p:Prop}(u:p:=by first|exact RunV.quo_i64 rfl rfl z2_ z2_ z2_|exact RunV.quo rfl rfl z2_):p:=u
theorem uY {p:Prop}(u:p:=by first|exact RunV.rem_i64 rfl rfl z2_ z2_|exact RunV.rem rfl rfl z2_):p:=u
theorem iG:callT prog 215=true:=by kernel_rfl
theorem qN:callT prog 216=true:=by kernel_rfl
theorem ca_250:callT prog 250=true:=by kernel_rfl
theorem ca_251:callT prog 251=true:=by kernel_rfl
theorem ca_269:callT prog 269=true:=by kernel_rfl
theorem cv_5_3:convI prog 5 3=some .i64:=by kernel_rfl
theorem dC:prog.underlying 9=some .string:=by kernel_rfl
def leapB (y:Int):Bool:=decide (y % 4=0)&&(decide (y % 100≠0)||decide (y % 400=0))
theorem leap_fn (y:Int) (h:Part) (h0:0<=y):Pure prog 269 [.int .i64 y] h (.bool (leapB y)):=by
 refine aM func269 U ntmps269 U (λe he=>?_);refine bg [(0,_)] ⟨U,trivial⟩ ?_;refine Sr (Ru 1 U (a_ (Sr (Ru 1 U (ah uY U ?_)))));refine Ru 2 U (Bs 6 U (λhc1=>?_) λhc1=>?_)
 ·refine Ru 1 U (aQ U U  uY U ?_);refine Ru 2 U (Bs 10 U (λhc2=>?_) λhc2=>?_)
  ·exact Ru 6 U (Nk [2] U (aH (ay U U) (by simp [leapB, *]) U))
  refine Ru 1 U (aQ U U  uY U ?_);exact Ru 4 U (Nk [2] U (aH (ay U U) (by simp [leapB, *]) U))
 exact Ru 10 U (Nk [2] U (aH (ay U U) (by simp [leapB, *]) U))
def monthI (y m:Int):Int:=if m=2 then(if leapB y then 29 else 28) else if m=4\/m=6\/m=9\/m=11 then 30 else 31
theorem ow (y m:Int) (h:Part) (h0:0<=y):Pure prog 250 [.int .i64 y,.int .i64 m] h (.int .i64 (monthI y m)):=by
 refine aM func250 U ntmps250 U (λe he=>?_);refine bg [(0,_),(1,_)] ⟨U,U,trivial⟩ ?_;refine Sr (Ru 1 U (a_ ?_));refine az (Sr (Ru 1 U (a_ (aJ (Sr (Ru 2 U (a_ (Cs U (λhc1=>?_) λhc1=>?_))))))))
 ·refine az (Sr (Ru 1 U (bh ca_269 U (leap_fn _ _ z2_) U ?_)));refine Nk [9,4] U (Cs U (λhc3=>?_) λhc3=>?_)
  ·exact Sr (Ru 1 U (a_ (aH (ay U U) (by simp [monthI, *]) U)))
  exact aA (Sr (Ru 1 U (a_ (aH (ay U U) (by simp [monthI, *]) U))))
 refine az (Sr (Ru 2 U (Nk [10,5,4] U (Cs U (λhc4=>?_) λhc4=>?_))))
 ·exact aA (aY U (Sr (Ru 1 U (a_ (aH (ay U U) (by simp [monthI, *]) U)))))
 refine Sr (Ru 2 U (a_ (Cs U (λhc5=>?_) λhc5=>?_)))
 ·exact aA (Kp [10,4] U (aY U (Sr (Ru 1 U (a_ (aH (ay U U) (by simp [monthI, *]) U))))))
 refine Sr (Ru 2 U (Nk [10,5,4] U (Cs U (λhc6=>?_) λhc6=>?_)))
 ·exact aA (aY U (Sr (Ru 1 U (a_ (aH (ay U U) (by simp [monthI, *]) U)))))
 refine Rg (Ru 2 U (a_ (Cs U (λhc7=>?_) λhc7=>?_)))
 ·exact Sr (Ru 1 U (Nk [4] U (aH (ay U U) (by simp [monthI, *]) U)))
 exact aA (Kp [4] U (Sr (Ru 1 U (a_ (aH (ay U U) (by simp [monthI, *]) U)))))
theorem dR (y m:Int):28<=monthI y m/\monthI y m<=31:=by unfold monthI;repeat' split<;>omega
def beforeI (y:Int):Int:=if y=0 then 0 else 365*y+(y-1) / 4-(y-1) / 100+(y-1) / 400+1
theorem qT (y:Int) (h:Part) (h0:0<=y) (h1:y<=1000000):Pure prog 251 [.int .i64 y] h (.int .i64 (beforeI y)):=by
 refine aM func251 U ntmps251 U (λe he=>?_);refine bg [(0,_)] ⟨U,trivial⟩ ?_;refine Sr (Ru 1 U (a_ (az (Sr (Ru 2 U (a_ (Cs U (λhc1=>?_) λhc1=>?_)))))))
 ·exact Sr (Ru 1 U (a_ (aH (ay U U) (by simp [beforeI, *]) U)))
 refine aA (Sr (Ru 1 U (ah si_ U ?_)));refine Ru 1 U (Nk [3,2] U (Sr (Ru 1 U (ah ai_ U ?_))));refine ah jM U ?_;refine Ru 1 U (ah qX U ?_);refine ah ai_ U ?_;refine Ru 1 U (ah qX U ?_);refine ah si_ U ?_;refine Ru 1 U (ah qX U ?_);refine ah ai_ U ?_;refine ah ai_ U ?_;exact Ru 1 U (Nk [2] U (aH (ay U U) (by simp [beforeI, *]) U))
theorem iB (y:Int) (h0:0<=y) (h1:y<=1000000):0<=beforeI y/\beforeI y<=366000001:=by unfold beforeI;split<;>omega
def twoI (s:LB) (i:Nat):Int :=
 if byteAt s i<48\/57<byteAt s i\/byteAt s (i+1)<48\/57<byteAt s (i+1) then -1048576 else(byteAt s i-48:Int)*10+(byteAt s (i+1)-48:Int)
theorem two_fn (s:LB) (i:Int) (h:Part) (h0:0<=i) (h1:i+1<s.length) (h2:s.length<=140737488355328):Pure prog 215 [.string ⟨s.toArray⟩,.int .i64 i] h (.int .i64 (twoI s i.toNat)):=by
 have e3:(i+1).toNat=i.toNat+1:=by omega
 have b1:=cx s i.toNat;have b2:=cx s (i.toNat+1);refine aM func215 U ntmps215 U (λe he=>?_);refine bg [(0,_),(1,_)] ⟨U,U,trivial⟩ ?_;refine Sr (Ru 1 U (a_ (az (Sr (Ru 2 U (ah (bH dC U U z9_ z2_) U ?_))))));refine Ru 2 U (Bs 9 U (λhc1=>?_) λhc1=>?_)
 ·exact Ru 19 U (Nk [28,4,0,1] U (aY U (Sr (Ru 1 U (a_ (aH (ay U U) (by congr 1;rw [e3] at *;unfold twoI;first|rw [if_pos z2_]|rw [if_neg z2_]) U))))))
 refine Ru 2 U (aQ U U  (bH dC U U z9_ z2_) U ?_);refine Ru 3 U (Bs 15 U (λhc2=>?_) λhc2=>?_)
 ·exact Ru 13 U (Nk [28,4,0,1] U (aY U (Sr (Ru 1 U (a_ (aH (ay U U) (by congr 1;rw [e3] at *;unfold twoI;first|rw [if_pos z2_]|rw [if_neg z2_]) U))))))
 refine Ru 2 U (aQ U U  ai_ U ?_);refine aQ U U  (bH dC U U z9_ z2_) U ?_;refine Ru 3 U (Bs 22 U (λhc3=>?_) λhc3=>?_)
 ·exact Ru 6 U (Nk [28,4,0,1] U (aY U (Sr (Ru 1 U (a_ (aH (ay U U) (by congr 1;rw [e3] at *;unfold twoI;first|rw [if_pos z2_]|rw [if_neg z2_]) U))))))
 refine Ru 2 U (aQ U U  ai_ U ?_);refine aQ U U  (bH dC U U z9_ z2_) U ?_;refine Ru 2 U (Nk [28,4,0,1] U (Cs U (λhc4=>?_) λhc4=>?_))
 ·exact Sr (Ru 1 U (a_ (aH (ay U U) (by congr 1;rw [e3] at *;unfold twoI;first|rw [if_pos z2_]|rw [if_neg z2_]) U)))
 refine aA (az (de cM cP ?_));refine Rq 2 U ?_;refine cq (bH dC U U z9_ z2_) U ?_;refine cq (by first|exact RunV.sub_u8 rfl rfl z2_ z2_|exact dW rfl rfl) U ?_;refine cq lH U ?_;refine cq jM U ?_;refine Rq 2 U ?_;refine cq ai_ U ?_;refine cq (bH dC U U z9_ z2_) U ?_;refine cq (by first|exact RunV.sub_u8 rfl rfl z2_ z2_|exact dW rfl rfl) U ?_;refine cq lH U ?_;refine cq ai_ U ?_;refine Rq 1 U ?_;refine Nq [4] U ?_;exact aH (ay U U) (by congr 1;rw [e3] at *;unfold twoI;first|rw [if_pos z2_]|rw [if_neg z2_]) U
theorem mJ (s:LB) (i:Nat) (h:Part) (h1:i+1<s.length) (h2:s.length<=140737488355328):Pure prog 215 [.string ⟨s.toArray⟩,.int .i64 (i:Nat)] h (.int .i64 (twoI s i)) :=
 (two_fn s i h z2_ z2_ h2).cast (by simp)
theorem e_ (s:LB) (i:Nat):(twoI s i=-1048576\/0<=twoI s i)/\twoI s i<=99:=by
 have:=cx s i;have:=cx s (i+1);unfold twoI;split<;>omega
def mdays (y:Int):Nat->Int
 |0=>0
 |k+1=>mdays y k+monthI y (k+1)
theorem ox (y:Int) (k:Nat):0<=mdays y k/\mdays y k<=31*k:=by
 induction k with
 |zero=>simp [mdays]
 |succ k ih=>have:=dR y (k+1);simp only [mdays];omega
def momOk (y:Int) (s:LB):Bool :=
 decide (0<=y/\1<=twoI s 0/\twoI s 0<=12/\1<=twoI s 2/\twoI s 2<=monthI y (twoI s 0)/\0<=twoI s 4/\twoI s 4<=23/\0<=twoI s 6/\twoI s 6<=59/\0<=twoI s 8/\twoI s 8<=59)
def momT (y:Int) (s:LB):Int :=
 -62167219200+(beforeI y+(twoI s 2-1)+mdays y ((twoI s 0).toNat-1))*86400+(twoI s 4*3600+twoI s 6*60+twoI s 8)
def momV (y:Int) (s:LB):Int:=if momOk y s then momT y s else 0
theorem gS (y:Int) (s:LB) (h:Part) (h1:y<=1000000) (h2:s.length=10):Pure prog 216 [.int .i64 y,.string ⟨s.toArray⟩] h (.tuple #[.int .i64 (momV y s),.bool (momOk y s)]):=by
 have w0:=e_ s 0;have w2:=e_ s 2;have w4:=e_ s 4;have w6:=e_ s 6;have w8:=e_ s 8;have w1:=dR y (twoI s 0);refine aM func216 U ntmps216 U (λe he=>?_);refine bg [(0,_),(1,_)] ⟨U,U,trivial⟩ ?_;refine Sr (Ru 2 U (a_ (az (Sr (Ru 2 U (a_ (Cs U (λhc1=>?_) λhc1=>?_)))))))
 ·exact Sr (Ru 2 U (Nk [5,4,0,1] U (aH (b_ U U U) vY U)))
 refine aA (Sr (Ru 1 U (bh iG U (mJ s 0 _ z2_ z2_) U ?_)));refine Ru 1 U (bh iG U (mJ s 2 _ z2_ z2_) U ?_);refine Ru 1 U (bh iG U (mJ s 4 _ z2_ z2_) U ?_);refine Ru 1 U (bh iG U (mJ s 6 _ z2_ z2_) U ?_);refine Ru 1 U (bh iG U (mJ s 8 _ z2_ z2_) U ?_);refine Ru 5 U (Nk [10,9,8,7,6,5,4,0] U (az (Sr (Ru 3 U (Bs 27 U (λhc7=>?_) λhc7=>?_)))))
 ·exact Ru 38 U (Nk [65,10,9,8,7,6,5,4,0] U (aY U (Sr (Ru 2 U (a_ (aH (b_ U U U) vY U))))))
 refine Ru 4 U (Bs 31 U (λhc8=>?_) λhc8=>?_)
 ·exact Ru 34 U (Nk [65,10,9,8,7,6,5,4,0] U (aY U (Sr (Ru 2 U (a_ (aH (b_ U U U) vY U))))))
 refine Ru 4 U (Bs 35 U (λhc9=>?_) λhc9=>?_)
 ·exact Ru 30 U (Nk [65,10,9,8,7,6,5,4,0] U (aY U (Sr (Ru 2 U (a_ (aH (b_ U U U) vY U))))))
 refine Ru 3 U (cG U U  ca_250 U (ow _ _ _ z2_) U ?_);refine Ru 3 U (Bs 42 U (λhc11=>?_) λhc11=>?_)
 ·exact Ru 23 U (Nk [65,10,9,8,7,6,5,4,0] U (aY U (Sr (Ru 2 U (a_ (aH (b_ U U U) vY U))))))
 refine Ru 4 U (Bs 46 U (λhc12=>?_) λhc12=>?_)
 ·exact Ru 19 U (Nk [65,10,9,8,7,6,5,4,0] U (aY U (Sr (Ru 2 U (a_ (aH (b_ U U U) vY U))))))
 refine Ru 4 U (Bs 50 U (λhc13=>?_) λhc13=>?_)
 ·exact Ru 15 U (Nk [65,10,9,8,7,6,5,4,0] U (aY U (Sr (Ru 2 U (a_ (aH (b_ U U U) vY U))))))
 refine Ru 4 U (Bs 54 U (λhc14=>?_) λhc14=>?_)
 ·exact Ru 11 U (Nk [65,10,9,8,7,6,5,4,0] U (aY U (Sr (Ru 2 U (a_ (aH (b_ U U U) vY U))))))
 refine Ru 4 U (Bs 58 U (λhc15=>?_) λhc15=>?_)
 ·exact Ru 7 U (Nk [65,10,9,8,7,6,5,4,0] U (aY U (Sr (Ru 2 U (a_ (aH (b_ U U U) vY U))))))
 refine Ru 4 U (Bs 62 U (λhc16=>?_) λhc16=>?_)
 ·exact Ru 3 U (Nk [65,10,9,8,7,6,5,4,0] U (aY U (Sr (Ru 2 U (a_ (aH (b_ U U U) vY U))))))
 refine Ru 3 U (Nk [65,10,9,8,7,6,5,4,0] U (Cs U (λhc17=>?_) λhc17=>?_))
 ·exact Sr (Ru 2 U (a_ (aH (b_ U U U) vY U)))
 refine aA (Sr (Ru 1 U (bh ca_251 U (qT _ _ z2_ z2_) U ?_)));refine Ru 1 U (ah si_ U ?_);have hbb:=iB y z2_ z2_;refine ah ai_ U ?_;refine Ru 1 U (Nk [11,10,9,8,6,5,4,0] U (az (Sr (Ru 1 U (a_ (aJ (bM (λt_ S_ h_ L_=>∃ (k:Nat),t_=13-k/\S_=[(0,.int .i64 y),(6,.int .i64 (twoI s 0)),(8,.int .i64 (twoI s 4)),(9,.int .i64 (twoI s 6)),(10,.int .i64 (twoI s 8)),(11,.int .i64 (beforeI y+(twoI s 2-1)+mdays y k)),(12,.int .i64 (k+1:Nat))]/\h=h_/\L_=[]/\(k<twoI s 0)) ⟨_,_,?_,⟨0,U,U,U,U,by omega⟩⟩ ?_)))))))
 ·repeat (first|exact trivial|refine⟨rfl,?_⟩|refine⟨(by exact eB (by simp [mdays]<;>omega)),?_⟩)
 rintro _ _ _ _ ⟨k,rfl,rfl,rfl,rfl,hk⟩;have hmd:=ox y k;have hmb:=dR y (k+1:Nat);refine az (Sr (Ru 3 U (a_ (Cs U (λhc19=>?_) λhc19=>?_))))
 ·refine aA (az (aJ (Rg (Ru 3 U (bh ca_250 U (ow _ _ _ z2_) U ?_)))));refine ah ai_ U ?_;refine Ru 1 U (a_ (Rg (Ru 1 U (ah ai_ U ?_))));refine Ru 1 U (a_ (⟨_,?_,_,?_,⟨k+1,U,U,U,U,by omega⟩⟩))
  ·omega
  repeat (first|exact trivial|refine⟨rfl,?_⟩|refine⟨(by exact eB (by simp [mdays]<;>omega)),?_⟩)
 refine bA (Kp [8,9,10,11] U (Sr (Ru 1 U (ah jM U ?_))));refine ah ai_ U ?_;refine Ru 1 U (ah jM U ?_);refine Ru 1 U (ah jM U ?_);refine ah ai_ U ?_;refine Ru 1 U (ah ai_ U ?_);refine ah ai_ U ?_;exact Ru 2 U (Nk [5,4] U (aH (b_ U U U) vY U))
def psY (s:LB):Int:=if 0<=twoI s 0 then(if twoI s 0+1900<1950 then twoI s 0+1900+100 else twoI s 0+1900) else twoI s 0
def psOk (s:LB):Bool:=decide (s.length=13/\byteAt s 12=90)&&momOk (psY s) ((s.drop 2).take 10)
def psT (s:LB):Int:=if psOk s then momT (psY s) ((s.drop 2).take 10) else 0
theorem pshort_fn (s:LB) (h:Part) (h2:s.length<=140737488355328):Pure prog 159 [.string ⟨s.toArray⟩] h (.tuple #[.int .i64 (psT s),.int .i64 (if psOk s then 0 else 21)]):=by
 have w0:=e_ s 0;refine aM func159 U ntmps159 U (λe he=>?_);refine bg [(0,_)] ⟨U,trivial⟩ ?_;refine Sr (Ru 2 U (a_ (az (Sr (Ru 1 U (ah (cD dC U) U ?_))))));refine Ru 2 U (Bs 10 U (λhc1=>?_) λhc1=>?_)
 ·exact Ru 4 U (Nk [14,3,2,0] U (aY U (Sr (Ru 2 U (a_ (aH (b_ U U U) (by have hm:psOk s=false:=(by unfold psOk;rw [au z2_];rfl);rw [psT,hm];rfl) U))))))
 refine Ru 1 U (aQ U U  (bH dC U U (show _=((12:Nat):Int) from rfl) z2_) U ?_);refine Ru 2 U (Nk [14,3,2,0] U (Cs U (λhc2=>?_) λhc2=>?_))
 ·exact Sr (Ru 2 U (a_ (aH (b_ U U U) (by have hm:psOk s=false:=(by unfold psOk;rw [au z2_];rfl);rw [psT,hm];rfl) U)))
 refine aA (Sr (Ru 1 U (bh iG U (mJ s 0 _ z2_ z2_) U ?_)));refine Ru 1 U (a_ (az (Sr (Ru 2 U (Nk [18,4,3,2,0] U (Cs U (λhc4=>?_) λhc4=>?_))))))
 ·refine Sr (Ru 1 U (ah ai_ U ?_));refine Ru 1 U (Nk [4,3,2,0] U (Sr (Ru 2 U (a_ (Cs U (λhc5=>?_) λhc5=>?_)))))
  ·have hy:psY s=twoI s 0+1900+100:=by unfold psY;rw [if_pos z2_,if_pos z2_]
   refine Rg (Ru 1 U (ah ai_ U ?_));refine Ru 1 U (Nk [4,3,2,0] U (Sr (Ru 2 U (ah (cC dC U U U (show _=((2:Nat):Int) from rfl) (show _=((12:Nat):Int) from rfl) z2_ z2_) U ?_))));refine bh qN U (gS _ ((s.drop 2).take 10) _ z2_ (by simp;omega)) U ?_;refine Ru 5 U (Nk [6,5,3,2] U (az (Sr (Ru 2 U (a_ (Cs U (λhc7=>?_) λhc7=>?_))))))
   ·exact Sr (Ru 2 U (Nk [3,2,5] U (aH (b_ U U U) z29_ U)))
   exact aA (Sr (Ru 3 U (Nk [3,2] U (aH (b_ U U U) z29_ U))))
  have hy:psY s=twoI s 0+1900:=by unfold psY;rw [if_pos z2_,if_neg z2_]
  refine aA (Sr (Ru 2 U (ah (cC dC U U U (show _=((2:Nat):Int) from rfl) (show _=((12:Nat):Int) from rfl) z2_ z2_) U ?_)));refine bh qN U (gS _ ((s.drop 2).take 10) _ z2_ (by simp;omega)) U ?_;refine Ru 5 U (Nk [6,5,3,2] U (az (Sr (Ru 2 U (a_ (Cs U (λhc9=>?_) λhc9=>?_))))))
  ·exact Sr (Ru 2 U (Nk [3,2,5] U (aH (b_ U U U) z29_ U)))
  exact aA (Sr (Ru 3 U (Nk [3,2] U (aH (b_ U U U) z29_ U))))
 have hy:psY s=twoI s 0:=by unfold psY;rw [if_neg z2_]
 refine aA (Sr (Ru 2 U (ah (cC dC U U U (show _=((2:Nat):Int) from rfl) (show _=((12:Nat):Int) from rfl) z2_ z2_) U ?_)));refine bh qN U (gS _ ((s.drop 2).take 10) _ z2_ (by simp;omega)) U ?_;refine Ru 5 U (Nk [6,5,3,2] U (az (Sr (Ru 2 U (a_ (Cs U (λhc11=>?_) λhc11=>?_))))))
 ·exact Sr (Ru 2 U (Nk [3,2,5] U (aH (b_ U U U) z29_ U)))
 exact aA (Sr (Ru 3 U (Nk [3,2] U (aH (b_ U U U) z29_ U))))
def micI (s:LB):Nat->Int
 |0=>0
 |k+1=>micI s k*10+(if 15+k+1<s.length then(byteAt s (15+k):Int)-48 else 0)
def micOk (s:LB):Nat->Bool
 |0=>true
 |k+1=>micOk s k&&(if 15+k+1<s.length then decide (48<=byteAt s (15+k)/\byteAt s (15+k)<=57) else true)
theorem micI_bd (s:LB) (k:Nat) (h:micOk s k=true):0<=micI s k/\micI s k<10 ^ k:=by
 induction k with
 |zero=>simp [micI]
 |succ k ih =>
  simp only [micOk,Bool.and_eq_true] at h;obtain⟨h1,h2⟩:=h;have:=ih h1;have e:(10:Int) ^ (k+1)=10 ^ k*10:=Int.pow_succ ..;simp only [micI];split at h2
  ·rename_i hh;rw [if_pos hh];have:=of_decide_eq_true h2;omega
  ·rename_i hh;rw [if_neg hh];omega
def plOk (s:LB):Bool :=
 decide (15<=s.length/\s.length<=22/\byteAt s (s.length-1)=90)&&((decide (s.length=15)||(decide (byteAt s 14=46/\s.length≠16/\byteAt s (s.length-2)≠48)&&micOk s 6))&&momOk (twoI s 0*100+twoI s 2) ((s.drop 4).take 10))
def plM (s:LB):Int:=if s.length=15 then 0 else micI s 6
theorem pl_f1 {s:LB}(h:¬ (15<=s.length/\s.length<=22/\byteAt s (s.length-1)=90)):plOk s=false:=by
 unfold plOk;rw [au h];rfl
theorem pl_f2 {s:LB}(h1:s.length≠15) (h:¬ (byteAt s 14=46/\s.length≠16/\byteAt s (s.length-2)≠48)):plOk s=false:=by
 unfold plOk;rw [au h1,au h];simp
theorem tV {s:LB}(k:Nat):∀ j,micOk s (k+j)=true->micOk s k=true
 |0,h=>h
 |j+1,h=>tV k j (by rw [<- Nat.add_assoc,micOk,Bool.and_eq_true] at h;exact h.1)
theorem pl_f3 {s:LB}(k:Nat) (h1:s.length≠15) (hk:k<=6) (h:micOk s k=false):plOk s=false:=by
 have h6:micOk s 6=false:=by
  cases hh:micOk s 6 with
  |false=>rfl
  |true=>have:=tV k (6-k) (by rw [show k+(6-k)=6 by omega];exact hh);rw [h] at this;cases this
 unfold plOk;rw [au h1,h6];simp
theorem pl_t0 {s:LB}(h:15<=s.length/\s.length<=22/\byteAt s (s.length-1)=90) (h1:s.length=15):plOk s=momOk (twoI s 0*100+twoI s 2) ((s.drop 4).take 10):=by
 unfold plOk;rw [aj h,aj h1];rfl
theorem pl_t1 {s:LB}(h:15<=s.length/\s.length<=22/\byteAt s (s.length-1)=90) (h1:s.length≠15) (h2:byteAt s 14=46/\s.length≠16/\byteAt s (s.length-2)≠48) (h3:micOk s 6=true):plOk s=momOk (twoI s 0*100+twoI s 2) ((s.drop 4).take 10):=by
 unfold plOk;rw [aj h,au h1,aj h2,h3];rfl
theorem plong_fn (s:LB) (h:Part) (h2:s.length<=140737488355328):Pure prog 160 [.string ⟨s.toArray⟩] h (.tuple #[.int .i64 (if plOk s then momT (twoI s 0*100+twoI s 2) ((s.drop 4).take 10) else 0),.int .i64 (if plOk s then plM s else 0),.int .i64 (if plOk s then 0 else 21)]):=by
 have w0:=e_ s 0;have w2:=e_ s 2;have e1:((s.length:Int)-1).toNat=s.length-1:=by omega
 have e2:((s.length:Int)-2).toNat=s.length-2:=by omega
 have bd:=λk=>cx s k;refine aM func160 U ntmps160 U (λe he=>?_);refine bg [(0,_)] ⟨U,trivial⟩ ?_;refine Sr (Ru 3 U (a_ (Sr (Ru 1 U (ah (cD dC U) U ?_)))));refine Ru 1 U (a_ (az (Sr (Ru 3 U (Bs 15 U (λhc1=>?_) λhc1=>?_)))))
 ·exact Ru 10 U (Nk [25,5,4,3,2,0] U (aY U (Sr (Ru 3 U (a_ (aH (cw U U U U) z8_ U))))))
 refine Ru 4 U (Bs 19 U (λhc2=>?_) λhc2=>?_)
 ·exact Ru 6 U (Nk [25,5,4,3,2,0] U (aY U (Sr (Ru 3 U (a_ (aH (cw U U U U) z8_ U))))))
 refine Ru 2 U (aQ U U  si_ U ?_);refine aQ U U  (bH dC U U z9_ z2_) U ?_;refine Ru 2 U (Nk [25,5,4,3,2,0] U (Cs U (λhc3=>?_) λhc3=>?_))
 ·exact Sr (Ru 3 U (Nk [4,3,2,5,0] U (aH (cw U U U U) z8_ U)))
 refine aA (Sr (Ru 1 U (a_ (az (Sr (Ru 2 U (a_ (Cs U (λhc4=>?_) λhc4=>?_))))))))
 ·refine az (Sr (Ru 1 U (ah (bH dC U U (show _=((14:Nat):Int) from rfl) z2_) U ?_)));refine Ru 2 U (Bs 31 U (λhc5=>?_) λhc5=>?_)
  ·exact Ru 10 U (Nk [41,6,5,4,3,2,0] U (aY U (Sr (Ru 3 U (a_ (aH (cw U U U U) z8_ U))))))
  refine Ru 4 U (Bs 35 U (λhc6=>?_) λhc6=>?_)
  ·exact Ru 6 U (Nk [41,6,5,4,3,2,0] U (aY U (Sr (Ru 3 U (a_ (aH (cw U U U U) z8_ U))))))
  refine Ru 2 U (aQ U U  si_ U ?_);refine aQ U U  (bH dC U U z9_ z2_) U ?_;refine Ru 2 U (Nk [41,6,5,4,3,2,0] U (Cs U (λhc7=>?_) λhc7=>?_))
  ·exact Sr (Ru 3 U (Nk [4,3,2,6,5,0] U (aH (cw U U U U) z8_ U)))
  refine aA (Sr (Ru 1 U (a_ (aJ (bM (λt_ S_ h_ L_=>∃ (i:Nat),t_=6-i/\S_=[(0,.string ⟨s.toArray⟩),(5,.int .i64 s.length),(6,.int .i64 (micI s i)),(42,.int .i64 i)]/\h=h_/\L_=[]/\(i<=6/\micOk s i=true)) ⟨_,_,?_,⟨0,U,U,U,U,⟨by omega,U⟩⟩⟩ ?_)))))
  ·repeat (first|exact trivial|refine⟨rfl,?_⟩|refine⟨(by exact eB (by simp [micI]<;>omega)),?_⟩)
  rintro _ _ _ _ ⟨i,rfl,rfl,rfl,rfl,hi,hm⟩;have hb:=micI_bd s i hm;have e3:((15:Int)+i).toNat=15+i:=z2_;have hp:(10:Int) ^ i<=1000000:=(by have:i=0\/i=1\/i=2\/i=3\/i=4\/i=5\/i=6:=z2_;rcases this with rfl|rfl|rfl|rfl|rfl|rfl|rfl<;>decide);have hbd:=bd (15+i);refine Sr (Ru 1 U (a_ (az (Cs U (λhc8=>?_) λhc8=>?_))))
  ·refine aA (az (aJ (Sr (Ru 2 U (a_ (Sr (Ru 1 U (ah jM U ?_))))))));refine Ru 1 U (a_ (Sr (Ru 1 U (ah ai_ U ?_))));refine Ru 1 U (ah si_ U ?_);refine Ru 1 U (a_ (Cs U (λhc9=>?_) λhc9=>?_))
   ·refine Sr (Ru 2 U (ah ai_ U ?_));refine ah (bH dC U U z9_ z2_) U ?_;rw [e3];refine Ru 1 U (a_ (az (Sr (Ru 3 U (Bs 58 U (λhc10=>?_) λhc10=>?_)))))
    ·exact Ru 3 U (a_ (aY U (Sr (Ru 3 U (a_ (aH (cw U U U U) z8_ U))))))
    refine Ru 3 U (a_ (Cs U (λhc11=>?_) λhc11=>?_))
    ·exact Sr (Ru 3 U (Nk [4,3,2,61,60,59,58,57,56,8,55,54,53,52,51,50,49,48,47,6,46,45,7,44,43,0,5,42] U (aH (cw U U U U) z8_ U)))
    refine aA (Kp [61,60,59,58,57,56,8,55,54,53,52,51,50,49,48,47,6,46,45,7,44,43,0,5,42] U (Rg (Ru 2 U (ah (by first|exact RunV.sub_u8 rfl rfl z2_ z2_|exact dW rfl rfl) U ?_))));refine ah lH U ?_;refine ah ai_ U ?_;refine Ru 1 U (a_ (Rg (ah ai_ U ?_)));refine Ru 1 U (a_ (⟨_,?_,_,?_,⟨i+1,U,U,U,U,⟨by omega,by simp only [micOk,hm,Bool.true_and];first|(rw [if_pos z2_];exact aj z2_)|rw [if_neg z2_]⟩⟩⟩))
    ·omega
    repeat (first|exact trivial|refine⟨rfl,?_⟩|refine⟨(by exact eB (by simp [micI]<;>omega)),?_⟩)
   refine aA (Rg (ah ai_ U ?_));refine Ru 1 U (a_ (⟨_,?_,_,?_,⟨i+1,U,U,U,U,⟨by omega,by simp only [micOk,hm,Bool.true_and];first|(rw [if_pos z2_];exact aj z2_)|rw [if_neg z2_]⟩⟩⟩))
   ·omega
   repeat (first|exact trivial|refine⟨rfl,?_⟩|refine⟨(by exact eB (by simp [micI]<;>omega)),?_⟩)
  refine bA (az (de cM cP ?_));refine Rq 1 U ?_;refine dG iG U (mJ s 0 _ z2_ z2_) U ?_;refine cq jM U ?_;refine Rq 1 U ?_;refine dG iG U (mJ s 2 _ z2_ z2_) U ?_;refine cq ai_ U ?_;refine Rq 1 U ?_;refine cq (cC dC U U U (show _=((4:Nat):Int) from rfl) (show _=((14:Nat):Int) from rfl) z2_ z2_) U ?_;refine dG qN U (gS _ ((s.drop 4).take 10) _ z2_ (by simp;omega)) U ?_;refine Rq 5 U ?_;refine Nq [10,9,6] U ?_;refine az (Sr (Ru 2 U (a_ (Cs U (λhc15=>?_) λhc15=>?_))))
  ·have hcz:=hc15;exact Sr (Ru 3 U (a_ (aH (cw U U U U) z8_ U)))
  have hcz:=hc15;exact aA (Sr (Ru 5 U (Nk [4,3,2] U (aH (cw U U U U) z8_ U))))
 refine aA (Kp [6,4,3,2,0] U (az (de cM cP ?_)));refine Rq 1 U ?_;refine dG iG U (mJ s 0 _ z2_ z2_) U ?_;refine cq jM U ?_;refine Rq 1 U ?_;refine dG iG U (mJ s 2 _ z2_ z2_) U ?_;refine cq ai_ U ?_;refine Rq 1 U ?_;refine cq (cC dC U U U (show _=((4:Nat):Int) from rfl) (show _=((14:Nat):Int) from rfl) z2_ z2_) U ?_;refine dG qN U (gS _ ((s.drop 4).take 10) _ z2_ (by simp;omega)) U ?_;refine Rq 5 U ?_;refine Nq [10,9,6,4,3,2] U ?_;refine az (Sr (Ru 2 U (a_ (Cs U (λhc19=>?_) λhc19=>?_))))
 ·have hcz:=hc19;exact Sr (Ru 3 U (Nk [4,3,2,9,6] U (aH (cw U U U U) z8_ U)))
 have hcz:=hc19;exact aA (Sr (Ru 5 U (Nk [4,3,2] U (aH (cw U U U U) z8_ U))))
end Go.Proofs.YtojokloclmcloaaGreatDoor
