/- Regions that draw their order, over data: whatever the order, it comes to what the text's order comes to; Single operations over data, for either kind of region; More operations over data: conversions, parts of slices, arithmetic, append; The table of closed facts on this program's types, for the rules over data; Calls through function values; the greater of two; slices of structs written out, by their list; Steps that no hint is needed for; contracts that are found by the callee's number; Contracts over data: the program's texts and nodes; Walks over data: certificates' parts, by the program; Walks: the reference's texts: characters; Walks: the reference's object identifiers; Walks: the reference's calendar; Walk: the reference's printable texts; Walks: the reference's lengths; the law DerLengths. -/
import Derived.Laws.IdiomStrings
import Derived.Test.YtcnacdlfmbigaaaGreatDoorQ2
set_option linter.unusedSimpArgs false
set_option linter.unusedVariables false
set_option linter.constructorNameAsVariable false
namespace Go.Proofs.YtcnacdlfmbigaaaGreatDoor
open Go Go.RowKit
section
structure Ef where
 us:List Nat
 rd:Option Nat
 dst:Option (Nat×A)
 key:Option (Nat×OE)
 isM:Bool
 new:Option Nat
abbrev eVal (us:List Nat) (rd:Option Nat) (d:Nat) (u:A):Ef:=⟨us,rd,some (d,u),none,false,none⟩
abbrev eMk (us:List Nat) (d k:Nat) (u:A) (e:OE):Ef:=⟨us,none,some (d,u),some (k,e),true,some k⟩
abbrev eSto (us:List Nat) (k:Nat) (e:OE):Ef:=⟨us,none,none,some (k,e),false,none⟩
abbrev eUpd (us:List Nat) (d k v:Nat) (e:OE):Ef:=⟨us,none,some (d,.row v),some (k,e),false,some v⟩
def Ef.put (f:Ef) (a:List (Nat×A)):List (Nat×A):=match f.dst with
 |some y=>y::a
 |none=>a
def aR (p:Nat→Bool) (b:List (Nat×A)):List Ef→List (Nat×A)
 |[]=>b
 |f::r=>match f.dst with
  |some y=>bif p r.length then y::aR p b r else aR p b r
  |none=>aR p b r
def tR (p:Nat→Bool) (b:Nat→Option OE) (k:Nat):List Ef→Option OE
 |[]=>b k
 |f::r=>match f.key with
  |some (k',e)=>bif p r.length&&Nat.beq k' k then some e else tR p b k r
  |none=>tR p b k r
def oS (b:List (Nat×OE)):List Ef→List (Nat×OE)
 |[]=>b
 |f::r=>match f.key with
  |none=>oS b r
  |some (k,e)=>match f.isM with
   |true=>(k,e)::oS b r
   |false=>(k,e)::delO (oS b r) k
def aft (ops:Array Oper) (i j:Nat):Bool:=match ops[i]? with
 |some o=>o.after.toList.any fun e=>Nat.beq e.on j&&Region.binds .any e
 |none=>false
def rch (ops:Array Oper):Nat→Nat→Nat→Bool
 |0,i,j=>aft ops i j
 |n+1,i,j=>aft ops i j||match ops[i]? with
  |some o=>o.after.toList.any fun e=>Region.binds .any e&&rch ops n e.on j
  |none=>false
def nmA:A→Option Nat
 |.own k _=>some k
 |.row k=>some k
 |.recr _ k=>some k
 |.mp k=>some k
 |_=>none
def memO:Option Nat→Nat→Bool
 |some j,m=>Nat.beq j m
 |none,_=>false
def memL:List A→Nat→Bool
 |[],_=>false
 |x::r,m=>bif memO (nmA x) m then true else memL r m
def memE:OE→Nat→Bool
 |.var _ cs,m=>memL cs m
 |.rowv v _ _,m=>Nat.beq v m
 |.pin v _,m=>Nat.beq v m
 |_,_=>false
def Ef.says (f:Ef) (m:Nat):Bool:=(match f.dst with
 |some (_,u)=>memO (nmA u) m
 |none=>false)||(match f.key with
 |some (_,e)=>memE e m
 |none=>false)
def okQ (ops:Array Oper) (f:Ef) (i:Nat) (g:Ef) (j:Nat):Bool :=
 (match g.dst with
  |some (t,_)=>(bif memN f.us t then aft ops i j else true)&&(match f.dst with
   |some (d,_)=>!Nat.beq d t
   |none=>true)
  |none=>true) &&
 (match f.dst with
  |some (d,_)=>bif memN g.us d then aft ops i j else true
  |none=>true) &&
 (match f.key,g.key with
  |some (k,_),some (k',_)=>match f.isM,g.isM with
   |true,_=>!Nat.beq k k'
   |false,true=>bif Nat.beq k k' then aft ops i j else true
   |false,false=>!Nat.beq k k'
  |_,_=>true) &&
 (match g.new with
  |some m=>(bif f.says m then aft ops i j else true)&&(match f.new with
   |some m'=>!Nat.beq m' m
   |none=>true)
  |none=>true) &&
 (match f.new with
  |some m=>!g.says m
  |none=>true) &&
 (match f.rd,g.key with
  |some k,some (k',_)=>bif Nat.beq k k' then rch ops 40 i j else true
  |_,_=>true) &&
 (match g.rd,f.key with
  |some k,some (k',_)=>bif Nat.beq k k' then rch ops 40 i j else true
  |_,_=>true)
def okP (ops:Array Oper) (f:Ef) (i:Nat):List Ef→Bool
 |[]=>true
 |g::r=>okQ ops f i g r.length&&okP ops f i r
def okF (base:Nat) (f:Ef):Bool:=(match f.new with
 |some m=>Nat.ble base m
 |none=>true)&&(match f.key with
 |some (k,_)=>match f.isM,f.new with
  |true,some m=>Nat.beq m k
  |true,none=>false
  |false,_=>true
 |none=>!f.new.isSome)
def okK (base:Nat) (f:Ef) (r:List Ef):Bool:=match f.key with
 |some (k,_)=>f.isM||Nat.blt k base||r.any fun g=>g.isM&&match g.key with
  |some (k',_)=>Nat.beq k' k
  |none=>false
 |none=>true
def okE (ops:Array Oper) (base:Nat):List Ef→Bool
 |[]=>true
 |f::r=>okP ops f r.length r&&okF base f&&okK base f r&&okE ops base r
section
variable {ops:Array Oper}{f g:Ef}{i j base:Nat}{t d k k' m m':Nat}{y z:A}{e e':OE}
theorem okQ_us (h:okQ ops f i g j=true) (hg:g.dst=some (t,y)) (ht:memN f.us t=true):aft ops i j=true:=by
 simp only [okQ,hg,ht,cond_true,Bool.and_eq_true] at h
 exact h.1.1.1.1.1.1.1
theorem okQ_dd (h:okQ ops f i g j=true) (hg:g.dst=some (t,y)) (hf:f.dst=some (d,z)):Nat.beq d t=false:=by
 simp only [okQ,hg,hf,Bool.and_eq_true,Bool.not_eq_true'] at h
 exact h.1.1.1.1.1.1.2
theorem okQ_an (h:okQ ops f i g j=true) (hf:f.dst=some (d,z)) (hg:memN g.us d=true):aft ops i j=true:=by
 simp only [okQ,hf,hg,cond_true,Bool.and_eq_true] at h
 exact h.1.1.1.1.1.2
theorem okQ_kM (h:okQ ops f i g j=true) (hf:f.key=some (k,e)) (hM:f.isM=true) (hg:g.key=some (k',e')):Nat.beq k k'=false:=by
 simp only [okQ,hf,hg,hM,Bool.and_eq_true,Bool.not_eq_true'] at h
 exact h.1.1.1.1.2
theorem okQ_kA (h:okQ ops f i g j=true) (hf:f.key=some (k,e)) (hM:f.isM=false) (hg:g.key=some (k,e')):aft ops i j=true:=by
 simp only [okQ,hf,hg,hM,Bool.and_eq_true] at h
 have h3:=h.1.1.1.1.2
 cases hG:g.isM with
 |true=>simpa [hG] using h3
 |false=>simp [hG] at h3
theorem okQ_nm (h:okQ ops f i g j=true) (hg:g.new=some m) (hf:f.says m=true):aft ops i j=true:=by
 simp only [okQ,hg,hf,cond_true,Bool.and_eq_true] at h
 exact h.1.1.1.2.1
theorem qt (h:okQ ops f i g j=true) (hg:g.new=some m) (hf:f.new=some m'):Nat.beq m' m=false:=by
 simp only [okQ,hg,hf,Bool.and_eq_true,Bool.not_eq_true'] at h
 exact h.1.1.1.2.2
theorem okQ_no (h:okQ ops f i g j=true) (hf:f.new=some m):g.says m=false:=by
 simp only [okQ,hf,Bool.and_eq_true,Bool.not_eq_true'] at h
 exact h.1.1.2
theorem okQ_rk (h:okQ ops f i g j=true) (hf:f.rd=some k) (hg:g.key=some (k,e)):rch ops 40 i j=true:=by
 simp only [okQ,hf,hg,Nat.beq_refl,cond_true,Bool.and_eq_true] at h
 exact h.1.2
theorem okQ_kr (h:okQ ops f i g j=true) (hg:g.rd=some k) (hf:f.key=some (k,e)):rch ops 40 i j=true:=by
 simp only [okQ,hf,hg,Nat.beq_refl,cond_true,Bool.and_eq_true] at h
 exact h.2
theorem rch_ok {p:Nat→Bool}(hc:∀ i j,p i=true→aft ops i j=true→p j=true):∀ (n i:Nat),p i=true→rch ops n i j=true→p j=true
 |0,i,hi,h=>hc i j hi h
 |n+1,i,hi,h=>by
  simp only [rch,Bool.or_eq_true] at h
  rcases h with h|h
  ·exact hc i j hi h
  ·cases ho:ops[i]? with
   |none=>rw [ho] at h;cases h
   |some o =>
    rw [ho] at h
    obtain⟨e,he,h2⟩:=List.any_eq_true.1 h
    rw [Bool.and_eq_true] at h2
    refine rch_ok hc n e.on (hc i e.on hi ?_) h2.2
    simp only [aft,ho]
    exact List.any_eq_true.2 ⟨e,he,by simp [h2.1]⟩
theorem rch_dep {p:Nat→Bool}(hc:∀ i j,p i=true→aft ops i j=true→p j=true) (hd:∀ j,aft ops i j=true→p j=true):∀ (n:Nat),rch ops n i j=true→p j=true
 |0,h=>hd j h
 |n+1,h=>by
  simp only [rch,Bool.or_eq_true] at h
  rcases h with h|h
  ·exact hd j h
  ·cases ho:ops[i]? with
   |none=>rw [ho] at h;cases h
   |some o =>
    rw [ho] at h
    obtain⟨e,he,h2⟩:=List.any_eq_true.1 h
    rw [Bool.and_eq_true] at h2
    refine rch_ok hc n e.on (hd e.on ?_) h2.2
    simp only [aft,ho]
    exact List.any_eq_true.2 ⟨e,he,by simp [h2.1]⟩
theorem okP_at:∀ {q r:List Ef},okP ops f i (q++g::r)=true→okQ ops f i g r.length=true
 |[],r,h=>by simp only [List.nil_append,okP,Bool.and_eq_true] at h;exact h.1
 |x::q,r,h=>by simp only [List.cons_append,okP,Bool.and_eq_true] at h;exact okP_at h.2
theorem dN:∀ {pre r:List Ef},okE ops base (pre++f::r)=true→okP ops f r.length r=true∧okF base f=true∧okK base f r=true∧okE ops base r=true
 |[],r,h=>by simp only [List.nil_append,okE,Bool.and_eq_true] at h;exact⟨h.1.1.1,h.1.1.2,h.1.2,h.2⟩
 |x::pre,r,h=>by simp only [List.cons_append,okE,Bool.and_eq_true] at h;exact dN h.2
theorem dX {pre q r:List Ef}(h:okE ops base (pre++g::(q++f::r))=true):okQ ops g (q++f::r).length f r.length=true:=okP_at (dN h).1
theorem okF_ge (h:okF base f=true) (hn:f.new=some m):base≤m:=by
 simp only [okF,hn,Bool.and_eq_true] at h
 exact Nat.le_of_ble_eq_true h.1
theorem qu (h:okF base f=true) (hk:f.key=some (k,e)) (hM:f.isM=true):f.new=some k:=by
 simp only [okF,hk,hM,Bool.and_eq_true] at h
 cases hn:f.new with
 |none=>simp [hn] at h
 |some m=>rw [hn] at h;have:=ah h.2;rw [this]
end
def allT:Nat→Bool:=fun _=>true
theorem qL {ops:Array Oper}{b:List (Nat×A)}{p:Nat→Bool}{base:Nat}{f:Ef}{r:List Ef}{t:Nat}(hp:p r.length=false) (hd:∀ j,aft ops r.length j=true→p j=true) (hc:∀ i j,p i=true→aft ops i j=true→p j=true) (ht:memN f.us t=true) :
 ∀ {pre:List Ef},okE ops base (pre++f::r)=true→lkA (aR p b (pre++f::r)) t=lkA (aR allT b r) t
 |[],ho=>by
  have hf:=(dN ho).1
  have e0:aR p b (f::r)=aR p b r:=by
   simp only [aR,hp,cond_false]
   split<;>rfl
  rw [List.nil_append,e0]
  clear ho e0
  have key:∀ q,okP ops f r.length q=true→lkA (aR p b q) t=lkA (aR allT b q) t:=by
   intro q
   induction q with
   |nil=>intro _;rfl
   |cons g q ih =>
    intro ho
    simp only [okP,Bool.and_eq_true] at ho
    obtain⟨h1,h4⟩:=ho
    have ih:=ih h4
    simp only [aR]
    split
    ·rename_i y hy
     obtain⟨t',u⟩:=y
     simp only [allT,cond_true]
     cases hb:Nat.beq t' t with
     |true =>
      obtain rfl:=ah hb
      rw [hd _ (okQ_us h1 hy ht),cond_true]
      simp [lkA]
     |false =>
      cases hq:p q.length with
      |true=>simp only [cond_true,lkA,hb,cond_false];exact ih
      |false=>simp only [cond_false,lkA,hb];exact ih
    ·exact ih
  exact key r hf
 |g::pre,ho=>by
  have hpair:=dX (pre:=[]) (q:=pre) ho
  have ih:=qL (b:=b) hp hd hc ht (dN (pre:=[]) ho).2.2.2
  simp only [List.cons_append,aR]
  split
  ·rename_i y hy
   obtain⟨t',u⟩:=y
   cases hq:p (pre++f::r).length with
   |false=>rw [cond_false];exact ih
   |true =>
    rw [cond_true]
    cases hb:Nat.beq t' t with
    |false=>simp only [lkA,hb,cond_false];exact ih
    |true =>
     obtain rfl:=ah hb
     have:=hc _ _ hq (okQ_an hpair hy ht)
     rw [hp] at this;cases this
  ·exact ih
def one (p:Nat→Bool) (i:Nat):Nat→Bool:=fun j=>bif Nat.beq j i then true else p j
theorem one_i (p:Nat→Bool) (i:Nat):one p i i=true:=by simp [one]
theorem iY (p:Nat→Bool) {i j:Nat}(h:j≠i):one p i j=p j:=by
 unfold one
 cases hb:Nat.beq j i with
 |true=>exact absurd (ah hb) h
 |false=>rfl
theorem aR_lt {b:List (Nat×A)}{p:Nat→Bool}{i:Nat}:∀ {r:List Ef},r.length≤i→aR (one p i) b r=aR p b r
 |[],_=>rfl
 |g::r,h=>by
  simp only [aA] at h
  have ih:=aR_lt (b:=b) (p:=p) (i:=i) (r:=r) z2_
  simp only [aR,ih,iY p (show r.length≠i by omega)]
theorem tR_lt {b:Nat→Option OE}{p:Nat→Bool}{i k:Nat}:∀ {r:List Ef},r.length≤i→tR (one p i) b k r=tR p b k r
 |[],_=>rfl
 |g::r,h=>by
  simp only [aA] at h
  have ih:=tR_lt (b:=b) (p:=p) (i:=i) (k:=k) (r:=r) z2_
  simp only [tR,ih,iY p (show r.length≠i by omega)]
theorem rz {ops:Array Oper}{b:List (Nat×A)}{p:Nat→Bool}{base:Nat}{f:Ef}{r:List Ef}{t:Nat}{y:A}(hp:p r.length=false) :
 ∀ {pre:List Ef},okE ops base (pre++f::r)=true→lkA (aR (one p r.length) b (pre++f::r)) t=some y→lkA (f.put (aR p b (pre++f::r))) t=some y
 |[],ho,hy=>by
  simp only [List.nil_append,aR,one_i,cond_true,aR_lt (aD r.length),hp,cond_false,Ef.put] at hy ⊢
  cases hf:f.dst with
  |none=>rw [hf] at hy;exact hy
  |some z=>rw [hf] at hy;exact hy
 |g::pre,ho,hy=>by
  have hpair:=dX (pre:=[]) (q:=pre) ho
  have h3:=(dN (pre:=[]) ho).2.2.2
  have hne:(pre++f::r).length≠r.length:=by simp;omega
  have ih:=fun hy=>rz (b:=b) (t:=t) (y:=y) hp h3 hy
  simp only [List.cons_append,aR,iY p hne] at hy ⊢
  cases hz:g.dst with
  |none=>simp only [hz] at hy ⊢;exact ih hy
  |some z =>
   obtain⟨t',u'⟩:=z
   simp only [hz] at hy ⊢
   cases hq:p (pre++f::r).length with
   |false=>rw [hq,cond_false] at hy;rw [cond_false];exact ih hy
   |true =>
    rw [hq,cond_true] at hy
    rw [cond_true]
    simp only [Ef.put] at ih ⊢
    cases hf:f.dst with
    |none =>
     simp only [hf,lkA] at hy ih ⊢
     cases hb:Nat.beq t' t with
     |true=>simpa [hb] using hy
     |false=>simp only [hb,cond_false] at hy ⊢;exact ih hy
    |some z =>
     obtain⟨d,u⟩:=z
     have hdt:=okQ_dd hpair hf hz
     simp only [hf,lkA] at hy ih ⊢
     cases hb:Nat.beq t' t with
     |true =>
      obtain rfl:=ah hb
      have:Nat.beq d t'=false:=by
       cases hc:Nat.beq d t' with
       |true=>have:=ah hc;subst this;simp at hdt
       |false=>rfl
      simp only [hb,cond_true,this,cond_false] at hy ⊢
      exact hy
     |false =>
      simp only [hb,cond_false] at hy ⊢
      exact ih hy
theorem tR_none {b:Nat→Option OE}{p:Nat→Bool}{f:Ef}{r:List Ef}{k:Nat}(hf:f.key=none):∀ {pre:List Ef},tR (one p r.length) b k (pre++f::r)=tR p b k (pre++f::r)
 |[]=>by simp only [List.nil_append,tR,hf,tR_lt (aD r.length)]
 |g::pre=>by
  have hne:(pre++f::r).length≠r.length:=by simp;omega
  simp only [List.cons_append,tR,iY p hne,tR_none hf (pre:=pre)]
theorem lR {ops:Array Oper}{f g:Ef}{i j k:Nat}{e e':OE}(h:okQ ops g i f j=true) (hg:g.key=some (k,e')) (hf:f.key=some (k,e)):aft ops i j=true:=by
 cases hM:g.isM with
 |true=>have:=okQ_kM h hg hM hf;simp at this
 |false=>exact okQ_kA h hg hM hf
theorem tR_one {ops:Array Oper}{b:Nat→Option OE}{p:Nat→Bool}{base:Nat}{f:Ef}{r:List Ef}{k:Nat}{e:OE}(hf:f.key=some (k,e)) (hp:p r.length=false) (hc:∀ i j,p i=true→aft ops i j=true→p j=true) {k':Nat} :
 ∀ {pre:List Ef},okE ops base (pre++f::r)=true→tR (one p r.length) b k' (pre++f::r)=bif Nat.beq k k' then some e else tR p b k' (pre++f::r)
 |[],ho=>by
  simp only [List.nil_append,tR,hf,one_i,Bool.true_and,tR_lt (aD r.length),hp,Bool.false_and,cond_false]
 |g::pre,ho=>by
  have hpair:=dX (pre:=[]) (q:=pre) ho
  have h3:=(dN (pre:=[]) ho).2.2.2
  have hne:(pre++f::r).length≠r.length:=by simp;omega
  have ih:=tR_one (b:=b) hf hp hc (k':=k') h3
  simp only [List.cons_append,tR,iY p hne]
  split
  ·rename_i kg eg hg
   cases hq:(p (pre++f::r).length&&Nat.beq kg k') with
   |false=>simp only [cond_false];exact ih
   |true =>
    simp only [cond_true]
    rw [Bool.and_eq_true] at hq
    cases hb:Nat.beq k k' with
    |false=>rfl
    |true =>
     exfalso
     obtain rfl:=ah hb
     obtain rfl:=ah hq.2
     have:=hc _ _ hq.1 (lR hpair hg hf)
     rw [hp] at this;cases this
  ·exact ih
theorem lkO_mem {o:List (Nat×OE)}{k:Nat}{e:OE}(h:lkO o k=some e):(k,e)∈o:=by
 induction o with
 |nil=>cases h
 |cons y r ih =>
  obtain⟨i,u⟩:=y
  simp only [lkO] at h
  cases hb:Nat.beq i k with
  |true=>obtain rfl:=ah hb;simp only [hb,cond_true,ay] at h;subst h;exact aF ..
  |false=>simp only [hb,cond_false] at h;exact aI _ (ih h)
def NdO (o:List (Nat×OE)):Prop:=(o.map (·.1)).Nodup
theorem lkO_of {o:List (Nat×OE)}(hn:NdO o) {k:Nat}{e:OE}(h:(k,e)∈o):lkO o k=some e:=by
 induction o with
 |nil=>cases h
 |cons y r ih =>
  obtain⟨i,u⟩:=y
  simp only [NdO,List.map_cons,List.nodup_cons] at hn
  simp only [lkO]
  cases h with
  |head=>simp
  |tail _ h =>
   have:i≠k:=fun e'=>hn.1 (List.mem_map.2 ⟨_,h,e'.symm⟩)
   cases hb:Nat.beq i k with
   |true=>exact absurd (ah hb) this
   |false=>exact ih hn.2 h
theorem pB {o:List (Nat×OE)}{k:Nat}{y:Nat×OE}(h:y∈delO o k):y∈o:=by
 induction o with
 |nil=>exact h
 |cons z r ih =>
  obtain⟨i,u⟩:=z
  simp only [delO] at h
  cases hb:Nat.beq i k with
  |true=>simp only [hb,cond_true] at h;exact aI _ h
  |false =>
   simp only [hb,cond_false] at h
   cases h with
   |head=>exact aF ..
   |tail _ h=>exact aI _ (ih h)
theorem del_nd {o:List (Nat×OE)}{k:Nat}(hn:NdO o):NdO (delO o k)∧∀ e,(k,e) ∉ delO o k:=by
 induction o with
 |nil=>exact⟨hn,fun e h=>by cases h⟩
 |cons z r ih =>
  obtain⟨i,u⟩:=z
  simp only [NdO,List.map_cons,List.nodup_cons] at hn
  obtain⟨h1,h2⟩:=ih hn.2
  simp only [delO]
  cases hb:Nat.beq i k with
  |true =>
   obtain rfl:=ah hb
   exact⟨hn.2,fun e h=>hn.1 (List.mem_map.2 ⟨_,h,rfl⟩)⟩
  |false =>
   refine⟨?_,fun e h=>?_⟩
   ·simp only [cond_false,NdO,List.map_cons,List.nodup_cons]
    refine⟨fun hm=>?_,h1⟩
    obtain⟨y,hy,e⟩:=List.mem_map.1 hm
    exact hn.1 (List.mem_map.2 ⟨y,pB hy,e⟩)
   ·simp only [cond_false] at h
    cases h with
    |head=>simp at hb
    |tail _ h=>exact h2 e h
theorem p_ {o:List (Nat×OE)}{k k':Nat}(hk:k≠k'):lkO (delO o k) k'=lkO o k':=by
 induction o with
 |nil=>rfl
 |cons z r ih =>
  obtain⟨i,u⟩:=z
  simp only [delO,lkO]
  cases hb:Nat.beq i k with
  |true =>
   obtain rfl:=ah hb
   cases hc:Nat.beq i k' with
   |true=>exact absurd (ah hc) hk
   |false=>rfl
  |false =>
   simp only [cond_false,lkO]
   cases Nat.beq i k' with
   |true=>rfl
   |false=>exact ih
theorem wkO_of:∀ {o' o:List (Nat×OE)},NdO o'→(∀ k e,(k,e)∈o'→lkO o k=some e)→WkO o' o
 |[],_,_,_=>trivial
 |(k,e)::r,o,hn,h=>by
  simp only [NdO,List.map_cons,List.nodup_cons] at hn
  refine⟨h k e (aF ..),wkO_of hn.2 fun k' e' hm=>?_⟩
  rw [p_ (fun he=>hn.1 (List.mem_map.2 ⟨_,hm,he.symm⟩))]
  exact h k' e' (aI _ hm)
theorem oS_ok {ops:Array Oper}{base:Nat}{b:List (Nat×OE)}(hb:NdO b) (hk:∀ k e,(k,e)∈b→k<base):∀ {es:List Ef},okE ops base es=true→NdO (oS b es)∧∀ k,lkO (oS b es) k=tR allT (lkO b) k es∧((∃ e,(k,e)∈oS b es)→k<base∨∃ f∈es,∃ e,f.key=some (k,e))
 |[],_=>⟨hb,fun k=>⟨rfl,fun⟨e,h⟩=>.inl (hk k e h)⟩⟩
 |f::r,ho=>by
  obtain⟨h1,h2,_,h3⟩:=dN (pre:=[]) ho
  obtain⟨i1,i2⟩:=oS_ok hb hk h3
  have i3:∀ k,(∃ e,(k,e)∈oS b r)→k<base∨∃ f'∈f::r,∃ e,f'.key=some (k,e):=fun k h=>by
   rcases(i2 k).2 h with h|⟨f',hf',h⟩
   ·exact .inl h
   ·exact .inr ⟨f',aI _ hf',h⟩
  cases hf:f.key with
  |none =>
   simp only [oS,hf,tR]
   exact⟨i1,fun k=>⟨(i2 k).1,i3 k⟩⟩
  |some y =>
   obtain⟨k,e⟩:=y
   cases hM:f.isM with
   |true =>
    simp only [oS,hf,hM,tR]
    have hnew:∀ e',(k,e') ∉ oS b r:=fun e' hm=>by
     rcases(i2 k).2 ⟨e',hm⟩ with h|⟨f',hf',e'',h⟩
     ·have:=okF_ge h2 (qu h2 hf hM);omega
     ·obtain⟨q,r',rfl⟩:=List.append_of_mem hf'
      have:=okQ_kM (okP_at h1) hf hM h
      simp at this
    refine⟨?_,fun k'=>⟨?_,fun⟨e',hm⟩=>?_⟩⟩
    ·simp only [NdO,List.map_cons,List.nodup_cons]
     exact⟨fun hm=>by obtain⟨⟨_,e'⟩,hy,rfl⟩:=List.mem_map.1 hm;exact hnew e' hy,i1⟩
    ·simp only [lkO,allT,Bool.true_and];rw [(i2 k').1];try rfl
    ·cases hm with
     |head=>exact .inr ⟨f,aF ..,e,hf⟩
     |tail _ hm=>exact i3 k' ⟨e',hm⟩
   |false =>
    simp only [oS,hf,hM,tR]
    obtain⟨d1,d2⟩:=del_nd (k:=k) i1
    refine⟨?_,fun k'=>⟨?_,fun⟨e',hm⟩=>?_⟩⟩
    ·simp only [NdO,List.map_cons,List.nodup_cons]
     exact⟨fun hm=>by obtain⟨⟨_,e'⟩,hy,rfl⟩:=List.mem_map.1 hm;exact d2 e' hy,d1⟩
    ·simp only [lkO,allT,Bool.true_and]
     cases hb:Nat.beq k k' with
     |true=>rfl
     |false =>
      simp only [cond_false]
      rw [p_ (fun hh=>by subst hh;simp at hb),(i2 k').1];try rfl
    ·cases hm with
     |head=>exact .inr ⟨f,aF ..,e,hf⟩
     |tail _ hm=>exact i3 k' ⟨e',pB hm⟩
theorem memO_kA {x:A}{m:Nat}(h:memO (nmA x) m=true):kA x=m+1:=by
 cases x<;>simp only [nmA,memO,kA] at h ⊢<;>first|(rw [ah h])|cases h
theorem kA_memO {x:A}{m:Nat}(h:kA x=m+1):memO (nmA x) m=true:=by
 cases x with
 |own i f=>simp only [kA] at h;obtain rfl:i=m:=z2_;simp [nmA,memO]
 |row i=>simp only [kA] at h;obtain rfl:i=m:=z2_;simp [nmA,memO]
 |recr l i=>simp only [kA] at h;obtain rfl:i=m:=z2_;simp [nmA,memO]
 |mp i=>simp only [kA] at h;obtain rfl:i=m:=z2_;simp [nmA,memO]
 |d _=>simp [kA] at h
 |any=>simp [kA] at h
theorem memL_mem {l:List A}{m:Nat}{x:A}(h:memL l m=false) (hx:x∈l):kA x≠m+1:=fun he=>by
 induction l with
 |nil=>cases hx
 |cons y r ih =>
  simp only [memL] at h
  cases hm:memO (nmA y) m with
  |true=>rw [hm] at h;cases h
  |false =>
   rw [hm,cond_false] at h
   cases hx with
   |head=>rw [kA_memO he] at hm;cases hm
   |tail _ hx=>exact ih h hx
theorem memE_le {k:Nat}{e:OE}(h:kE e≤k):memE e k=false:=by
 cases e with
 |var t cs =>
  simp only [kE] at h
  simp only [memE]
  induction cs with
  |nil=>rfl
  |cons x r ih =>
   simp only [topL] at h
   have a1:=mx_l (kA x) (topL r)
   have a2:=mx_r (kA x) (topL r)
   simp only [memL]
   cases hm:memO (nmA x) k with
   |true=>have:=memO_kA hm;omega
   |false=>exact ih z2_
 |rowv v t d =>
  simp only [kE] at h
  simp only [memE]
  cases hb:Nat.beq v k with
  |true=>have:=ah hb;omega
  |false=>rfl
 |pin v b =>
  simp only [kE] at h
  simp only [memE]
  cases hb:Nat.beq v k with
  |true=>have:=ah hb;omega
  |false=>rfl
 |_=>rfl
theorem pX {o:List (Nat×OE)}{k:Nat}{e:OE}(h:(k,e)∈o):k<topO o∧kE e≤topO o:=by
 induction o with
 |nil=>cases h
 |cons y r ih =>
  obtain⟨i,u⟩:=y
  simp only [topO]
  have a1:=mx_l (mx (i+1) (kE u)) (topO r)
  have a2:=mx_r (mx (i+1) (kE u)) (topO r)
  have a3:=mx_l (i+1) (kE u)
  have a4:=mx_r (i+1) (kE u)
  cases h with
  |head=>exact⟨by omega,by omega⟩
  |tail _ h=>have:=ih h;exact⟨by omega,by omega⟩
def Rho.ofk (ρ ρ':Rho) (k:Nat):Prop:=∀ i,i≠k→ρ.b i=ρ'.b i∧ρ.a i=ρ'.a i∧ρ.c i=ρ'.c i∧ρ.n i=ρ'.n i
theorem Rho.ofk_setB (ρ:Rho) (k b:Nat):ρ.ofk (ρ.setB k b) k:=fun i hi=>⟨by simp [Rho.setB,hi],rfl,rfl,rfl⟩
theorem Rho.ofk_setR (ρ:Rho) (k:Nat) (a:Option Addr) (c n:Nat):ρ.ofk (ρ.setR k a c n) k:=fun i hi=>by simp [Rho.setR,hi]
def FrA (k:Nat) (a:List (Nat×A)):Prop:=∀ t y,lkA a t=some y→kA y≠k+1
def FrO (k:Nat) (o:List (Nat×OE)):Prop:=∀ i e,(i,e)∈o→i≠k∧memE e k=false
theorem FrO.del {k k':Nat}{o:List (Nat×OE)}(h:FrO k o):FrO k (delO o k'):=fun i e hm=>h i e (pB hm)
section
variable {P:Program} [Tb P] {ρ ρ':Rho}{h:Part}{k:Nat}{a:List (Nat×A)}{o:List (Nat×OE)}{S:Sig}{L:List Ent}
theorem DenA.fresh (w:ρ.ofk ρ' k) {x:A}{v:Value}(hk:kA x≠k+1) (q:DenA ρ h x v):DenA ρ' h x v:=by
 cases x with
 |d d=>exact q
 |own i off =>
  obtain⟨e,_⟩:=w i (fun e=>hk (by rw [e];rfl))
  simp only [DenA] at q ⊢;rw [← e];exact q
 |row i =>
  obtain⟨_,e1,e2,e3⟩:=w i (fun e=>hk (by rw [e];rfl))
  simp only [DenA] at q ⊢;rw [← e1,← e2,← e3];exact q
 |recr l i =>
  obtain⟨_,e1,e2,e3⟩:=w i (fun e=>hk (by rw [e];rfl))
  simp only [DenA] at q ⊢;rw [← e1,← e2,← e3];exact q
 |mp i =>
  obtain⟨e,_⟩:=w i (fun e=>hk (by rw [e];rfl))
  simp only [DenA] at q ⊢;rw [← e];exact q
 |any=>trivial
theorem DenAL.fresh (w:ρ.ofk ρ' k):∀ {l:List A}{cs:List Value},(∀ x∈l,kA x≠k+1)→DenAL ρ h l cs→DenAL ρ' h l cs
 |[],_,_,q=>q
 |x::r,cs,hn,⟨v,t,e,h1,h2,h3⟩=>⟨v,t,e,h1,h2.fresh w (hn x (aF ..)),DenAL.fresh w (fun y hy=>hn y (aI _ hy)) h3⟩
theorem DenE.fresh (w:ρ.ofk ρ' k) {i:Nat}{e:OE}{x:Ent}(hi:i≠k) (hn:memE e k=false) (q:DenE ρ h i e x):DenE ρ' h i e x:=by
 obtain⟨e1,e2,e3,e4⟩:=w i hi
 cases e with
 |var t cs=>obtain⟨vs,rfl,hv⟩:=q;exact⟨vs,by rw [e1],hv.fresh w (fun x hx=>memL_mem hn hx)⟩
 |whl t d'=>obtain⟨vs,rfl,hv⟩:=q;exact⟨vs,by rw [e1],hv⟩
 |row t d'=>obtain⟨xs,sz,rfl,hv⟩:=q;exact⟨xs,sz,by rw [e2,e3,e4],by rw [← e4];exact hv⟩
 |rowv v t d' =>
  obtain⟨_,g2,g3,g4⟩:=w v (fun e=>by subst e;simp [memE] at hn)
  obtain⟨xs,sz,rfl,hv⟩:=q;exact⟨xs,sz,by rw [g2,g3,g4],by rw [← g4];exact hv⟩
 |pin v b =>
  obtain⟨g1,_⟩:=w v (fun e=>by subst e;simp [memE] at hn)
  exact⟨by rw [← g1];exact q.1,q.2⟩
 |set es=>obtain⟨arr,cl,rfl,hv⟩:=q;exact⟨arr,cl,by rw [e1],hv⟩
theorem DenO.fresh (w:ρ.ofk ρ' k):∀ {o:List (Nat×OE)}{L:List Ent},FrO k o→DenO ρ h o L→DenO ρ' h o L
 |[],_,_,q=>q
 |(i,e)::r,L,hn,⟨x,L',e1,h1,h2⟩=>by
  obtain⟨n1,n2⟩:=hn i e (aF ..)
  exact⟨x,L',e1,h1.fresh w n1 n2,DenO.fresh w (fun i' e' hm=>hn i' e' (aI _ hm)) h2⟩
theorem Cz.fresh (w:ρ.ofk ρ' k) (hA:FrA k a) (hO:FrO k o) (c:Cz P ρ h a o S L):Cz P ρ' h a o S L :=
 ⟨c.t,fun t x hx=>by obtain⟨v,h1,h2⟩:=c.s t x hx;exact⟨v,h1,h2.fresh w (hA t x hx)⟩,c.o.fresh w hO⟩
end
def topoB (ops:Array Oper):Nat→List Oper→Bool
 |_,[]=>true
 |i,o::r=>(o.after.toList.all fun e=>!Region.binds .any e||Nat.blt e.on i)&&topoB ops (i+1) r
theorem pV {ops:Array Oper}:∀ {l:List Oper}{i:Nat},topoB ops i l=true→∀ {j:Nat}{o:Oper},l[j]?=some o→∀ e∈o.after,Region.binds .any e=true→e.on<i+j
 |[],i,_,j,o,h,_,_,_=>by simp at h
 |p::r,i,ht,j,o,h,e,he,hb=>by
  simp only [topoB,Bool.and_eq_true] at ht
  cases j with
  |zero =>
   simp only [List.getElem?_cons_zero,ay] at h
   subst h
   have:=List.all_eq_true.1 ht.1 e (by simpa using he)
   simp only [hb,Bool.not_true,Bool.false_or] at this
   simpa using this
  |succ j =>
   simp only [List.getElem?_cons_succ] at h
   have:=pV ht.2 h e he hb
   omega
def Obl (P:Program) [Tb P] (F:Fd) (ops:Array Oper) (x:Nat→PostD) (b:List (Nat×A)) (ob:List (Nat×OE)) (r:List Ef) (f:Ef) (op:Oper):Prop :=
 ∃ Au,keepA f.us (aR allT b r)=some Au∧match f.key with
 |none=>match f.rd with
  |none=>∀ (n:PostD) A' O',WkA Au A'→n (f.put A') O'→JLD P F ops n x [op] A' O'
  |some k=>∃ e0,lkO (oS ob r) k=some e0∧∀ (n:PostD) A' O',WkA Au A'→lkO O' k=some e0→n (f.put A') O'→JLD P F ops n x [op] A' O'
 |some (k,e)=>match f.isM with
  |true=>∀ (n:PostD) A' O',WkA Au A'→FrA k A'→FrO k O'→n (f.put A') ((k,e)::O')→JLD P F ops n x [op] A' O'
  |false=>∃ e0,lkO (oS ob r) k=some e0∧∀ (n:PostD) A' O',WkA Au A'→lkO O' k=some e0→(∀ m,f.new=some m→FrA m A'∧FrO m O')→n (f.put A') ((k,e)::delO O' k)→JLD P F ops n x [op] A' O'
def Obls (P:Program) [Tb P] (F:Fd) (ops:Array Oper) (x:Nat→PostD) (b:List (Nat×A)) (ob:List (Nat×OE)):List Ef→Prop
 |[]=>True
 |f::r=>(∃ op,ops[r.length]?=some op∧Obl P F ops x b ob r f op)∧Obls P F ops x b ob r
theorem oh {f:Fr}{ops:Array Oper}{n n':Post}{x:Nat→Post}{i:Nat}{o:Oper}{a:Act}{w:World}{K:Act→World→Prop}(hi:ops[i]?=some o) (hk:wpList f.P ops (f.Q n' x) [o] a w) (fin:∀ a w,f.Q n' x .normal a w→K a w):wpOp f.P ops (f.Q n x) i K a w:=by
 unfold wpList at hk
 unfold wpOp
 simp only [hi]
 split
 ·rename_i hw
  rw [if_pos hw] at hk
  rcases hk with hk|⟨_,a',w',hh⟩
  ·exact .inl (pR (fun a w hq=>fin a w (by simpa [wpList] using hq)) (fun c a w hq=>hq) (fun a w hh=>hh) hk)
  ·exact hh.elim
 ·rename_i hw
  rw [if_neg hw] at hk
  exact fin _ _ (by simpa [wpList] using hk)
def cnt (l:Array Bool):Nat:=(l.toList.filter (!·)).length
theorem cnt_set {l:Array Bool}{i:Nat}(h:l.getD i true=false):cnt (l.setIfInBounds i true)+1=cnt l:=by
 obtain⟨l⟩:=l
 simp only [cnt,List.setIfInBounds_toArray]
 have h':l[i]?=some false:=by
  cases hh:l[i]? with
  |none=>simp [hh] at h
  |some b=>simp [hh] at h;rw [h]
 clear h
 induction l generalizing i with
 |nil=>simp at h'
 |cons b r ih =>
  cases i with
  |zero=>simp only [List.getElem?_cons_zero,ay] at h';subst h';simp
  |succ i =>
   simp only [List.getElem?_cons_succ] at h'
   have:=ih h'
   cases b<;>simp at this ⊢<;>omega
theorem cnt_zero {l:Array Bool}(h:cnt l=0) (i:Nat):l.getD i true=true:=by
 obtain⟨l⟩:=l
 simp only [cnt] at h
 have h2:=List.eq_nil_of_length_eq_zero h
 rw [List.filter_eq_nil_iff] at h2
 cases hh:l[i]? with
 |none=>simp [hh]
 |some b=>have:=h2 b (List.mem_of_getElem? hh);simp [hh];simpa using this
def pOf (l:Array Bool):Nat→Bool:=fun i=>l.getD i false
section
variable {P:Program} [Tb P] {F:Fd}{n:PostD}{x:Nat→PostD}{a:List (Nat×A)}{o:List (Nat×OE)}{l:List Oper}{es:List Ef}{base:Nat}
theorem obls_at {ops:Array Oper}:∀ {es:List Ef},Obls P F ops x a o es→∀ {i:Nat},i<es.length→∃ pre f r,es=pre++f::r∧r.length=i∧∃ op,ops[i]?=some op∧Obl P F ops x a o r f op
 |[],_,i,hi=>by simp at hi
 |f::r,ho,i,hi=>by
  rcases Nat.lt_or_ge i r.length with h|h
  ·obtain⟨pre,f',r',e1,e2,h3⟩:=obls_at ho.2 h
   exact⟨f::pre,f',r',by rw [e1];rfl,e2,h3⟩
  ·have:r.length=i:=by simp at hi;omega
   subst this
   exact⟨[],f,r,rfl,rfl,ho.1⟩
end
theorem suf {α:Type _}{pre pre':List α}{f f':α}{r r':List α}(h:pre++f::r=pre'++f'::r') (hl:r.length<r'.length):∃ q,r'=q++f::r:=by
 have h1:(f::r) <:+ (pre++f::r):=⟨pre,rfl⟩
 have h2:r' <:+ (pre++f::r):=⟨pre'++[f'],by rw [h];simp⟩
 obtain⟨q,hq⟩:=List.suffix_of_suffix_length_le h1 h2 (by simp;omega)
 exact⟨q,hq.symm⟩
theorem aR_at {p:Nat→Bool}{b:List (Nat×A)}:∀ {es:List Ef}{t:Nat}{y:A},lkA (aR p b es) t=some y→lkA b t=some y∨∃ pre f r t',es=pre++f::r∧f.dst=some (t',y)∧p r.length=true
 |[],t,y,h=>.inl h
 |f::r,t,y,h=>by
  have rest:lkA (aR p b r) t=some y→lkA b t=some y∨∃ pre f' r' t',f::r=pre++f'::r'∧f'.dst=some (t',y)∧p r'.length=true:=fun h=>by
   rcases aR_at h with h|⟨pre,f',r',t',e1,e2⟩
   ·exact .inl h
   ·exact .inr ⟨f::pre,f',r',t',by rw [e1];rfl,e2⟩
  simp only [aR] at h
  split at h
  ·rename_i z hz
   obtain⟨d,u⟩:=z
   cases hp:p r.length with
   |false=>rw [hp,cond_false] at h;exact rest h
   |true =>
    rw [hp,cond_true] at h
    simp only [lkA] at h
    cases hb:Nat.beq d t with
    |true=>simp only [hb,cond_true,ay] at h;subst h;exact .inr ⟨[],f,r,d,rfl,hz,hp⟩
    |false=>simp only [hb,cond_false] at h;exact rest h
  ·exact rest h
theorem tR_at {b:Nat→Option OE}{p:Nat→Bool}{k:Nat}{e:OE}:∀ {es:List Ef},tR p b k es=some e→b k=some e∨∃ pre f r,es=pre++f::r∧f.key=some (k,e)∧p r.length=true
 |[],h=>.inl h
 |f::r,h=>by
  have rest:tR p b k r=some e→b k=some e∨∃ pre f' r',f::r=pre++f'::r'∧f'.key=some (k,e)∧p r'.length=true:=fun h=>by
   rcases tR_at h with h|⟨pre,f',r',e1,e2⟩
   ·exact .inl h
   ·exact .inr ⟨f::pre,f',r',by rw [e1];rfl,e2⟩
  simp only [tR] at h
  split at h
  ·rename_i k' e' hk
   cases hq:(p r.length&&Nat.beq k' k) with
   |true =>
    rw [hq,cond_true] at h
    cases h
    rw [Bool.and_eq_true] at hq
    obtain rfl:=ah hq.2
    exact .inr ⟨[],f,r,rfl,hk,hq.1⟩
   |false=>rw [hq,cond_false] at h;exact rest h
  ·exact rest h
theorem no_new {ops:Array Oper}{p:Nat→Bool}{base m:Nat}{f f':Ef}{r r' pre pre':List Ef}(chk:okE ops base (pre++f::r)=true) (hf:f.new=some m) (hp:p r.length=false) (hc:∀ i j,p i=true→aft ops i j=true→p j=true)
 (hes:pre++f::r=pre'++f'::r') (hp':p r'.length=true):f'.says m=false∧f'.new≠some m:=by
 rcases Nat.lt_trichotomy r.length r'.length with h|h|h
 ·obtain⟨q,rfl⟩:=suf hes h
  rw [hes] at chk
  have pr:=dX chk
  refine⟨?_,fun hn=>by have:=qt pr hf hn;simp at this⟩
  cases hs:f'.says m with
  |false=>rfl
  |true=>have:=hc _ _ hp' (okQ_nm pr hf hs);rw [hp] at this;cases this
 ·rw [h,hp'] at hp;cases hp
 ·obtain⟨q,rfl⟩:=suf hes.symm h
  have pr:=dX chk
  exact⟨okQ_no pr hf,fun hn=>by have:=qt pr hn hf;simp at this⟩
theorem no_key {ops:Array Oper}{p:Nat→Bool}{base m i:Nat}{f f':Ef}{r r' pre pre':List Ef}{e':OE}(chk:okE ops base (pre++f::r)=true) (hf:f.new=some m) (hp:p r.length=false) (hc:∀ i j,p i=true→aft ops i j=true→p j=true)
 (hes:pre++f::r=pre'++f'::r') (hk:f'.key=some (i,e')) (hp':p r'.length=true):i≠m:=fun him=>by
 subst him
 have hn:=(no_new chk hf hp hc hes hp').2
 have chk':=chk
 rw [hes] at chk'
 obtain⟨_,h2,h3,h4⟩:=dN chk'
 have hbm:=okF_ge (dN chk).2.1 hf
 cases hM:f'.isM with
 |true=>exact hn (qu h2 hk hM)
 |false =>
  simp only [okK,hk,hM,Bool.false_or,Bool.or_eq_true] at h3
  rcases h3 with h3|h3
  ·have:i<base:=by simpa using h3
   omega
  ·obtain⟨g,hg,h5⟩:=List.any_eq_true.1 h3
   rw [Bool.and_eq_true] at h5
   obtain⟨q2,r2,rfl⟩:=List.append_of_mem hg
   cases hgk:g.key with
   |none=>rw [hgk] at h5;simp at h5
   |some y =>
    obtain⟨k',e2⟩:=y
    rw [hgk] at h5
    obtain rfl:=ah h5.2
    have hgn:=qu (dN h4).2.1 hgk h5.1
    have hes2:pre++f::r=(pre'++f'::q2)++g::r2:=by rw [hes];simp
    rcases Nat.lt_trichotomy r.length r2.length with h|h|h
    ·obtain⟨q,rfl⟩:=suf hes2 h
     rw [hes2] at chk
     have:=qt (dX chk) hf hgn
     simp at this
    ·have:=hc _ _ hp' (lR (dX chk') hk hgk)
     rw [← h,hp] at this;cases this
    ·obtain⟨q,rfl⟩:=suf hes2.symm h
     have:=qt (dX chk) hgn hf
     simp at this
theorem pY {ops:Array Oper}{b:Nat→Option OE}{p:Nat→Bool}{base:Nat}{f:Ef}{r:List Ef}{k:Nat}{e:OE}(hf:f.key=some (k,e)) (hM:f.isM=false) (hp:p r.length=false) (hd:∀ j,aft ops r.length j=true→p j=true) (hc:∀ i j,p i=true→aft ops i j=true→p j=true) :
 ∀ {pre:List Ef},okE ops base (pre++f::r)=true→tR p b k (pre++f::r)=tR allT b k r
 |[],ho=>by
  have hfo:=(dN ho).1
  have e0:tR p b k (f::r)=tR p b k r:=by simp only [tR,hf,hp,Bool.false_and,cond_false]
  rw [List.nil_append,e0]
  clear ho e0
  have key:∀ q,okP ops f r.length q=true→tR p b k q=tR allT b k q:=by
   intro q
   induction q with
   |nil=>intro _;rfl
   |cons g q ih =>
    intro ho
    simp only [okP,Bool.and_eq_true] at ho
    have ih:=ih ho.2
    simp only [tR]
    split
    ·rename_i k' e' hg
     simp only [allT,Bool.true_and]
     cases hb:Nat.beq k' k with
     |false=>simp only [Bool.and_false,cond_false];exact ih
     |true =>
      obtain rfl:=ah hb
      rw [hd _ (okQ_kA ho.1 hf hM hg)];rfl
    ·exact ih
  exact key r hfo
 |g::pre,ho=>by
  have hpair:=dX (pre:=[]) (q:=pre) ho
  have ih:=pY (b:=b) hf hM hp hd hc (dN (pre:=[]) ho).2.2.2
  simp only [List.cons_append,tR]
  split
  ·rename_i k' e' hg
   cases hq:(p (pre++f::r).length&&Nat.beq k' k) with
   |false=>rw [cond_false];exact ih
   |true =>
    exfalso
    rw [Bool.and_eq_true] at hq
    obtain rfl:=ah hq.2
    have:=hc _ _ hq.1 (lR hpair hg hf)
    rw [hp] at this;cases this
  ·exact ih
theorem qh {ops:Array Oper}{b:Nat→Option OE}{p:Nat→Bool}{base:Nat}{f:Ef}{r:List Ef}{k:Nat}(hf:f.rd=some k) (hp:p r.length=false) (hd:∀ j,aft ops r.length j=true→p j=true) (hc:∀ i j,p i=true→aft ops i j=true→p j=true) :
 ∀ {pre:List Ef},f.key=none→okE ops base (pre++f::r)=true→tR p b k (pre++f::r)=tR allT b k r
 |[],hn,ho=>by
  have hfo:=(dN ho).1
  have e0:tR p b k (f::r)=tR p b k r:=by simp only [tR,hn]
  rw [List.nil_append,e0]
  clear ho e0
  have key:∀ q,okP ops f r.length q=true→tR p b k q=tR allT b k q:=by
   intro q
   induction q with
   |nil=>intro _;rfl
   |cons g q ih =>
    intro ho
    simp only [okP,Bool.and_eq_true] at ho
    have ih:=ih ho.2
    simp only [tR]
    split
    ·rename_i k' e' hg
     simp only [allT,Bool.true_and]
     cases hb:Nat.beq k' k with
     |false=>simp only [Bool.and_false,cond_false];exact ih
     |true =>
      obtain rfl:=ah hb
      rw [rch_dep hc hd _ (okQ_rk ho.1 hf hg)];rfl
    ·exact ih
  exact key r hfo
 |g::pre,hn,ho=>by
  have hpair:=dX (pre:=[]) (q:=pre) ho
  have ih:=qh (b:=b) hf hp hd hc hn (dN (pre:=[]) ho).2.2.2
  simp only [List.cons_append,tR]
  split
  ·rename_i k' e' hg
   cases hq:(p (pre++f::r).length&&Nat.beq k' k) with
   |false=>rw [cond_false];exact ih
   |true =>
    exfalso
    rw [Bool.and_eq_true] at hq
    obtain rfl:=ah hq.2
    have:=rch_ok hc _ _ hq.1 (okQ_kr hpair hf hg)
    rw [hp] at this;cases this
  ·exact ih
theorem qP:∀ {us:List Nat}{B Au A':List (Nat×A)},keepA us B=some Au→(∀ t,memN us t=true→lkA A' t=lkA B t)→WkA Au A'
 |[],B,Au,A',h,_=>by simp only [keepA,ay] at h;subst h;exact trivial
 |t::us,B,Au,A',h,hl=>by
  simp only [keepA] at h
  split at h
  ·rename_i v a1 hv h1
   cases h
   refine⟨(hl t (by simp [memN])).trans hv,qP h1 fun s hs=>hl s ?_⟩
   simp only [memN]
   cases Nat.beq t s with
   |true=>rfl
   |false=>exact hs
  ·cases h
theorem aR_all {p:Nat→Bool}{b:List (Nat×A)}:∀ {es:List Ef},(∀ i,i<es.length→p i=true)→aR p b es=aR allT b es
 |[],_=>rfl
 |f::r,h=>by
  have ih:=aR_all (b:=b) (p:=p) (es:=r) (fun i hi=>h i (by simp;omega))
  simp only [aR,ih,h r.length (by simp),allT]
theorem tR_all {p:Nat→Bool}{b:Nat→Option OE}{k:Nat}:∀ {es:List Ef},(∀ i,i<es.length→p i=true)→tR p b k es=tR allT b k es
 |[],_=>rfl
 |f::r,h=>by
  have ih:=tR_all (b:=b) (k:=k) (p:=p) (es:=r) (fun i hi=>h i (by simp;omega))
  simp only [tR,ih,h r.length (by simp),allT]
theorem pOf_set {l:Array Bool}{i:Nat}(hi:i<l.size):pOf (l.setIfInBounds i true)=one (pOf l) i:=by
 funext j
 unfold pOf one
 cases hb:Nat.beq j i with
 |true=>obtain rfl:=ah hb;simp [hi]
 |false =>
  have:i≠j:=fun e=>by subst e;simp at hb
  simp [Array.getElem?_setIfInBounds_ne this]
section
variable {P:Program} [Tb P] {F:Fd}{n:PostD}{x:Nat→PostD}{a:List (Nat×A)}{o:List (Nat×OE)}{l:List Oper}{es:List Ef}{base:Nat}
theorem drw_go (hlen:es.length=l.length) (htopo:topoB l.toArray 0 l=true) (chk:okE l.toArray base es=true) (hA:topA a≤base) (hO:topO o≤base) (hnd:NdO o) (ob:Obls P F l.toArray x a o es) (k:n (aR allT a es) (oS o es)) :
 ∀ (fuel:Nat) (listed:Array Bool) (ac:Act) (w:World),cnt listed=fuel→listed.size=l.length→(∀ i j,pOf listed i=true→aft l.toArray i j=true→pOf listed j=true) →
 (∃ ρ h S L O',Sat (F.fr P).e (F.fr P).m S h L ac w∧Cz P ρ h (aR (pOf listed) a es) O' S L∧NdO O'∧∀ k,lkO O' k=tR (pOf listed) (lkO o) k es)→wpAny P .any l.toArray ((F.fr P).Q (up P n) (fun i=>up P (x i))) fuel listed ac w:=by
 have hkb:∀ k e,(k,e)∈o→k<base:=fun k e hm=>Nat.lt_of_lt_of_le (pX hm).1 hO
 have done:∀ (listed:Array Bool) (ac:Act) (w:World),listed.size=l.length→Region.ready .any l.toArray listed=[]→(∃ ρ h S L O',Sat (F.fr P).e (F.fr P).m S h L ac w∧Cz P ρ h (aR (pOf listed) a es) O' S L∧NdO O'∧∀ k,lkO O' k=tR (pOf listed) (lkO o) k es)→(F.fr P).Q (up P n) (fun i=>up P (x i)) .normal ac w:=by
  rintro listed ac w hsz hready ⟨ρ,h,S,L,O',s,cz,hn,ht⟩
  have all:∀ i,i<l.length→pOf listed i=true:=by
   intro i
   induction i using Nat.strongRecOn with
   |_ i ih =>
    intro hi
    cases hq:pOf listed i with
    |true=>rfl
    |false =>
     exfalso
     have:i∈Region.ready .any l.toArray listed:=by
      rw [mem_ready]
      refine⟨?_,l[i],by simp [hi],fun e he hb=>?_⟩
      ·unfold pOf at hq
       have:i<listed.size:=by omega
       simp [this] at hq ⊢;exact hq
      ·have:=pV htopo (j:=i) (o:=l[i]) (by simp [hi]) e he hb
       exact ih e.on z2_ z2_
     rw [hready] at this;cases this
  have all':∀ i,i<es.length→pOf listed i=true:=fun i hi=>all i z2_
  rw [aR_all all'] at cz
  obtain⟨n1,n2⟩:=oS_ok hnd hkb chk
  have hw:WkO (oS o es) O':=wkO_of n1 fun k e hm=>by
   rw [ht k,tR_all all',← (n2 k).1];exact lkO_of n1 hm
  obtain⟨L',Lr,p1,p2⟩:=hw.den cz.o
  exact⟨S,h,L',s.with (p1.ok w s.ok),ρ,_,_,⟨cz.t,cz.s,p2⟩,k⟩
 intro fuel
 induction fuel with
 |zero =>
  intro listed ac w hcnt hsz hcl hinv
  have hready:Region.ready .any l.toArray listed=[]:=by
   rw [List.eq_nil_iff_forall_not_mem]
   intro i hi
   have:=(mem_ready.1 hi).1
   rw [cnt_zero hcnt i] at this;cases this
  exact⟨hready,done listed ac w hsz hready hinv⟩
 |succ fuel ih =>
  intro listed ac w hcnt hsz hcl hinv
  refine⟨fun hready=>done listed ac w hsz hready hinv,fun i hi=>?_⟩
  obtain⟨hi0,op,hop,hdeps⟩:=mem_ready.1 hi
  have hiN:i<listed.size:=by
   rcases Nat.lt_or_ge i listed.size with h|h
   ·exact h
   ·simp [Array.getElem?_eq_none h] at hi0
  have hpi:pOf listed i=false:=by unfold pOf;simp [hiN] at hi0 ⊢;exact hi0
  have hda:∀ j,aft l.toArray i j=true→pOf listed j=true:=fun j hj=>by
   unfold aft at hj
   rw [hop] at hj
   obtain⟨e,he,h2⟩:=List.any_eq_true.1 hj
   rw [Bool.and_eq_true] at h2
   have:=ah h2.1
   rw [← this];exact hdeps e (by simpa using he) h2.2
  obtain⟨pre,f,r,hes,hri,op',hop',hob⟩:=obls_at ob (show i<es.length by omega)
  rw [hop] at hop'
  cases hop'
  subst hri
  have hsets:pOf (listed.setIfInBounds r.length true)=one (pOf listed) r.length:=pOf_set hiN
  have next:∀ ac w,(∃ ρ h S L O',Sat (F.fr P).e (F.fr P).m S h L ac w∧Cz P ρ h (aR (one (pOf listed) r.length) a es) O' S L∧NdO O'∧∀ k,lkO O' k=tR (one (pOf listed) r.length) (lkO o) k es)→wpAny P .any l.toArray ((F.fr P).Q (up P n) (fun i=>up P (x i))) fuel (listed.setIfInBounds r.length true) ac w:=fun ac w hv=>by
   refine ih _ ac w (by have:=cnt_set hi0;omega) (by simp [hsz]) ?_ (by rw [hsets];exact hv)
   rw [hsets]
   intro i' j hi' hj
   by_cases hij:i'=r.length
   ·subst hij
    have:=hda j hj
    by_cases hjr:j=r.length
    ·rw [hjr];exact one_i _ _
    ·rw [iY _ hjr];exact this
   ·rw [iY _ hij] at hi'
    have:=hcl i' j hi' hj
    by_cases hjr:j=r.length
    ·rw [hjr];exact one_i _ _
    ·rw [iY _ hjr];exact this
  obtain⟨ρ,h,S,L,O',s,cz,hn,ht⟩:=hinv
  obtain⟨Au,hAu,hob⟩:=hob
  subst hes
  have hwk:WkA Au (aR (pOf listed) a (pre++f::r)):=qP hAu fun t htu=>qL hpi hda hcl htu chk
  have fresh:∀ m,f.new=some m→FrA m (aR (pOf listed) a (pre++f::r))∧FrO m O':=fun m hm=>by
   have hbm:=okF_ge (dN chk).2.1 hm
   refine⟨fun t y hy he=>?_,fun i e' hmem=>?_⟩
   ·rcases aR_at hy with h1|⟨pre',f',r',t',e1,e2,e3⟩
    ·have:=ox h1;omega
    ·have hs:=(no_new chk hm hpi hcl e1 e3).1
     simp only [Ef.says,e2,Bool.or_eq_false_iff] at hs
     rw [kA_memO he] at hs;exact absurd hs.1 bJ
   ·have h1:=lkO_of hn hmem
    rw [ht i] at h1
    rcases tR_at h1 with h3|⟨pre',f',r',e1,e2,e3⟩
    ·have:=pX (lkO_mem h3)
     exact⟨by omega,memE_le z2_⟩
    ·have hs:=(no_new chk hm hpi hcl e1 e3).1
     simp only [Ef.says,e2,Bool.or_eq_false_iff] at hs
     exact⟨no_key chk hm hpi hcl e1 e2 e3,hs.2⟩
  cases hk:f.key with
  |none =>
   have hob:JLD P F l.toArray (fun a' o'=>a'=f.put (aR (pOf listed) a (pre++f::r))∧o'=O') x [op] (aR (pOf listed) a (pre++f::r)) O':=by
    cases hrd:f.rd with
    |none=>simp only [hk,hrd] at hob;exact hob _ _ _ hwk ⟨rfl,rfl⟩
    |some k =>
     simp only [hk,hrd] at hob
     obtain⟨e0,h0,hob⟩:=hob
     exact hob _ _ _ hwk (by rw [ht k,qh hrd hpi hda hcl hk chk,← ((oS_ok hnd hkb (dN chk).2.2.2).2 k).1];exact h0) ⟨rfl,rfl⟩
   refine oh (n':=up P (fun a' o'=>a'=f.put (aR (pOf listed) a (pre++f::r))∧o'=O')) hop (hob.k ρ h S L cz ac w s) ?_
   rintro ac w ⟨S',h',L',s',ρ',_,_,cz',rfl,rfl⟩
   refine next ac w ⟨ρ',h',S',L',_,s',⟨cz'.t,fun t y hy=>cz'.s t y (rz hpi chk hy),cz'.o⟩,hn,fun k=>?_⟩
   rw [ht k,tR_none hk]
  |some y =>
   obtain⟨k,e⟩:=y
   cases hM:f.isM with
   |true =>
    simp only [hk,hM] at hob
    have hnew:=qu (dN chk).2.1 hk hM
    obtain⟨frA,frO⟩:=fresh k hnew
    refine oh (n':=up P (fun a' o'=>a'=f.put (aR (pOf listed) a (pre++f::r))∧o'=(k,e)::O')) hop ((hob _ _ _ hwk frA frO ⟨rfl,rfl⟩).k ρ h S L cz ac w s) ?_
    rintro ac w ⟨S',h',L',s',ρ',_,_,cz',rfl,rfl⟩
    refine next ac w ⟨ρ',h',S',L',_,s',⟨cz'.t,fun t y hy=>cz'.s t y (rz hpi chk hy),cz'.o⟩,?_,fun k'=>?_⟩
    ·simp only [NdO,List.map_cons,List.nodup_cons]
     exact⟨fun hm=>by obtain⟨⟨_,e'⟩,hy,rfl⟩:=List.mem_map.1 hm;exact(frO _ _ hy).1 rfl,hn⟩
    ·rw [tR_one hk hpi hcl chk];simp only [lkO];rw [ht k']
   |false =>
    simp only [hk,hM] at hob
    obtain⟨e0,h0,hob⟩:=hob
    refine oh (n':=up P (fun a' o'=>a'=f.put (aR (pOf listed) a (pre++f::r))∧o'=(k,e)::delO O' k)) hop ((hob _ _ _ hwk (by
     rw [ht k,pY hk hM hpi hda hcl chk,← ((oS_ok hnd hkb (dN chk).2.2.2).2 k).1];exact h0) fresh ⟨rfl,rfl⟩).k ρ h S L cz ac w s) ?_
    rintro ac w ⟨S',h',L',s',ρ',_,_,cz',rfl,rfl⟩
    obtain⟨d1,d2⟩:=del_nd (k:=k) hn
    refine next ac w ⟨ρ',h',S',L',_,s',⟨cz'.t,fun t y hy=>cz'.s t y (rz hpi chk hy),cz'.o⟩,?_,fun k'=>?_⟩
    ·simp only [NdO,List.map_cons,List.nodup_cons]
     exact⟨fun hm=>by obtain⟨⟨_,e'⟩,hy,rfl⟩:=List.mem_map.1 hm;exact d2 e' hy,d1⟩
    ·rw [tR_one hk hpi hcl chk];simp only [lkO]
     cases hb:Nat.beq k k' with
     |true=>rfl
     |false=>simp only [cond_false];rw [p_ (fun hh=>by subst hh;simp at hb),ht k']
theorem Drw {id:Nat}(hm:P.follows .mixedOrders=true) (hlen:es.length=l.length) (htopo:topoB l.toArray 0 l=true) (chk:okE l.toArray base es=true) (hA:topA a≤base) (hO:topO o≤base) (hnd:NdO o) (ob:Obls P F l.toArray x a o es) (k:n (aR allT a es) (oS o es)) :
 JD P F (.region id l.toArray true) n x a o:=.mk fun ρ h S L cz ac w s=>by
 refine wp_region_any hm ?_
 have hp0:pOf (Array.replicate l.toArray.size false)=fun _=>false:=by
  funext i
  unfold pOf
  simp only [Array.getD_eq_getD_getElem?,Array.getElem?_replicate]
  split<;>rfl
 have e1:∀ es:List Ef,aR (fun _=>false) a es=a:=by
  intro es
  induction es with
  |nil=>rfl
  |cons f r ih=>simp only [aR,cond_false,ih];split<;>rfl
 have e2:∀ (es:List Ef) k,tR (fun _=>false) (lkO o) k es=lkO o k:=by
  intro es k
  induction es with
  |nil=>rfl
  |cons f r ih=>simp only [tR,Bool.false_and,cond_false,ih];split<;>rfl
 refine drw_go hlen htopo chk hA hO hnd ob k _ _ ac _ (by simp [cnt]) (by simp) (by rw [hp0];intro i j hi;cases hi) ⟨ρ,h,S,L,o,⟨s.size,s.slot,s.ds,s.ok.drawn _⟩,by rw [hp0,e1];exact cz,hnd,fun k=>by rw [hp0,e2]⟩
end
end
section
def gdB (ops:Array Oper) (a:List (Nat×A)):Option (Nat×Bool)→Option Bool
 |none=>some true
 |some (j,b)=>match dst1 ops.toList j with
  |some dj=>match lkA a dj with
   |some (.d (.v u))=>gd (some u) b
   |some (.d (.bq true))=>gd (some (.bool true)) b
   |some (.d (.bq false))=>gd (some (.bool false)) b
   |_=>none
  |none=>none
theorem gdA_B {ops:Array Oper}{a:List (Nat×A)}{g:Option (Nat×Bool)}{r:Bool}(h:gdA ops a g=some r):gdB ops a g=some r:=by
 unfold gdA at h
 unfold gdB
 split at h
 ·exact h
 ·split at h
  ·rename_i dj hj
   simp only [hj]
   split at h
   ·rename_i hl;simp only [hl];exact h
   ·cases h
  ·cases h
section
variable {P:Program} [Tb P] {a:List (Nat×A)}{o:List (Nat×OE)}{ops:Array Oper}{g:Option (Nat×Bool)}
theorem gdB_t {ρ:Rho}{h:Part}{S:Sig}{L:List Ent}(c:Cz P ρ h a o S L) (hg:gdB ops a g=some true):g=none∨∃ j dj b,g=some (j,b)∧(ops[j]?).bind (·.dst)=some dj∧look S dj=some (.bool b):=by
 unfold gdB at hg
 split at hg
 ·exact .inl rfl
 ·rename_i j b
  split at hg
  ·rename_i dj hj
   rw [gG,Array.getElem?_toList] at hj
   split at hg
   ·rename_i v hl
    obtain⟨w,h1,h2⟩:=c.s _ _ hl
    have:=gd_t hg
    cases this
    rw [j5.1 h2] at h1
    exact .inr ⟨j,dj,b,rfl,hj,h1⟩
   ·rename_i hl
    obtain⟨w,h1,h2⟩:=c.s _ _ hl
    have:=gd_t hg
    cases this
    rw [gI.1 h2] at h1
    exact .inr ⟨j,dj,_,rfl,hj,h1⟩
   ·rename_i hl
    obtain⟨w,h1,h2⟩:=c.s _ _ hl
    have:=gd_t hg
    cases this
    rw [gI.1 h2] at h1
    exact .inr ⟨j,dj,_,rfl,hj,h1⟩
   ·cases hg
  ·cases hg
theorem gdB_f {ρ:Rho}{h:Part}{S:Sig}{L:List Ent}(c:Cz P ρ h a o S L) (hg:gdB ops a g=some false):∃ j dj b,g=some (j,b)∧(ops[j]?).bind (·.dst)=some dj∧(look S dj=some (.bool (!b))∨∃ vs,look S dj=some (.tuple vs)):=by
 unfold gdB at hg
 split at hg
 ·cases hg
 ·rename_i j b
  split at hg
  ·rename_i dj hj
   rw [gG,Array.getElem?_toList] at hj
   split at hg
   ·rename_i v hl
    obtain⟨w,h1,h2⟩:=c.s _ _ hl
    rw [j5.1 h2] at h1
    refine⟨j,dj,b,rfl,hj,?_⟩
    rcases gd_f hg with hh|⟨vs,hh⟩
    ·cases hh;exact .inl h1
    ·cases hh;exact .inr ⟨vs,h1⟩
   ·rename_i hl
    obtain⟨w,h1,h2⟩:=c.s _ _ hl
    rw [gI.1 h2] at h1
    refine⟨j,dj,b,rfl,hj,?_⟩
    rcases gd_f hg with hh|⟨vs,hh⟩
    ·simp only [ay,Value.bool.injEq] at hh;exact .inl (by rw [← hh];exact h1)
    ·cases hh
   ·rename_i hl
    obtain⟨w,h1,h2⟩:=c.s _ _ hl
    rw [gI.1 h2] at h1
    refine⟨j,dj,b,rfl,hj,?_⟩
    rcases gd_f hg with hh|⟨vs,hh⟩
    ·simp only [ay,Value.bool.injEq] at hh;exact .inl (by rw [← hh];exact h1)
    ·cases hh
   ·cases hg
  ·cases hg
end
theorem ce {α:Type _}{l:List α}{m:Nat}{z:α}(h:m<l.length):l.getD m z=l[m]:=by simp [h]
theorem Parts.all:∀ {L:List Ent},Parts L L []
 |[]=>.nil
 |_::_=>.cons .here Parts.all
def St1 (P:Program) [Tb P] (F:Fd) (ops:Array Oper) (a:List (Nat×A)) (o:List (Nat×OE)) (op:Oper) (d:Nat) (u:A):Prop :=
 ∀ ρ h S L L' Lr,Parts L' L Lr→Cz P ρ h a o S L'→∀ (N:Post) (X:Nat→Post) rest,(∀ v h',h.le h'→DenA ρ h' u v→JL (F.fr P) ops N X rest ((d,v)::S) h' L)→JL (F.fr P) ops N X (op::rest) S h L
section
variable {P:Program} [Tb P] {F:Fd}{n:PostD}{x:Nat→PostD}{a:List (Nat×A)}{o:List (Nat×OE)}{ops:Array Oper}{rest:List Oper}
variable {d:Nat}{q:Op}{ty:TypeId}{pos:String}{af:Array Edge}{g:Option (Nat×Bool)}{u:A}{op:Oper}
theorem RunV.parts {f:Fr}{S:Sig}{h:Part}{L L' Lr:List Ent}{v:Value}(p:Parts L' L Lr) (r:RunV f S h L' q ty v):RunV f S h L q ty v:=fun a w s=>r a w (s.with (p.ok w s.ok))
theorem St1.run (hg:gdB ops a g=some true) (hd:Nat.blt d F.m=true) (hv:∀ ρ h S L,Cz P ρ h a o S L→∃ v,RunV (F.fr P) S h L q ty v∧DenA ρ h u v):St1 P F ops a o ⟨some d,q,ty,pos,af,g⟩ d u:=fun ρ h S L L' Lr p cz N X rest k=>by
 obtain⟨v,h1,h2⟩:=hv ρ h S L' cz
 rcases gdB_t cz hg with rfl|⟨j,dj,b,rfl,h3,h4⟩
 ·exact ae (h1.parts p) hd (k v h (aO h) h2)
 ·exact aH h3 h4 (h1.parts p) hd (k v h (aO h) h2)
theorem St1.no (hg:gdB ops a g=some false) (hd:Nat.blt d F.m=true):St1 P F ops a o ⟨some d,q,ty,pos,af,g⟩ d (.d (.v undef)):=fun ρ h S L L' Lr p cz N X rest k=>by
 obtain⟨j,dj,b,rfl,h3,h4⟩:=gdB_f cz hg
 exact JL.skipx h3 h4 hd (k _ h (aO h) (j5.2 rfl))
theorem St1.call {Fi:Nat}{os:Array Operand}{ts:Array TypeId}{ds:List D}{d':D}(ha:argsA P a os.toList ts.toList=some ds) (c:FnD P Fi ds d') (hF:callT P Fi=true) (hg:gdB ops a g=some true) (hd:Nat.blt d F.m=true) :
 St1 P F ops a o ⟨some d,.call { callee:=.value (.func Fi),args:=os,argTypes:=ts },ty,pos,af,g⟩ d (.d d'):=fun ρ h S L L' Lr p cz N X rest k=>by
 obtain⟨vs,h3,h4⟩:=e_ cz ha
 obtain⟨os⟩:=os
 rcases gdB_t cz hg with rfl|⟨j,dj,b,rfl,h5,h6⟩
 ·exact bI hF h3 (c.fn h vs cz.t h4) hd (fun v h2 hle2 ⟨d',h7,h8⟩=>by subst h7;exact k v h2 hle2 h8)
 ·exact JL.callRg h5 h6 hF h3 (c.fn h vs cz.t h4) hd (fun v h2 hle2 ⟨d',h7,h8⟩=>by subst h7;exact k v h2 hle2 h8)
def litI:Int→Option Nat
 |.ofNat n=>litN n
 |_=>none
omit [Tb P] in
theorem md {α:Type}{R:Rep α}{l:List α}{T e sz m:Nat}{xo yo:Operand}{kk:IntKind}{i:Int}{aa:Option Addr}{cc:Nat}{S:Sig}{h:Part}{L:List Ent}(hT:slT P T=some (e,sz)) (hx:ev S xo=some (.slice aa l.length cc)) (hy:ev S yo=some (.int kk i)) (hi:i=(m:Int)) (hR:SlR R sz h aa cc l) (h1:m<l.length) :
 ∃ v,RunV (F.fr P) S h L (.indexAddr T xo yo) ty v∧∃ b o,v=.pointer (some ⟨b,o,none⟩)∧∃ c cs,h b=some c∧Lies c o cs∧R h cs l[m]:=by
 obtain⟨v,h2,b,o',hi',rfl,c,cs,h3,h4,h5,h6⟩:=aC (f:=F.fr P) (L:=L) (ty:=ty) hT hx hy hi hR rfl h1
 exact⟨_,h2,b,o',rfl,c,cs,h3,fun j hj=>h5 j z2_,h6⟩
end
section
variable {P:Program} [Tbl P] [Tb P] {F:Fd}{n:PostD}{x:Nat→PostD}{a:List (Nat×A)}{o:List (Nat×OE)}{ops:Array Oper}{rest:List Oper}
variable {d:Nat}{q:Op}{ty:TypeId}{pos:String}{af:Array Edge}{g:Option (Nat×Bool)}{u:A}{op:Oper}{T:Nat}{xo yo:Operand}{kk:IntKind}{i:Int}{tt:Nat×Nat}
theorem St1.val2 (hv:val2 P a o q=some u) (hg:gdB ops a g=some true) (hd:Nat.blt d F.m=true):St1 P F ops a o ⟨some d,q,ty,pos,af,g⟩ d u:=.run hg hd fun ρ h S L cz=>val2_ok cz hv
def pk3 (a:List (Nat×A)):Op→Option A
 |.pick c x y=>match evA a c with
  |some (.d (.bq true))=>evA a x
  |some (.d (.bq false))=>evA a y
  |_=>none
 |_=>none
omit [Tbl P] in
theorem evA_q {ρ:Rho}{h:Part}{S:Sig}{L:List Ent}(c:Cz P ρ h a o S L) {y:Operand}{b:Bool}(hy:evA a y=some (.d (.bq b))):ev S y=some (.bool b):=by
 obtain⟨v,h1,h2⟩:=cd c hy
 rw [gI.1 h2] at h1;exact h1
omit [Tbl P] in
theorem St1.pk (hv:pk3 a q=some u) (hg:gdB ops a g=some true) (hd:Nat.blt d F.m=true):St1 P F ops a o ⟨some d,q,ty,pos,af,g⟩ d u:=.run hg hd fun ρ h S L cz=>by
 unfold pk3 at hv
 split at hv
 ·split at hv
  ·rename_i hc;obtain⟨v,h1,h2⟩:=cd cz hv;exact⟨v,RunV.pick_t (evA_q cz hc) h1,h2⟩
  ·rename_i hc;obtain⟨v,h1,h2⟩:=cd cz hv;exact⟨v,RunV.pick_f (evA_q cz hc) h1,h2⟩
  ·cases hv
 ·cases hv
theorem eq {i:Int}{m:Nat}(h:litI i=some m):i=(m:Int):=by
 unfold litI at h
 split at h
 ·rw [litN_ok h];rfl
 ·cases h
theorem St1.ixN {l:List Nd}(m:Nat) (hx:evA a xo=some (.d (.nds l))) (hy:evA a yo=some (.d (.v (.int kk i)))) (hT:find1 (Tbl.sl P) T=some tt) (h5:Nat.beq tt.2 5=true) (hi:i=(m:Int)) (h1':i<(l.length:Int)) (hg:gdB ops a g=some true) (hd:Nat.blt d F.m=true) :
 St1 P F ops a o ⟨some d,.indexAddr T xo yo,ty,pos,af,g⟩ d (.d (.pnd (l.getD m (.mk 0 0 false [] [])))):=.run hg hd fun ρ h S L cz=>by
 have h1:m<l.length:=by omega
 rw [ce h1]
 obtain⟨v,h2,h3⟩:=cd cz hx
 obtain⟨aa,cc,rfl,hR⟩:=dM.1 h3
 have e5:=ah h5
 have hT':=Tbl.slt hT
 rw [show tt=(tt.1,5) by rw [← e5]] at hT'
 obtain⟨w,h4,h6⟩:=md (F:=F) (ty:=ty) (L:=L) hT' h2 (dt cz hy) hi hR h1
 exact⟨w,h4,(jX (h:=h)).2 h6⟩
theorem St1.ixB {l:List UInt8}(m:Nat) (hx:evA a xo=some (.d (.bs l))) (hy:evA a yo=some (.d (.v (.int kk i)))) (hT:find1 (Tbl.sl P) T=some tt) (h5:Nat.beq tt.2 1=true) (hi:i=(m:Int)) (h1':i<(l.length:Int)) (hg:gdB ops a g=some true) (hd:Nat.blt d F.m=true) :
 St1 P F ops a o ⟨some d,.indexAddr T xo yo,ty,pos,af,g⟩ d (.d (.ptr [.v (.int .u8 ((l.getD m 0).toNat:Int))])):=.run hg hd fun ρ h S L cz=>by
 have h1:m<l.length:=by omega
 rw [ce h1]
 obtain⟨v,h2,h3⟩:=cd cz hx
 obtain⟨aa,cc,rfl,hR⟩:=cV.1 h3
 have e5:=ah h5
 have hT':=Tbl.slt hT
 rw [show tt=(tt.1,1) by rw [← e5]] at hT'
 obtain⟨w,h4,b,o',h6,c,cs,h7,h8,h9⟩:=md (F:=F) (ty:=ty) (L:=L) hT' h2 (dt cz hy) hi hR h1
 exact⟨w,h4,(fy (h:=h)).2 ⟨b,o',h6,c,cs,h7,h8,u8_enc.1 h9⟩⟩
theorem St1.ix {α:Type} [Inhabited α] {sz:Nat}{enc:α→List D}{l:List α}(m:Nat) (hx:evA a xo=some (.d (.sl sz enc l))) (hy:evA a yo=some (.d (.v (.int kk i)))) (hT:find1 (Tbl.sl P) T=some tt) (h5:Nat.beq tt.2 sz=true) (hi:i=(m:Int)) (h1':i<(l.length:Int)) (hg:gdB ops a g=some true) (hd:Nat.blt d F.m=true) :
 St1 P F ops a o ⟨some d,.indexAddr T xo yo,ty,pos,af,g⟩ d (.d (.ptr (enc (l.getD m default)))):=.run hg hd fun ρ h S L cz=>by
 have h1:m<l.length:=by omega
 rw [ce h1]
 obtain⟨v,h2,h3⟩:=cd cz hx
 obtain⟨aa,cc,rfl,hR⟩:=fD.1 h3
 have e5:=ah h5
 have hT':=Tbl.slt hT
 rw [show tt=(tt.1,sz) by rw [← e5]] at hT'
 obtain⟨w,h4,b,o',h6,c,cs,h7,h8,h9⟩:=md (F:=F) (ty:=ty) (L:=L) hT' h2 (dt cz hy) hi hR h1
 exact⟨w,h4,(fy (h:=h)).2 ⟨b,o',h6,c,cs,h7,h8,h9⟩⟩
end
section
variable {P:Program} [Tb P] {F:Fd}{n:PostD}{x:Nat→PostD}{a:List (Nat×A)}{o:List (Nat×OE)}{ops:Array Oper}{rest:List Oper}
variable {d:Nat}{ty:TypeId}{pos:String}{af:Array Edge}{u:A}{op:Oper}
theorem St1.lit {T len e sz bytes:Nat}{ps:Array (Nat×Operand)}{ds ds':List D}{dd:D}(hp:evsA a 0 ps.toList=some ds) (hf:foldQ P e ds=some ds') (hl:litQ P ds'=some dd) (hT:findP (Tb.ap P) T=some (e,sz,bytes)) (h1:Nat.beq sz (szD dd)=true) (h2:Nat.beq len ds.length=true) (h3:Nat.ble (len*sz) 16777216=true)
 (hd:Nat.blt d F.m=true):St1 P F ops a o ⟨some d,.buildSlice T len ps,ty,pos,af,none⟩ d (.d dd):=fun ρ h S L L' Lr p cz N X rest k=>by
 obtain⟨vs,h4,h5⟩:=gF cz hp
 obtain⟨h6,h7,h8,h9⟩:=pb hl (i7 hf h5)
 have e1:=ah h1
 have e2:=ah h2
 have e3:=h5.len
 have e4:len=vs.length:=by omega
 have e5:len*sz≤16777216:=by simpa using h3
 obtain⟨ps⟩:=ps
 refine JL.litG vs (Tb.apt hT) h4 e4 (by rw [e1];exact h7) h3 (Nat.mul_pos z2_ z2_) hd (fun b=>?_)
 have hlm:len≤140737488355328:=by
  have:len≤len*sz:=Nat.le_mul_of_pos_right _ z2_
  omega
 cases dd<;>simp only [RowR] at h6
 ·obtain⟨_,hn,hc⟩:=h6
  exact JL.pubB .here hc z2_ (fun h' hle hS=>k _ h' hle (by rw [e4,hn];exact(cV (h:=h')).2 ⟨_,_,rfl,hS⟩))
 ·obtain⟨_,hn,hc⟩:=h6
  exact JL.pubB .here hc z2_ (fun h' hle hS=>k _ h' hle (by rw [e4,hn];exact(dM (h:=h')).2 ⟨_,_,rfl,hS⟩))
 ·obtain⟨_,hn,hc⟩:=h6
  exact JL.pubB .here hc z2_ (fun h' hle hS=>k _ h' hle (by rw [e4,hn];exact(fD (h:=h')).2 ⟨_,_,rfl,hS⟩))
theorem JLD.s1 (s:St1 P F ops a o op d u) (k:JLD P F ops n x rest ((d,u)::a) o):JLD P F ops n x (op::rest) a o:=.mk fun ρ h S L cz =>
 s ρ h S L L [] .all cz _ _ _ (fun _ h' hle hv=>k.k ρ h' _ L (Cz.put (cz.mono hle) hv d))
abbrev bi:=@JLD.s1
theorem Obl.s1 {b:List (Nat×A)}{ob:List (Nat×OE)}{r:List Ef}{us:List Nat}{Au:List (Nat×A)}(hk:keepA us (aR allT b r)=some Au) (s:St1 P F ops Au [] op d u):Obl P F ops x b ob r (eVal us none d u) op :=
 ⟨Au,hk,fun _ A' O' hA hn=>.mk fun ρ h S L cz=>by
  obtain⟨L',Lr,h1,h2⟩:=cz.wk2 (o':=[]) hA trivial
  exact s ρ h S L L' Lr h1 h2 _ _ _ (fun v h' hle hv=>a_ ⟨ρ,_,_,Cz.put (cz.mono hle) hv d,hn⟩)⟩
theorem Obl.s1r {b:List (Nat×A)}{ob:List (Nat×OE)}{r:List Ef}{us:List Nat}{Au:List (Nat×A)}{k:Nat}{e:OE}(hk:keepA us (aR allT b r)=some Au) (h0:lkO (oS ob r) k=some e) (s:St1 P F ops Au [(k,e)] op d u):Obl P F ops x b ob r (eVal us (some k) d u) op :=
 ⟨Au,hk,e,h0,fun _ A' O' hA hO hn=>.mk fun ρ h S L cz=>by
  obtain⟨L',Lr,h1,h2⟩:=cz.wk2 (o':=[(k,e)]) hA ⟨hO,trivial⟩
  exact s ρ h S L L' Lr h1 h2 _ _ _ (fun v h' hle hv=>a_ ⟨ρ,_,_,Cz.put (cz.mono hle) hv d,hn⟩)⟩
end
def ObQ (P:Program) [Tb P] (F:Fd) (ops:Array Oper) (x:Nat→PostD) (b:List (Nat×A)) (ob:List (Nat×OE)) (es:List Ef):List Ef→Prop
 |[]=>True
 |f::r=>(∃ op,ops[(r++es).length]?=some op∧Obl P F ops x b ob (r++es) f op)∧ObQ P F ops x b ob es r
structure JX (P:Program) [Tb P] (F:Fd) (ops:Array Oper) (n:PostD) (x:Nat→PostD) (b:List (Nat×A)) (ob:List (Nat×OE)) (base:Nat) (es:List Ef) (l:List Oper) (a:List (Nat×A)) (o:List (Nat×OE)):Prop where
 k:(∀ i:Nat,l[i]?=ops[es.length+i]?)→a=aR allT b es→o=oS ob es→∃ q,q.length=l.length∧okE ops base (q++es)=true∧ObQ P F ops x b ob es q∧n (aR allT b (q++es)) (oS ob (q++es))
section
variable {P:Program} [Tb P] {F:Fd}{n:PostD}{x:Nat→PostD}{a b:List (Nat×A)}{o ob:List (Nat×OE)}{ops:Array Oper}{l rest:List Oper}{base:Nat}{es:List Ef}{op:Oper}
theorem ObQ.snoc {f:Ef}:∀ {q:List Ef},ObQ P F ops x b ob (f::es) q→(∃ op,ops[es.length]?=some op∧Obl P F ops x b ob es f op)→ObQ P F ops x b ob es (q++[f])
 |[],_,h=>⟨h,trivial⟩
 |g::q,h1,h=>by
  have e:q.append [f]++es=q++f::es:=by
   show q++[f]++es=_
   simp
  refine⟨?_,ObQ.snoc h1.2 h⟩
  rw [e];exact h1.1
theorem JX.put {f:Ef}{a':List (Nat×A)}{o':List (Nat×OE)}(h:a=aR allT b es→o=oS ob es→Obl P F ops x b ob es f op∧a'=aR allT b (f::es)∧o'=oS ob (f::es)) (k:JX P F ops n x b ob base (f::es) rest a' o'):JX P F ops n x b ob base es (op::rest) a o:=.mk fun hl ha ho=>by
 obtain⟨h1,h2,h3⟩:=h ha ho
 obtain⟨q,k1,k2,k4,k5⟩:=k.k (fun i=>by have:=hl (i+1);simp only [List.getElem?_cons_succ,aA] at this ⊢;rw [this];congr 1;omega) h2 h3
 have e:q++[f]++es=q++f::es:=by simp
 have hop:ops[es.length]?=some op:=by have:=hl 0;simpa using this.symm
 exact⟨q++[f],by simp [k1],by rw [e];exact k2,ObQ.snoc k4 ⟨op,hop,h1⟩,by rw [e];exact k5⟩
theorem JX.nil (chk:okE ops base es=true) (k:n a o):JX P F ops n x b ob base es [] a o:=.mk fun _ ha ho =>
 ⟨[],rfl,chk,trivial,by subst ha ho;exact k⟩
abbrev dI:=@JX.nil
theorem JX.s1 {d:Nat}{u:A}(us:List Nat) {Au:List (Nat×A)}(hk:keepA us a=some Au) (s:St1 P F ops Au [] op d u) (k:JX P F ops n x b ob base (eVal us none d u::es) rest ((d,u)::a) o):JX P F ops n x b ob base es (op::rest) a o :=
 JX.put (fun ha ho=>by subst ha ho;exact⟨Obl.s1 hk s,rfl,rfl⟩) k
theorem JX.s1r {d:Nat}{u:A}(us:List Nat) {Au:List (Nat×A)}{kk:Nat}{e:OE}(hk:keepA us a=some Au) (h0:lkO o kk=some e) (s:St1 P F ops Au [(kk,e)] op d u) (k:JX P F ops n x b ob base (eVal us (some kk) d u::es) rest ((d,u)::a) o):JX P F ops n x b ob base es (op::rest) a o :=
 JX.put (fun ha ho=>by subst ha ho;exact⟨Obl.s1r hk h0 s,rfl,rfl⟩) k
def nodupB:List (Nat×OE)→Bool
 |[]=>true
 |(k,_)::r=>(r.all fun y=>!Nat.beq y.1 k)&&nodupB r
theorem na:∀ {o:List (Nat×OE)},nodupB o=true→NdO o
 |[],_=>List.nodup_nil
 |(k,e)::r,h=>by
  simp only [nodupB,Bool.and_eq_true] at h
  simp only [NdO,List.map_cons,List.nodup_cons]
  refine⟨fun hm=>?_,na h.2⟩
  obtain⟨⟨k',e'⟩,hy,rfl⟩:=List.mem_map.1 hm
  have:=List.all_eq_true.1 h.1 _ hy
  simp at this
theorem Xg {id:Nat}{l:List Oper}{base:Nat}(hm:P.follows .mixedOrders=true) (htopo:topoB l.toArray 0 l=true) (hnd:nodupB o=true) (hb:nextK a o=some base) (k:JX P F l.toArray n x a o base [] l a o):JD P F (.region id l.toArray true) n x a o:=by
 obtain⟨q,k1,k2,k4,k5⟩:=k.k (fun i=>by simp) rfl rfl
 have hb':=lV hb
 simp only [List.append_nil] at k2 k5
 have hnd':=na hnd
 have conv:∀ {q:List Ef},ObQ P F l.toArray x a o [] q→Obls P F l.toArray x a o q:=by
  intro q
  induction q with
  |nil=>intro _;trivial
  |cons f r ih =>
   intro h
   have h1:=h.1
   simp only [List.append_nil] at h1
   exact⟨h1,ih h.2⟩
 exact Drw hm k1 htopo k2 (by rw [hb'];exact mx_l _ _) (by rw [hb'];exact mx_r _ _) hnd' (conv k4) k5
end
def tm:Operand→List Nat
 |.tmp t=>[t]
 |_=>[]
def tms:List Operand→List Nat
 |[]=>[]
 |.tmp t::r=>t::tms r
 |_::r=>tms r
def tmp2:List (Nat×Operand)→List Nat
 |[]=>[]
 |(_,.tmp t)::r=>t::tmp2 r
 |_::r=>tmp2 r
def usesO:Op→List Nat
 |.move x=>tm x
 |.assign x=>tm x
 |.pick c x y=>tms [c,x,y]
 |.extract x _=>tm x
 |.nilCheck x=>tm x
 |.unOp _ _ x=>tm x
 |.binOp _ _ x y _=>tms [x,y]
 |.call c=>tms c.args.toList
 |.fieldAddr _ x _=>tm x
 |.load _ x=>tm x
 |.build _ ps=>tmp2 ps.toList
 |.buildSlice _ _ ps=>tmp2 ps.toList
 |.box _ x=>tm x
 |.store _ x y=>tms [x,y]
 |.indexAddr _ x y=>tms [x,y]
 |.convert _ _ x=>tm x
 |.slice _ x lo hi _=>tms (x::(lo.toList++hi.toList))
 |_=>[]
def usX (ops:Array Oper) (q:Op):Option (Nat×Bool)→List Nat
 |none=>usesO q
 |some (j,_)=>match dst1 ops.toList j with
  |some dj=>dj::usesO q
  |none=>usesO q
def rdX (a:List (Nat×A)):Op→Option Nat
 |.load _ x=>match evA a x with
  |some (.own k _)=>some k
  |_=>none
 |.call c=>match c.callee,c.args.toList with
  |.builtin .len,[x]=>match evA a x with
   |some (.row k)=>some k
   |_=>none
  |_,_=>none
 |_=>none
def stX (P:Program) [Tbl P] [Tb P] (m:Nat) (ops:Array Oper) (a:List (Nat×A)) (o:List (Nat×OE)):Oper→Option Ef
 |⟨some d,q,_,_,_,g⟩=>match keepA (usX ops q g) a with
  |some Au=>match gdA ops Au g with
   |some true=>bif Nat.blt d m then match rdX Au q with
    |some k=>match lkO o k with
     |some e=>match val2 P Au [(k,e)] q with
      |some u=>some ⟨usX ops q g,some k,some (d,u),none,false,none⟩
      |none=>none
     |none=>none
    |none=>match val2 P Au [] q with
     |some u=>some ⟨usX ops q g,none,some (d,u),none,false,none⟩
     |none=>match g,q with
      |none,.alloc T=>match nextK a o,Tb.zr P T with
       |some k,some zs=>match aOf zs with
        |some cs=>some ⟨usX ops q g,none,some (d,.own k 0),some (k,.var T cs),true,some k⟩
        |none=>none
       |_,_=>none
      |none,.buildSlice T len ps=>match evsA Au 0 ps.toList with
       |some ds=>match findP (Tb.ap P) T with
        |some (e,sz,_)=>match foldQ P e ds with
         |some ds'=>match litQ P ds' with
          |some dd=>bif Nat.beq sz (szD dd) then bif Nat.beq len ds.length then bif Nat.ble (len*sz) 16777216 then some ⟨usX ops q g,none,some (d,.d dd),none,false,none⟩ else none else none else none
          |none=>none
         |none=>none
        |none=>none
       |none=>none
      |_,_=>none
     else none
   |some false=>bif Nat.blt d m then some ⟨usX ops q g,none,some (d,.d (.v undef)),none,false,none⟩ else none
   |none=>none
  |none=>none
 |⟨none,.store T x y,_,_,_,none⟩=>match keepA (tms [x,y]) a with
  |some Au=>match stoX P Au o T x y with
   |some (k,e)=>some ⟨tms [x,y],none,none,some (k,e),false,none⟩
   |_=>none
  |none=>none
 |_=>none
def putO (f:Ef) (o:List (Nat×OE)):List (Nat×OE):=match f.key with
 |none=>o
 |some (k,e)=>match f.isM with
  |true=>(k,e)::o
  |false=>(k,e)::delO o k
def runX (P:Program) [Tbl P] [Tb P] (m:Nat) (ops:Array Oper):Nat→List Ef→List (Nat×A)→List (Nat×OE)→List Oper→Option ((List Ef×List (Nat×A)×List (Nat×OE))×List Oper)
 |0,es,a,o,l=>some ((es,a,o),l)
 |k+1,es,a,o,q::l=>match stX P m ops a o q with
  |some ⟨us,rd,some (d,u),none,i,nw⟩=>runX P m ops k (⟨us,rd,some (d,u),none,i,nw⟩::es) ((d,u)::a) o l
  |some ⟨us,rd,some (d,u),some (kk,e),true,nw⟩=>runX P m ops k (⟨us,rd,some (d,u),some (kk,e),true,nw⟩::es) ((d,u)::a) ((kk,e)::o) l
  |some ⟨us,rd,none,some (kk,e),false,nw⟩=>match delQ o kk with
   |some o'=>runX P m ops k (⟨us,rd,none,some (kk,e),false,nw⟩::es) a ((kk,e)::o') l
   |none=>none
  |_=>none
 |_+1,_,_,_,[]=>none
section
variable {P:Program} [Tbl P] [Tb P] {F:Fd}{n:PostD}{x:Nat→PostD}{a a' b:List (Nat×A)}{o o' ob:List (Nat×OE)}{ops:Array Oper}{l l' rest:List Oper}{base:Nat}{es es':List Ef}{op:Oper}
omit [Tbl P] in
theorem Obl.alloc {r:List Ef}{us:List Nat}{d T k:Nat}{ty:TypeId}{pos:String}{af:Array Edge}{zs:List D}{cs:List A}{Au:List (Nat×A)}(hk:keepA us (aR allT b r)=some Au) (hz:Tb.zr P T=some zs) (hc:aOf zs=some cs) (hd:Nat.blt d F.m=true) :
 Obl P F ops x b ob r (eMk us d k (.own k 0) (.var T cs)) ⟨some d,.alloc T,ty,pos,af,none⟩:=⟨Au,hk,fun _ A' O' _ hA hO hn=>.mk fun ρ h S L cz=>by
 obtain⟨zv,h1,h2⟩:=Tb.hzr hz
 refine bu h1 hd (fun bb=>?_)
 have cz':=cz.fresh (ρ.ofk_setB k bb) hA hO
 refine a_ ⟨ρ.setB k bb,_,_,Cz.put (u:=.own k 0) (⟨cz'.t,cz'.s,_,L,rfl,⟨zv,by rw [fH],fY hc (h2 h)⟩,cz'.o⟩:Cz P (ρ.setB k bb) h A' ((k,.var T cs)::O') S (.blk bb T zv::L)) (by show _=_;rw [fH]) d,hn⟩⟩
omit [Tbl P] in
theorem Obl.store {r:List Ef}{T k:Nat}{y z:Operand}{ty:TypeId}{pos:String}{af:Array Edge}{e:OE}{Au:List (Nat×A)}(hk:keepA (tms [y,z]) (aR allT b r)=some Au) (hs:stoX P Au (oS ob r) T y z=some (k,e)) :
 Obl P F ops x b ob r (eSto (tms [y,z]) k e) ⟨none,.store T y z,ty,pos,af,none⟩:=by
 obtain⟨e0,off,t,cs,u,h1,h2,h3,h5,h6⟩:=stoX_ok hs
 refine⟨Au,hk,e0,h3,fun _ A' O' hA hO _ hn=>.mk fun ρ h S L cz=>?_⟩
 obtain⟨w,L',hD,hE,hr⟩:=cz.o.get hO
 obtain⟨vs,rfl,hcs⟩:=h6 ρ h w hE
 have czu:=cz.wk hA
 obtain⟨v,g1,g2⟩:=cd czu h1
 cases g2
 have hz:evA A' z=some u:=by
  cases z with
  |tmp tz=>exact hA.lk h2
  |_=>exact h2
 exact sto_ok cz g1 hz hD hcs hr h5 (JLD.nil hn)
theorem stX_ok {f:Ef}(hs:stX P F.m ops a o op=some f) (k:JX P F ops n x b ob base (f::es) rest (f.put a) (putO f o)):JX P F ops n x b ob base es (op::rest) a o:=by
 unfold stX at hs
 split at hs
 ·rename_i d q ty pos af g
  split at hs
  ·rename_i Au hAu
   split at hs
   ·rename_i hg
    cases hd:Nat.blt d F.m with
    |false=>rw [hd] at hs;cases hs
    |true =>
     rw [hd,cond_true] at hs
     split at hs
     ·rename_i kk hrd
      split at hs
      ·rename_i e0 hlk
       split at hs<;>cases hs
       rename_i u hv
       exact JX.s1r _ hAu hlk (St1.val2 hv (gdA_B hg) hd) k
      ·cases hs
     split at hs
     ·rename_i u hv;cases hs;exact JX.s1 _ hAu (St1.val2 hv (gdA_B hg) hd) k
     ·split at hs
      ·rename_i T
       split at hs
       ·rename_i kk zs hk hz
        split at hs<;>cases hs
        rename_i cs hc
        exact JX.put (fun ha ho=>⟨Obl.alloc (by rw [← ha];exact hAu) hz hc hd,by subst ha;rfl,by subst ho;rfl⟩) k
       ·cases hs
      ·rename_i T len ps x4 x5
       split at hs
       ·rename_i ds hp
        split at hs<;>try (cases hs;done)
        rename_i e sz _ hT
        split at hs<;>try (cases hs;done)
        rename_i ds' hf
        split at hs
        ·rename_i dd hl
         cases h1:Nat.beq sz (szD dd) with
         |false=>rw [h1] at hs;cases hs
         |true =>
          rw [h1,cond_true] at hs
          cases h2:Nat.beq len ds.length with
          |false=>rw [h2] at hs;cases hs
          |true =>
           rw [h2,cond_true] at hs
           cases h3:Nat.ble (len*sz) 16777216 with
           |false=>rw [h3] at hs;cases hs
           |true=>rw [h3,cond_true] at hs;cases hs;exact JX.s1 _ hAu (St1.lit hp hf hl hT h1 h2 h3 hd) k
        ·cases hs
       ·cases hs
      ·cases hs
   ·rename_i hg
    cases hd:Nat.blt d F.m with
    |false=>rw [hd] at hs;cases hs
    |true=>rw [hd,cond_true] at hs;cases hs;exact JX.s1 _ hAu (St1.no (gdA_B hg) hd) k
   ·cases hs
  ·cases hs
 ·rename_i T y z ty pos af
  split at hs
  ·rename_i Au hAu
   split at hs<;>cases hs
   rename_i kk e hst
   refine JX.put (fun ha ho=>⟨Obl.store (by rw [← ha];exact hAu) (by rw [← ho];exact hst),by subst ha;rfl,by subst ho;rfl⟩) k
  ·cases hs
 ·cases hs
def runY (P:Program) [Tbl P] [Tb P] (m:Nat) (ops:Array Oper):List Ef→List (Nat×A)→List (Nat×OE)→List Oper→Option ((List Ef×List (Nat×A)×List (Nat×OE))×List Oper)
 |es,a,o,[]=>some ((es,a,o),[])
 |es,a,o,q::l=>match stX P m ops a o q with
  |some ⟨us,rd,some (d,u),none,i,nw⟩=>runY P m ops (⟨us,rd,some (d,u),none,i,nw⟩::es) ((d,u)::a) o l
  |some ⟨us,rd,some (d,u),some (kk,e),true,nw⟩=>runY P m ops (⟨us,rd,some (d,u),some (kk,e),true,nw⟩::es) ((d,u)::a) ((kk,e)::o) l
  |some ⟨us,rd,none,some (kk,e),false,nw⟩=>match delQ o kk with
   |some o'=>runY P m ops (⟨us,rd,none,some (kk,e),false,nw⟩::es) a ((kk,e)::o') l
   |none=>some ((es,a,o),q::l)
  |_=>some ((es,a,o),q::l)
theorem RY (hs:runY P F.m ops es a o l=some ((es',a',o'),l')) (kk:JX P F ops n x b ob base es' l' a' o'):JX P F ops n x b ob base es l a o:=by
 induction l generalizing es a o with
 |nil=>simp only [runY,ay,Prod.mk.injEq] at hs;obtain⟨⟨rfl,rfl,rfl⟩,rfl⟩:=hs;exact kk
 |cons q l ih =>
  simp only [runY] at hs
  split at hs
  ·rename_i h1;exact stX_ok h1 (ih hs)
  ·rename_i h1;exact stX_ok h1 (ih hs)
  ·rename_i h1
   split at hs
   ·rename_i o2 hq;obtain rfl:=fU hq;exact stX_ok h1 (ih hs)
   ·simp only [ay,Prod.mk.injEq] at hs;obtain⟨⟨rfl,rfl,rfl⟩,rfl⟩:=hs;exact kk
  ·simp only [ay,Prod.mk.injEq] at hs;obtain⟨⟨rfl,rfl,rfl⟩,rfl⟩:=hs;exact kk
theorem RX1 {q:Oper}(hs:runY P F.m ops es a o (q::l)=some ((es',a',o'),l')) (hp:Nat.ble l'.length l.length=true) (kk:JX P F ops n x b ob base es' l' a' o'):JX P F ops n x b ob base es (q::l) a o:=RY hs kk
end
section
variable {P:Program} [Tb P] {F:Fd}{n:PostD}{x:Nat→PostD}{a b Au:List (Nat×A)}{o ob:List (Nat×OE)}{ops:Array Oper}{rest:List Oper}{base:Nat}{es:List Ef}
variable {d Fi:Nat}{ty:TypeId}{pos:String}{af:Array Edge}{g:Option (Nat×Bool)}{os:Array Operand}{ts:Array TypeId}{ds:List D}{d':D}
theorem Cx (hk:keepA (usX ops (.call { callee:=.value (.func Fi),args:=os,argTypes:=ts }) g) a=some Au) (ha:argsA P Au os.toList ts.toList=some ds) (c:FnD P Fi ds d')
 (k:JX P F ops n x b ob base (eVal (usX ops (.call { callee:=.value (.func Fi),args:=os,argTypes:=ts }) g) none d (.d d')::es) rest ((d,.d d')::a) o)
 (hF:callT P Fi=true:=by kernel_rfl) (hg:gdB ops Au g=some true:=by rfl) (hd:Nat.blt d F.m=true:=by rfl) :
 JX P F ops n x b ob base es (⟨some d,.call { callee:=.value (.func Fi),args:=os,argTypes:=ts },ty,pos,af,g⟩::rest) a o :=
 JX.s1 _ hk (St1.call ha c hF hg hd) k
theorem BX {l:List Oper}{c:Bool}{p q:Prop} [s:Sp c p q] (k1:c=true→p→JX P F ops n x b ob base es l a o) (k2:c=false→q→JX P F ops n x b ob base es l a o):JX P F ops n x b ob base es l a o:=by
 cases hc:c with
 |true=>exact k1 hc (s.t hc)
 |false=>exact k2 hc (s.f hc)
theorem JX.s2 {q:Op}{u:A}(hk:keepA (usX ops q g) a=some Au) (s:St1 P F ops Au [] ⟨some d,q,ty,pos,af,g⟩ d u) (k:JX P F ops n x b ob base (eVal (usX ops q g) none d u::es) rest ((d,u)::a) o):JX P F ops n x b ob base es (⟨some d,q,ty,pos,af,g⟩::rest) a o:=JX.s1 _ hk s k
abbrev cF:=@JX.s2
end
section
variable {P:Program} [Tbl P] [Tb P] {F:Fd}{n:PostD}{x:Nat→PostD}{a b Au:List (Nat×A)}{o ob:List (Nat×OE)}{ops:Array Oper}{rest:List Oper}{base kk:Nat}{es:List Ef}
variable {d:Nat}{ty:TypeId}{pos:String}{af:Array Edge}{g:Option (Nat×Bool)}{q:Op}{u:A}{e:OE}
omit [Tbl P] in
theorem BXl {l:List Oper}(t:Nat) {c:Bool}{p q:Prop}(_:lkA a t=some (.d (.bq c))) [s:Sp c p q] (k1:c=true→p→JX P F ops n x b ob base es l a o) (k2:c=false→q→JX P F ops n x b ob base es l a o):JX P F ops n x b ob base es l a o:=BX k1 k2
theorem JX.s2r (hk:keepA (usX ops q g) a=some Au) (hr:rdX Au q=some kk) (h0:lkO o kk=some e) (hv:val2 P Au [(kk,e)] q=some u) (hg:gdB ops Au g=some true) (hd:Nat.blt d F.m=true) (k:JX P F ops n x b ob base (eVal (usX ops q g) (some kk) d u::es) rest ((d,u)::a) o):JX P F ops n x b ob base es (⟨some d,q,ty,pos,af,g⟩::rest) a o:=JX.s1r _ hk h0 (St1.val2 hv hg hd) k
end
end
section
theorem Ok.newpub {e:Env}{h:Part}{L:List Ent}{w:World}(k:Ok e h L w) (C:Array Value) (t:TypeId) (fr:Nat×Nat):h.le (h.add w.heap.size C)∧Ok e (h.add w.heap.size C) L (w.drew.alloc (.cells C t fr)):=by
 have hnone:h w.heap.size=none:=by
  cases hh:h w.heap.size with
  |none=>rfl
  |some c=>have:=k.sub.lt hh;omega
 have hle:h.le (h.add w.heap.size C):=fun b c hc=>by
  unfold Part.add
  split
  ·rename_i e';subst e';rw [hnone] at hc;cases hc
  ·exact hc
 have keepOld:∀ b,b<w.heap.size→(w.drew.alloc (.cells C t fr)).heap[b]?=w.heap[b]?:=fun b hb=>Below.heap_alloc w.drew _ _ hb
 have hnew:(w.drew.alloc (.cells C t fr)).heap[w.heap.size]?=some (.cells C t fr):=heap_alloc_new w.drew _
 refine⟨hle,k.os,k.tape,k.output,?_,fun b hb hm=>?_,fun b c hc=>?_,k.le.trans hle,fun b c hc=>?_,fun x hx=>?_,fun b hb=>?_,k.nodup⟩
 ·have:=k.size
  show e.w0.heap.size≤(w.heap.push (.cells C t fr)).size
  simp;omega
 ·rw [keepOld b (Nat.lt_of_lt_of_le hb k.size)];exact k.old b hb hm
 ·unfold Part.add at hc
  split at hc
  ·rename_i e';subst e';cases hc;exact⟨t,fr,hnew⟩
  ·obtain⟨t',fr',he⟩:=k.sub b c hc;exact⟨t',fr',by rw [keepOld b (k.sub.lt hc)];exact he⟩
 ·unfold Part.add at hc
  split at hc
  ·rename_i e';subst e';exact .inr (.inl k.size)
  ·exact k.fresh b c hc
 ·exact Ent.keep (k.own x hx) fun b hb=>keepOld b (Ent.lt (k.own x hx) hb)
 ·refine⟨?_,(k.key b hb).2⟩
  unfold Part.add
  rw [if_neg (fun e'=>by subst e';have:=k.klt hb;omega)]
  exact(k.key b hb).1
def bytT (P:Program) (src dst:Nat):Bool:=match P.underlying src,P.underlying dst with
 |some .string,some (.slice e)=>match P.underlying e with
  |some (.int .u8)=>true
  |_=>false
 |_,_=>false
theorem bytT_ok {P:Program}{src dst:Nat}(h:bytT P src dst=true):P.underlying src=some .string∧∃ e,P.underlying dst=some (.slice e)∧P.underlying e=some (.int .u8):=by
 unfold bytT at h
 split at h
 ·rename_i e h1 h2
  split at h
  ·rename_i h3;exact⟨h1,e,h2,h3⟩
  ·cases h
 ·cases h
section
variable {P:Program} [Tb P] {F:Fd}{n:PostD}{x:Nat→PostD}{a:List (Nat×A)}{o:List (Nat×OE)}{ops:Array Oper}{rest:List Oper}
variable {d:Nat}{ty:TypeId}{pos:String}{af:Array Edge}{g:Option (Nat×Bool)}{src dst:Nat}{xo yo:Operand}{l:List UInt8}
theorem St1.strB (hx:evA a xo=some (.d (.bs l))) (hT:strT P src dst=true) (hg:gdB ops a g=some true) (hd:Nat.blt d F.m=true):St1 P F ops a o ⟨some d,.convert src dst xo,ty,pos,af,g⟩ d (.d (.v (.string ⟨l.toArray⟩))):=.run hg hd fun ρ h S L cz=>by
 obtain⟨v,h1,h2⟩:=cd cz hx
 obtain⟨aa,cc,rfl,hR⟩:=cV.1 h2
 exact⟨_,cG hT h1 hR rfl,ba (h:=h)⟩
theorem St1.bytes (hx:evA a xo=some (.d (.v (.string ⟨⟨l⟩⟩)))) (hT:bytT P src dst=true) (hb:l.length≤140737488355328) (hd:Nat.blt d F.m=true):St1 P F ops a o ⟨some d,.convert src dst xo,ty,pos,af,none⟩ d (.d (.bs l)):=fun ρ h S L L' Lr p cz N X rest k ac w s=>by
 obtain⟨e1,e,e2,e3⟩:=bytT_ok hT
 have hv:=dt cz hx
 have hrun:=run_bytes_of_string (P:=P) w src dst e ⟨⟨l⟩⟩ e1 e2 e3
 have hsz:ByteArray.size ⟨⟨l⟩⟩=l.length:=rfl
 have hge:=grownCap_ge w l.length 0 e
 have hlm:=grownCap_le_maxLen w l.length 0 e (by simp only [maxLen];omega)
 rw [hsz] at hrun
 obtain⟨hle,hok⟩:=s.ok.newpub (bytesRow ⟨⟨l⟩⟩ (grownCap w l.length 0 e)) e ((bytesRow ⟨⟨l⟩⟩ (grownCap w l.length 0 e)).size,(bytesRow ⟨⟨l⟩⟩ (grownCap w l.length 0 e)).size+1)
 refine cL (v:=.slice (some ⟨w.heap.size,0,none⟩) l.length (grownCap w l.length 0 e)) (w':=w.drew.alloc (.cells (bytesRow ⟨⟨l⟩⟩ (grownCap w l.length 0 e)) e ((bytesRow ⟨⟨l⟩⟩ (grownCap w l.length 0 e)).size,(bytesRow ⟨⟨l⟩⟩ (grownCap w l.length 0 e)).size+1))) rfl (by simp [execOp,s.eval hv,hrun]) ?_
 refine k _ _ hle ((cV (h:=_)).2 ⟨_,_,rfl,hge,hlm,hb,(fun hh=>by cases hh),fun i x hx=>⟨w.heap.size,0,rfl,_,[.int .u8 (x.toNat:Int)],by simp [Part.add];rfl,rfl,fun j hj=>?_,rfl⟩⟩) _ _ (s.put hd _ hok)
 have hi:=(List.getElem?_eq_some_iff.1 hx).1
 have hj0:j=0:=by omega
 subst hj0
 unfold bytesRow
 rw [Array.getElem?_append_left (by simp;omega)]
 simp [hx]
end
section
variable {P:Program} [Tbl P] [Tb P] {F:Fd}{n:PostD}{x:Nat→PostD}{a:List (Nat×A)}{o:List (Nat×OE)}{ops:Array Oper}{rest:List Oper}
variable {d:Nat}{ty:TypeId}{pos:String}{af:Array Edge}{g:Option (Nat×Bool)}{T:Nat}{xo lo hi:Operand}{tt:Nat×Nat}{kk k2:IntKind}{i j:Int}
omit [Tb P] in
theorem cut_go {α:Type}{R:Rep α}{l:List α}{sz m:Nat}{S:Sig}{h:Part}{L:List Ent}{aa:Option Addr}{cc:Nat}(hT:find1 (Tbl.sl P) T=some tt) (h5:Nat.beq tt.2 sz=true) (hx:ev S xo=some (.slice aa l.length cc)) (hR:SlR R sz h aa cc l) (hl:ev S lo=some (.int kk i)) (hi':i=(m:Int)) (h1:m≤l.length) :
 ∃ v,RunV (F.fr P) S h L (.slice T xo (some lo) none none) ty v∧∃ a' c',v=.slice a' (l.drop m).length c'∧SlR R sz h a' c' (l.drop m):=by
 have e5:=ah h5
 have hT':=Tbl.slt hT
 rw [show tt=(tt.1,sz) by rw [← e5]] at hT'
 exact RunE.cut_l (f:=F.fr P) (L:=L) (ty:=ty) hT' hx hl hi' hR rfl h1
theorem St1.fromB {l:List UInt8}(m:Nat) (hx:evA a xo=some (.d (.bs l))) (hl:evA a lo=some (.d (.v (.int kk i)))) (hT:find1 (Tbl.sl P) T=some tt) (h5:Nat.beq tt.2 1=true) (hi':i=(m:Int)) (h1:m≤l.length) (hg:gdB ops a g=some true) (hd:Nat.blt d F.m=true) :
 St1 P F ops a o ⟨some d,.slice T xo (some lo) none none,ty,pos,af,g⟩ d (.d (.bs (l.drop m))):=.run hg hd fun ρ h S L cz=>by
 obtain⟨v,h2,h3⟩:=cd cz hx
 obtain⟨aa,cc,rfl,hR⟩:=cV.1 h3
 obtain⟨w,h4,h6⟩:=cut_go (F:=F) (ty:=ty) (L:=L) hT h5 h2 hR (dt cz hl) hi' h1
 exact⟨w,h4,(cV (h:=h)).2 h6⟩
theorem St1.fromN {l:List Nd}(m:Nat) (hx:evA a xo=some (.d (.nds l))) (hl:evA a lo=some (.d (.v (.int kk i)))) (hT:find1 (Tbl.sl P) T=some tt) (h5:Nat.beq tt.2 5=true) (hi':i=(m:Int)) (h1:m≤l.length) (hg:gdB ops a g=some true) (hd:Nat.blt d F.m=true) :
 St1 P F ops a o ⟨some d,.slice T xo (some lo) none none,ty,pos,af,g⟩ d (.d (.nds (l.drop m))):=.run hg hd fun ρ h S L cz=>by
 obtain⟨v,h2,h3⟩:=cd cz hx
 obtain⟨aa,cc,rfl,hR⟩:=dM.1 h3
 obtain⟨w,h4,h6⟩:=cut_go (F:=F) (ty:=ty) (L:=L) hT h5 h2 hR (dt cz hl) hi' h1
 exact⟨w,h4,(dM (h:=h)).2 h6⟩
end
section
variable {P:Program} [Tb P] {F:Fd}{n:PostD}{x:Nat→PostD}{a a' a1:List (Nat×A)}{o o' o1:List (Nat×OE)}{ops:Array Oper}{rest:List Oper}
variable {d:Nat}{ty T yt:TypeId}{pos:String}{af:Array Edge}{g:Option (Nat×Bool)}{xo yo:Operand}{p q:Int}
theorem St1.bin {k k' kr:IntKind}{r:Int}{bo:BinOp}(hx:evA a xo=some (.d (.v (.int k p)))) (hy:evA a yo=some (.d (.v (.int k' q)))) (hr:∀ S h L,ev S xo=some (.int k p)→ev S yo=some (.int k' q)→RunV (F.fr P) S h L (.binOp bo T xo yo yt) ty (.int kr r)) (hg:gdB ops a g=some true) (hd:Nat.blt d F.m=true) :
 St1 P F ops a o ⟨some d,.binOp bo T xo yo yt,ty,pos,af,g⟩ d (.d (.v (.int kr r))):=.run hg hd fun ρ h S L cz=>⟨_,hr S h L (dt cz hx) (dt cz hy),ba (h:=h)⟩
theorem St1.add (hx:evA a xo=some (.d (.v (.int .i64 p)))) (hy:evA a yo=some (.d (.v (.int .i64 q)))) (h0:-9223372036854775808≤p+q∧p+q≤9223372036854775807) (hg:gdB ops a g=some true) (hd:Nat.blt d F.m=true) :
 St1 P F ops a o ⟨some d,.binOp .add T xo yo yt,ty,pos,af,g⟩ d (.d (.v (.int .i64 (p+q)))):=.bin hx hy (fun _ _ _ h1 h2=>RunV.add_i64 h1 h2 h0.1 h0.2) hg hd
theorem St1.sub (hx:evA a xo=some (.d (.v (.int .i64 p)))) (hy:evA a yo=some (.d (.v (.int .i64 q)))) (h0:-9223372036854775808≤p-q∧p-q≤9223372036854775807) (hg:gdB ops a g=some true) (hd:Nat.blt d F.m=true) :
 St1 P F ops a o ⟨some d,.binOp .sub T xo yo yt,ty,pos,af,g⟩ d (.d (.v (.int .i64 (p-q)))):=.bin hx hy (fun _ _ _ h1 h2=>RunV.sub_i64 h1 h2 h0.1 h0.2) hg hd
theorem St1.mul (hx:evA a xo=some (.d (.v (.int .i64 p)))) (hy:evA a yo=some (.d (.v (.int .i64 q)))) (h0:-9223372036854775808≤p*q∧p*q≤9223372036854775807) (hg:gdB ops a g=some true) (hd:Nat.blt d F.m=true) :
 St1 P F ops a o ⟨some d,.binOp .mul T xo yo yt,ty,pos,af,g⟩ d (.d (.v (.int .i64 (p*q)))):=.bin hx hy (fun _ _ _ h1 h2=>RunV.mul_i64 h1 h2 h0.1 h0.2) hg hd
theorem St1.quo (hx:evA a xo=some (.d (.v (.int .i64 p)))) (hy:evA a yo=some (.d (.v (.int .i64 q)))) (h0:0≤p∧p≤9223372036854775807∧0<q) (hg:gdB ops a g=some true) (hd:Nat.blt d F.m=true) :
 St1 P F ops a o ⟨some d,.binOp .quo T xo yo yt,ty,pos,af,g⟩ d (.d (.v (.int .i64 (p / q)))):=.bin hx hy (fun _ _ _ h1 h2=>RunV.quo_i64 h1 h2 h0.1 h0.2.1 h0.2.2) hg hd
theorem St1.rem (hx:evA a xo=some (.d (.v (.int .i64 p)))) (hy:evA a yo=some (.d (.v (.int .i64 q)))) (h0:0≤p∧0<q) (hg:gdB ops a g=some true) (hd:Nat.blt d F.m=true) :
 St1 P F ops a o ⟨some d,.binOp .rem T xo yo yt,ty,pos,af,g⟩ d (.d (.v (.int .i64 (p % q)))):=.bin hx hy (fun _ _ _ h1 h2=>RunV.rem_i64 h1 h2 h0.1 h0.2) hg hd
theorem St1.cvI {src dst:TypeId}{kk:IntKind}(hx:evA a xo=some (.d (.v (.int kk p)))) (hc:convI P src dst=some .i64) (h0:-9223372036854775808≤p∧p≤9223372036854775807) (hg:gdB ops a g=some true) (hd:Nat.blt d F.m=true) :
 St1 P F ops a o ⟨some d,.convert src dst xo,ty,pos,af,g⟩ d (.d (.v (.int .i64 p))):=.run hg hd fun ρ h S L cz=>⟨_,RunV.conv_i64 hc (dt cz hx) h0.1 h0.2,ba (h:=h)⟩
theorem St1.cvU {src dst:TypeId}{kk:IntKind}(hx:evA a xo=some (.d (.v (.int kk p)))) (hc:convI P src dst=some .u64) (h0:0≤p∧p≤18446744073709551615) (hg:gdB ops a g=some true) (hd:Nat.blt d F.m=true) :
 St1 P F ops a o ⟨some d,.convert src dst xo,ty,pos,af,g⟩ d (.d (.v (.int .u64 p))):=.run hg hd fun ρ h S L cz=>⟨_,cX hc (dt cz hx) h0.1 h0.2,ba (h:=h)⟩
theorem St1.cat {s t:List UInt8}(hx:evA a xo=some (.d (.v (.string ⟨⟨s⟩⟩)))) (hy:evA a yo=some (.d (.v (.string ⟨⟨t⟩⟩)))) (hb:s.length+t.length≤9223372036854775807) (hg:gdB ops a g=some true) (hd:Nat.blt d F.m=true) :
 St1 P F ops a o ⟨some d,.binOp .add T xo yo yt,ty,pos,af,g⟩ d (.d (.v (.string ⟨(s++t).toArray⟩))):=.run hg hd fun ρ h S L cz=>⟨_,RunV.addS (dt cz hx) (dt cz hy) hb,ba (h:=h)⟩
def junA (k:Nat):List (Nat×A)→Option (List (Nat×A))
 |[]=>some []
 |(t,x)::r=>match junA k r with
  |some r'=>match x with
   |.row j=>bif Nat.beq j k then some ((t,.any)::r') else some ((t,.row j)::r')
   |.recr l j=>bif Nat.beq j k then some ((t,.any)::r') else some ((t,.recr l j)::r')
   |x=>some ((t,x)::r')
  |none=>none
def junL (k:Nat):List A→Option (List A)
 |[]=>some []
 |x::r=>match junL k r with
  |some r'=>match x with
   |.row j=>bif Nat.beq j k then some (.any::r') else some (.row j::r')
   |.recr l j=>bif Nat.beq j k then some (.any::r') else some (.recr l j::r')
   |x=>some (x::r')
  |none=>none
def junO (k:Nat):List (Nat×OE)→Option (List (Nat×OE))
 |[]=>some []
 |(i,e)::r=>match junO k r with
  |some r'=>bif Nat.beq i k then none else match e with
   |.var t cs=>match junL k cs with
    |some cs'=>some ((i,.var t cs')::r')
    |none=>none
   |.rowv v t d=>bif Nat.beq v k then none else some ((i,.rowv v t d)::r')
   |e=>some ((i,e)::r')
  |none=>none
theorem jx (ρ:Rho) {k i:Nat}(h:i≠k) (aa:Option Addr) (c n:Nat):(ρ.setR k aa c n).b i=ρ.b i∧(ρ.setR k aa c n).a i=ρ.a i∧(ρ.setR k aa c n).c i=ρ.c i∧(ρ.setR k aa c n).n i=ρ.n i:=by simp [Rho.setR,h]
section
variable {ρ:Rho}{h:Part}{k:Nat}{aa:Option Addr}{c nn:Nat}
theorem fj {x:A}{v:Value}(hx:∀ j,x=.row j→j≠k) (hx2:∀ l j,x=.recr l j→j≠k) (q:DenA ρ h x v):DenA (ρ.setR k aa c nn) h x v:=by
 cases x with
 |recr l j=>obtain⟨_,e1,e2,e3⟩:=jx ρ (hx2 l j rfl) aa c nn;simp only [DenA] at q ⊢;rw [e1,e2,e3];exact q
 |d d=>exact q
 |mp i=>exact q
 |own i f=>exact q
 |row j=>obtain⟨_,e1,e2,e3⟩:=jx ρ (hx j rfl) aa c nn;simp only [DenA] at q ⊢;rw [e1,e2,e3];exact q
 |any=>trivial
theorem pf:∀ {a a':List (Nat×A)},junA k a=some a'→∀ {t:Nat}{x:A},lkA a' t=some x→∃ y,lkA a t=some y∧∀ v,DenA ρ h y v→DenA (ρ.setR k aa c nn) h x v
 |[],a',e,t,x,hx=>by cases e;cases hx
 |(i,y)::r,a',e,t,x,hx=>by
  simp only [junA] at e
  split at e
  ·rename_i r' hr
   have ih:=pf hr (t:=t) (x:=x)
   simp only [lkA]
   have key:∀ z,(∀ v,DenA ρ h y v→DenA (ρ.setR k aa c nn) h z v)→a'=(i,z)::r'→∃ w,(bif Nat.beq i t then some y else lkA r t)=some w∧∀ v,DenA ρ h w v→DenA (ρ.setR k aa c nn) h x v:=fun z hz ha=>by
    subst ha
    simp only [lkA] at hx
    cases hb:Nat.beq i t with
    |true=>simp only [hb,cond_true,ay] at hx ⊢;subst hx;exact⟨y,rfl,hz⟩
    |false=>simp only [hb,cond_false] at hx ⊢;exact ih hx
   split at e
   ·rename_i j
    cases hb:Nat.beq j k with
    |true=>rw [hb,cond_true] at e;exact key .any (fun v hv=>trivial) (by simpa using e.symm)
    |false =>
     rw [hb,cond_false] at e
     exact key _ (fun v hv=>fj (fun j' e'=>by cases e';intro e2;subst e2;simp at hb) (fun _ _ e'=>by cases e') hv) (by simpa using e.symm)
   ·rename_i l j
    cases hb:Nat.beq j k with
    |true=>rw [hb,cond_true] at e;exact key .any (fun v hv=>trivial) (by simpa using e.symm)
    |false =>
     rw [hb,cond_false] at e
     exact key _ (fun v hv=>fj (fun _ e'=>by cases e') (fun l' j' e'=>by cases e';intro e2;subst e2;simp at hb) hv) (by simpa using e.symm)
   ·rename_i hne hne2
    exact key _ (fun v hv=>fj (fun j' e'=>absurd e' (hne j')) (fun l' j' e'=>absurd e' (hne2 l' j')) hv) (by simpa using e.symm)
  ·cases e
theorem junL_ok:∀ {l l':List A}{cs:List Value},junL k l=some l'→DenAL ρ h l cs→DenAL (ρ.setR k aa c nn) h l' cs
 |[],l',cs,e,hd=>by cases e;exact hd
 |y::r,l',cs,e,⟨v,t,e2,h1,h2,h3⟩=>by
  simp only [junL] at e
  split at e
  ·rename_i r' hr
   have ih:=junL_ok hr h3
   split at e
   ·rename_i j
    cases hb:Nat.beq j k with
    |true=>rw [hb,cond_true] at e;cases e;exact⟨v,t,e2,h1,trivial,ih⟩
    |false =>
     rw [hb,cond_false] at e;cases e
     exact⟨v,t,e2,h1,fj (fun j' e'=>by cases e';intro e2;subst e2;simp at hb) (fun _ _ e'=>by cases e') h2,ih⟩
   ·rename_i l j
    cases hb:Nat.beq j k with
    |true=>rw [hb,cond_true] at e;cases e;exact⟨v,t,e2,h1,trivial,ih⟩
    |false =>
     rw [hb,cond_false] at e;cases e
     exact⟨v,t,e2,h1,fj (fun _ e'=>by cases e') (fun l' j' e'=>by cases e';intro e2;subst e2;simp at hb) h2,ih⟩
   ·rename_i hne hne2
    cases e;exact⟨v,t,e2,h1,fj (fun j' e'=>absurd e' (hne j')) (fun l' j' e'=>absurd e' (hne2 l' j')) h2,ih⟩
  ·cases e
theorem pe:∀ {o o':List (Nat×OE)}{L:List Ent},junO k o=some o'→DenO ρ h o L→DenO (ρ.setR k aa c nn) h o' L
 |[],o',L,e,hd=>by cases e;exact hd
 |(i,y)::r,o',L,e,⟨x,L',e2,h1,h2⟩=>by
  simp only [junO] at e
  split at e
  ·rename_i r' hr
   have ih:=pe hr h2
   cases hb:Nat.beq i k with
   |true=>rw [hb] at e;cases e
   |false =>
    rw [hb,cond_false] at e
    have hik:i≠k:=fun e2=>by subst e2;simp at hb
    obtain⟨q1,q2,q3,q4⟩:=jx ρ hik aa c nn
    split at e
    ·split at e<;>cases e
     rename_i cs' hcs
     obtain⟨vs,h3,h4⟩:=h1
     exact⟨x,L',e2,⟨vs,by rw [q1];exact h3,junL_ok hcs h4⟩,ih⟩
    ·rename_i v t d
     cases hv:Nat.beq v k with
     |true=>rw [hv] at e;cases e
     |false =>
      rw [hv,cond_false] at e
      cases e
      have hvk:v≠k:=fun e2=>by subst e2;simp at hv
      obtain⟨w1,w2,w3,w4⟩:=jx ρ hvk aa c nn
      obtain⟨xs,sz,h3,h4,h5⟩:=h1
      exact⟨x,L',e2,⟨xs,sz,by rw [w2,w3,w4];exact h3,by rw [w4];exact h4,by rw [w4];exact h5⟩,ih⟩
    ·rename_i hne hne2
     cases e
     refine⟨x,L',e2,?_,ih⟩
     cases y with
     |var t cs=>exact absurd rfl (hne t cs)
     |rowv v t d=>exact absurd rfl (hne2 v t d)
     |pin v b=>exact h1
     |set es=>exact h1
     |whl t d=>obtain⟨vs,h3,h4⟩:=h1;exact⟨vs,by rw [q1];exact h3,h4⟩
     |row t d=>obtain⟨xs,sz,h3,h4,h5⟩:=h1;exact⟨xs,sz,by rw [q2,q3,q4];exact h3,by rw [q4];exact h4,by rw [q4];exact h5⟩
  ·cases e
end
structure Kd (α:Type):Type 1 where
 f:List α→D
 R:Rep α
 sz:Nat
 mono:Mono R
 row:∀ {l h s n xs},RowR h (f l) s n xs↔s=sz∧n=l.length∧CellsR R sz h xs l
 den:∀ {l h v},Den (f l) h v↔∃ a c,v=.slice a l.length c∧SlR R sz h a c l
def kB:Kd UInt8:=⟨.bs,u8R,1,inferInstance,Iff.rfl,cV⟩
def kN:Kd Nd:=⟨.nds,NdR,5,inferInstance,Iff.rfl,dM⟩
def kS {α:Type}(sz:Nat) (enc:α→List D):Kd α:=⟨.sl sz enc,encR enc,sz,inferInstance,Iff.rfl,fD⟩
theorem ap_core {α:Type}(K:Kd α) {k e bytes:Nat}{l1 l2:List α}{d2:D}{ρ:Rho}{h:Part}{S:Sig}{L:List Ent}(cz:Cz P ρ h a1 o1 S L) (hx:evA a1 xo=some (.row k)) (hk:lkO o1 k=some (.row e (K.f l1))) (hy:evA a1 yo=some (.d d2)) (hd2:nilD P T d2=K.f l2) (hT:findP (Tb.ap P) T=some (e,K.sz,bytes))
 (hb:(l1.length+l2.length)*bytes≤140737488355328) (hb0:Nat.blt 0 bytes=true) (hja:junA k a1=some a') (hjo:junO k (delO o1 k)=some o') (hd:Nat.blt d F.m=true)
 (kk:JLD P F ops n x rest ((d,.row k)::a') ((k,.row e (K.f (l1++l2)))::o')) :
 JL (F.fr P) ops (up P n) (fun i=>up P (x i)) (⟨some d,.call { callee:=.builtin .append,args:=#[xo,yo],argTypes:=#[T,T] },ty,pos,af,none⟩::rest) S h L:=by
 obtain⟨v,h1,h2⟩:=cd cz hx
 cases h2
 obtain⟨w,h3,h4⟩:=cd cz hy
 have h5:=iB (P:=P) (T:=T) h w h4
 rw [hd2] at h5
 obtain⟨a2,c2,rfl,hR⟩:=K.den.1 h5
 obtain⟨y,L',hD,⟨xs,sz,rfl,hRow,hbig⟩,hr⟩:=cz.o.get hk
 obtain⟨rfl,hn,hc⟩:=K.row.1 hRow
 have:=K.mono
 refine cw (Tb.apt hT) h1 h3 hc hn hR rfl hD hb hd hb0 (fun aN cN xsN hcN hbN=>?_)
 have hden:DenO (ρ.setR k aN cN (l1++l2).length) h ((k,.row e (K.f (l1++l2)))::o') (.row aN cN e K.sz (l1++l2).length xsN::L'):=by
  have en:(ρ.setR k aN cN (l1++l2).length).n k=(l1++l2).length:=by simp [Rho.setR]
  refine⟨_,L',rfl,⟨xsN,K.sz,by simp [Rho.setR],?_,by rw [en];exact hbN⟩,pe hjo hr⟩
  rw [en];exact K.row.2 ⟨rfl,rfl,hcN⟩
 refine kk.k (ρ.setR k aN cN (l1++l2).length) h _ _ (Cz.put (u:=.row k) ⟨cz.t,fun t x hx=>?_,hden⟩ (by simp [Rho.setR,DenA]) d)
 obtain⟨y,g1,g2⟩:=pf hja hx
 obtain⟨v,g3,g4⟩:=cz.s t y g1
 exact⟨v,g3,g2 v g4⟩
theorem Ap {α:Type}(K:Kd α) {k e bytes:Nat}{l1 l2:List α}{d2:D}(hp:pubs (rowsA a [yo]) a o=some (a1,o1)) (hx:evA a1 xo=some (.row k)) (hk:lkO o1 k=some (.row e (K.f l1))) (hy:evA a1 yo=some (.d d2)) (hd2:nilD P T d2=K.f l2) (hT:findP (Tb.ap P) T=some (e,K.sz,bytes))
 (hb:(l1.length+l2.length)*bytes≤140737488355328) (hb0:Nat.blt 0 bytes=true) (hja:junA k a1=some a') (hjo:junO k (delO o1 k)=some o') (hd:Nat.blt d F.m=true)
 (kk:JLD P F ops n x rest ((d,.row k)::a') ((k,.row e (K.f (l1++l2)))::o')) :
 JLD P F ops n x (⟨some d,.call { callee:=.builtin .append,args:=#[xo,yo],argTypes:=#[T,T] },ty,pos,af,none⟩::rest) a o:=.mk fun ρ h S L cz ac w s=>by
 obtain⟨h',L',hle,hok,cz'⟩:=f9 hp cz s.ok
 exact ap_core K cz' hx hk hy hd2 hT hb hb0 hja hjo hd kk ac w (s.with hok)
theorem Rn {α:Type}(K:Kd α) (t e:Nat) {k:Nat}{c:Code}(hx:lkA a t=some (.d (.v (.slice none 0 0)))) (hk:nextK a o=some k) (kk:JD P F c n x ((t,.row k)::a) ((k,.row e (K.f []))::o)):JD P F c n x a o:=.mk fun ρ h S L cz=>by
 have h1:look S t=some (.slice none 0 0):=dt (y:=.tmp t) cz hx
 refine J.own (L':=.row none 0 e K.sz 0 []::L) (fun _ hw=>hw.row_nil e K.sz) ?_
 have c':=cz.eqv hk (ρ.eqv_setR k none 0 0)
 refine kk.k (ρ.setR k none 0 0) h _ _ ⟨c'.t,fun u y hy=>?_,_,L,rfl,⟨[],K.sz,by simp [Rho.setR],?_,by simp [Rho.setR]⟩,c'.o⟩
 ·simp only [lkA] at hy
  cases hq:Nat.beq t u with
  |true =>
   obtain rfl:=ah hq
   simp only [hq,cond_true,ay] at hy
   subst hy
   exact⟨_,h1,by simp [DenA,Rho.setR]⟩
  |false=>simp only [hq,cond_false] at hy;exact c'.s u y hy
 ·exact K.row.2 ⟨rfl,by simp [Rho.setR],bQ⟩
theorem St1.app0 {α:Type}(K:Kd α) {e bytes:Nat}{l2:List α}{d2:D}(hx:evA a xo=some (.d (.v (.slice none 0 0)))) (hy:evA a yo=some (.d d2)) (hd2:nilD P T d2=K.f l2) (hT:findP (Tb.ap P) T=some (e,K.sz,bytes))
 (hb:l2.length*bytes≤140737488355328) (hb0:Nat.blt 0 bytes=true) (hd:Nat.blt d F.m=true) :
 St1 P F ops a o ⟨some d,.call { callee:=.builtin .append,args:=#[xo,yo],argTypes:=#[T,T] },ty,pos,af,none⟩ d (.d (K.f l2)):=fun ρ h S L L' Lr p cz N X rest k=>by
 have h1:=dt cz hx
 obtain⟨w2,h3,h4⟩:=cd cz hy
 have h5:=iB (P:=P) (T:=T) h w2 h4
 rw [hd2] at h5
 obtain⟨a2,c2,rfl,hR⟩:=K.den.1 h5
 have:=K.mono
 refine JL.own (L':=.row none 0 e K.sz 0 []::L) (fun _ hw=>hw.row_nil e K.sz) ?_
 refine cw (l:=[]) (Tb.apt hT) h1 h3 bQ rfl hR rfl .here (by simpa using hb) hd hb0 (fun aN cN xsN hcN hbN=>?_)
 simp only [List.nil_append] at hcN hbN ⊢
 exact cM .here hcN rfl hbN (fun h' hle hS=>k _ h' hle (K.den.2 ⟨_,_,rfl,hS⟩))
end
end
section
theorem kq {p:Prop}(u:p:=by cases e;exact fun _=>fb):p:=u
end
section
set_option maxRecDepth 100000
theorem mixd_:Tryz.prog.follows .mixedOrders=true:=by kernel_rfl
theorem zl_3 (h:Part):DenL [.v (.int .i64 0)] h [.int .i64 0]:=.c rfl ba .n
theorem zl_28 (h:Part):DenL [.v (.slice none 0 0),.v (.slice none 0 0),.v (.slice none 0 0),.v (.int .i64 0),.v (.slice none 0 0),.v (.slice none 0 0),.v (.slice none 0 0)] h [.slice none 0 0,.slice none 0 0,.slice none 0 0,.int .i64 0,.slice none 0 0,.slice none 0 0,.slice none 0 0]:=.c rfl ba (.c rfl ba (.c rfl ba (.c rfl ba (.c rfl ba (.c rfl ba (.c rfl ba .n))))))
theorem zl_31 (h:Part):DenL [.v (.int .i64 0),.v (.int .i64 0),.bq false,.v (.slice none 0 0),.v (.slice none 0 0)] h [.int .i64 0,.int .i64 0,.bool false,.slice none 0 0,.slice none 0 0]:=.c rfl ba (.c rfl ba (.c rfl fT (.c rfl ba (.c rfl ba .n))))
theorem zl_37 (h:Part):DenL [.v (.string ⟨⟨[]⟩⟩),.bq false,.v (.slice none 0 0),.v (.slice none 0 0),.v (.slice none 0 0),.v (.slice none 0 0)] h [.string ⟨⟨[]⟩⟩,.bool false,.slice none 0 0,.slice none 0 0,.slice none 0 0,.slice none 0 0]:=.c rfl ba (.c rfl fT (.c rfl ba (.c rfl ba (.c rfl ba (.c rfl ba .n)))))
theorem zl_40 (h:Part):DenL [.v (.int .i64 0)] h [.int .i64 0]:=.c rfl ba .n
theorem zl_59 (h:Part):DenL [.v (.string ⟨⟨[]⟩⟩),.v (.slice none 0 0)] h [.string ⟨⟨[]⟩⟩,.slice none 0 0]:=.c rfl ba (.c rfl ba .n)
theorem zl_96 (h:Part):DenL [.v (.slice none 0 0),.v (.slice none 0 0),.v (.slice none 0 0)] h [.slice none 0 0,.slice none 0 0,.slice none 0 0]:=.c rfl ba (.c rfl ba (.c rfl ba .n))
theorem zl_99 (h:Part):DenL [.v (.slice none 0 0),.v (.int .i64 0),.v (.slice none 0 0),.v (.slice none 0 0),.v (.int .i64 0),.v (.int .i64 0),.v (.slice none 0 0),.v (.slice none 0 0),.v (.slice none 0 0),.v (.slice none 0 0),.v (.slice none 0 0)] h [.slice none 0 0,.int .i64 0,.slice none 0 0,.slice none 0 0,.int .i64 0,.int .i64 0,.slice none 0 0,.slice none 0 0,.slice none 0 0,.slice none 0 0,.slice none 0 0]:=.c rfl ba (.c rfl ba (.c rfl ba (.c rfl ba (.c rfl ba (.c rfl ba (.c rfl ba (.c rfl ba (.c rfl ba (.c rfl ba (.c rfl ba .n))))))))))
theorem zl_103 (h:Part):DenL [.v (.int .i64 0),.v (.int .i64 0)] h [.int .i64 0,.int .i64 0]:=.c rfl ba (.c rfl ba .n)
theorem zl_114 (h:Part):DenL [.v (.int .i64 0),.v (.slice none 0 0),.v (.int .i64 0),.v (.int .i64 0),.v (.slice none 0 0),.v (.slice none 0 0)] h [.int .i64 0,.slice none 0 0,.int .i64 0,.int .i64 0,.slice none 0 0,.slice none 0 0]:=.c rfl ba (.c rfl ba (.c rfl ba (.c rfl ba (.c rfl ba (.c rfl ba .n)))))
theorem zl_126 (h:Part):DenL [.v (.string ⟨⟨[]⟩⟩),.v (.int .i64 0),.v (.string ⟨⟨[]⟩⟩)] h [.string ⟨⟨[]⟩⟩,.int .i64 0,.string ⟨⟨[]⟩⟩]:=.c rfl ba (.c rfl ba (.c rfl ba .n))
theorem zl_137 (h:Part):DenL [.v (.int .i64 0),.bq false] h [.int .i64 0,.bool false]:=.c rfl ba (.c rfl fT .n)
theorem zl_164 (h:Part):DenL [.v (.slice none 0 0),.v (.int .i64 0)] h [.slice none 0 0,.int .i64 0]:=.c rfl ba (.c rfl ba .n)
theorem zl_189 (h:Part):DenL [.v (.slice none 0 0),.v (.int .i64 0),.v (.int .i64 0),.bq false,.v (.slice none 0 0),.v (.slice none 0 0)] h [.slice none 0 0,.int .i64 0,.int .i64 0,.bool false,.slice none 0 0,.slice none 0 0]:=.c rfl ba (.c rfl ba (.c rfl ba (.c rfl fT (.c rfl ba (.c rfl ba .n)))))
theorem zl_209 (h:Part):DenL [.v (.string ⟨⟨[]⟩⟩),.bq false,.v (.slice none 0 0)] h [.string ⟨⟨[]⟩⟩,.bool false,.slice none 0 0]:=.c rfl ba (.c rfl fT (.c rfl ba .n))
theorem zl_216 (h:Part):DenL [.v (.int .i64 0),.v (.int .i64 0)] h [.int .i64 0,.int .i64 0]:=.c rfl ba (.c rfl ba .n)
theorem zl_293 (h:Part):DenL [.v (.int .i64 0)] h [.int .i64 0]:=.c rfl ba .n
theorem zl_303 (h:Part):DenL [.bq false,.bq false,.v (.int .i64 0),.bq false,.v (.int .i64 0),.v (.slice none 0 0),.v (.slice none 0 0)] h [.bool false,.bool false,.int .i64 0,.bool false,.int .i64 0,.slice none 0 0,.slice none 0 0]:=.c rfl fT (.c rfl fT (.c rfl ba (.c rfl fT (.c rfl ba (.c rfl ba (.c rfl ba .n))))))
def zs_:List (Nat×List D):=[(3,[.v (.int .i64 0)]),(28,[.v (.slice none 0 0),.v (.slice none 0 0),.v (.slice none 0 0),.v (.int .i64 0),.v (.slice none 0 0),.v (.slice none 0 0),.v (.slice none 0 0)]),(31,[.v (.int .i64 0),.v (.int .i64 0),.bq false,.v (.slice none 0 0),.v (.slice none 0 0)]),(37,[.v (.string ⟨⟨[]⟩⟩),.bq false,.v (.slice none 0 0),.v (.slice none 0 0),.v (.slice none 0 0),.v (.slice none 0 0)]),(40,[.v (.int .i64 0)]),(59,[.v (.string ⟨⟨[]⟩⟩),.v (.slice none 0 0)]),(96,[.v (.slice none 0 0),.v (.slice none 0 0),.v (.slice none 0 0)]),(99,[.v (.slice none 0 0),.v (.int .i64 0),.v (.slice none 0 0),.v (.slice none 0 0),.v (.int .i64 0),.v (.int .i64 0),.v (.slice none 0 0),.v (.slice none 0 0),.v (.slice none 0 0),.v (.slice none 0 0),.v (.slice none 0 0)]),(103,[.v (.int .i64 0),.v (.int .i64 0)]),(114,[.v (.int .i64 0),.v (.slice none 0 0),.v (.int .i64 0),.v (.int .i64 0),.v (.slice none 0 0),.v (.slice none 0 0)]),(126,[.v (.string ⟨⟨[]⟩⟩),.v (.int .i64 0),.v (.string ⟨⟨[]⟩⟩)]),(137,[.v (.int .i64 0),.bq false]),(164,[.v (.slice none 0 0),.v (.int .i64 0)]),(189,[.v (.slice none 0 0),.v (.int .i64 0),.v (.int .i64 0),.bq false,.v (.slice none 0 0),.v (.slice none 0 0)]),(209,[.v (.string ⟨⟨[]⟩⟩),.bq false,.v (.slice none 0 0)]),(216,[.v (.int .i64 0),.v (.int .i64 0)]),(293,[.v (.int .i64 0)]),(303,[.bq false,.bq false,.v (.int .i64 0),.bq false,.v (.int .i64 0),.v (.slice none 0 0),.v (.slice none 0 0)])]
theorem zs_ok:AllP (fun x=>∃ zs,zeroT Tryz.prog x.1=some zs∧∀ h,DenL x.2 h zs) zs_:=.cons (⟨_,by kernel_rfl,zl_3⟩) <| .cons (⟨_,by kernel_rfl,zl_28⟩) <| .cons (⟨_,by kernel_rfl,zl_31⟩) <| .cons (⟨_,by kernel_rfl,zl_37⟩) <| .cons (⟨_,by kernel_rfl,zl_40⟩) <| .cons (⟨_,by kernel_rfl,zl_59⟩) <| .cons (⟨_,by kernel_rfl,zl_96⟩) <| .cons (⟨_,by kernel_rfl,zl_99⟩) <| .cons (⟨_,by kernel_rfl,zl_103⟩) <| .cons (⟨_,by kernel_rfl,zl_114⟩) <| .cons (⟨_,by kernel_rfl,zl_126⟩) <| .cons (⟨_,by kernel_rfl,zl_137⟩) <| .cons (⟨_,by kernel_rfl,zl_164⟩) <| .cons (⟨_,by kernel_rfl,zl_189⟩) <| .cons (⟨_,by kernel_rfl,zl_209⟩) <| .cons (⟨_,by kernel_rfl,zl_216⟩) <| .cons (⟨_,by kernel_rfl,zl_293⟩) <| .cons (⟨_,by kernel_rfl,zl_303⟩) <| .nil
def fs_:List (Nat×(List D→Option D)):=[(31,foldNd),(103,foldFlt),(126,foldAt),(209,foldXt),(28,foldT [some (.sl 3 At.enc []),some (.sl 1 u32E []),some (.bs []),none,some (.sl 2 Fe.enc []),some (.bs []),some (.sl 2 Fe.enc [])]),(37,foldT [none,none,some (.bs []),some (.sl 11 Crt.enc []),some (.sl 6 Cl.enc []),some (.sl 7 Sg.enc [])]),(59,foldT [none,some (.sl 1 bE [])]),(96,foldT [some (.sl 1 u32E []),some (.sl 1 u32E []),some (.sl 1 u32E [])]),(99,foldT [some (.sl 1 u32E []),none,some (.sl 3 At.enc []),some (.sl 3 At.enc []),none,none,some (.sl 1 u32E []),some (.sl 1 u32E []),some (.sl 1 u32E []),some (.sl 3 Xt.enc []),some (.bs [])]),(114,foldT [none,some (.sl 3 At.enc []),none,none,some (.sl 2 Gn.enc []),some (.bs [])]),(137,foldT [none,none]),(164,foldT [some (.bs []),none]),(189,foldT [some (.bs []),none,none,none,some (.bs []),some (.nds [])]),(303,foldT [none,none,none,none,none,some (.sl 1 strE []),some (.bs [])])]
theorem fs_ok:AllP (fun x=>FoldOk x.2) fs_:=.cons (foldNd_ok) <| .cons (s_) <| .cons (foldAt_ok) <| .cons (foldXt_ok) <| .cons (dY (.cons (fun _ e=>kq) <| .cons (fun _ e=>kq) <| .cons (fun _ e=>(by cases e;exact fun _=>eM)) <| .cons (fun _ e=>(by cases e)) <| .cons (fun _ e=>kq) <| .cons (fun _ e=>(by cases e;exact fun _=>eM)) <| .cons (fun _ e=>kq) <| .nil)) <| .cons (dY (.cons (fun _ e=>(by cases e)) <| .cons (fun _ e=>(by cases e)) <| .cons (fun _ e=>(by cases e;exact fun _=>eM)) <| .cons (fun _ e=>kq) <| .cons (fun _ e=>kq) <| .cons (fun _ e=>kq) <| .nil)) <| .cons (dY (.cons (fun _ e=>(by cases e)) <| .cons (fun _ e=>kq) <| .nil)) <| .cons (dY (.cons (fun _ e=>kq) <| .cons (fun _ e=>kq) <| .cons (fun _ e=>kq) <| .nil)) <| .cons (dY (.cons (fun _ e=>kq) <| .cons (fun _ e=>(by cases e)) <| .cons (fun _ e=>kq) <| .cons (fun _ e=>kq) <| .cons (fun _ e=>(by cases e)) <| .cons (fun _ e=>(by cases e)) <| .cons (fun _ e=>kq) <| .cons (fun _ e=>kq) <| .cons (fun _ e=>kq) <| .cons (fun _ e=>kq) <| .cons (fun _ e=>(by cases e;exact fun _=>eM)) <| .nil)) <| .cons (dY (.cons (fun _ e=>(by cases e)) <| .cons (fun _ e=>kq) <| .cons (fun _ e=>(by cases e)) <| .cons (fun _ e=>(by cases e)) <| .cons (fun _ e=>kq) <| .cons (fun _ e=>(by cases e;exact fun _=>eM)) <| .nil)) <| .cons (dY (.cons (fun _ e=>(by cases e)) <| .cons (fun _ e=>(by cases e)) <| .nil)) <| .cons (dY (.cons (fun _ e=>(by cases e;exact fun _=>eM)) <| .cons (fun _ e=>(by cases e)) <| .nil)) <| .cons (dY (.cons (fun _ e=>(by cases e;exact fun _=>eM)) <| .cons (fun _ e=>(by cases e)) <| .cons (fun _ e=>(by cases e)) <| .cons (fun _ e=>(by cases e)) <| .cons (fun _ e=>(by cases e;exact fun _=>eM)) <| .cons (fun _ e=>(by cases e;exact fun _=>mq)) <| .nil)) <| .cons (dY (.cons (fun _ e=>(by cases e)) <| .cons (fun _ e=>(by cases e)) <| .cons (fun _ e=>(by cases e)) <| .cons (fun _ e=>(by cases e)) <| .cons (fun _ e=>(by cases e)) <| .cons (fun _ e=>kq) <| .cons (fun _ e=>(by cases e;exact fun _=>eM)) <| .nil)) <| .nil
def ps_:List (Nat×List (Nat×Nat)):=[(28,[(0,1),(1,1),(2,1),(3,1),(4,1),(5,1),(6,1)]),(31,[(0,1),(1,1),(2,1),(3,1),(4,1)]),(37,[(0,1),(1,1),(2,1),(3,1),(4,1),(5,1)]),(59,[(0,1),(1,1)]),(99,[(0,1),(1,1),(2,1),(3,1),(4,1),(5,1),(6,3),(9,1),(10,1)]),(103,[(0,1),(1,1)]),(126,[(0,1),(1,1),(2,1)]),(137,[(0,1),(1,1)]),(164,[(0,1),(1,1)]),(189,[(0,1),(1,5)]),(209,[(0,1),(1,1),(2,1)]),(216,[(0,2)]),(293,[(0,1)]),(303,[(0,1),(1,1),(2,1),(3,1),(4,1),(5,1),(6,1)])]
theorem ps_ok:AllP (fun x=>∃ zs ds,plT Tryz.prog x.1=some (zs,x.2)∧findG zs_ x.1=some ds∧∀ h,DenL ds h zs) ps_:=.cons (⟨_,_,by kernel_rfl,rfl,zl_28⟩) <| .cons (⟨_,_,by kernel_rfl,rfl,zl_31⟩) <| .cons (⟨_,_,by kernel_rfl,rfl,zl_37⟩) <| .cons (⟨_,_,by kernel_rfl,rfl,zl_59⟩) <| .cons (⟨_,_,by kernel_rfl,rfl,zl_99⟩) <| .cons (⟨_,_,by kernel_rfl,rfl,zl_103⟩) <| .cons (⟨_,_,by kernel_rfl,rfl,zl_126⟩) <| .cons (⟨_,_,by kernel_rfl,rfl,zl_137⟩) <| .cons (⟨_,_,by kernel_rfl,rfl,zl_164⟩) <| .cons (⟨_,_,by kernel_rfl,rfl,zl_189⟩) <| .cons (⟨_,_,by kernel_rfl,rfl,zl_209⟩) <| .cons (⟨_,_,by kernel_rfl,rfl,zl_216⟩) <| .cons (⟨_,_,by kernel_rfl,rfl,zl_293⟩) <| .cons (⟨_,_,by kernel_rfl,rfl,zl_303⟩) <| .nil
def nl_:List (Nat×D):=[(22,.sl 3 At.enc []),(24,.sl 1 u32E []),(25,.bs []),(26,.sl 2 Fe.enc []),(29,.nds []),(33,.sl 7 Sg.enc []),(34,.sl 11 Crt.enc []),(35,.sl 6 Cl.enc []),(57,.sl 1 bE []),(97,.sl 3 Xt.enc []),(301,.sl 1 strE [])]
theorem nl_ok:AllP (fun x=>∀ h,Den x.2 h (.slice none 0 0)) nl_:=.cons (fun _=>fb) <| .cons (fun _=>fb) <| .cons (fun _=>eM) <| .cons (fun _=>fb) <| .cons (fun _=>mq) <| .cons (fun _=>fb) <| .cons (fun _=>fb) <| .cons (fun _=>fb) <| .cons (fun _=>fb) <| .cons (fun _=>fb) <| .cons (fun _=>fb) <| .nil
instance tb_:Tb Tryz.prog where
 T:=Tabs
 mono:=Tabs.mono
 ag:=[(2,none),(3,none),(4,none),(5,none),(9,none),(22,none),(24,none),(25,none),(26,none),(28,some 7),(29,none),(31,some 5),(33,none),(34,none),(35,none),(37,some 6),(40,none),(57,none),(59,some 2),(96,some 3),(97,none),(99,some 11),(103,some 2),(114,some 6),(126,some 3),(137,some 2),(164,some 2),(189,some 6),(209,some 3),(216,some 2),(293,some 1),(301,none),(303,some 7)]
 hag:=by kernel_rfl
 zr:=findG zs_
 hzr:=fun h=>i9 zs_ok h
 lt:=litAX
 hlt:=litAX_ok
 fo t ds:=match findG fs_ t with
  |some f=>f ds
  |none=>none
 hfo:=fun {t ds d} e=>by
  cases hf:findG fs_ t with
  |none=>rw [hf] at e;cases e
  |some f=>rw [hf] at e;exact i9 fs_ok hf e
 st:=[9]
 hst:=by kernel_rfl
 bt:=[4]
 hbt:=by kernel_rfl
 ap:=[(22,126,3,40),(25,5,1,1),(26,59,2,40),(29,31,5,72),(33,28,7,152),(34,99,11,216),(35,114,6,96),(57,25,1,24),(97,209,3,48),(187,189,6,96),(301,9,1,16)]
 hap:=by kernel_rfl
 pl:=findG ps_
 hpl:=fun e1 e2=>by
  obtain⟨zs,ds,h1,h2,h3⟩:=i9 ps_ok e1
  rw [h2] at e2;cases e2;exact⟨zs,h1,h3⟩
 nl:=findG nl_
 hnl:=fun e=>i9 nl_ok e
end
section
class Cn (P:Program) (Fi:Nat) (T:outParam Prop):Prop where
 c:T
section
variable {f:Fr}{n:Post}{x:Nat→Post}{S:Sig}{h:Part}{L:List Ent}{ops:Array Oper}{rest:List Oper}{d F:Nat}{ty:TypeId}{pos:String}{af:Array Edge}
theorem JL.callvR {R:Value→Part→Prop}{args:List Value}{os:List Operand}{ts:Array TypeId}{fo:Operand}(hF:callT f.P F=true) (hf:ev S fo=some (.func (.func F) #[] #[])) (ha:evl S os=some args) (c:FnR f.P F args h R) (hd:Nat.blt d f.m=true) (k:∀ v h',h.le h'→R v h'→JL f ops n x rest ((d,v)::S) h' L) :
 JL f ops n x (⟨some d,.call { callee:=.value fo,args:=os.toArray,argTypes:=ts },ty,pos,af,none⟩::rest) S h L :=
 JL.callv (R:=Rets fun u h' Lo=>Lo=[]∧R u h') (Li:=[]) (Lr:=L) hF hf ha (by have:=c;unfold FnR at this;simpa using this) .nil hd (fun _ _ ⟨_,hh,_⟩=>by cases hh) (fun _ _ _ _ ⟨_,hh,_⟩=>by cases hh) (fun v h' Lo hle ⟨_,hh,h1,h2⟩=>by cases hh;subst h1;exact k v h' hle h2)
end
section
variable {f:Fr}{n:Post}{x:Nat→Post}{S:Sig}{h:Part}{L:List Ent}{ops:Array Oper}{rest:List Oper}{d F:Nat}{ty:TypeId}{pos:String}{af:Array Edge}{q:Op}{xo yo:Operand}
theorem RunV.max {T T':TypeId}{p q:Int}{k:IntKind}(hx:ev S xo=some (.int k p)) (hy:ev S yo=some (.int k q)):RunV f S h L (.call { callee:=.builtin .max,args:=#[xo,yo],argTypes:=#[T,T'] }) ty (.int k (max p q)):=fun a w s _ _ _ _=>by
 have e:(if p<q then q else p)=Max.max p q:=by split<;>omega
 simp [execOp,resolve,s.eval hx,s.eval hy,invoke,builtin,Builtin.max_,Builtin.max2,e]
end
section
variable {P:Program} [Tb P] {F:Fd}{n:PostD}{x:Nat→PostD}{a a1 b Au:List (Nat×A)}{o o1 ob:List (Nat×OE)}{ops:Array Oper}{rest:List Oper}{base:Nat}{es:List Ef}
variable {d Fi:Nat}{ty:TypeId}{pos:String}{af:Array Edge}{os:Array Operand}{ts:Array TypeId}{ds:List D}{d':D}{T:Prop}{fo:Operand}
theorem St1.callV (hf:evA a fo=some (.d (.v (.func (.func Fi) #[] #[])))) (ha:argsA P a os.toList ts.toList=some ds) (c:FnD P Fi ds d') (hF:callT P Fi=true) (hd:Nat.blt d F.m=true) :
 St1 P F ops a o ⟨some d,.call { callee:=.value fo,args:=os,argTypes:=ts },ty,pos,af,none⟩ d (.d d'):=fun ρ h S L L' Lr p cz N X rest k=>by
 obtain⟨vs,h3,h4⟩:=e_ cz ha
 obtain⟨os⟩:=os
 exact JL.callvR hF (dt cz hf) h3 (c.fn h vs cz.t h4) hd (fun v h2 hle2 ⟨d',h7,h8⟩=>by subst h7;exact k v h2 hle2 h8)
theorem St1.max {xo yo:Operand}{T T':TypeId}{p q:Int}(hx:evA a xo=some (.d (.v (.int .i64 p)))) (hy:evA a yo=some (.d (.v (.int .i64 q)))) (hd:Nat.blt d F.m=true) :
 St1 P F ops a o ⟨some d,.call { callee:=.builtin .max,args:=#[xo,yo],argTypes:=#[T,T'] },ty,pos,af,none⟩ d (.d (.v (.int .i64 (max p q)))):=.run rfl hd fun ρ h S L cz=>⟨_,RunV.max (dt cz hx) (dt cz hy),ba (h:=h)⟩
theorem St1.fld [Tbl P] {xo:Operand}{T i off:Nat}{dd:D}{l:List D}{u:D}{g:Option (Nat×Bool)}(hx:evA a xo=some (.d dd)) (_:find2 (Tbl.fo P) T i=some off) (hT:fld1 P T i=some off) (hl:cellsD dd=some l) (hu:nthG l off=some u) (hg:gdB ops a g=some true) (hd:Nat.blt d F.m=true):St1 P F ops a o ⟨some d,.field T xo i,ty,pos,af,g⟩ d (.d u):=.run hg hd fun ρ h S L cz=>by
 obtain⟨v,h1,h2⟩:=cd cz hx
 obtain⟨cs,rfl,h3⟩:=(eo hl).1 h2
 rw [gy] at hu
 obtain⟨w,h4,_,h5⟩:=h3.nth hu
 exact⟨w,RunV.field1 hT h1 h4,h5⟩
theorem CaV [c:Cn P Fi T] (hp:pubs (rowsA a os.toList) a o=some (a1,o1)) (hf:evA a1 fo=some (.d (.v (.func (.func Fi) #[] #[])))) (ha:argsA P a1 os.toList ts.toList=some ds) (cc:T→FnD P Fi ds d') (k:JLD P F ops n x rest ((d,.d d')::a1) o1)
 (hF:callT P Fi=true:=by kernel_rfl) (hd:Nat.blt d F.m=true:=by rfl):JLD P F ops n x (⟨some d,.call { callee:=.value fo,args:=os,argTypes:=ts },ty,pos,af,none⟩::rest) a o:=.mk fun ρ h S L cz ac w s=>by
 obtain⟨h',L',hle,hok,cz'⟩:=f9 hp cz s.ok
 exact(bi (St1.callV hf ha (cc c.c) hF hd) k).k ρ h' S L' cz' ac w (s.with hok)
theorem CxV [c:Cn P Fi T] (hk:keepA (tms (fo::os.toList)) a=some Au) (hf:evA Au fo=some (.d (.v (.func (.func Fi) #[] #[])))) (ha:argsA P Au os.toList ts.toList=some ds) (cc:T→FnD P Fi ds d')
 (k:JX P F ops n x b ob base (eVal (tms (fo::os.toList)) none d (.d d')::es) rest ((d,.d d')::a) o) (hF:callT P Fi=true:=by kernel_rfl) (hd:Nat.blt d F.m=true:=by rfl) :
 JX P F ops n x b ob base es (⟨some d,.call { callee:=.value fo,args:=os,argTypes:=ts },ty,pos,af,none⟩::rest) a o:=JX.s1 _ hk (St1.callV hf ha (cc c.c) hF hd) k
theorem qM {α:Type}{enc:α→List D}{sz:Nat}(h0:0<sz) {h:Part}:∀ {l:List α}{ds:List D}{vs:List Value},ds=l.map (fun y=>.st (enc y))→(∀ y∈l,(enc y).length=sz)→DenT ds h vs→All2 (fun(y:α) (v:Value)=>v.cells.toList.length=sz∧encR enc h v.cells.toList y) l vs
 |[],ds,vs,e,_,k=>by subst e;unfold List.map DenT at k;subst k;exact .nil
 |y::l,ds,vs,e,hl,k=>by
  subst e
  rw [List.map_cons] at k
  unfold DenT at k
  obtain⟨v,t,rfl,h1,h2⟩:=k
  obtain⟨cs,rfl,h3⟩:=df.1 h1
  exact .cons ⟨by have:=h3.len;have:=hl y (aF ..);simp [Value.cells];omega,show DenL _ h _ from h3⟩ (qM h0 rfl (fun z hz=>hl z (aI _ hz)) h2)
theorem St1.litS {α:Type}{enc:α→List D}(l:List α) {T len e sz bytes:Nat}{ps:Array (Nat×Operand)}{ds ds':List D}(hT:findP (Tb.ap P) T=some (e,sz,bytes)) (hp:evsA a 0 ps.toList=some ds) (hf:foldQ P e ds=some ds') (hl:ds'=l.map (fun y=>.st (enc y))) (hz:∀ y∈l,(enc y).length=sz) (h0:Nat.blt 0 sz=true) (h1:Nat.blt 0 len=true) (h2:Nat.beq len ds.length=true) (h3:Nat.ble (len*sz) 16777216=true)
 (hd:Nat.blt d F.m=true):St1 P F ops a o ⟨some d,.buildSlice T len ps,ty,pos,af,none⟩ d (.d (.sl sz enc l)):=fun ρ h S L L' Lr p cz N X rest k=>by
 obtain⟨vs,h4,h5⟩:=gF cz hp
 have h6:=qM (sz:=sz) (by simpa using h0) hl hz (i7 hf h5)
 have e2:=ah h2
 have e3:=h5.len
 have e4:len=vs.length:=by omega
 have e5:len*sz≤16777216:=by simpa using h3
 have g0:0<sz:=by simpa using h0
 have g1:0<len:=by simpa using h1
 have e6:=gj h6
 have all:∀ {l:List α} {vs:List Value},All2 (fun(y:α) (v:Value)=>v.cells.toList.length=sz∧encR enc h v.cells.toList y) l vs→∀ c∈vs,c.cells.toList.length=sz:=by
  intro l vs hh
  induction hh with
  |nil=>intro c hc;cases hc
  |cons hy _ ih =>
   intro c hc
   cases hc with
   |head=>exact hy.1
   |tail _ hc=>exact ih c hc
 obtain⟨ps⟩:=ps
 refine JL.litG vs (Tb.apt hT) h4 e4 (all h6) h3 (Nat.mul_pos g1 g0) hd (fun b=>?_)
 have hlm:len≤140737488355328:=by
  have:len≤len*sz:=Nat.le_mul_of_pos_right _ g0
  omega
 exact JL.pubB .here (dU h6) z2_ (fun h' hle hS=>k _ h' hle (by rw [e4,e6];exact(fD (h:=h')).2 ⟨_,_,rfl,hS⟩))
end
end
section
theorem z3_ {p:Prop}(u:p:=by first|omega|(simp only [aA,aX,bh];omega)|decide):p:=u
theorem z23_ {p:Prop}(u:p:=by intro h;first|assumption|(apply h<;>(first|assumption|omega|(simp only [Nd.szL,Nd.sz,aX,aA,bh];omega)))):p:=u
end
section
section
variable {P:Program} [Tb P] {F:Fd}{n:PostD}{x:Nat→PostD}{a a1 b Au:List (Nat×A)}{o o1 ob:List (Nat×OE)}{ops:Array Oper}{rest:List Oper}{base:Nat}{es:List Ef}
variable {d Fi:Nat}{ty:TypeId}{pos:String}{af:Array Edge}{g:Option (Nat×Bool)}{os:Array Operand}{ts:Array TypeId}{ds:List D}{d':D}{T:Prop}
theorem CaI [c:Cn P Fi T] (hp:pubs (rowsA a os.toList) a o=some (a1,o1)) (ha:argsA P a1 os.toList ts.toList=some ds) (cc:T→FnD P Fi ds d') (k:JLD P F ops n x rest ((d,.d d')::a1) o1)
 (hF:callT P Fi=true:=by kernel_rfl) (hg:gdA ops a1 g=some true:=by rfl) (hd:Nat.blt d F.m=true:=by rfl) :
 JLD P F ops n x (⟨some d,.call { callee:=.value (.func Fi),args:=os,argTypes:=ts },ty,pos,af,g⟩::rest) a o:=Ca hp ha (cc c.c) k hF hg hd
theorem CaB [c:Cn P Fi T] (ha:argsA P a os.toList ts.toList=some ds) (cc:T→FnD P Fi ds d') (hg:gdB ops a g=some true) (k:JLD P F ops n x rest ((d,.d d')::a) o) (hF:callT P Fi=true:=by kernel_rfl) (hd:Nat.blt d F.m=true:=by rfl) :
 JLD P F ops n x (⟨some d,.call { callee:=.value (.func Fi),args:=os,argTypes:=ts },ty,pos,af,g⟩::rest) a o:=bi (St1.call ha (cc c.c) hF hg hd) k
theorem CxI [c:Cn P Fi T] (hk:keepA (usX ops (.call { callee:=.value (.func Fi),args:=os,argTypes:=ts }) g) a=some Au) (ha:argsA P Au os.toList ts.toList=some ds) (cc:T→FnD P Fi ds d')
 (k:JX P F ops n x b ob base (eVal (usX ops (.call { callee:=.value (.func Fi),args:=os,argTypes:=ts }) g) none d (.d d')::es) rest ((d,.d d')::a) o)
 (hF:callT P Fi=true:=by kernel_rfl) (hg:gdB ops Au g=some true:=by rfl) (hd:Nat.blt d F.m=true:=by rfl) :
 JX P F ops n x b ob base es (⟨some d,.call { callee:=.value (.func Fi),args:=os,argTypes:=ts },ty,pos,af,g⟩::rest) a o:=Cx hk ha (cc c.c) k hF hg hd
end
section
variable {P:Program} [Tb P] {F:Fd}{n:PostD}{x:Nat→PostD}{a b:List (Nat×A)}{o ob:List (Nat×OE)}{ops:Array Oper}{l rest:List Oper}{base:Nat}{es:List Ef}{c:Code}
variable {dd:Option Nat}{ty T T2:TypeId}{pos:String}{af:Array Edge}{g:Option (Nat×Bool)}{os:Array Operand}{ts:Array TypeId}{y z:Operand}{lo hi mx':Option Operand}{bo:BinOp}
theorem KJ (k:JD P F c n x a o):JD P F c n x a o:=k
theorem KL (k:JLD P F ops n x l a o):JLD P F ops n x l a o:=k
theorem KX (k:JX P F ops n x b ob base es l a o):JX P F ops n x b ob base es l a o:=k
theorem KCall {v:Operand}(k:JLD P F ops n x (⟨dd,.call { callee:=.value v,args:=os,argTypes:=ts },ty,pos,af,g⟩::rest) a o):JLD P F ops n x (⟨dd,.call { callee:=.value v,args:=os,argTypes:=ts },ty,pos,af,g⟩::rest) a o:=k
theorem KAp (k:JLD P F ops n x (⟨dd,.call { callee:=.builtin .append,args:=os,argTypes:=ts },ty,pos,af,g⟩::rest) a o):JLD P F ops n x (⟨dd,.call { callee:=.builtin .append,args:=os,argTypes:=ts },ty,pos,af,g⟩::rest) a o:=k
theorem KFd {i:Nat}(k:JLD P F ops n x (⟨dd,.field T y i,ty,pos,af,g⟩::rest) a o):JLD P F ops n x (⟨dd,.field T y i,ty,pos,af,g⟩::rest) a o:=k
theorem KMx (k:JLD P F ops n x (⟨dd,.call { callee:=.builtin .max,args:=os,argTypes:=ts },ty,pos,af,g⟩::rest) a o):JLD P F ops n x (⟨dd,.call { callee:=.builtin .max,args:=os,argTypes:=ts },ty,pos,af,g⟩::rest) a o:=k
theorem KIx (k:JLD P F ops n x (⟨dd,.indexAddr T y z,ty,pos,af,g⟩::rest) a o):JLD P F ops n x (⟨dd,.indexAddr T y z,ty,pos,af,g⟩::rest) a o:=k
theorem KCv (k:JLD P F ops n x (⟨dd,.convert T T2 y,ty,pos,af,g⟩::rest) a o):JLD P F ops n x (⟨dd,.convert T T2 y,ty,pos,af,g⟩::rest) a o:=k
theorem KSl (k:JLD P F ops n x (⟨dd,.slice T y lo hi mx',ty,pos,af,g⟩::rest) a o):JLD P F ops n x (⟨dd,.slice T y lo hi mx',ty,pos,af,g⟩::rest) a o:=k
theorem KBin (k:JLD P F ops n x (⟨dd,.binOp bo T y z T2,ty,pos,af,g⟩::rest) a o):JLD P F ops n x (⟨dd,.binOp bo T y z T2,ty,pos,af,g⟩::rest) a o:=k
end
theorem s6 (b:Bool):decide ((if b=true then(0:Int) else 20)=0)=b:=by cases b<;>rfl
structure Tg (q:Prop):Prop where
 k:q
theorem W {p q:Prop}(k:q) (h:Tg q→p:=by
 intro k
 repeat (first
  |(refine KL ?_;first
   |refine JLD.nil ?_
   |refine R3 rfl rfl ?_
   |(refine KCall ?_;first|refine CaI rfl rfl z23_ ?_|refine Ca rfl rfl z5_ ?_|refine CaV rfl rfl rfl z23_ ?_|refine bi (St1.call rfl z5_ cY rfl rfl) ?_|refine CaB rfl z23_ rfl ?_)
   |(refine KFd ?_;refine bi (St1.fld rfl rfl cY rfl rfl rfl rfl) ?_)
   |(refine KMx ?_;refine bi (St1.max rfl rfl rfl) ?_)
   |(refine KIx ?_;first|refine bi (St1.ixN _ rfl rfl rfl rfl (eq rfl) z3_ rfl rfl) ?_|refine bi (St1.ix _ rfl rfl rfl rfl (eq rfl) z3_ rfl rfl) ?_|refine bi (St1.ixB _ rfl rfl rfl rfl (eq rfl) z3_ rfl rfl) ?_|refine bi (St1.ixN _ rfl rfl rfl rfl rfl z3_ rfl rfl) ?_|refine bi (St1.ix _ rfl rfl rfl rfl rfl z3_ rfl rfl) ?_|refine bi (St1.ixB _ rfl rfl rfl rfl rfl z3_ rfl rfl) ?_|refine bi (St1.ixN (Int.toNat _) rfl rfl rfl rfl (Int.toNat_of_nonneg z2_).symm z3_ rfl rfl) ?_|refine bi (St1.ix (Int.toNat _) rfl rfl rfl rfl (Int.toNat_of_nonneg z2_).symm z3_ rfl rfl) ?_|refine bi (St1.ixB (Int.toNat _) rfl rfl rfl rfl (Int.toNat_of_nonneg z2_).symm z3_ rfl rfl) ?_)
   |(refine KCv ?_;first|refine bi (St1.cvI rfl (by decide +kernel) z2_ rfl rfl) ?_|refine bi (St1.cvU rfl (by decide +kernel) z2_ rfl rfl) ?_|refine bi (St1.strB rfl cY rfl rfl) ?_|refine bi (St1.bytes rfl cY z3_ rfl) ?_)
   |(refine KSl ?_;first|refine bi (St1.fromB _ rfl rfl rfl rfl rfl z3_ rfl rfl) ?_|refine bi (St1.fromN _ rfl rfl rfl rfl rfl z3_ rfl rfl) ?_)
   |(refine KBin ?_;first|refine bi (St1.add rfl rfl z2_ rfl rfl) ?_|refine bi (St1.sub rfl rfl z2_ rfl rfl) ?_|refine bi (St1.quo rfl rfl z2_ rfl rfl) ?_|refine bi (St1.rem rfl rfl z2_ rfl rfl) ?_|refine bi (St1.cat rfl rfl z3_ rfl rfl) ?_)
   |(refine KAp ?_;first|refine bi (St1.app0 kB rfl rfl rfl rfl z3_ rfl rfl) ?_|refine bi (St1.app0 kN rfl rfl rfl rfl z3_ rfl rfl) ?_|refine Ap kN rfl rfl rfl rfl rfl rfl z3_ rfl rfl rfl rfl ?_|refine Ap kB rfl rfl rfl rfl rfl rfl z3_ rfl rfl rfl rfl ?_|refine Ap (kS _ _) rfl rfl rfl rfl rfl rfl z3_ rfl rfl rfl rfl ?_))
   |refine bi (St1.pk rfl rfl rfl) ?_
   |refine bi (St1.no rfl rfl) ?_
   |refine bi (St1.val2 rfl rfl rfl) ?_
  |(refine KJ ?_;first
   |refine JD.seq ?_
   |refine JD.region ?_
   |refine Xg mixd_ rfl rfl rfl ?_
   |refine JD.skip ?_
   |refine JD.block ?_
   |refine JD.exit ?_
   |refine Ct rfl ?_
   |refine Cf rfl ?_
   |refine Cqt rfl ?_
   |refine Cqf rfl ?_)
  |(refine KX ?_;first
   |refine dI rfl ?_
   |refine RX1 rfl rfl ?_
   |refine CxI rfl rfl z23_ ?_
   |refine Cx rfl rfl z5_ ?_
   |refine CxV rfl rfl rfl z23_ ?_
   |refine cF rfl (St1.ixN _ rfl rfl rfl rfl (eq rfl) z3_ rfl rfl) ?_
   |refine cF rfl (St1.ix _ rfl rfl rfl rfl (eq rfl) z3_ rfl rfl) ?_
   |refine cF rfl (St1.ixB _ rfl rfl rfl rfl (eq rfl) z3_ rfl rfl) ?_
   |refine cF rfl (St1.ixN _ rfl rfl rfl rfl rfl z3_ rfl rfl) ?_
   |refine cF rfl (St1.ix _ rfl rfl rfl rfl rfl z3_ rfl rfl) ?_
   |refine cF rfl (St1.ixB _ rfl rfl rfl rfl rfl z3_ rfl rfl) ?_
   |refine cF rfl (St1.ixN (Int.toNat _) rfl rfl rfl rfl (Int.toNat_of_nonneg z2_).symm z3_ rfl rfl) ?_
   |refine cF rfl (St1.ix (Int.toNat _) rfl rfl rfl rfl (Int.toNat_of_nonneg z2_).symm z3_ rfl rfl) ?_
   |refine cF rfl (St1.ixB (Int.toNat _) rfl rfl rfl rfl (Int.toNat_of_nonneg z2_).symm z3_ rfl rfl) ?_
   |refine cF rfl (St1.strB rfl cY rfl rfl) ?_
   |refine cF rfl (St1.bytes rfl cY z3_ rfl) ?_
   |refine cF rfl (St1.fld rfl rfl cY rfl rfl rfl rfl) ?_
   |refine cF rfl (St1.pk rfl rfl rfl) ?_
   |refine cF rfl (St1.no rfl rfl) ?_
   |refine JX.s2r rfl rfl rfl rfl rfl rfl ?_
   |refine cF rfl (St1.val2 rfl rfl rfl) ?_
   |refine cF rfl (St1.add rfl rfl z2_ rfl rfl) ?_
   |refine cF rfl (St1.sub rfl rfl z2_ rfl rfl) ?_
   |refine cF rfl (St1.cvI rfl (by decide +kernel) z2_ rfl rfl) ?_
   |refine cF rfl (St1.cvU rfl (by decide +kernel) z2_ rfl rfl) ?_
   |refine cF rfl (St1.app0 kB rfl rfl rfl rfl z3_ rfl rfl) ?_
   |refine cF rfl (St1.app0 kN rfl rfl rfl rfl z3_ rfl rfl) ?_))
 exact k.k):p:=h ⟨k⟩
theorem Z {p:Prop}(h:p:=by
 repeat' (first
  |(refine KL ?_;first
   |refine JLD.nil ?_
   |refine R3 rfl rfl ?_
   |(refine KCall ?_;first|refine CaI rfl rfl z23_ ?_|refine Ca rfl rfl z5_ ?_|refine CaV rfl rfl rfl z23_ ?_|refine bi (St1.call rfl z5_ cY rfl rfl) ?_|refine CaB rfl z23_ rfl ?_)
   |(refine KFd ?_;refine bi (St1.fld rfl rfl cY rfl rfl rfl rfl) ?_)
   |(refine KMx ?_;refine bi (St1.max rfl rfl rfl) ?_)
   |(refine KIx ?_;first|refine bi (St1.ixN _ rfl rfl rfl rfl (eq rfl) z3_ rfl rfl) ?_|refine bi (St1.ix _ rfl rfl rfl rfl (eq rfl) z3_ rfl rfl) ?_|refine bi (St1.ixB _ rfl rfl rfl rfl (eq rfl) z3_ rfl rfl) ?_|refine bi (St1.ixN _ rfl rfl rfl rfl rfl z3_ rfl rfl) ?_|refine bi (St1.ix _ rfl rfl rfl rfl rfl z3_ rfl rfl) ?_|refine bi (St1.ixB _ rfl rfl rfl rfl rfl z3_ rfl rfl) ?_|refine bi (St1.ixN (Int.toNat _) rfl rfl rfl rfl (Int.toNat_of_nonneg z2_).symm z3_ rfl rfl) ?_|refine bi (St1.ix (Int.toNat _) rfl rfl rfl rfl (Int.toNat_of_nonneg z2_).symm z3_ rfl rfl) ?_|refine bi (St1.ixB (Int.toNat _) rfl rfl rfl rfl (Int.toNat_of_nonneg z2_).symm z3_ rfl rfl) ?_)
   |(refine KCv ?_;first|refine bi (St1.cvI rfl (by decide +kernel) z2_ rfl rfl) ?_|refine bi (St1.cvU rfl (by decide +kernel) z2_ rfl rfl) ?_|refine bi (St1.strB rfl cY rfl rfl) ?_|refine bi (St1.bytes rfl cY z3_ rfl) ?_)
   |(refine KSl ?_;first|refine bi (St1.fromB _ rfl rfl rfl rfl rfl z3_ rfl rfl) ?_|refine bi (St1.fromN _ rfl rfl rfl rfl rfl z3_ rfl rfl) ?_)
   |(refine KBin ?_;first|refine bi (St1.add rfl rfl z2_ rfl rfl) ?_|refine bi (St1.sub rfl rfl z2_ rfl rfl) ?_|refine bi (St1.quo rfl rfl z2_ rfl rfl) ?_|refine bi (St1.rem rfl rfl z2_ rfl rfl) ?_|refine bi (St1.cat rfl rfl z3_ rfl rfl) ?_)
   |(refine KAp ?_;first|refine bi (St1.app0 kB rfl rfl rfl rfl z3_ rfl rfl) ?_|refine bi (St1.app0 kN rfl rfl rfl rfl z3_ rfl rfl) ?_|refine Ap kN rfl rfl rfl rfl rfl rfl z3_ rfl rfl rfl rfl ?_|refine Ap kB rfl rfl rfl rfl rfl rfl z3_ rfl rfl rfl rfl ?_|refine Ap (kS _ _) rfl rfl rfl rfl rfl rfl z3_ rfl rfl rfl rfl ?_)
   |refine bi (St1.pk rfl rfl rfl) ?_
   |refine bi (St1.no rfl rfl) ?_
   |refine bi (St1.val2 rfl rfl rfl) ?_
   |refine Bg rfl rfl (fun _=>?_) (fun _=>?_)
   |refine Bp rfl (fun _=>?_) (fun _=>?_))
  |(refine KJ ?_;first
   |refine JD.seq ?_
   |refine JD.region ?_
   |refine Xg mixd_ rfl rfl rfl ?_
   |refine JD.skip ?_
   |refine JD.block ?_
   |refine JD.exit ?_
   |refine Ct rfl ?_
   |refine Cf rfl ?_
   |refine Cqt rfl ?_
   |refine Cqf rfl ?_
   |refine Rt rfl rfl ?_
   |refine Ci rfl (fun _=>?_) (fun _=>?_))
  |(refine KX ?_;first
   |refine dI rfl ?_
   |refine RX1 rfl rfl ?_
   |refine CxI rfl rfl z23_ ?_
   |refine Cx rfl rfl z5_ ?_
   |refine CxV rfl rfl rfl z23_ ?_
   |refine cF rfl (St1.ixN _ rfl rfl rfl rfl (eq rfl) z3_ rfl rfl) ?_
   |refine cF rfl (St1.ix _ rfl rfl rfl rfl (eq rfl) z3_ rfl rfl) ?_
   |refine cF rfl (St1.ixB _ rfl rfl rfl rfl (eq rfl) z3_ rfl rfl) ?_
   |refine cF rfl (St1.ixN _ rfl rfl rfl rfl rfl z3_ rfl rfl) ?_
   |refine cF rfl (St1.ix _ rfl rfl rfl rfl rfl z3_ rfl rfl) ?_
   |refine cF rfl (St1.ixB _ rfl rfl rfl rfl rfl z3_ rfl rfl) ?_
   |refine cF rfl (St1.ixN (Int.toNat _) rfl rfl rfl rfl (Int.toNat_of_nonneg z2_).symm z3_ rfl rfl) ?_
   |refine cF rfl (St1.ix (Int.toNat _) rfl rfl rfl rfl (Int.toNat_of_nonneg z2_).symm z3_ rfl rfl) ?_
   |refine cF rfl (St1.ixB (Int.toNat _) rfl rfl rfl rfl (Int.toNat_of_nonneg z2_).symm z3_ rfl rfl) ?_
   |refine cF rfl (St1.strB rfl cY rfl rfl) ?_
   |refine cF rfl (St1.bytes rfl cY z3_ rfl) ?_
   |refine cF rfl (St1.fld rfl rfl cY rfl rfl rfl rfl) ?_
   |refine cF rfl (St1.pk rfl rfl rfl) ?_
   |refine cF rfl (St1.no rfl rfl) ?_
   |refine JX.s2r rfl rfl rfl rfl rfl rfl ?_
   |refine cF rfl (St1.val2 rfl rfl rfl) ?_
   |refine cF rfl (St1.add rfl rfl z2_ rfl rfl) ?_
   |refine cF rfl (St1.sub rfl rfl z2_ rfl rfl) ?_
   |refine cF rfl (St1.cvI rfl (by decide +kernel) z2_ rfl rfl) ?_
   |refine cF rfl (St1.cvU rfl (by decide +kernel) z2_ rfl rfl) ?_
   |refine cF rfl (St1.app0 kB rfl rfl rfl rfl z3_ rfl rfl) ?_
   |refine cF rfl (St1.app0 kN rfl rfl rfl rfl z3_ rfl rfl) ?_)
  |rfl
  |(simp only [resD,nilD,s6];done)
  |(simp only [resD,nilD,s6, *,if_true,if_false,bO];done)
  |(simp [resD,nilD,s6, *];done)
  |(simp only [resD,nilD,s6];split<;>first|rfl|(simp_all;done)|(exfalso;simp_all;omega))
  |(simp_all [resD,nilD,s6];done)
  |(simp_all [resD,nilD,s6];omega))):p:=h
end
section
theorem gJ {d:D}{h:Part}{vs:List Value}(k:DenT [d] h vs):∃ v,vs=[v]∧Den d h v:=by
 unfold DenT at k;obtain⟨v,t,rfl,h1,k⟩:=k
 unfold DenT at k;subst k;exact⟨v,rfl,h1⟩
theorem den2 {d e:D}{h:Part}{vs:List Value}(k:DenT [d,e] h vs):∃ v w,vs=[v,w]∧Den d h v∧Den e h w:=by
 unfold DenT at k;obtain⟨v,t,rfl,h1,k⟩:=k
 obtain⟨w,rfl,h2⟩:=gJ k
 exact⟨v,w,rfl,h1,h2⟩
theorem den3 {d e f:D}{h:Part}{vs:List Value}(k:DenT [d,e,f] h vs):∃ v w x,vs=[v,w,x]∧Den d h v∧Den e h w∧Den f h x:=by
 unfold DenT at k;obtain⟨v,t,rfl,h1,k⟩:=k
 obtain⟨w,x,rfl,h2,h3⟩:=den2 k
 exact⟨v,w,x,rfl,h1,h2,h3⟩
theorem fS {d e:D}{h:Part}{v w:Value}(h1:Den d h v) (h2:Den e h w):Den (.tup [d,e]) h (.tuple #[v,w]):=(mo (h:=h)).2 ⟨[v,w],rfl,by unfold DenT;exact⟨_,_,rfl,h1,by unfold DenT;exact⟨_,_,rfl,h2,by unfold DenT;rfl⟩⟩⟩
theorem Pure.d {P:Program} [Tb P] {Fi:Nat}{vs:List Value}{h:Part}{u:Value}{d:D}(c:Pure P Fi vs h u) (hd:Den d h u):FnR P Fi vs h (fun v h'=>∃ d',d'=d∧Den d' h' v):=Fn.mono c fun _ _ _ hle ⟨v,e,e1,e2,e3⟩=>⟨v,e,e3,d,rfl,by rw [e1];exact Den.mono hle d u hd⟩
theorem nO {c t:Int}{l:List Nd}(hz:Nd.szL l≤1099511627776):FnD Tryz.prog 28 [.i c,.i t,.nds l] (.nd (.mk c t true [] l)):=.mk fun h vs hT hd=>by
 obtain⟨v,w,x,rfl,h1,h2,h3⟩:=den3 hd
 obtain⟨a,cc,rfl,hR⟩:=dM.1 h3
 rw [d9.1 h1,d9.1 h2]
 exact(cons_fn hR hz).mono fun v h' _ ⟨cs,e,r⟩=>⟨_,rfl,by rw [e];exact(dk (h:=h')).2 ⟨cs,rfl,r⟩⟩
theorem own_d {l:List Nd}(hz:Nd.szL l≤1099511627776):FnD Tryz.prog 87 [.nds l] (.nds l):=.mk fun h vs hT hd=>by
 obtain⟨v,rfl,h1⟩:=gJ hd
 obtain⟨a,cc,rfl,hR⟩:=dM.1 h1
 exact(own_fn _ _ _ _ _ (aD _) hR hz).mono fun v h' _ ⟨a',c',e,r⟩=>⟨_,rfl,by rw [e];exact(dM (h:=h')).2 ⟨_,_,rfl,r⟩⟩
theorem prim_d {t:Int}{l:List UInt8}:FnD Tryz.prog 31 [.i t,.bs l] (.nd (.mk 0 t false l [])):=.mk fun h vs hT hd=>by
 obtain⟨v,w,rfl,h1,h2⟩:=den2 hd
 obtain⟨a,cc,rfl,hR⟩:=cV.1 h2
 rw [d9.1 h1]
 exact(oN hR).mono fun v h' _ ⟨cs,e,r⟩=>⟨_,rfl,by rw [e];exact(dk (h:=h')).2 ⟨cs,rfl,r⟩⟩
theorem oI {n:Nd}(hz:n.sz≤1073741824):FnD Tryz.prog 43 [.nd n] (.b n.put.isSome):=.mk fun h vs hT hd=>by
 obtain⟨v,rfl,h1⟩:=gJ hd
 obtain⟨cs,rfl,hR⟩:=dk.1 h1
 exact(ql hR hT hz).d (ba (h:=h))
theorem qy {s:Txt}(hs:s.length≤100000000000):FnD Tryz.prog 133 [.s s] (.tup [.bs ((oidB s).getD []),.i (if(oidB s).isSome then 0 else 20)]):=.mk fun h vs hT hd=>by
 obtain⟨v,rfl,h1⟩:=gJ hd
 rw [d9.1 h1]
 exact(obytes_fn hs).mono fun v h' _ ⟨a,c,e,r⟩=>⟨_,rfl,by rw [e];exact fS ((cV (h:=h')).2 ⟨_,_,rfl,r⟩) (ba (h:=h'))⟩
theorem n6 {l:Txt}(hb:l.length≤1073741824):FnD Tryz.prog 164 [.bs l] (.tup [.s ((oidT l).getD []),.i (if(oidT l).isSome then 0 else 20)]):=.mk fun h vs hT hd=>by
 obtain⟨v,rfl,h1⟩:=gJ hd
 obtain⟨a,cc,rfl,hR⟩:=cV.1 h1
 exact(kP hR hb).d (fS (ba (h:=h)) (ba (h:=h)))
theorem utf8_d {s:Txt}(hs:s.length≤140737488355328):FnD Tryz.prog 142 [.s s] (.b (runes (fun c n=>!decide (c=65533∧n=1)) s 0)):=.mk fun h vs hT hd=>by
 obtain⟨v,rfl,h1⟩:=gJ hd
 rw [d9.1 h1]
 exact(utf8_fn s h hT hs).d (ba (h:=h))
theorem ia5_d {s:Txt}(hs:s.length≤140737488355328):FnD Tryz.prog 144 [.s s] (.b (runes (fun c _=>decide (c≤127)) s 0)):=.mk fun h vs hT hd=>by
 obtain⟨v,rfl,h1⟩:=gJ hd
 rw [d9.1 h1]
 exact(ia5_fn s h hs).d (ba (h:=h))
theorem jL {s:Txt}(hs:s.length≤140737488355328):FnD Tryz.prog 143 [.s s] (.b (runes (fun c _=>prC c) s 0)):=.mk fun h vs hT hd=>by
 obtain⟨v,rfl,h1⟩:=gJ hd
 rw [d9.1 h1]
 exact(iW s h hs).d (ba (h:=h))
instance:Cn Tryz.prog 28 (type_of% @nO):=⟨@nO⟩
instance:Cn Tryz.prog 87 (type_of% @own_d):=⟨@own_d⟩
instance:Cn Tryz.prog 31 (type_of% @prim_d):=⟨@prim_d⟩
instance:Cn Tryz.prog 43 (type_of% @oI):=⟨@oI⟩
instance:Cn Tryz.prog 133 (type_of% @qy):=⟨@qy⟩
instance:Cn Tryz.prog 164 (type_of% @n6):=⟨@n6⟩
instance:Cn Tryz.prog 142 (type_of% @utf8_d):=⟨@utf8_d⟩
instance:Cn Tryz.prog 144 (type_of% @ia5_d):=⟨@ia5_d⟩
instance:Cn Tryz.prog 143 (type_of% @jL):=⟨@jL⟩
end
section
set_option maxRecDepth 100000
abbrev ndZ0:Nd:=.mk 0 0 false [] []
def isSeqB (n:Nd) (l m:Int):Bool:=decide (n.cls=0)&&decide (n.tag=16)&&n.cons&&decide (l≤n.kids.length)&&decide ((n.kids.length:Int)≤m)
instance (priority:=high) (n:Nd) (l m:Int):Sp (isSeqB n l m) (isSeqB n l m=true∧n.cls=0∧n.tag=16∧n.cons=true∧l≤n.kids.length∧(n.kids.length:Int)≤m) (isSeqB n l m=false):=⟨fun h=>⟨h,by simpa [isSeqB,and_assoc] using h⟩,id⟩
theorem isseq_d (n:Nd) (l m:Int):FnD Tryz.prog 105 [.nd n,.i l,.i m] (.b (isSeqB n l m)):=by
 unfold isSeqB
 exact aB Tryz.func105 rfl Tryz.ntmps105 rfl (fun e=>Z)
instance:Cn Tryz.prog 105 (type_of% @isseq_d):=⟨@isseq_d⟩
def isB (n:Nd) (t:Int):Bool:=decide (n.cls=0)&&decide (n.tag=t)&&n.put.isSome
instance (priority:=high) (n:Nd) (t:Int):Sp (isB n t) (isB n t=true∧n.cls=0∧n.tag=t∧n.put.isSome=true) (isB n t=false):=⟨fun h=>⟨h,by simpa [isB,and_assoc] using h⟩,id⟩
theorem ji {n:Nd}{t:Int}(h:isB n t=true) (hm:mayB 0 t true=false):n.cons=false∧n.kids=[]∧valB t n.bytes=true:=by
 simp only [isB,Bool.and_eq_true,aj] at h
 obtain⟨⟨h1,h2⟩,h3⟩:=h
 cases n with
 |mk c tt k b l =>
  simp only [Nd.cls,Nd.tag,Nd.cons,Nd.kids,Nd.bytes] at *
  subst h1 h2
  have hok:okN 0 tt k b l=true:=by
   simp only [Nd.put] at h3
   split at h3
   ·assumption
   ·cases h3
  unfold okN at hok
  simp only [Bool.and_eq_true] at hok
  cases k with
  |true=>rw [hm] at hok;simp at hok
  |false=>simp at hok ⊢;exact⟨hok.2.1,hok.2.2⟩
instance (priority:=high+1) (n:Nd):Sp (isB n 1) (isB n 1=true∧n.bytes.length=1) (isB n 1=false):=⟨fun h=>⟨h,by have:=(ji h bJ).2.2;unfold valB at this;simp at this;omega⟩,id⟩
instance (priority:=high+1) (n:Nd):Sp (isB n 3) (isB n 3=true∧0<n.bytes.length) (isB n 3=false):=⟨fun h=>⟨h,by
 have h3:=(ji h bJ).2.2
 unfold valB bitsB at h3
 rw [if_neg bJ,if_neg bJ,if_pos rfl] at h3
 have:=(of_decide_eq_true h3).1
 have h0:n.bytes.length≠0:=fun e=>this (.inl e)
 omega⟩,id⟩
theorem is_d (n:Nd) (t:Int) (hz:n.sz≤1073741824):FnD Tryz.prog 106 [.nd n,.i t] (.b (isB n t)):=by
 unfold isB
 exact aB Tryz.func106 rfl Tryz.ntmps106 rfl (fun e=>Z)
instance:Cn Tryz.prog 106 (type_of% @is_d):=⟨@is_d⟩
def oiN (s:Txt):Nd:=.mk 0 6 false ((oidB s).getD []) []
theorem oid_d (s:Txt) (hs:s.length≤50000000000):FnD Tryz.prog 82 [.s s] (.tup [.nd (oiN s),.b (oidB s).isSome]):=by
 unfold oiN
 exact aB Tryz.func82 rfl Tryz.ntmps82 rfl (fun e=>Z)
instance:Cn Tryz.prog 82 (type_of% @oid_d):=⟨@oid_d⟩
theorem iA:∀ (s c:Txt) (l:List Nat),numsGo s c=some l→l.length≤s.length+1
 |[],c,l,h=>by
  unfold numsGo at h
  cases hn:numB c with
  |none=>rw [hn] at h;cases h
  |some v=>rw [hn] at h;cases h;simp
 |x::r,c,l,h=>by
  unfold numsGo at h
  split at h
  ·split at h
   ·cases h
   ·rename_i n hn
    cases hr:numsGo r [] with
    |none=>rw [hr] at h;cases h
    |some l'=>rw [hr] at h;cases h;have:=iA r [] l' hr;simp;omega
  ·have:=iA r _ l h;simp;omega
theorem oidB_len (s:Txt):((oidB s).getD []).length≤11*s.length+22:=by
 unfold oidB
 split
 ·simp
 ·rename_i l hl
  have h1:=iA s [] l hl
  split
  ·have h2:=enc_lenY ((40*l.getD 0 0+l.getD 1 0)::l.drop 2)
   simp only [Option.getD_some,aA,bm] at h2 ⊢
   omega
  ·simp
theorem fh (s:Txt):(oiN s).sz≤11*s.length+23:=by
 have:=oidB_len s
 simp only [oiN,Nd.sz,Nd.szL];omega
theorem seq_d (l:List Nd) (hz:Nd.szL l≤1099511627776):FnD Tryz.prog 80 [.nds l] (.nd (.mk 0 16 true [] l)):=by
 exact aB Tryz.func80 rfl Tryz.ntmps80 rfl (fun e=>Z)
instance:Cn Tryz.prog 80 (type_of% @seq_d):=⟨@seq_d⟩
def algO (h:Int):Txt:=if h=256 then [49,46,50,46,56,52,48,46,49,49,51,53,52,57,46,49,46,49,46,49,49] else if h=384 then [49,46,50,46,56,52,48,46,49,49,51,53,52,57,46,49,46,49,46,49,50] else if h=512 then [49,46,50,46,56,52,48,46,49,49,51,53,52,57,46,49,46,49,46,49,51] else []
theorem rv (h:Int):FnD Tryz.prog 89 [.i h] (.s (algO h)):=by
 unfold algO
 exact aB Tryz.func89 rfl Tryz.ntmps89 rfl (fun e=>Z)
instance:Cn Tryz.prog 89 (type_of% @rv):=⟨@rv⟩
theorem algO_len (h:Int):(algO h).length≤21:=by unfold algO;split<;>(try split)<;>(try split)<;>simp
def algN (h:Int):Nd:=if(oidB (algO h)).isSome then .mk 0 16 true [] [oiN (algO h),.mk 0 5 false [] []] else ndZ0
theorem alg_d (h:Int):FnD Tryz.prog 30 [.i h] (.nd (algN h)):=by
 have:=algO_len h
 have:=fh (algO h)
 unfold algN
 exact aB Tryz.func30 rfl Tryz.ntmps30 rfl (fun e=>Z)
instance:Cn Tryz.prog 30 (type_of% @alg_d):=⟨@alg_d⟩
def oidOf (n:Nd):Txt×Bool:=if isB n 6 then((oidT n.bytes).getD [],(oidT n.bytes).isSome) else([],false)
theorem c_ (n:Nd):n.bytes.length<n.sz:=by cases n;simp only [Nd.bytes,Nd.sz];omega
theorem oidof_d (n:Nd) (hz:n.sz≤1073741824):FnD Tryz.prog 107 [.nd n] (.tup [.s (oidOf n).1,.b (oidOf n).2]):=by
 have:=c_ n
 unfold oidOf
 exact aB Tryz.func107 rfl Tryz.ntmps107 rfl (fun e=>Z)
instance:Cn Tryz.prog 107 (type_of% @oidof_d):=⟨@oidof_d⟩
theorem bits_d (b:Txt) (hb:b.length≤1000000000):FnD Tryz.prog 171 [.bs b] (.nd (.mk 0 3 false (0::b) [])):=by
 exact aB Tryz.func171 rfl Tryz.ntmps171 rfl (fun e=>Z)
instance:Cn Tryz.prog 171 (type_of% @bits_d):=⟨@bits_d⟩
def rightAt (a:At):Bool:=if(oidB a.oid).isSome&&decide (a.text.length≤200) then(if a.kind=12 then runes (fun c n=>!decide (c=65533∧n=1)) a.text 0 else if a.kind=19 then runes (fun c _=>prC c) a.text 0 else if a.kind=22 then runes (fun c _=>decide (c≤127)) a.text 0 else false) else false
theorem jE (a:At) (h1:a.oid.length≤50000000000):FnD Tryz.prog 81 [.st (At.enc a)] (.b (rightAt a)):=by
 unfold rightAt
 exact aB Tryz.func81 rfl Tryz.ntmps81 rfl (fun e=>Z)
instance:Cn Tryz.prog 81 (type_of% @jE):=⟨@jE⟩
def extN (x:Xt):Nd:=if(oidB x.oid).isSome&&decide (x.val.length≤2000) then(if x.crit then .mk 0 16 true [] [oiN x.oid,.mk 0 1 false [255] [],.mk 0 4 false x.val []] else .mk 0 16 true [] [oiN x.oid,.mk 0 4 false x.val []]) else ndZ0
def extE (x:Xt):Int:=if(oidB x.oid).isSome&&decide (x.val.length≤2000) then 0 else 62
theorem nH (x:Xt) (h1:x.oid.length≤50000000000) (h2:x.val.length≤1000000000):FnD Tryz.prog 211 [.st (Xt.enc x)] (.tup [.nd (extN x),.i (extE x)]):=by
 have:=fh x.oid
 unfold extN extE
 exact aB Tryz.func211 rfl Tryz.ntmps211 rfl (fun e=>Z)
instance:Cn Tryz.prog 211 (type_of% @nH):=⟨@nH⟩
def kd (n:Nd) (i:Nat):Nd:=n.kids.getD i (.mk 0 0 false [] [])
theorem sz_pos (n:Nd):1≤n.sz:=by cases n;simp only [Nd.sz];omega
theorem cO (n:Nd) (i:Nat):(n.kids.getD i (.mk 0 0 false [] [])).sz≤n.sz:=by
 have h1:=sz_pos n
 by_cases h:i<n.kids.length
 ·rw [ce h]
  have:=dh (aL h)
  cases n
  simp only [Nd.kids,Nd.sz] at this ⊢
  omega
 ·rw [bg,bL z2_];simpa [Nd.sz,Nd.szL] using h1
end
section
theorem z35_ {p:Prop}(u:p:=by repeat (first|exact trivial|refine⟨rfl,?_⟩|refine⟨(by exact cm (by first|omega|(unfold nC;(repeat' split)<;>omega)|(unfold vC;(repeat' split)<;>omega)|(unfold lC;(repeat' split)<;>omega))),?_⟩)):p:=u
end
section
theorem ca_237:callT Tryz.prog 237=true:=by kernel_rfl
theorem eN:callT Tryz.prog 238=true:=by kernel_rfl
theorem cI (n lo hi:Int) (h:Part):Pure Tryz.prog 238 [.int .i64 n,.int .i64 lo,.int .i64 hi] h (.bool (decide (lo≤n∧n≤hi))):=by
 refine aG Tryz.func238 rfl Tryz.ntmps238 rfl (fun e he=>?_)
 refine aU [(0,_),(1,_),(2,_)] ⟨rfl,rfl,rfl,trivial⟩ ?_
 refine Sr (Ru 1 rfl (a_ (Sr (Ru 4 rfl ?_))))
 apply An 10 14 4 [6] rfl rfl
 ·intro hb1 hc1
  exact Ru 4 rfl (Ae (am_t hb1 rfl) rfl)
 ·exact fun hb1 _=>Ru 4 rfl (Ae (am_f hb1 rfl) rfl)
 exact Ru 1 rfl (a_ (az (au rfl rfl) (by rw [Bool.decide_and]) rfl))
def nC (b:Nat):Int:=if 192≤b∧b≤223 then 2 else if 224≤b∧b≤239 then 3 else if 240≤b∧b≤247 then 4 else 0
def lC (b:Nat):Int:=if 192≤b∧b≤223 then 128 else if 224≤b∧b≤239 then 2048 else if 240≤b∧b≤247 then 65536 else 0
def vC (b:Nat):Int:=if 192≤b∧b≤223 then b-192 else if 224≤b∧b≤239 then b-224 else if 240≤b∧b≤247 then b-240 else b
def cont (s:List UInt8) (v:Int):Nat→Int
 |0=>v
 |j+1=>cont s v j*64+byteAt s (j+1)-128
def contOk (s:List UInt8):Nat→Bool
 |0=>true
 |j+1=>contOk s j&&decide (128≤byteAt s (j+1)∧byteAt s (j+1)≤191)
theorem cont_bd (s:List UInt8) (v:Int) (h0:0≤v) (h1:v≤255):∀ j,j≤3→contOk s j=true→0≤cont s v j∧cont s v j+1≤300*64 ^ j
 |0,_,_=>by simp [cont];omega
 |j+1,hj,hk=>by
  simp only [contOk,Bool.and_eq_true,aj] at hk
  have:=cont_bd s v h0 h1 j z2_ hk.1
  have e:(64:Int) ^ (j+1)=64 ^ j*64:=by rw [Int.pow_succ]
  have hp:(1:Int)≤64 ^ j:=Int.pow_pos bJ
  have hb:=bK s (j+1)
  simp only [cont]
  omega
theorem nN (s:List UInt8) {k:Nat}:∀ {m},k≤m→contOk s k=false→contOk s m=false
 |0,h,e=>by have:k=0:=z2_;subst this;exact e
 |m+1,h,e=>by
  by_cases hk:k=m+1
  ·subst hk;exact e
  ·simp only [contOk,nN s (k:=k) (m:=m) z2_ e,Bool.false_and]
theorem contOk_no (s:List UInt8) (j:Nat) (h:¬ (128≤byteAt s (j+1)∧byteAt s (j+1)≤191)):contOk s (j+1)=false:=by
 simp only [contOk,am h,Bool.and_false]
def charM (s:List UInt8):Int×Int :=
 if byteAt s 0<128 then(byteAt s 0,1) else if nC (byteAt s 0)=0∨(s.length:Int)<nC (byteAt s 0) then(0,0)
 else if contOk s (nC (byteAt s 0)-1).toNat=false then(0,0)
 else if cont s (vC (byteAt s 0)) (nC (byteAt s 0)-1).toNat<lC (byteAt s 0)∨1114111<cont s (vC (byteAt s 0)) (nC (byteAt s 0)-1).toNat∨(55296≤cont s (vC (byteAt s 0)) (nC (byteAt s 0)-1).toNat∧cont s (vC (byteAt s 0)) (nC (byteAt s 0)-1).toNat≤57343) then(0,0)
 else(cont s (vC (byteAt s 0)) (nC (byteAt s 0)-1).toNat,nC (byteAt s 0))
theorem dec_s (s:List UInt8):Go.Lib.decodeL s=Go.Lib.decodeN s.length (byteAt s 0) (byteAt s 1) (byteAt s 2) (byteAt s 3):=by
 unfold Go.Lib.decodeL
 rw [Go.Lib.decode_at]
 simp only [get!_list,j9,Nat.sub_zero,Nat.zero_add]
 rfl
def charR (s:List UInt8):Int×Int:=if chr s=65533∧wid s=1 then(0,0) else(chr s,wid s)
theorem oQ {D:Nat×Nat}{a b:Nat}(h:D=(a,b)) (hb:b≠1):(if D.1=65533∧D.2=1 then((0,0):Int×Int) else(D.1,D.2))=((a:Int),(b:Int)):=by
 subst h;rw [if_neg (fun k=>hb k.2)]
theorem jM {D:Nat×Nat}(h:D=(65533,1)):(if D.1=65533∧D.2=1 then((0,0):Int×Int) else(D.1,D.2))=(0,0):=by
 subst h;rfl
theorem charM_eq (s:List UInt8) (h:s≠[]):charM s=charR s:=by
 have hl:=List.length_pos_iff.2 h
 have h0:=bK s 0;have h1:=bK s 1;have h2:=bK s 2;have h3:=bK s 3
 unfold charR
 simp only [chr,wid,dec_s]
 generalize hb0:byteAt s 0=b0 at *
 generalize hb1:byteAt s 1=b1 at *
 generalize hb2:byteAt s 2=b2 at *
 generalize hb3:byteAt s 3=b3 at *
 unfold charM
 rw [hb0]
 by_cases c0:b0<128
 ·rw [if_pos c0]
  simp only [Go.Lib.decodeN,if_pos c0]
  rw [if_neg z2_]
  rfl
 ·rw [if_neg c0]
  by_cases c2:192≤b0∧b0≤223
  ·have hn:nC b0=2:=if_pos c2
   have hv:vC b0=b0-192:=if_pos c2
   have hll:lC b0=128:=if_pos c2
   rw [hn,hv,hll]
   simp only [show((2:Int)-1).toNat=1 from rfl,contOk,cont,Bool.true_and,Nat.zero_add,hb1,decide_eq_false_iff_not]
   by_cases k1:1<s.length∧b1 / 64=2
   ·have e:b0 / 32=6∧1<s.length∧b1 / 64=2:=⟨by omega,k1⟩
    by_cases g:b0 % 32*64+b1 % 64≥128
    ·rw [oQ (a:=b0 % 32*64+b1 % 64) (b:=2) (by unfold Go.Lib.decodeN;rw [if_neg c0,if_pos e,if_pos g]) bJ,if_neg z2_,if_neg z2_,if_neg z2_]
     simp only [Prod.mk.injEq]
     omega
    ·rw [jM (by unfold Go.Lib.decodeN;rw [if_neg c0,if_pos e,if_neg g]),if_neg z2_,if_neg z2_,if_pos z2_]
   ·rw [jM (by unfold Go.Lib.decodeN;rw [if_neg c0,if_neg z2_,if_neg z2_,if_neg z2_])]
    split
    ·rfl
    ·rw [if_pos z2_]
  ·by_cases c3:224≤b0∧b0≤239
   ·have hn:nC b0=3:=by unfold nC;rw [if_neg c2,if_pos c3]
    have hv:vC b0=b0-224:=by unfold vC;rw [if_neg c2,if_pos c3]
    have hll:lC b0=2048:=by unfold lC;rw [if_neg c2,if_pos c3]
    rw [hn,hv,hll]
    simp only [show((3:Int)-1).toNat=2 from rfl,contOk,cont,Bool.true_and,Nat.zero_add,hb1,hb2,Bool.and_eq_false_iff,decide_eq_false_iff_not,Nat.reduceAdd]
    by_cases k1:(1<s.length∧b1 / 64=2)∧(2<s.length∧b2 / 64=2)
    ·have e:b0 / 16=14∧(1<s.length∧b1 / 64=2)∧(2<s.length∧b2 / 64=2):=⟨by omega,k1⟩
     by_cases g:b0 % 16*4096+b1 % 64*64+b2 % 64≥2048∧(b0 % 16*4096+b1 % 64*64+b2 % 64<55296∨(57344≤b0 % 16*4096+b1 % 64*64+b2 % 64∧b0 % 16*4096+b1 % 64*64+b2 % 64≤1114111))
     ·rw [oQ (a:=b0 % 16*4096+b1 % 64*64+b2 % 64) (b:=3) (by unfold Go.Lib.decodeN;rw [if_neg c0,if_neg z2_,if_pos e,if_pos g]) bJ,if_neg z2_,if_neg z2_,if_neg z2_]
      simp only [Prod.mk.injEq]
      omega
     ·rw [jM (by unfold Go.Lib.decodeN;rw [if_neg c0,if_neg z2_,if_pos e,if_neg g]),if_neg z2_,if_neg z2_,if_pos z2_]
    ·rw [jM (by unfold Go.Lib.decodeN;rw [if_neg c0,if_neg z2_,if_neg z2_,if_neg z2_])]
     split
     ·rfl
     ·rw [if_pos z2_]
   ·by_cases c4:240≤b0∧b0≤247
    ·have hn:nC b0=4:=by unfold nC;rw [if_neg c2,if_neg c3,if_pos c4]
     have hv:vC b0=b0-240:=by unfold vC;rw [if_neg c2,if_neg c3,if_pos c4]
     have hll:lC b0=65536:=by unfold lC;rw [if_neg c2,if_neg c3,if_pos c4]
     rw [hn,hv,hll]
     simp only [show((4:Int)-1).toNat=3 from rfl,contOk,cont,Bool.true_and,Nat.zero_add,hb1,hb2,hb3,Bool.and_eq_false_iff,decide_eq_false_iff_not,Nat.reduceAdd]
     by_cases k1:(1<s.length∧b1 / 64=2)∧(2<s.length∧b2 / 64=2)∧(3<s.length∧b3 / 64=2)
     ·have e:b0 / 8=30∧(1<s.length∧b1 / 64=2)∧(2<s.length∧b2 / 64=2)∧(3<s.length∧b3 / 64=2):=⟨by omega,k1⟩
      by_cases g:b0 % 8*262144+b1 % 64*4096+b2 % 64*64+b3 % 64≥65536∧(b0 % 8*262144+b1 % 64*4096+b2 % 64*64+b3 % 64<55296∨(57344≤b0 % 8*262144+b1 % 64*4096+b2 % 64*64+b3 % 64∧b0 % 8*262144+b1 % 64*4096+b2 % 64*64+b3 % 64≤1114111))
      ·rw [oQ (a:=b0 % 8*262144+b1 % 64*4096+b2 % 64*64+b3 % 64) (b:=4) (by unfold Go.Lib.decodeN;rw [if_neg c0,if_neg z2_,if_neg z2_,if_pos e,if_pos g]) bJ,if_neg z2_,if_neg z2_,if_neg z2_]
       simp only [Prod.mk.injEq]
       omega
      ·rw [jM (by unfold Go.Lib.decodeN;rw [if_neg c0,if_neg z2_,if_neg z2_,if_pos e,if_neg g]),if_neg z2_,if_neg z2_,if_pos z2_]
     ·rw [jM (by unfold Go.Lib.decodeN;rw [if_neg c0,if_neg z2_,if_neg z2_,if_neg z2_])]
      split
      ·rfl
      ·rw [if_pos z2_]
    ·have hn:nC b0=0:=by unfold nC;rw [if_neg c2,if_neg c3,if_neg c4]
     rw [hn,if_pos (.inl rfl),jM]
     unfold Go.Lib.decodeN
     rw [if_neg c0,if_neg z2_,if_neg z2_,if_neg z2_]
theorem nC_bd (b:Nat) (h:b<256) (h1:128≤b):(nC b=0∨2≤nC b)∧nC b≤4∧0≤vC b∧vC b≤255∧0≤lC b∧lC b≤65536:=by
 unfold nC vC lC
 (repeat' split)<;>omega
theorem char_fn (s:List UInt8) (h:Part) (hs:s≠[]) (hl:s.length≤140737488355328):Pure Tryz.prog 237 [.string ⟨s.toArray⟩] h (.tuple #[.int .i64 (charR s).1,.int .i64 (charR s).2]):=by
 have hs1:=List.length_pos_iff.2 hs
 have hb:=bK s 0
 have hb0:byteAt s 0=(s.getD 0 0).toNat:=rfl
 rw [← charM_eq s hs]
 refine aG Tryz.func237 rfl Tryz.ntmps237 rfl (fun e he=>?_)
 refine aU [(0,_)] ⟨rfl,trivial⟩ ?_
 refine Sr (Ru 2 rfl (a_ (Sr (Ru 1 rfl (ae (bj d_ rfl rfl (show _=((0:Nat):Int) from rfl) z2_) rfl ?_)))))
 refine ae j8 rfl ?_
 refine Ru 1 rfl (a_ (aw (Sr (Ru 2 rfl (a_ (Cs rfl (fun hc1=>?_) fun hc1=>?_))))))
 ·have hcm:charM s=((byteAt s 0:Int),1):=(by unfold charM;rw [if_pos z2_])
  exact Sr (Ru 3 rfl (Nk [3,2,4,0] rfl (az (aS rfl rfl rfl) (by rw [hcm];rfl) rfl)))
 have hnb:=nC_bd (byteAt s 0) hb z2_
 refine ax (Kp [4,3,2,0] rfl (Sr (Ru 1 rfl ?_)))
 refine a_ (Sr (Ru 1 rfl (a_ (aw (aE (Sr (Ru 1 rfl (aV eN rfl (cI _ _ _ _) rfl ?_))))))))
 refine Ru 1 rfl (a_ (cj [(5,.int .i64 (nC (byteAt s 0))),(6,.int .i64 (lC (byteAt s 0))),(4,.int .i64 (vC (byteAt s 0)))] [(3,_),(2,_),(0,_)] ⟨rfl,rfl,rfl,trivial⟩ ?_ ?_))
 ·refine Cs rfl (fun hc3=>?_) fun hc3=>?_
  ·refine Rg (Ru 1 rfl (ae si_ rfl ?_))
   refine Ru 3 rfl (a_ (⟨rfl,rfl,?_⟩))
   exact z35_
  refine Sr (Ru 1 rfl (aV eN rfl (cI _ _ _ _) rfl ?_))
  refine Ru 1 rfl (Nk [20,6,5,4,3,2,0] rfl (Cs rfl (fun hc5=>?_) fun hc5=>?_))
  ·refine Rg (Ru 1 rfl (ae si_ rfl ?_))
   refine Ru 3 rfl (a_ (⟨rfl,rfl,?_⟩))
   exact z35_
  refine Sr (Ru 1 rfl (aV eN rfl (cI _ _ _ _) rfl ?_))
  refine Ru 1 rfl (a_ (Cs rfl (fun hc7=>?_) fun hc7=>?_))
  ·refine Rg (Ru 1 rfl (ae si_ rfl ?_))
   refine Ru 3 rfl (a_ (⟨rfl,rfl,?_⟩))
   exact z35_
  refine ax (⟨rfl,rfl,?_⟩)
  exact z35_
 refine aw (Sr (Ru 3 rfl ?_))
 apply On 32 37 5 [5,6,4,3,2,0] rfl rfl
 rotate_left
 ·intro hb8 hc8
  refine Ru 1 rfl (aH rfl rfl  (bY d_ rfl) rfl ?_)
  exact Ru 3 rfl (Ae (om_f hb8 rfl) rfl)
 rotate_right
 ·exact fun hb8 _=>Ru 5 rfl (Ae (om_t hb8 rfl) rfl)
 refine a_ (Cs rfl (fun hc9=>?_) fun hc9=>?_)
 ·have hcm:charM s=(0,0):=(by unfold charM;rw [if_neg z2_,if_pos z2_])
  exact Sr (Ru 2 rfl (a_ (az (aS rfl rfl rfl) (by rw [hcm]) rfl)))
 refine ax (aw (Sr (Ru 1 rfl (a_ (aE (bC (fun t_ S_ h_ L_=>∃ (j:Nat),t_=5-j∧S_=[(0,.string ⟨s.toArray⟩),(4,.int .i64 (cont s (vC (byteAt s 0)) j)),(5,.int .i64 (nC (byteAt s 0))),(6,.int .i64 (lC (byteAt s 0))),(7,.int .i64 ((j:Int)+1))]∧h=h_∧L_=[]∧((j:Int)+1≤nC (byteAt s 0)∧contOk s j=true)) ⟨_,_,?_,⟨0,rfl,rfl,rfl,rfl,⟨by omega,rfl⟩⟩⟩ ?_))))))
 ·exact z7_
 rintro _ _ _ _ ⟨j,rfl,rfl,rfl,rfl,hj,hok⟩
 have hcb:=cont_bd s (vC (byteAt s 0)) z2_ z2_ j z2_ hok;have hbj:=bK s (j+1);have hbj0:byteAt s (j+1)=(s.getD (j+1) 0).toNat:=rfl;have hp:(64:Int) ^ j≤262144:=(by have:j=0∨j=1∨j=2∨j=3:=z2_;rcases this with rfl|rfl|rfl|rfl<;>decide)
 refine aw (Sr (Ru 3 rfl (a_ (Cs rfl (fun hc10=>?_) fun hc10=>?_))))
 ·refine ax (aw (aE (Sr (Ru 2 rfl (ae (bj (m:=j+1) d_ rfl rfl z2_ z2_) rfl ?_)))))
  refine ae j8 rfl ?_
  refine Ru 1 rfl (a_ (aw (Sr (Ru 1 rfl (aV eN rfl (cI _ _ _ _) rfl ?_)))))
  refine Ru 1 rfl (a_ (Cs rfl (fun hc12=>?_) fun hc12=>?_))
  ·have hcm:charM s=(0,0):=(by unfold charM;rw [if_neg z2_,if_neg z2_,if_pos (nN s (k:=j+1) z2_ (contOk_no s j z2_))])
   exact Sr (Ru 2 rfl (a_ (az (aS rfl rfl rfl) (by rw [hcm]) rfl)))
  refine ax (Rg (Ru 1 rfl (ae im rfl ?_)))
  refine Ru 1 rfl (ae ai_ rfl ?_)
  refine ae si_ rfl ?_
  refine Ru 1 rfl (a_ (Rg (Ru 1 rfl (ae ai_ rfl ?_))))
  refine Ru 1 rfl (a_ (⟨_,?_,_,?_,⟨j+1,rfl,rfl,rfl,rfl,⟨by omega,by simp only [contOk,hok,Bool.true_and];exact an z2_⟩⟩⟩))
  ·omega
  exact z7_
 have hjn:(nC (byteAt s 0)-1).toNat=j:=z2_
 refine bx (Kp [4,5,6] rfl (aw (Sr (Ru 4 rfl ?_))))
 apply On 58 61 3 [4,5] rfl rfl
 rotate_left
 ·intro hb13 hc13
  exact Ru 3 rfl (Ae (om_f hb13 rfl) rfl)
 rotate_right
 ·exact fun hb13 _=>Ru 3 rfl (Ae (om_t hb13 rfl) rfl)
 refine Ru 1 rfl ?_
 apply On 62 65 3 [4,5] rfl rfl
 rotate_left
 ·intro hb14 hc14
  refine Ru 1 rfl (cE rfl rfl  eN rfl (cI _ _ _ _) rfl ?_)
  exact Ru 1 rfl (Ae (om_f hb14 rfl) rfl)
 rotate_right
 ·exact fun hb14 _=>Ru 3 rfl (Ae (om_t hb14 rfl) rfl)
 refine a_ (Cs rfl (fun hc16=>?_) fun hc16=>?_)
 ·have hcm:charM s=(0,0):=(by unfold charM;rw [if_neg z2_,if_neg z2_,hjn,if_neg (by rw [hok];decide),if_pos z2_])
  exact Sr (Ru 2 rfl (a_ (az (aS rfl rfl rfl) (by rw [hcm]) rfl)))
 have hcm:charM s=(cont s (vC (byteAt s 0)) j,nC (byteAt s 0)):=(by unfold charM;rw [if_neg z2_,if_neg z2_,hjn,if_neg (by rw [hok];decide),if_neg z2_])
 exact ax (Sr (Ru 4 rfl (Nk [3,2] rfl (az (aS rfl rfl rfl) (by rw [hcm]) rfl))))
theorem rutf8_fn (s:List UInt8) (h:Part) (hl:s.length≤140737488355328):Pure Tryz.prog 194 [.string ⟨s.toArray⟩] h (.bool (runes (fun c n=>!decide (c=65533∧n=1)) s 0)):=by
 refine aG Tryz.func194 rfl Tryz.ntmps194 rfl (fun e he=>?_)
 refine aU [(0,_)] ⟨rfl,trivial⟩ ?_
 refine Sr (Ru 1 rfl (a_ (aw (Sr (Ru 1 rfl (a_ (aE (bC (fun t_ S_ h_ L_=>∃ (p:Nat),t_=s.length-p∧S_=[(0,.string ⟨s.toArray⟩),(3,.int .i64 p)]∧h=h_∧L_=[]∧(p≤s.length∧runes (fun c n=>!decide (c=65533∧n=1)) s 0=runes (fun c n=>!decide (c=65533∧n=1)) (s.drop p) 0)) ⟨_,_,?_,⟨0,rfl,rfl,rfl,rfl,⟨by omega,rfl⟩⟩⟩ ?_))))))))
 ·exact gp
 rintro _ _ _ _ ⟨p,rfl,rfl,rfl,rfl,hp,hq⟩
 refine aw (Sr (Ru 2 rfl (ae (bY d_ rfl) rfl ?_)))
 refine Ru 1 rfl (a_ (Cs rfl (fun hc1=>?_) fun hc1=>?_))
 ·have hne:s.drop p≠[]:=(by intro hh;have:=congrArg List.length hh;simp at this;omega);have hw:=io (s.drop p);have hwl:=wid_le (s.drop p) hne;have hst:=bP (fun c n=>!decide (c=65533∧n=1)) s p z2_;rw [bm] at hwl;obtain⟨cc,cn,hcr⟩:∃ a b,charR (s.drop p)=(a,b):=⟨_,_,rfl⟩;have hcr2:=hcr;unfold charR at hcr2
  refine ax (aE (Sr (Ru 2 rfl (ae (RunV.strCut_l d_ rfl rfl eD z2_) rfl ?_))))
  refine aV ca_237 rfl (char_fn _ _ z5_ (by try (simp only [bm]);omega)) rfl ?_
  rw [hcr]
  refine Ru 5 rfl (a_ (aw (Sr (Ru 2 rfl (a_ (Cs rfl (fun hc3=>?_) fun hc3=>?_))))))
  ·have hz:chr (s.drop p)=65533∧wid (s.drop p)=1:=(by by_cases hz:chr (s.drop p)=65533∧wid (s.drop p)=1;exact hz;rw [if_neg hz] at hcr2;injection hcr2 with q1 q2;omega)
   exact Sr (Ru 1 rfl (a_ (az (au rfl rfl) (by rw [hq,hst,an hz];rfl) rfl)))
  have hz:¬ (chr (s.drop p)=65533∧wid (s.drop p)=1):=(fun hz=>by rw [if_pos hz] at hcr2;injection hcr2 with q1 q2;omega);rw [if_neg hz] at hcr2;injection hcr2 with q1 q2
  refine ax (Rg (Ru 2 rfl (ae ai_ rfl ?_)))
  refine Ru 1 rfl (a_ (⟨_,?_,_,?_,⟨p+wid (s.drop p),rfl,rfl,rfl,rfl,⟨by omega,by rw [hq,hst,am hz];rfl⟩⟩⟩))
  ·omega
  exact gp
 exact bx (Kp [] rfl (Sr (Ru 1 rfl (a_ (az (au rfl rfl) (by rw [hq,eH _ _ _ z2_]) rfl)))))
theorem mM {P:Nat→Bool}(hP:∀ c,P c=true→c<128):∀ (n:Nat) (s:List UInt8),s.length≤n→runes (fun c _=>P c) s 0=s.all fun b=>P b.toNat:=by
 intro n
 induction n with
 |zero=>intro s hs;have:s=[]:=List.eq_nil_of_length_eq_zero z2_;subst this;rfl
 |succ n ih =>
  intro s hs
  cases s with
  |nil=>rfl
  |cons b r =>
   have h0:byteAt (b::r) 0=b.toNat:=rfl
   by_cases hb:b.toNat<128
   ·have hd:Go.Lib.decodeL (b::r)=(b.toNat,1):=by rw [dec_s,h0];unfold Go.Lib.decodeN;rw [if_pos hb]
    have hc:chr (b::r)=b.toNat:=by show(Go.Lib.decodeL (b::r)).1=_;rw [hd]
    have hw:wid (b::r)=1:=by show(Go.Lib.decodeL (b::r)).2=_;rw [hd]
    simp only [runes,hc,hw,Nat.sub_self,List.all_cons]
    rw [ih r (by simp at hs;omega)]
   ·have hf:P b.toNat=false:=by
     cases hp:P b.toNat with
     |false=>rfl
     |true=>exact absurd (hP _ hp) hb
    have hc:128≤chr (b::r):=by
     show 128≤(Go.Lib.decodeL (b::r)).1
     rw [dec_s,h0]
     unfold Go.Lib.decodeN
     rw [if_neg hb]
     (repeat' split)<;>simp<;>omega
    have hf2:P (chr (b::r))=false:=by
     cases hp:P (chr (b::r)) with
     |false=>rfl
     |true=>have:=hP _ hp;omega
    simp only [runes,hf2,Bool.false_and,List.all_cons,hf]
theorem ru (P:Nat→Bool) (s:List UInt8) (p:Nat) (h:p<s.length):((s.drop p).all fun b=>P b.toNat)=(P (byteAt s p)&&(s.drop (p+1)).all fun b=>P b.toNat):=by
 rw [aT h,List.all_cons,bv s p h]
theorem ria5_fn (s:List UInt8) (h:Part) (hl:s.length≤140737488355328):Pure Tryz.prog 196 [.string ⟨s.toArray⟩] h (.bool (runes (fun c _=>decide (c≤127)) s 0)):=by
 rw [mM (P:=fun c=>decide (c≤127)) (fun c hc=>by have:=of_decide_eq_true hc;omega) _ s (aD _)]
 refine aG Tryz.func196 rfl Tryz.ntmps196 rfl (fun e he=>?_)
 refine aU [(0,_)] ⟨rfl,trivial⟩ ?_
 refine Sr (Ru 1 rfl (a_ (aw (Sr (Ru 1 rfl (a_ (aE (bC (fun t_ S_ h_ L_=>∃ (p:Nat),t_=s.length-p∧S_=[(0,.string ⟨s.toArray⟩),(3,.int .i64 p)]∧h=h_∧L_=[]∧(p≤s.length∧(s.all fun b=>decide (b.toNat≤127))=(s.drop p).all fun b=>decide (b.toNat≤127))) ⟨_,_,?_,⟨0,rfl,rfl,rfl,rfl,⟨by omega,rfl⟩⟩⟩ ?_))))))))
 ·exact z7_
 rintro _ _ _ _ ⟨p,rfl,rfl,rfl,rfl,hp,hq⟩
 refine aw (Sr (Ru 2 rfl (ae (bY d_ rfl) rfl ?_)))
 refine Ru 1 rfl (a_ (Cs rfl (fun hc1=>?_) fun hc1=>?_))
 ·have hst:=ru (fun c=>decide (c≤127)) s p z2_
  refine ax (aw (aE (Sr (Ru 2 rfl (ae (bj d_ rfl rfl eD z2_) rfl ?_)))))
  refine Ru 1 rfl (a_ (Cs rfl (fun hc2=>?_) fun hc2=>?_))
  ·exact Sr (Ru 1 rfl (a_ (az (au rfl rfl) (by rw [hq,hst,am z2_];rfl) rfl)))
  refine ax (Rg (Ru 1 rfl (ae ai_ rfl ?_)))
  refine Ru 1 rfl (a_ (⟨_,?_,_,?_,⟨p+1,rfl,rfl,rfl,rfl,⟨by omega,by rw [hq,hst,an z2_,Bool.true_and]⟩⟩⟩))
  ·omega
  exact z7_
 exact bx (Kp [] rfl (Sr (Ru 1 rfl (a_ (az (au rfl rfl) (by rw [hq,List.drop_of_length_le z2_];rfl) rfl)))))
end
section
theorem z8_ {p:Prop}(u:p:=by repeat (first|exact trivial|refine⟨rfl,?_⟩|refine⟨(by exact cy (by first|exact decide_eq_decide.2 z2_|exact(am z2_).symm|exact(an z2_).symm)),?_⟩)):p:=u
theorem z20_ {p:Prop}(u:p:=by repeat (first|exact trivial|refine⟨rfl,?_⟩|refine⟨(by exact cy (by rw [qv];first|(have q0:=e0 z2_;have q1:=e1 z2_;first|exact decide_eq_decide.2 z2_|exact(am z2_).symm|exact(an z2_).symm)|exact(am z2_).symm)),?_⟩)):p:=u
theorem z32_ {p:Prop}(u:p:=by repeat (first|exact trivial|refine⟨rfl,?_⟩|refine⟨(by exact cy (by first|exact decide_eq_decide.2 z2_|exact(am z2_).symm|exact(an z2_).symm|(rw [eq_comm];exact an z2_)|(rw [eq_comm];exact am z2_))),?_⟩)):p:=u
theorem z48_ {p:Prop}(u:p:=by repeat (first|exact trivial|refine⟨rfl,?_⟩|refine⟨(by exact cm (by first|rfl|(rw [gW s i z2_];omega))),?_⟩)):p:=u
end
section
set_option maxRecDepth 100000
theorem ca_155:callT Tryz.prog 155=true:=by kernel_rfl
theorem ca_167:callT Tryz.prog 167=true:=by kernel_rfl
theorem ca_199:callT Tryz.prog 199=true:=by kernel_rfl
theorem ca_200:callT Tryz.prog 200=true:=by kernel_rfl
theorem ca_241:callT Tryz.prog 241=true:=by kernel_rfl
theorem dgo_stop {f m len least:Nat}(h:¬ (0<m∨len<least)):dgo f m len least=[]:=dgo_end h
theorem rT {n least:Nat}{h:Part}(hn:n<18446744073709551616) (hl:least≤20):Pure Tryz.prog 167 [.int .u64 n,.int .i64 least] h (.string ⟨(dgs n least).toArray⟩):=by
 refine Pure.ofV ?_
 refine aG Tryz.func167 rfl Tryz.ntmps167 rfl (fun e he=>?_)
 refine aU [(0,_),(1,_)] ⟨rfl,rfl,trivial⟩ ?_
 have hh0:=aO h
 refine Sr (Ru 1 rfl (a_ (Sr (Ru 1 rfl (a_ (aw (aE (bC (fun t_ S_ h_ L_=>∃ (g:Part) (f m:Nat) (s:List UInt8),t_=f+m∧S_=[(0,.int .u64 m),(1,.int .i64 least),(5,.string ⟨s.toArray⟩)]∧g=h_∧L_=[]∧(h.le g∧s.length+f=20∧m<18446744073709551616∧m<10 ^ f∧dgs n least=dgo f m s.length least++s)) ⟨_,_,?_,⟨_,20,n,[],rfl,rfl,rfl,rfl,⟨by assumption,rfl,hn,by simp only [Nat.reducePow];omega,by simp [dgs]⟩⟩⟩ ?_))))))))
 ·exact z7_
 rintro _ _ _ _ ⟨g,f,m,s,rfl,rfl,rfl,rfl,hhg,hf,hm1,hm,he⟩
 refine aw (aw (cj [(13,.bool (decide (0<m∨s.length<least)))] [(0,_),(1,_),(5,_)] ⟨rfl,rfl,rfl,trivial⟩ ?_ ?_))
 ·refine Rg (Ru 3 rfl (Bs 8 rfl (fun hc1=>?_) fun hc1=>?_))
  ·refine Ru 5 rfl (a_ (⟨rfl,rfl,?_⟩))
   exact z8_
  refine Ru 1 rfl (aH rfl rfl  (bY d_ rfl) rfl ?_)
  refine Ru 3 rfl (a_ (⟨rfl,rfl,?_⟩))
  exact z8_
 refine Cs rfl (fun hc2=>?_) fun hc2=>?_
 ·obtain⟨f',rfl⟩:∃ f',f=f'+1:=⟨f-1,by have:f≠0:=(by rintro rfl;simp at hm;omega);omega⟩;rw [Nat.pow_succ] at hm
  refine ax (aE (Sr (Ru 1 rfl (ae (by first|exact RunV.rem_u64 rfl rfl z2_ z2_|exact RunV.rem rfl rfl z2_) rfl ?_))))
  refine ae (by first|exact RunV.add_u64 rfl rfl z2_ z2_|exact RunV.add rfl rfl) rfl ?_
  refine ae (cx (48+m % 10) eZ rfl z2_) rfl ?_
  refine ct cP mC rfl rfl rfl rfl rfl (fun b3=>?_)
  refine JL.pubB (R:=u8R) (sz:=1) (l:=[UInt8.ofNat (48+m % 10)]) dl_ (nQ (by first|kernel_rfl|rfl)) (by first|decide|omega|(simp;done)) (fun h4 hle4 hQ=>?_)
  replace hhg:=hhg.mono hle4
  refine ae (cG (l:=[UInt8.ofNat (48+m % 10)]) dq rfl hQ rfl) rfl ?_
  refine Ru 1 rfl (ae (RunV.addS rfl rfl (by simp;omega)) rfl ?_)
  refine Ru 1 rfl (a_ (Rg (Ru 1 rfl (ae z37_ rfl ?_))))
  refine Ru 1 rfl (a_ (⟨_,?_,_,?_,⟨_,f',m / 10,[UInt8.ofNat (48+m % 10)]++s,rfl,rfl,rfl,rfl,⟨by assumption,by simp;omega,by omega,by omega,by rw [he,dgo,if_pos z2_];simp⟩⟩⟩))
  ·omega
  exact z7_
 have hds:dgs n least=s:=(by rw [he,dgo_stop z2_];rfl)
 exact bx (Sr (Ru 2 rfl (Nk [4] rfl (J.retV (au rfl rfl) (by rw [hds])))))
theorem gv {n least:Nat}{N Q:Int}{h:Part}(hN:N=(n:Int)) (hQ:Q=(least:Int)) (hn:n<18446744073709551616) (hl:least≤20):Pure Tryz.prog 167 [.int .u64 N,.int .i64 Q] h (.string ⟨(dgs n least).toArray⟩):=by
 subst hN hQ;exact rT hn hl
def numR (s:List UInt8):Nat:=if numBad s||!s.all dig then 0 else numV s
theorem numR_bad {s:List UInt8}(h:s.length=0∨19<s.length∨1<s.length∧byteAt s 0=48):numR s=0∧numB s=none:=by
 have hb:numBad s=true:=an h
 simp [numR,numB,hb]
theorem numR_no {s:List UInt8}{i:Nat}(h:i<s.length) (hd:¬ (48≤byteAt s i∧byteAt s i≤57)):numR s=0∧numB s=none:=by
 have hb:s.all dig=false:=by
  rw [List.all_eq_false]
  refine⟨s[i],aL _,?_⟩
  have e:=bv s i h
  unfold dig
  rw [am z2_]
  decide
 unfold numR numB;rw [hb];simp
theorem numR_ok {s:List UInt8}(h:¬ (s.length=0∨19<s.length∨1<s.length∧byteAt s 0=48)) (hd:s.all dig=true):numR s=numV s∧(numB s).isSome=decide (numV s<9223372036854775808):=by
 have hb:numBad s=false:=am h
 unfold numR numB;rw [hb,hd]
 simp only [Bool.not_true,Bool.or_self,bO,if_false]
 refine⟨trivial,?_⟩
 split
 ·rename_i hh;rw [an hh];rfl
 ·rename_i hh;rw [am hh];rfl
theorem gW (s:List UInt8) (i:Nat) (h:i<s.length):numV (s.take (i+1))=numV (s.take i)*10+(byteAt s i-48):=by
 rw [av h,gX,bv s i h]
theorem mB (s:List UInt8) (i:Nat) (h:i<s.length):(s.take (i+1)).all dig=((s.take i).all dig&&decide (48≤byteAt s i∧byteAt s i≤57)):=by
 rw [av h,List.all_append]
 simp [dig,bv s i h]
theorem rO (s:List UInt8) (h:Part) (hl:s.length≤140737488355328):Pure Tryz.prog 241 [.string ⟨s.toArray⟩] h (.tuple #[.int .u64 (numR s:Nat),.bool (numB s).isSome]):=by
 have hb0:byteAt s 0=(s.getD 0 0).toNat:=rfl
 refine aG Tryz.func241 rfl Tryz.ntmps241 rfl (fun e he=>?_)
 refine aU [(0,_)] ⟨rfl,trivial⟩ ?_
 refine Sr (Ru 2 rfl (a_ (aw (aw (cj [(23,.bool (decide (s.length=0∨19<s.length∨1<s.length∧byteAt s 0=48)))] [(3,_),(2,_),(0,_)] ⟨rfl,rfl,rfl,trivial⟩ ?_ ?_)))))
 ·refine Rg (Ru 1 rfl (ae (bY d_ rfl) rfl ?_))
  refine Ru 2 rfl (Bs 9 rfl (fun hc1=>?_) fun hc1=>?_)
  ·refine Ru 14 rfl (a_ (⟨rfl,rfl,?_⟩))
   exact z32_
  refine Ru 1 rfl (aH rfl rfl  (bY d_ rfl) rfl ?_)
  refine Ru 3 rfl (Bs 14 rfl (fun hc2=>?_) fun hc2=>?_)
  ·refine Ru 9 rfl (a_ (⟨rfl,rfl,?_⟩))
   exact z32_
  refine Ru 1 rfl (aH rfl rfl  (bY d_ rfl) rfl ?_)
  refine Ru 2 rfl (Bs 18 rfl (fun hc3=>?_) fun hc3=>?_)
  ·refine Ru 1 rfl (aH rfl rfl  (bj d_ rfl rfl (show _=((0:Nat):Int) from rfl) z2_) rfl ?_)
   refine Ru 3 rfl (a_ (⟨rfl,rfl,?_⟩))
   exact z32_
  refine Ru 5 rfl (a_ (⟨rfl,rfl,?_⟩))
  exact z32_
 refine Cs rfl (fun hc4=>?_) fun hc4=>?_
 ·have hnr:=numR_bad hc4
  exact Sr (Ru 2 rfl (a_ (az (aS rfl rfl rfl) (by rw [hnr.1,hnr.2];rfl) rfl)))
 have hok:=hc4
 refine ax ?_
 refine Sr (Ru 1 rfl (a_ (aw (Sr (Ru 1 rfl (a_ (aE (bC (fun t_ S_ h_ L_=>∃ (i:Nat),t_=s.length-i∧S_=[(0,.string ⟨s.toArray⟩),(4,.int .u64 (numV (s.take i):Nat)),(5,.int .i64 i)]∧h=h_∧L_=[]∧(i≤s.length∧(s.take i).all dig=true∧numV (s.take i)<10 ^ i)) ⟨_,_,?_,⟨0,rfl,rfl,rfl,rfl,⟨by omega,by simp,by simp [numV]⟩⟩⟩ ?_))))))))
 ·exact z48_
 rintro _ _ _ _ ⟨i,rfl,rfl,rfl,rfl,hi,hd,hv⟩
 refine aw (Sr (Ru 2 rfl (ae (bY d_ rfl) rfl ?_)))
 refine Ru 1 rfl (a_ (Cs rfl (fun hc5=>?_) fun hc5=>?_))
 ·have hi':i<s.length:=z2_;have hst:=gW s i hi';have hat:=mB s i hi';have hp:10 ^ i≤1000000000000000000:=Nat.le_trans (Nat.pow_le_pow_right bJ (show i≤18 by omega)) bJ;have hbl:=bK s i;have hbi:byteAt s i=(s.getD i 0).toNat:=rfl
  refine ax (aw (aE (aw (Sr (Ru 2 rfl (ae (bj (m:=i) d_ rfl rfl z2_ z2_) rfl ?_))))))
  refine ae j8 rfl ?_
  refine aV eN rfl (cI _ _ _ _) rfl ?_
  refine Ru 1 rfl (a_ (Cs rfl (fun hc7=>?_) fun hc7=>?_))
  ·have hnr:=numR_no hi' (show ¬ (48≤byteAt s i∧byteAt s i≤57) by omega)
   exact Sr (Ru 2 rfl (a_ (az (aS rfl rfl rfl) (by rw [hnr.1,hnr.2];rfl) rfl)))
  refine ax (Rg (Ru 1 rfl (ae (by first|exact RunV.mul_u64 rfl rfl z2_ z2_|exact RunV.mul rfl rfl) rfl ?_)))
  refine Ru 2 rfl (ae (bj (m:=i) d_ rfl rfl z2_ z2_) rfl ?_)
  refine ae (by first|exact RunV.sub_u8 rfl rfl z2_ z2_|exact dx rfl rfl) rfl ?_
  refine ae (by first|exact RunV.convb_u64 e9 rfl|exact cX e9 rfl z2_ z2_|exact cD e9 rfl) rfl ?_
  refine ae (by first|exact RunV.add_u64 rfl rfl z2_ z2_|exact RunV.add rfl rfl) rfl ?_
  refine Ru 1 rfl (a_ (Rg (Ru 1 rfl (ae ai_ rfl ?_))))
  refine Ru 1 rfl (a_ (⟨_,?_,_,?_,⟨i+1,rfl,rfl,rfl,rfl,⟨by omega,by rw [hat,hd,an z2_];rfl,by rw [hst,Nat.pow_succ];omega⟩⟩⟩))
  ·omega
  exact z48_
 have hie:s.take i=s:=aJ z2_;rw [hie] at hd hv ⊢;have hnr:=numR_ok hok hd
 exact bx (Kp [4] rfl (Sr (Ru 5 rfl (a_ (az (aS rfl rfl rfl) (by rw [hnr.1,hnr.2];exact congrArg (fun b=>Value.tuple #[.int .u64 (numV s:Nat),.bool b]) (decide_eq_decide.2 z2_)) rfl)))))
theorem rb128_fn {n:Nat}{h:Part}(hn:n<18446744073709551616):Fn Tryz.prog 200 [.int .u64 n] h [] (Rets fun v _ Lo=>∃ a c,v=.slice a (b128 n).length c∧Lo=[.row a c 5 1 (b128 n).length (u8s (b128 n))]):=by
 refine aG Tryz.func200 rfl Tryz.ntmps200 rfl (fun e he=>?_)
 refine aU [(0,_)] ⟨rfl,trivial⟩ ?_
 have hh0:=aO h
 refine Sr (Ru 1 rfl (a_ (Sr (Ru 1 rfl (ae (by first|exact RunV.rem_u64 rfl rfl z2_ z2_|exact RunV.rem rfl rfl z2_) rfl ?_)))))
 refine ae (cx (n % 128) eZ rfl z2_) rfl ?_
 refine ct cP mC rfl rfl rfl rfl rfl (fun b1=>?_)
 refine JL.rowB (b:=b1) dl_ ?_
 refine Ru 1 rfl (a_ (aw (Sr (Ru 1 rfl (ae z37_ rfl ?_)))))
 refine Ru 1 rfl (Nk [0,3,2] rfl (aE (bC (fun t_ S_ h_ L_=>∃ (g:Part) (f m:Nat) (out:List UInt8) (la:Option Addr) (lc:Nat),t_=m+1∧S_=[(0,.int .u64 m),(3,.slice la out.length lc)]∧g=h_∧L_=[.row la lc 5 1 out.length (u8s out)]∧(h.le g∧m<18446744073709551616∧out.length+f=11∧m<128 ^ f∧b128 n=hiB m++out)) ⟨_,_,?_,⟨_,10,n / 128,[UInt8.ofNat (n % 128)],_,_,rfl,rfl,rfl,rfl,⟨by assumption,by omega,rfl,by simp only [Nat.reducePow];omega,rfl⟩⟩⟩ ?_)))
 ·exact z7_
 rintro _ _ _ _ ⟨g,f,m,out,la,lc,rfl,rfl,rfl,rfl,hhg,hm,hol,hmf,he⟩
 refine aw (Sr (Ru 2 rfl (a_ (Cs rfl (fun hc2=>?_) fun hc2=>?_))))
 ·have hst:=me m (by simp only [Nat.reducePow];omega) z2_;obtain⟨f',rfl⟩:∃ f',f=f'+1:=⟨f-1,by have:f≠0:=(by rintro rfl;simp at hmf;omega);omega⟩;rw [Nat.pow_succ] at hmf
  refine ax (aw (aE (Sr (Ru 1 rfl (a_ (Sr (Ru 2 rfl (ae (by first|exact RunV.rem_u64 rfl rfl z2_ z2_|exact RunV.rem rfl rfl z2_) rfl ?_))))))))
  refine ae (cx (m % 128) eZ rfl z2_) rfl ?_
  refine ae (RunV.add_u8 rfl rfl (by rw [ei z2_];omega) (by rw [ei z2_];omega)) rfl ?_
  rw [show((UInt8.ofNat (m % 128)).toNat:Int)+128=((UInt8.ofNat (m % 128+128)).toNat:Int) from by rw [ei z2_,ei z2_];omega]
  refine ct cP mC rfl rfl rfl rfl rfl (fun b3=>?_)
  refine bZ 5 1 ?_
  refine bV cP rfl rfl (bQ (R:=u8R)) rfl dl_ dl_ rfl (rfl) z4_ rfl rfl (fun a4 c4 xs4 hC4 hN4=>?_)
  obtain rfl:=hC4.u8
  refine Ru 1 rfl (a_ (Rg (Ru 2 rfl ?_)))
  refine cM (R:=u8R) (l:=out) dl_ aW rfl z2_ (fun h9 hle9 hP9=>?_);replace hhg:=hhg.mono hle9
  refine cw cP rfl rfl aW rfl z5_ rfl dl_ z4_ rfl rfl (fun a5 c5 xs5 hC5 hN5=>?_)
  obtain rfl:=hC5.u8
  refine Ru 1 rfl (a_ (Rg (Ru 1 rfl (ae z37_ rfl ?_))))
  refine Ru 1 rfl (a_ (⟨_,?_,_,?_,⟨_,f',m / 128,_,_,_,rfl,rfl,rfl,rfl,⟨by assumption,by omega,by simp;omega,by omega,by rw [he,hst];simp⟩⟩⟩))
  ·omega
  exact z7_
 have hm0:m=0:=z2_;have hbe:b128 n=out:=(by rw [he,hm0];rfl)
 refine bx (Sr (Ru 2 rfl (Nk [2] rfl ?_)))
 rw [hbe];exact dm ⟨_,[_],_,(au rfl rfl),.cons .here .nil,_,rfl,_,_,rfl,rfl⟩
theorem mY {n:Nat}{N:Int}{h:Part}(hN:N=(n:Int)) (hn:n<18446744073709551616):Fn Tryz.prog 200 [.int .u64 N] h [] (Rets fun v _ Lo=>∃ a c,v=.slice a (b128 n).length c∧Lo=[.row a c 5 1 (b128 n).length (u8s (b128 n))]):=by
 subst hN;exact rb128_fn hn
theorem numB_some {s:List UInt8}(h:(numB s).isSome=true):numB s=some (numR s)∧numR s<9223372036854775808:=by
 unfold numB numR at *
 split at h
 ·cases h
 ·rename_i hb
  split at h
  ·rename_i hh
   rw [if_neg hb]
   simp only [if_neg hb,if_pos hh]
   exact⟨trivial,hh⟩
  ·cases h
theorem numB_none {s:List UInt8}(h:(numB s).isSome=false):numB s=none:=by
 cases hn:numB s with
 |none=>rfl
 |some x=>rw [hn] at h;cases h
theorem oU (s cur:List UInt8) (i:Nat) (h:i<s.length) (hc:byteAt s i≠46):numsGo (s.drop i) cur=numsGo (s.drop (i+1)) (cur++[s[i]]):=by
 rw [aT h,numsGo,if_neg]
 intro e
 have:=bv s i h
 rw [e] at this
 exact hc this.symm
theorem kQ (s cur:List UInt8) (i:Nat) (h:i<s.length) (hc:byteAt s i=46):numsGo (s.drop i) cur=match numB cur with|none=>none|some n=>(numsGo (s.drop (i+1)) []).map (n::·):=by
 have:=bv s i h
 rw [aT h,numsGo,if_pos (UInt8.toNat_inj.1 ((this.trans hc).trans rfl))]
 all_goals (cases numB cur<;>rfl)
theorem cur_next (s:List UInt8) (fr i:Nat) (h:i<s.length) (hf:fr≤i):(s.drop fr).take (i+1-fr)=(s.drop fr).take (i-fr)++[s[i]]:=by
 have hl:i-fr<(s.drop fr).length:=by rw [bm];omega
 have e:(s.drop fr)[i-fr]'hl=s[i]:=by simp only [List.getElem_drop,show fr+(i-fr)=i by omega]
 rw [show i+1-fr=(i-fr)+1 by omega,av hl,e]
def numsL (s:List UInt8):List Nat×Bool:=match numsGo s [] with
 |none=>([],false)
 |some l=>(l,oidOk l)
theorem qv (l:List Nat):oidOk l=decide (2≤l.length∧(l.getD 0 0=2∧l.getD 1 0<9223372036854775728∨l.getD 0 0<2∧l.getD 1 0<40)):=by
 unfold oidOk;rw [← Bool.decide_or,← Bool.decide_and]
def u64L (l:List Nat):List UInt64:=l.map UInt64.ofNat
theorem js (l:List Nat) (i:Nat) (hl:∀ x∈l,x<9223372036854775808) (h:i<(u64L l).length):((u64L l)[i]'h).toNat=l.getD i 0:=by
 have hi:i<l.length:=by simpa [u64L] using h
 have:=hl l[i] (aL hi)
 simp only [u64L,List.getElem_map,UInt64.toNat_ofNat',bg,aP hi,Option.getD_some]
 omega
theorem oH (s:List UInt8) (h:Part) (hl:s.length≤1000000000):FnR Tryz.prog 199 [.string ⟨s.toArray⟩] h (fun v h'=>∃ a c,v=.tuple #[.slice a (u64L (numsL s).1).length c,.bool (numsL s).2]∧SlR u64R 1 h' a c (u64L (numsL s).1)∧(∀ x∈(numsL s).1,x<9223372036854775808)∧(numsL s).1.length≤1000000001):=by
 refine aG Tryz.func199 rfl Tryz.ntmps199 rfl (fun e he=>?_)
 refine aU [(0,_)] ⟨rfl,trivial⟩ ?_
 have hh0:=aO h
 refine Sr (Ru 2 rfl (a_ (Sr (bZ 194 1 ?_))))
 refine Ru 1 rfl (a_ ?_)
 refine Sr (Ru 1 rfl (a_ (aw (Sr (Ru 1 rfl (a_ (aE (bC (fun t_ S_ h_ L_=>∃ (g:Part) (i fr:Nat) (acc:List Nat) (ao:Option Addr) (co:Nat) (xs:List Value),t_=s.length+1-i∧S_=[(0,.string ⟨s.toArray⟩),(4,.slice ao (u64L acc).length co),(5,.int .i64 fr),(6,.int .i64 i)]∧g=h_∧L_=[.row ao co 194 1 (u64L acc).length xs]∧(h.le g∧i≤s.length+1∧fr≤i∧acc.length≤i∧CellsR u64R 1 g xs (u64L acc)∧(∀ x∈acc,x<9223372036854775808)∧(i≤s.length→numsGo s []=(numsGo (s.drop i) ((s.drop fr).take (i-fr))).map (acc++·))∧(s.length<i→numsGo s []=some acc))) ⟨_,_,?_,⟨_,0,0,[],_,_,_,rfl,rfl,rfl,rfl,⟨by assumption,by omega,by omega,by simp,bQ,by simp,fun _=>by simp,fun hh=>by omega⟩⟩⟩ ?_))))))))
 ·exact z7_
 rintro _ _ _ _ ⟨g,i,fr,acc,ao,co,xs,rfl,rfl,rfl,rfl,hhg,hi,hfr,hal,hC,hx,hq1,hq2⟩
 have hul:(u64L acc).length=acc.length:=aK ..
 refine aw (Sr (Ru 2 rfl (ae (bY d_ rfl) rfl ?_)))
 refine Ru 1 rfl (a_ (Cs rfl (fun hc1=>?_) fun hc1=>?_))
 ·refine ax (aw (aE (aw (aw (cj [(25,.bool (decide (i<s.length∧byteAt s i≠46)))] [(13,_),(12,_),(11,_),(10,_),(0,_),(4,_),(5,_),(6,_)] ⟨rfl,rfl,rfl,rfl,rfl,rfl,rfl,rfl,trivial⟩ ?_ ?_)))))
  ·refine Rg (Ru 2 rfl (ae (bY d_ rfl) rfl ?_))
   refine Ru 2 rfl (Bs 20 rfl (fun hc2=>?_) fun hc2=>?_)
   ·refine Ru 2 rfl (aH rfl rfl  (bj (m:=i) d_ rfl rfl z2_ z2_) rfl ?_)
    refine Ru 2 rfl (a_ (⟨rfl,rfl,?_⟩))
    exact z8_
   refine Ru 5 rfl (a_ (⟨rfl,rfl,?_⟩))
   exact z8_
  refine Cs rfl (fun hc3=>?_) fun hc3=>?_
  ·refine bx (Rg (Ru 1 rfl (ae ai_ rfl ?_)))
   refine Ru 1 rfl (a_ (⟨_,?_,_,?_,⟨_,i+1,fr,acc,_,_,_,rfl,rfl,rfl,rfl,⟨by assumption,by omega,by omega,by omega,by assumption,hx,fun _=>by rw [hq1 z2_,oU s _ i z2_ z2_,cur_next s fr i z2_ hfr],fun hh=>by omega⟩⟩⟩))
   ·omega
   exact z7_
  obtain⟨cur,hcur⟩:∃ cur,cur=(s.drop fr).take (i-fr):=⟨_,rfl⟩;have hq:=hq1 z2_;rw [← hcur] at hq
  refine ax (Sr (Ru 3 rfl (ae (bU d_ rfl rfl rfl eD eD z2_ z2_) rfl ?_)))
  refine aV ca_241 rfl (rO _ _ (by try (simp only [bH,bm]);omega)) rfl ?_
  refine Ru 5 rfl (a_ (aw (Sr (Ru 2 rfl (a_ (Cs rfl (fun hc5=>?_) fun hc5=>?_))))))
  ·have hnone:numsGo s []=none:=(by have hnb:=numB_none (s:=cur) (by rw [hcur];exact hc5);rw [hq];rcases Nat.lt_or_ge i s.length with hlt|hge;rw [kQ s _ i hlt z2_,hnb];rfl;rw [List.drop_of_length_le hge,numsGo,hnb];rfl);have hnl:numsL s=([],false):=(by unfold numsL;rw [hnone])
   refine Sr (Ru 2 rfl (a_ ?_))
   rw [hnl];exact b_ (aS rfl rfl rfl) ⟨none,0,rfl,bc,by simp,by simp⟩
  have hsome:=numB_some (s:=cur) (by rw [hcur];exact hc5);rw [hcur] at hsome;have hke:u64L acc++[UInt64.ofNat (numR ((s.drop fr).take (i-fr)))]=u64L (acc++[numR ((s.drop fr).take (i-fr))]):=(by simp [u64L])
  refine ax (Sr (Ru 2 rfl (ct fX kw rfl rfl rfl rfl rfl (fun b6=>?_))))
  refine bV fX rfl rfl z5_ rfl dl_ dl_ rfl ((by show _=_;rw [UInt64.toNat_ofNat',Nat.mod_eq_of_lt z2_]:u64R _ [.int .u64 (numR ((s.drop fr).take (i-fr)):Nat)] (UInt64.ofNat (numR ((s.drop fr).take (i-fr)))))) z4_ rfl rfl (fun a7 c7 xs7 hC7 hN7=>?_)
  rw [hke] at *
  refine Ru 1 rfl (a_ (Rg (Ru 1 rfl (ae ai_ rfl ?_))))
  refine Ru 1 rfl (a_ (Rg (Ru 1 rfl (ae ai_ rfl ?_))))
  refine Ru 1 rfl (a_ (⟨_,?_,_,?_,⟨_,i+1,i+1,acc++[numR ((s.drop fr).take (i-fr))],_,_,_,rfl,rfl,rfl,rfl,⟨by assumption,by omega,by omega,by simp;omega,by assumption,by (intro y hy;rcases List.mem_append.1 hy with hy|hy;exact hx y hy;simp at hy;subst hy;exact hsome.2),fun hh=>by rw [hq,kQ s _ i z2_ z2_,hcur,hsome.1];simp only [Nat.sub_self,List.take_zero,Option.map_map];congr 1;funext z;simp,fun hh=>by rw [hq,List.drop_of_length_le z2_,numsGo,hcur,hsome.1];rfl⟩⟩⟩))
  ·omega
  exact z7_
 have hnl:numsL s=(acc,oidOk acc):=(by unfold numsL;rw [hq2 z2_]);refine J.pub (R:=u64R) dl_ hC rfl z2_ (fun h9 hle9 hP9=>?_);have e0:=js acc 0 hx;have e1:=js acc 1 hx
 refine bx (Kp [4] rfl (aw (cj [(9,.bool (oidOk acc))] [(4,_)] ⟨rfl,trivial⟩ ?_ ?_)))
 ·refine Rg (Ru 4 rfl (Bs 45 rfl (fun hc8=>?_) fun hc8=>?_))
  ·refine Ru 1 rfl (cr rfl rfl  (aC cJ rfl rfl (show _=((0:Nat):Int) from rfl) z5_ rfl z2_) rfl ?_)
   rintro _ ⟨b9,o9,hi9,rfl,hE9⟩
   refine aH rfl rfl  (bA cQ rfl z5_) rfl ?_
   refine Ru 3 rfl (Bs 51 rfl (fun hc11=>?_) fun hc11=>?_)
   ·refine Ru 1 rfl (cr rfl rfl  (aC cJ rfl rfl (show _=((0:Nat):Int) from rfl) z5_ rfl z2_) rfl ?_)
    rintro _ ⟨b12,o12,hi12,rfl,hE12⟩
    refine aH rfl rfl  (bA cQ rfl z5_) rfl ?_
    refine Ru 2 rfl (Bs 56 rfl (fun hc14=>?_) fun hc14=>?_)
    ·refine Ru 1 rfl (cr rfl rfl  (aC cJ rfl rfl (show _=((1:Nat):Int) from rfl) z5_ rfl z2_) rfl ?_)
     rintro _ ⟨b15,o15,hi15,rfl,hE15⟩
     refine aH rfl rfl  (bA cQ rfl z5_) rfl ?_
     refine Ru 3 rfl (Bs 62 rfl (fun hc17=>?_) fun hc17=>?_)
     ·refine Ru 13 rfl (a_ (⟨rfl,rfl,?_⟩))
      exact z20_
     refine Ru 1 rfl (cr rfl rfl  (aC cJ rfl rfl (show _=((0:Nat):Int) from rfl) z5_ rfl z2_) rfl ?_)
     rintro _ ⟨b18,o18,hi18,rfl,hE18⟩
     refine aH rfl rfl  (bA cQ rfl z5_) rfl ?_
     refine Ru 2 rfl (Bs 67 rfl (fun hc20=>?_) fun hc20=>?_)
     ·refine Ru 1 rfl (cr rfl rfl  (aC cJ rfl rfl (show _=((1:Nat):Int) from rfl) z5_ rfl z2_) rfl ?_)
      rintro _ ⟨b21,o21,hi21,rfl,hE21⟩
      refine aH rfl rfl  (bA cQ rfl z5_) rfl ?_
      refine Ru 5 rfl (a_ (⟨rfl,rfl,?_⟩))
      exact z20_
     refine Ru 8 rfl (a_ (⟨rfl,rfl,?_⟩))
     exact z20_
    refine Ru 7 rfl (cr rfl rfl  (aC cJ rfl rfl (show _=((0:Nat):Int) from rfl) z5_ rfl z2_) rfl ?_)
    rintro _ ⟨b23,o23,hi23,rfl,hE23⟩
    refine aH rfl rfl  (bA cQ rfl z5_) rfl ?_
    refine Ru 2 rfl (Bs 67 rfl (fun hc25=>?_) fun hc25=>?_)
    ·refine Ru 1 rfl (cr rfl rfl  (aC cJ rfl rfl (show _=((1:Nat):Int) from rfl) z5_ rfl z2_) rfl ?_)
     rintro _ ⟨b26,o26,hi26,rfl,hE26⟩
     refine aH rfl rfl  (bA cQ rfl z5_) rfl ?_
     refine Ru 5 rfl (a_ (⟨rfl,rfl,?_⟩))
     exact z20_
    refine Ru 8 rfl (a_ (⟨rfl,rfl,?_⟩))
    exact z20_
   refine Ru 24 rfl (a_ (⟨rfl,rfl,?_⟩))
   exact z20_
  refine Ru 30 rfl (a_ (⟨rfl,rfl,?_⟩))
  exact z20_
 refine Sr (Ru 4 rfl (a_ ?_))
 rw [hnl];exact b_ (aS rfl rfl rfl) ⟨_,_,rfl,by assumption,hx,by simp only;omega⟩
theorem mj:∀ (l:List Nat),(enc l).length≤11*l.length
 |[]=>by simp [enc]
 |n::r=>by
  have h1:=mj r
  have h2:∀ f m,(hiF f m).length≤f:=by
   intro f
   induction f with
   |zero=>intro m;simp [hiF]
   |succ f ih=>intro m;rw [hiF];split;simp;(have:=ih (m / 128);simp;omega)
  have h3:=h2 10 (n / 128)
  simp only [enc,b128,hiB,aX,aA,bh]
  omega
theorem sh (a b:List Nat):enc (a++b)=enc a++enc b:=by
 induction a with
 |nil=>rfl
 |cons n r ih=>simp only [List.cons_append,enc,ih,List.append_assoc]
theorem rG (l:List Nat) (i:Nat) (h2:2≤i) (hi:i<l.length):(l.drop 2).take (i+1-2)=(l.drop 2).take (i-2)++[l.getD i 0]:=by
 rw [show i+1-2=(i-2)+1 by omega,av (by rw [bm];omega),List.getElem_drop]
 congr 2
 simp [show 2+(i-2)=i by omega,hi]
theorem fI (s:List UInt8) (h:Part) (hl:s.length≤1000000000):FnR Tryz.prog 155 [.string ⟨s.toArray⟩] h (fun v h'=>∃ a c,v=.tuple #[.slice a ((oidB s).getD []).length c,.int .i64 (if(oidB s).isSome then 0 else 20)]∧SlR u8R 1 h' a c ((oidB s).getD [])):=by
 obtain⟨L,ok,hL⟩:∃ L ok,numsL s=(L,ok):=⟨_,_,rfl⟩
 have hB:oidB s=if ok then some (enc ((40*L.getD 0 0+L.getD 1 0)::L.drop 2)) else none:=by
  unfold oidB;unfold numsL at hL
  cases hn:numsGo s [] with
  |none=>rw [hn] at hL;simp only [Prod.mk.injEq] at hL;rw [← hL.2];rfl
  |some l=>rw [hn] at hL;simp only [Prod.mk.injEq] at hL;obtain⟨rfl,rfl⟩:=hL;rfl
 have hok:ok=true→2≤L.length∧(L.getD 0 0=2∧L.getD 1 0<9223372036854775728∨L.getD 0 0<2∧L.getD 1 0<40):=fun hk=>by
  unfold numsL at hL
  cases hn:numsGo s [] with
  |none=>rw [hn] at hL;simp only [Prod.mk.injEq] at hL;rw [← hL.2] at hk;cases hk
  |some l=>rw [hn] at hL;simp only [Prod.mk.injEq] at hL;obtain⟨rfl,rfl⟩:=hL;rw [qv] at hk;exact of_decide_eq_true hk
 have hul:(u64L L).length=L.length:=aK ..
 refine aG Tryz.func155 rfl Tryz.ntmps155 rfl (fun e he=>?_)
 refine aU [(0,_)] ⟨rfl,trivial⟩ ?_
 have hh0:=aO h
 refine Sr (Ru 2 rfl (a_ (Sr (Ru 1 rfl (bI ca_199 rfl (oH s _ z2_) rfl ?_)))))
 rintro _ h1 hle1 ⟨a2,c2,rfl,hS2,hx2,hn2⟩
 replace hh0:=hh0.mono hle1
 rw [hL] at hx2 hn2 hS2 ⊢;simp only at hx2 hn2 hS2 ⊢;have e1:=js L 1 hx2;have e0:=js L 0 hx2
 refine Ru 5 rfl (Nk [5,4,3,2] rfl (aw (Sr (Ru 2 rfl (a_ (Cs rfl (fun hc2=>?_) fun hc2=>?_))))))
 ·have hb:oidB s=none:=(by rw [hB];simp_all)
  refine Sr (Ru 2 rfl (Nk [3,2,4] rfl ?_))
  rw [hb];exact b_ (aS rfl rfl rfl) ⟨none,0,rfl,bc⟩
 have hkt:ok=true:=(by simp_all);have hoo:=hok hkt;have hb:oidB s=some (enc ((40*L.getD 0 0+L.getD 1 0)::L.drop 2)):=(by rw [hB,hkt];rfl);have q0:=e0 z2_;have q1:=e1 z2_
 refine ax (aw (J.held ([]) 10 cK rfl (fun h00=>?_)))
 refine Tk 0 rfl (bG rfl) ?_
 refine Te 1 rfl (aC cJ rfl rfl (show _=((0:Nat):Int) from rfl) z5_ rfl z2_) ?_
 rintro _ ⟨b3,o3,hi3,rfl,hE3⟩
 refine Tk 2 rfl (bA cQ rfl z5_) ?_
 refine Tk 3 rfl (by first|exact RunV.mul_u64 rfl rfl z2_ z2_|exact RunV.mul rfl rfl) ?_
 refine Tk 4 rfl (bG rfl) ?_
 refine Te 5 rfl (aC cJ rfl rfl (show _=((1:Nat):Int) from rfl) z5_ rfl z2_) ?_
 rintro _ ⟨b5,o5,hi5,rfl,hE5⟩
 refine Tk 6 rfl (bA cQ rfl z5_) ?_
 refine Tk 7 rfl (by first|exact RunV.add_u64 rfl rfl z2_ z2_|exact RunV.add rfl rfl) ?_
 refine Ta 8 rfl ?_
 unfold One
 refine de ca_200 rfl (mY (n:=40*L.getD 0 0+L.getD 1 0) z2_ z2_) pt_ rfl ?_
 rintro _ h7 Lo7 hle7 ⟨a7,c7,rfl,rfl⟩
 replace hh0:=hh0.mono hle7
 replace hS2:=hS2.mono hle7
 refine a_ ⟨(br_ h00),?_⟩
 refine Tk 9 rfl (RunV.assign rfl) ?_
 refine JH.done cY ?_
 refine Kp [6,4,3,2] rfl (aw (Sr (Ru 1 rfl (a_ (aE (bC (fun t_ S_ h_ L_=>∃ (g:Part) (i:Nat) (out:List UInt8) (la:Option Addr) (lc:Nat),t_=L.length-i∧S_=[(4,.slice a2 (u64L L).length c2),(6,.slice la out.length lc),(7,.int .i64 i)]∧g=h_∧L_=[.row la lc 5 1 out.length (u8s out)]∧(h.le g∧SlR u64R 1 g a2 c2 (u64L L)∧2≤i∧i≤L.length∧out=enc ((40*L.getD 0 0+L.getD 1 0)::(L.drop 2).take (i-2)))) ⟨_,_,?_,⟨_,2,_,_,_,rfl,rfl,rfl,rfl,⟨by assumption,by assumption,by omega,by omega,by simp [enc]⟩⟩⟩ ?_))))))
 ·exact z7_
 rintro _ _ _ _ ⟨g,i,out,la,lc,rfl,rfl,rfl,rfl,hhg,hS2,hi2,hi,ho⟩
 refine aw (Sr (Ru 4 rfl (a_ (Cs rfl (fun hc8=>?_) fun hc8=>?_))))
 ·have hi':i<L.length:=z2_;have qi:=js L i hx2 z2_;have hxi:=hx2 (L.getD i 0) (by simp [hi']);have htk:=rG L i hi2 hi';have hel:=mj ((40*L.getD 0 0+L.getD 1 0)::(L.drop 2).take (i-2));rw [← ho] at hel;have hbl:(b128 (L.getD i 0)).length≤11:=(by have:=mj [L.getD i 0];simpa [enc] using this)
  refine ax (aw (aE (Rg (Ru 3 rfl (cg (aC cJ rfl rfl eD z5_ rfl z2_) rfl ?_)))))
  rintro _ ⟨b9,o9,hi9,rfl,hE9⟩
  refine ae (bA cQ rfl z5_) rfl ?_
  refine de ca_200 rfl (mY (n:=L.getD i 0) z2_ z2_) pt_ rfl ?_
  rintro _ h11 Lo11 hle11 ⟨a11,c11,rfl,rfl⟩
  replace hhg:=hhg.mono hle11
  replace hS2:=hS2.mono hle11
  refine cM (R:=u8R) (l:=b128 (L.getD i 0)) dl_ aW rfl z2_ (fun h9 hle9 hP9=>?_);replace hhg:=hhg.mono hle9;replace hS2:=hS2.mono hle9;simp only [aA,bH,bm] at hel
  refine cw cP rfl rfl aW rfl z5_ rfl dl_ z4_ rfl rfl (fun a12 c12 xs12 hC12 hN12=>?_)
  obtain rfl:=hC12.u8
  refine Ru 1 rfl (a_ (Rg (Ru 1 rfl (ae ai_ rfl ?_))))
  refine Ru 1 rfl (a_ (⟨_,?_,_,?_,⟨_,i+1,_,_,_,rfl,rfl,rfl,rfl,⟨by assumption,by assumption,by omega,by omega,by rw [htk,ho,← List.cons_append,sh];simp [enc]⟩⟩⟩))
  ·omega
  exact z7_
 have hob:out=enc ((40*L.getD 0 0+L.getD 1 0)::L.drop 2):=(by rw [ho,aJ (by rw [bm];omega)]);have hel:=mj ((40*L.getD 0 0+L.getD 1 0)::L.drop 2);rw [← hob] at hel;simp only [aA,bm] at hel
 refine bx (Kp [6] rfl (Sr (Ru 1 rfl (cM (R:=u8R) (l:=out) dl_ aW rfl z2_ (fun h9 hle9 hP9=>?_)))))
 refine Ru 2 rfl (a_ ?_)
 rw [hb,Option.getD_some,← hob];exact b_ (aS rfl rfl rfl) ⟨_,_,rfl,by assumption⟩
theorem oy (l:List Nat) (n:Nat):tail46 (l++[n])=tail46 l++([46]++dgs n 1):=by
 induction l with
 |nil=>simp [tail46]
 |cons m r ih=>simp [tail46,ih]
theorem txtO_snoc (l:List Nat) (n:Nat) (h:l≠[]):txtO (l++[n])=txtO l++[46]++dgs n 1:=by
 cases l with
 |nil=>exact absurd rfl h
 |cons m r=>simp [txtO,oy]
theorem pT (l:List Nat):txtO l=[]↔l=[]:=by
 cases l with
 |nil=>simp [txtO]
 |cons m r=>simp [txtO]
theorem rQ (b:List UInt8) (i n long:Nat) (h:i<b.length):refGo (b.drop i) n long=if 9<long+1∨9223372036854775808≤n*128+byteAt b i % 128 then none else if 128≤byteAt b i then refGo (b.drop (i+1)) (n*128+byteAt b i % 128) (long+1) else(refGo (b.drop (i+1)) 0 0).map (fun l=>(n*128+byteAt b i % 128)::l):=by
 rw [aT h,refGo,bv b i h]
theorem jC {a0:Option Addr}{c0:Nat}{l:List UInt8}{h:Part}(hl:SlR u8R 1 h a0 c0 l) (hb:l.length≤10000000) :
 Pure Tryz.prog 110 [.slice a0 l.length c0] h (.tuple #[.string ⟨((oidT l).getD []).toArray⟩,.int .i64 (if(oidT l).isSome then 0 else 20)]):=by
 rw [refO_oidT]
 refine Pure.ofV ?_
 refine aG Tryz.func110 rfl Tryz.ntmps110 rfl (fun e he=>?_)
 refine aU [(0,_)] ⟨rfl,trivial⟩ ?_
 refine Sr (Ru 2 rfl (a_ (Sr (Ru 1 rfl (a_ (Sr (Ru 1 rfl (a_ ?_))))))))
 refine Sr (Ru 1 rfl (a_ (aw (Sr (Ru 1 rfl (a_ (aE (bC (fun t_ S_ h_ L_=>∃ (i n long:Nat) (acc:List Nat) (s:List UInt8),t_=l.length-i∧S_=[(0,.slice a0 l.length c0),(4,.string ⟨s.toArray⟩),(5,.int .u64 n),(6,.int .i64 long),(7,.int .i64 i)]∧h=h_∧L_=[]∧(i≤l.length∧n<128 ^ long∧long≤9∧s=txtO acc∧s.length≤42*i∧refGo l 0 0=(refGo (l.drop i) n long).map (acc++·)∧(∀ x∈acc,x<9223372036854775808))) ⟨_,_,?_,⟨0,0,0,[],[],rfl,rfl,rfl,rfl,⟨by omega,by simp,by omega,rfl,by simp,by simp,by simp⟩⟩⟩ ?_))))))))
 ·exact z7_
 rintro _ _ _ _ ⟨i,n,long,acc,s,rfl,rfl,rfl,rfl,hi,hn,hlg,hs,hsl,hq,hx⟩
 have h128:long≤8→(128:Nat) ^ long≤72057594037927936:=(fun hh=>Nat.le_trans (Nat.pow_le_pow_right bJ hh) bJ)
 refine aw (Sr (Ru 4 rfl (a_ (Cs rfl (fun hc1=>?_) fun hc1=>?_))))
 ·have hi':i<l.length:=z2_;have hst:=rQ l i n long hi';have hbt:=bK l i;have hbe:=bv l i hi'
  refine ax (aw (aE (Sr (Ru 1 rfl (ae (RunV.mul rfl rfl) rfl ?_)))))
  refine Ru 2 rfl (cg (aC cA rfl rfl eD z5_ rfl z2_) rfl ?_)
  rintro _ ⟨b2,o2,hi2,rfl,hE2⟩
  refine ae (aZ eu rfl z5_) rfl ?_
  refine ae (RunV.rem_u8 rfl rfl z2_ z2_) rfl ?_
  refine ae (by first|exact RunV.convb_u64 e9 rfl|exact cX e9 rfl z2_ z2_|exact cD e9 rfl) rfl ?_
  refine ae (RunV.add rfl rfl) rfl ?_
  rw [show IntKind.u64.wrap (IntKind.u64.wrap ((n:Int)*128)+(l[i].toNat:Int) % 128)=(((n*128+byteAt l i % 128) % 18446744073709551616:Nat):Int) from by rw [IntKind.wrap_u64,IntKind.wrap_u64,hbe];omega]
  refine Ru 1 rfl (a_ (Sr (Ru 1 rfl (ae ai_ rfl ?_))))
  refine Ru 1 rfl (a_ (aw (aw (cj [(33,.bool (decide (9<long+1∨9223372036854775808≤(n*128+byteAt l i % 128) % 18446744073709551616)))] [(6,_),(27,_),(26,_),(5,_),(25,_),(24,_),(23,_),(22,_),(21,_),(20,_),(19,_),(18,_),(17,_),(14,_),(13,_),(12,_),(11,_),(0,_),(4,_),(7,_)] ⟨rfl,rfl,rfl,rfl,rfl,rfl,rfl,rfl,rfl,rfl,rfl,rfl,rfl,rfl,rfl,rfl,rfl,rfl,rfl,rfl,trivial⟩ ?_ ?_))))
  ·refine Rg (Ru 3 rfl (Bs 30 rfl (fun hc4=>?_) fun hc4=>?_))
   ·refine Ru 3 rfl (a_ (⟨rfl,rfl,?_⟩))
    exact z8_
   refine Ru 3 rfl (a_ (⟨rfl,rfl,?_⟩))
   exact z8_
  refine Cs rfl (fun hc5=>?_) fun hc5=>?_
  ·have hcz:9<long+1∨9223372036854775808≤n*128+byteAt l i % 128:=(by rcases Nat.lt_or_ge 8 long with hl8|hl8;left;omega;have:=h128 hl8;omega);have hro:refO l=none:=(by unfold refO;rw [hq,hst,if_pos hcz];rfl)
   exact Sr (Ru 2 rfl (a_ (J.retV (aS rfl rfl rfl) (by rw [hro];rfl))))
  have hl8:long≤8:=z2_;have h12:=h128 hl8;have hcz:¬ (9<long+1∨9223372036854775808≤n*128+byteAt l i % 128):=z2_;rw [if_neg hcz] at hst;obtain⟨N,hN⟩:∃ N,N=n*128+byteAt l i % 128:=⟨_,rfl⟩;have hNm:(n*128+byteAt l i % 128) % 18446744073709551616=N:=z2_;rw [hNm];have hN63:N<9223372036854775808:=z2_;rw [← hN] at hst
  refine ax (aw (Sr (Ru 2 rfl (cg (aC cA rfl rfl eD z5_ rfl z2_) rfl ?_))))
  rintro _ ⟨b6,o6,hi6,rfl,hE6⟩
  refine ae (aZ eu rfl z5_) rfl ?_
  refine Ru 1 rfl (a_ (Cs rfl (fun hc8=>?_) fun hc8=>?_))
  ·refine bx (Rg (Ru 1 rfl (ae ai_ rfl ?_)))
   refine Ru 1 rfl (a_ (⟨_,?_,_,?_,⟨i+1,N,long+1,acc,s,rfl,rfl,rfl,rfl,⟨by omega,by rw [Nat.pow_succ];omega,by omega,hs,by omega,by rw [hq,hst,if_pos z2_],hx⟩⟩⟩))
   ·omega
   exact z7_
  rw [if_neg z2_] at hst
  refine ax (aw (Sr (Ru 1 rfl (ae (RunV.eqlS rfl rfl) rfl ?_))))
  refine a_ (Cs rfl (fun hc9=>?_) fun hc9=>?_)
  ·have ha0:acc=[]:=(pT acc).1 (by rw [← hs];exact hc9);obtain⟨m2,hm2⟩:∃ m2:Nat,m2=N-40*min (N / 40) 2:=⟨_,rfl⟩;have hdl:=fQ (min (N / 40) 2) 1;have hdl2:=fQ m2 1
   refine Sr (Ru 1 rfl (a_ (aw (Sr (Ru 2 rfl (a_ (cj [(8,.int .u64 (min (N / 40) 2:Nat))] [(41,_),(40,_),(39,_),(38,_),(37,_),(36,_),(35,_),(34,_),(33,_),(6,_),(27,_),(26,_),(5,_),(25,_),(24,_),(23,_),(22,_),(21,_),(20,_),(19,_),(18,_),(17,_),(14,_),(13,_),(12,_),(11,_),(0,_),(4,_),(7,_)] ⟨rfl,rfl,rfl,rfl,rfl,rfl,rfl,rfl,rfl,rfl,rfl,rfl,rfl,rfl,rfl,rfl,rfl,rfl,rfl,rfl,rfl,rfl,rfl,rfl,rfl,rfl,rfl,rfl,rfl,trivial⟩ ?_ ?_)))))))
   ·refine Cs rfl (fun hc10=>?_) fun hc10=>?_
    ·refine Rg (Ru 1 rfl (ae z37_ rfl ?_))
     refine Ru 1 rfl (a_ (⟨rfl,rfl,?_⟩))
     exact gp
    refine ax (⟨rfl,rfl,?_⟩)
    exact gp
   refine Sr (Ru 1 rfl (aV ca_167 rfl (gv (n:=min (N / 40) 2) (least:=1) z2_ rfl z2_ z2_) rfl ?_))
   refine Ru 1 rfl (a_ (Rg (Ru 2 rfl (ae (by first|exact RunV.mul_u64 rfl rfl z2_ z2_|exact RunV.mul rfl rfl) rfl ?_))))
   refine ae (by first|exact RunV.sub_u64 rfl rfl z2_ z2_|exact dx rfl rfl) rfl ?_
   refine Ru 1 rfl (a_ (Sr (Ru 1 rfl (ae (RunV.addS rfl rfl z4_) rfl ?_))))
   refine Ru 1 rfl (aV ca_167 rfl (gv (n:=m2) (least:=1) z2_ rfl z2_ z2_) rfl ?_)
   refine ae (RunV.addS rfl rfl z4_) rfl ?_
   refine Ru 1 rfl (a_ ?_)
   refine Sr (Ru 1 rfl (a_ (Rg (Ru 1 rfl (Nk [6,5,4,55,54,53,52,51,50,49,48,47,46,45,8,41,40,39,38,37,36,35,34,33,27,26,25,24,23,22,21,20,19,18,17,14,13,12,11,0,7] rfl (Rg (Ru 1 rfl (ae ai_ rfl ?_))))))))
   refine Ru 1 rfl (a_ (⟨_,?_,_,?_,⟨i+1,0,0,acc++[N],dgs (min (N / 40) 2) 1++[46]++dgs m2 1,rfl,rfl,rfl,rfl,⟨by omega,by simp,by omega,by rw [ha0,hm2];simp [txtO,tail46],by simp only [aX,aA,bh];omega,by rw [hq,hst,Option.map_map];congr 1;funext z;simp,by (intro y hy;rcases List.mem_append.1 hy with hy|hy;exact hx y hy;simp at hy;subst hy;exact hN63)⟩⟩⟩))
   ·omega
   exact z7_
  have ha0:acc≠[]:=(fun e=>hc9 (by rw [hs];exact(pT acc).2 e));obtain⟨m2,hm2⟩:∃ m2:Nat,m2=N:=⟨_,rfl⟩;have hdl2:=fQ m2 1
  refine ax (Sr (Ru 1 rfl (ae (RunV.addS rfl rfl z4_) rfl ?_)))
  refine Ru 1 rfl (aV ca_167 rfl (gv (n:=m2) (least:=1) z2_ rfl z2_ z2_) rfl ?_)
  refine ae (RunV.addS rfl rfl z4_) rfl ?_
  refine Ru 1 rfl (a_ ?_)
  refine Sr (Ru 1 rfl (Nk [5,4,55,54,53,52,51,40,39,38,37,36,35,34,33,6,27,26,25,24,23,22,21,20,19,18,17,14,13,12,11,0,7] rfl (Rg (Ru 1 rfl (a_ (Rg (Ru 1 rfl (ae ai_ rfl ?_))))))))
  refine Ru 1 rfl (a_ (⟨_,?_,_,?_,⟨i+1,0,0,acc++[N],s++[46]++dgs m2 1,rfl,rfl,rfl,rfl,⟨by omega,by simp,by omega,by rw [txtO_snoc _ _ ha0,hs,hm2],by simp only [aX,aA,bh];omega,by rw [hq,hst,Option.map_map];congr 1;funext z;simp,by (intro y hy;rcases List.mem_append.1 hy with hy|hy;exact hx y hy;simp at hy;subst hy;exact hN63)⟩⟩⟩))
  ·omega
  exact z7_
 have hrg:refGo l 0 0=some acc:=(by rw [hq,List.drop_of_length_le z2_,refGo];simp);have hro:refO l=if acc≠[]∧enc acc=l then some acc else none:=(by unfold refO;rw [hrg]);have hob:=qx acc hx;rw [← hs] at hob;have hA:acc=[]→oidB s=none:=(fun ha=>by rw [hob,if_pos ha]);have hB:acc≠[]→oidB s=some (enc acc):=(fun ha=>by rw [hob,if_neg ha])
 refine bx (Kp [0,4] rfl (Sr (Ru 1 rfl (bI ca_155 rfl (fI _ _ z2_) rfl ?_))))
 rintro _ h14 hle14 ⟨a14,c14,rfl,hS14⟩
 replace hl:=hl.mono hle14
 refine Ru 5 rfl (Nk [10,9,0,4] rfl (aw (Sr (Ru 3 rfl (Bs 63 rfl (fun hc15=>?_) fun hc15=>?_)))))
 ·refine Ru 6 rfl (Nk [69,4] rfl (aM rfl (Sr (Ru 2 rfl (a_ ?_)))))
  exact J.retV (aS rfl rfl rfl) (by
   rcases Classical.em (acc=[]) with ha|ha
   ·have hz:=hA ha;rw [hro,if_neg (fun k=>k.1 ha)];first|rfl|(exfalso;simp_all;done)
   ·have hz:=hB ha
    by_cases hq9:enc acc=l
    ·rw [hro,if_pos ⟨ha,hq9⟩];first|(rw [hs];rfl)|(exfalso;simp_all;done)
    ·rw [hro,if_neg (fun k=>hq9 k.2)];first|rfl|(exfalso;simp_all;done))
 refine Ru 1 rfl (aH rfl rfl  (cG dq rfl z5_ rfl) rfl ?_)
 refine Ru 1 rfl (aH rfl rfl  (cG dq rfl z5_ rfl) rfl ?_)
 refine aH rfl rfl  (RunV.neqS rfl rfl) rfl ?_
 refine Ru 1 rfl (Nk [69,4] rfl (Cs rfl (fun hc16=>?_) fun hc16=>?_))
 ·refine Sr (Ru 2 rfl (a_ ?_))
  exact J.retV (aS rfl rfl rfl) (by
   rcases Classical.em (acc=[]) with ha|ha
   ·have hz:=hA ha;rw [hro,if_neg (fun k=>k.1 ha)];first|rfl|(exfalso;simp_all;done)
   ·have hz:=hB ha
    by_cases hq9:enc acc=l
    ·rw [hro,if_pos ⟨ha,hq9⟩];first|(rw [hs];rfl)|(exfalso;simp_all;done)
    ·rw [hro,if_neg (fun k=>hq9 k.2)];first|rfl|(exfalso;simp_all;done))
 refine ax (Sr (Ru 3 rfl (a_ ?_)))
 exact J.retV (aS rfl rfl rfl) (by
  rcases Classical.em (acc=[]) with ha|ha
  ·have hz:=hA ha;rw [hro,if_neg (fun k=>k.1 ha)];first|rfl|(exfalso;simp_all;done)
  ·have hz:=hB ha
   by_cases hq9:enc acc=l
   ·rw [hro,if_pos ⟨ha,hq9⟩];first|(rw [hs];rfl)|(exfalso;simp_all;done)
   ·rw [hro,if_neg (fun k=>hq9 k.2)];first|rfl|(exfalso;simp_all;done))
end
section
theorem z17_ {p:Prop}(u:p:=by repeat (first|exact trivial|refine⟨rfl,?_⟩|refine⟨(by exact cy (by first|exact decide_eq_decide.2 (by unfold atOk;omega)|exact(am (by unfold atOk;omega)).symm|exact(an (by unfold atOk;omega)).symm|(rw [← decide_not];exact decide_eq_decide.2 (by unfold atOk;omega)))),?_⟩)):p:=u
theorem pP {p:Prop}(u:p:=by unfold daysI monthI;rw [hlp];congr 1;simp only [if_true,bO,if_false];(repeat' split)<;>omega):p:=u
theorem rA {p:Prop}(u:p:=by simp only [bH,bm];omega):p:=u
end
section
set_option maxRecDepth 100000
theorem gn:callT Tryz.prog 239=true:=by kernel_rfl
theorem rh:callT Tryz.prog 240=true:=by kernel_rfl
theorem ca_255:callT Tryz.prog 255=true:=by kernel_rfl
theorem ca_264:callT Tryz.prog 264=true:=by kernel_rfl
def daysI (y m:Int):Int:=if m=0 then(if leapB y then 366 else 365) else monthI y m
theorem nj (y:Int):leapB y=decide (y % 4=0∧y % 100≠0∨y % 400=0):=by
 unfold leapB
 rw [← Bool.decide_or,← Bool.decide_and]
 exact decide_eq_decide.2 z2_
theorem pF (y m:Int) (h:Part) (h0:0≤y):Pure Tryz.prog 264 [.int .i64 y,.int .i64 m] h (.int .i64 (daysI y m)):=by
 have hlp:=nj y
 refine aG Tryz.func264 rfl Tryz.ntmps264 rfl (fun e he=>?_)
 refine aU [(0,_),(1,_)] ⟨rfl,rfl,trivial⟩ ?_
 refine Sr (Ru 1 rfl (a_ (Sr (Ru 1 rfl (a_ (aw (aw (cj [(18,.bool (decide (y % 4=0∧y % 100≠0∨y % 400=0)))] [(5,_),(4,_),(1,_)] ⟨rfl,rfl,rfl,trivial⟩ ?_ ?_))))))))
 ·refine Rg (Ru 1 rfl (ae oe rfl ?_))
  refine Ru 2 rfl (Bs 9 rfl (fun hc1=>?_) fun hc1=>?_)
  ·refine Ru 1 rfl (aH rfl rfl  oe rfl ?_)
   refine Ru 3 rfl (Bs 14 rfl (fun hc2=>?_) fun hc2=>?_)
   ·refine Ru 4 rfl (a_ (⟨rfl,rfl,?_⟩))
    exact z8_
   refine Ru 1 rfl (aH rfl rfl  oe rfl ?_)
   refine Ru 2 rfl (a_ (⟨rfl,rfl,?_⟩))
   exact z8_
  refine Ru 6 rfl (aH rfl rfl  oe rfl ?_)
  refine Ru 2 rfl (a_ (⟨rfl,rfl,?_⟩))
  exact z8_
 refine Cs rfl (fun hc3=>?_) fun hc3=>?_
 ·rw [an hc3] at hlp
  refine Rg (Ru 1 rfl (a_ ?_))
  refine aw (Sr (Ru 1 rfl (a_ (aE (Sr (Ru 2 rfl (Nk [20,19,5,4] rfl (Cs rfl (fun hc4=>?_) fun hc4=>?_))))))))
  ·refine Sr (Ru 1 rfl (ae ai_ rfl ?_))
   exact Ru 1 rfl (Nk [4] rfl (az (au rfl rfl) pP rfl))
  refine Sr (Ru 2 rfl (a_ (Cs rfl (fun hc5=>?_) fun hc5=>?_)))
  ·refine Sr (Ru 1 rfl (ae ai_ rfl ?_))
   exact Ru 1 rfl (Nk [4] rfl (az (au rfl rfl) pP rfl))
  refine aw (Sr (Ru 2 rfl (Nk [28,19,4] rfl (Cs rfl (fun hc6=>?_) fun hc6=>?_))))
  ·exact ax (aM rfl (Sr (Ru 1 rfl (a_ (az (au rfl rfl) pP rfl)))))
  refine Sr (Ru 2 rfl (a_ (Cs rfl (fun hc7=>?_) fun hc7=>?_)))
  ·exact ax (Kp [28,4] rfl (aM rfl (Sr (Ru 1 rfl (a_ (az (au rfl rfl) pP rfl))))))
  refine Sr (Ru 2 rfl (Nk [28,19,4] rfl (Cs rfl (fun hc8=>?_) fun hc8=>?_)))
  ·exact ax (aM rfl (Sr (Ru 1 rfl (a_ (az (au rfl rfl) pP rfl)))))
  refine Rg (Ru 2 rfl (a_ (Cs rfl (fun hc9=>?_) fun hc9=>?_)))
  ·exact Sr (Ru 1 rfl (Nk [4] rfl (az (au rfl rfl) pP rfl)))
  exact ax (Kp [4] rfl (Sr (Ru 1 rfl (a_ (az (au rfl rfl) pP rfl)))))
 rw [am hc3] at hlp
 refine ax ?_
 refine aw (Sr (Ru 1 rfl (a_ (aE (Sr (Ru 2 rfl (a_ (Cs rfl (fun hc10=>?_) fun hc10=>?_))))))))
 ·refine Sr (Ru 1 rfl (ae ai_ rfl ?_))
  exact Ru 1 rfl (Nk [4] rfl (az (au rfl rfl) pP rfl))
 refine Sr (Ru 2 rfl (Nk [24,19,5,4] rfl (Cs rfl (fun hc11=>?_) fun hc11=>?_)))
 ·refine Sr (Ru 1 rfl (ae ai_ rfl ?_))
  exact Ru 1 rfl (Nk [4] rfl (az (au rfl rfl) pP rfl))
 refine aw (Sr (Ru 2 rfl (a_ (Cs rfl (fun hc12=>?_) fun hc12=>?_))))
 ·exact ax (Kp [28,4] rfl (aM rfl (Sr (Ru 1 rfl (a_ (az (au rfl rfl) pP rfl))))))
 refine Sr (Ru 2 rfl (Nk [28,19,4] rfl (Cs rfl (fun hc13=>?_) fun hc13=>?_)))
 ·exact ax (aM rfl (Sr (Ru 1 rfl (a_ (az (au rfl rfl) pP rfl)))))
 refine Sr (Ru 2 rfl (a_ (Cs rfl (fun hc14=>?_) fun hc14=>?_)))
 ·exact ax (Kp [28,4] rfl (aM rfl (Sr (Ru 1 rfl (a_ (az (au rfl rfl) pP rfl))))))
 refine Rg (Ru 2 rfl (Nk [28,4] rfl (Cs rfl (fun hc15=>?_) fun hc15=>?_)))
 ·exact Sr (Ru 1 rfl (a_ (az (au rfl rfl) pP rfl)))
 exact ax (Sr (Ru 1 rfl (a_ (az (au rfl rfl) pP rfl))))
theorem daysI_bd (y m:Int):28≤daysI y m∧daysI y m≤366:=by
 have:=fi y m
 unfold daysI;(repeat' split)<;>omega
def partI (s:List UInt8):Int:=if s.all dig then numV s else -1
theorem f_ (s:List UInt8) (h:Part) (hl:s.length≤18):Pure Tryz.prog 239 [.string ⟨s.toArray⟩] h (.int .i64 (partI s)):=by
 refine aG Tryz.func239 rfl Tryz.ntmps239 rfl (fun e he=>?_)
 refine aU [(0,_)] ⟨rfl,trivial⟩ ?_
 refine Sr (Ru 1 rfl (a_ ?_))
 refine Sr (Ru 1 rfl (a_ (aw (Sr (Ru 1 rfl (a_ (aE (bC (fun t_ S_ h_ L_=>∃ (i:Nat),t_=s.length-i∧S_=[(0,.string ⟨s.toArray⟩),(3,.int .i64 (numV (s.take i):Nat)),(4,.int .i64 i)]∧h=h_∧L_=[]∧(i≤s.length∧(s.take i).all dig=true∧numV (s.take i)<10 ^ i)) ⟨_,_,?_,⟨0,rfl,rfl,rfl,rfl,⟨by omega,by simp,by simp [numV]⟩⟩⟩ ?_))))))))
 ·exact z48_
 rintro _ _ _ _ ⟨i,rfl,rfl,rfl,rfl,hi,hd,hv⟩
 refine aw (Sr (Ru 2 rfl (ae (bY d_ rfl) rfl ?_)))
 refine Ru 1 rfl (a_ (Cs rfl (fun hc1=>?_) fun hc1=>?_))
 ·have hi':i<s.length:=z2_;have hst:=gW s i hi';have hat:=mB s i hi';have hp:10 ^ i≤100000000000000000:=Nat.le_trans (Nat.pow_le_pow_right bJ (show i≤17 by omega)) bJ;have hbl:=bK s i;have hbi:byteAt s i=(s.getD i 0).toNat:=rfl
  refine ax (aw (aE (aw (Sr (Ru 2 rfl (ae (bj (m:=i) d_ rfl rfl z2_ z2_) rfl ?_))))))
  refine ae j8 rfl ?_
  refine aV eN rfl (cI _ _ _ _) rfl ?_
  refine Ru 1 rfl (a_ (Cs rfl (fun hc3=>?_) fun hc3=>?_))
  ·have hnr:partI s=-1:=(by have hb:s.all dig=false:=(by rw [List.all_eq_false];exact⟨s[i],aL _,by have e:=bv s i hi';unfold dig;rw [am z2_];decide⟩);unfold partI;rw [hb];rfl)
   exact Sr (Ru 1 rfl (a_ (az (au rfl rfl) (by rw [hnr]) rfl)))
  refine ax (Rg (Ru 1 rfl (ae im rfl ?_)))
  refine Ru 2 rfl (ae (bj (m:=i) d_ rfl rfl z2_ z2_) rfl ?_)
  refine ae (by first|exact RunV.sub_u8 rfl rfl z2_ z2_|exact dx rfl rfl) rfl ?_
  refine ae j8 rfl ?_
  refine ae ai_ rfl ?_
  refine Ru 1 rfl (a_ (Rg (Ru 1 rfl (ae ai_ rfl ?_))))
  refine Ru 1 rfl (a_ (⟨_,?_,_,?_,⟨i+1,rfl,rfl,rfl,rfl,⟨by omega,by rw [hat,hd,an z2_];rfl,by rw [hst,Nat.pow_succ];omega⟩⟩⟩))
  ·omega
  exact z48_
 have hie:s.take i=s:=aJ z2_;rw [hie] at hd hv ⊢;have hnr:partI s=numV s:=if_pos hd
 exact bx (Kp [3] rfl (Sr (Ru 2 rfl (a_ (az (au rfl rfl) (by rw [hnr]) rfl)))))
theorem gh (s:List UInt8) (i n j:Nat) (h:j<n):byteAt ((s.drop i).take n) j=byteAt s (i+j):=by
 unfold byteAt
 simp only [bg]
 rw [List.getElem?_take,if_pos h,List.getElem?_drop]
theorem part2 (l:List UInt8) (h:l.length=2):partI l=if 48≤byteAt l 0∧byteAt l 0≤57∧48≤byteAt l 1∧byteAt l 1≤57 then(byteAt l 0-48:Int)*10+(byteAt l 1-48) else -1:=by
 match l,h with
 |[a,b],_ =>
  have ha:byteAt [a,b] 0=a.toNat:=rfl
  have hb:byteAt [a,b] 1=b.toNat:=rfl
  rw [ha,hb]
  unfold partI numV dig
  simp only [List.all_cons,List.all_nil,Bool.and_true,List.foldl_cons,List.foldl_nil,Bool.and_eq_true,aj]
  split
  ·rw [if_pos z2_];omega
  ·rw [if_neg z2_]
theorem part4 (l:List UInt8) (h:l.length=4):partI l=if(48≤byteAt l 0∧byteAt l 0≤57∧48≤byteAt l 1∧byteAt l 1≤57)∧48≤byteAt l 2∧byteAt l 2≤57∧48≤byteAt l 3∧byteAt l 3≤57 then((byteAt l 0-48:Int)*10+(byteAt l 1-48))*100+((byteAt l 2-48:Int)*10+(byteAt l 3-48)) else -1:=by
 match l,h with
 |[a,b,c,d],_ =>
  have ha:byteAt [a,b,c,d] 0=a.toNat:=rfl
  have hb:byteAt [a,b,c,d] 1=b.toNat:=rfl
  have hc:byteAt [a,b,c,d] 2=c.toNat:=rfl
  have hd:byteAt [a,b,c,d] 3=d.toNat:=rfl
  rw [ha,hb,hc,hd]
  unfold partI numV dig
  simp only [List.all_cons,List.all_nil,Bool.and_true,List.foldl_cons,List.foldl_nil,Bool.and_eq_true,aj]
  split
  ·rw [if_pos z2_];omega
  ·rw [if_neg z2_]
theorem g_ (s:List UInt8) (i:Nat) (h:i+1<s.length):partI ((s.drop i).take 2)=if 0≤twoI s i then twoI s i else -1:=by
 rw [part2 _ (by simp;omega),gh s i 2 0 bJ,gh s i 2 1 bJ]
 unfold twoI
 rw [Nat.add_zero]
 (repeat' split)<;>omega
theorem part_four (s:List UInt8) (h:4≤s.length):(partI (s.take 4)=twoI s 0*100+twoI s 2∧0≤twoI s 0*100+twoI s 2∧twoI s 0*100+twoI s 2≤9999)∨partI (s.take 4)=-1∧twoI s 0*100+twoI s 2<0:=by
 have e:=part4 (s.take 4) (by simp;omega)
 have hb:=fun j hj=>gh s 0 4 j hj
 rw [List.drop_zero] at hb
 rw [hb 0 bJ,hb 1 bJ,hb 2 bJ,hb 3 bJ] at e
 simp only [Nat.zero_add] at e
 have h2:=dA s 0;have h3:=dA s 2
 unfold twoI at *
 rw [e]
 simp only [Nat.zero_add,Nat.reduceAdd] at *
 (repeat' split)<;>omega
def atOk (y m d hh mi s:Int):Prop:=0≤y∧y≤9999∧1≤m∧m≤12∧1≤d∧d≤monthI y m∧0≤hh∧hh≤23∧0≤mi∧mi≤59∧0≤s∧s≤59
instance (y m d hh mi s:Int):Decidable (atOk y m d hh mi s):=by unfold atOk;infer_instance
def atT (y m d hh mi s:Int):Int:=-62167219200+(beforeI y+(d-1)+mdays y (m.toNat-1))*86400+(hh*3600+mi*60+s)
theorem bef_400 (y:Int) (h:0≤y):beforeI (y+400)=beforeI y+146097:=by unfold beforeI;(repeat' split)<;>omega
theorem bef_1 (y:Int) (h:0≤y):beforeI (y+1)=beforeI y+daysI y 0:=by
 have:=nj y
 unfold beforeI daysI
 rw [if_pos rfl,this]
 simp only [aj]
 (repeat' split)<;>omega
theorem at_fn (y m d hh mi s:Int) (h:Part):Pure Tryz.prog 255 [.int .i64 y,.int .i64 m,.int .i64 d,.int .i64 hh,.int .i64 mi,.int .i64 s] h (.tuple #[.int .i64 (if atOk y m d hh mi s then atT y m d hh mi s else 0),.bool (decide (atOk y m d hh mi s))]):=by
 have hmb:=fi y m
 have hdm:1≤m→daysI y m=monthI y m:=fun hm=>if_neg z2_
 refine aG Tryz.func255 rfl Tryz.ntmps255 rfl (fun e he=>?_)
 refine aU [(0,_),(1,_),(2,_),(3,_),(4,_),(5,_)] ⟨rfl,rfl,rfl,rfl,rfl,rfl,trivial⟩ ?_
 refine Sr (Ru 2 rfl (a_ (aw (aw (cj [(50,.bool (decide (¬ atOk y m d hh mi s)))] [(13,_),(12,_),(0,_),(1,_),(2,_),(3,_),(4,_),(5,_)] ⟨rfl,rfl,rfl,rfl,rfl,rfl,rfl,rfl,trivial⟩ ?_ ?_)))))
 ·refine Rg (Ru 1 rfl (aV eN rfl (cI _ _ _ _) rfl ?_))
  refine Ru 2 rfl (Bs 20 rfl (fun hc2=>?_) fun hc2=>?_)
  ·refine Ru 30 rfl (a_ (⟨rfl,rfl,?_⟩))
   exact z17_
  refine Ru 1 rfl (cE rfl rfl  eN rfl (cI _ _ _ _) rfl ?_)
  refine Ru 3 rfl (Bs 25 rfl (fun hc4=>?_) fun hc4=>?_)
  ·refine Ru 25 rfl (a_ (⟨rfl,rfl,?_⟩))
   exact z17_
  refine Ru 4 rfl (Bs 29 rfl (fun hc5=>?_) fun hc5=>?_)
  ·refine Ru 21 rfl (a_ (⟨rfl,rfl,?_⟩))
   exact z17_
  refine Ru 3 rfl (cE rfl rfl  ca_264 rfl (pF _ _ _ z2_) rfl ?_)
  refine Ru 3 rfl (Bs 36 rfl (fun hc7=>?_) fun hc7=>?_)
  ·refine Ru 14 rfl (a_ (⟨rfl,rfl,?_⟩))
   exact z17_
  refine Ru 1 rfl (cE rfl rfl  eN rfl (cI _ _ _ _) rfl ?_)
  refine Ru 3 rfl (Bs 41 rfl (fun hc9=>?_) fun hc9=>?_)
  ·refine Ru 9 rfl (a_ (⟨rfl,rfl,?_⟩))
   exact z17_
  refine Ru 1 rfl (cE rfl rfl  eN rfl (cI _ _ _ _) rfl ?_)
  refine Ru 3 rfl (Bs 46 rfl (fun hc11=>?_) fun hc11=>?_)
  ·refine Ru 4 rfl (a_ (⟨rfl,rfl,?_⟩))
   exact z17_
  refine Ru 1 rfl (cE rfl rfl  eN rfl (cI _ _ _ _) rfl ?_)
  refine Ru 2 rfl (a_ (⟨rfl,rfl,?_⟩))
  exact z17_
 refine Cs rfl (fun hc13=>?_) fun hc13=>?_
 ·have hff:=hc13
  exact Sr (Ru 2 rfl (a_ (az (aS rfl rfl rfl) (by rw [if_neg hff,am hff]) rfl)))
 have hok:atOk y m d hh mi s:=(by first|exact hc13|exact Classical.not_not.1 hc13);obtain⟨y0,y1,m0,m1,d0,d1,h0,h1,mi0,mi1,s0,s1⟩:=hok
 refine ax (Sr (Ru 1 rfl (ae si_ rfl ?_)))
 refine Ru 1 rfl (Nk [14,13,12,0,1,3,4,5] rfl (aw (Sr (Ru 1 rfl (a_ (aE (bC (fun t_ S_ h_ L_=>∃ (k:Nat),t_=13-k∧S_=[(0,.int .i64 y),(1,.int .i64 m),(3,.int .i64 hh),(4,.int .i64 mi),(5,.int .i64 s),(14,.int .i64 (d-1+mdays y k)),(15,.int .i64 (k+1:Nat))]∧h=h_∧L_=[]∧(k<m)) ⟨_,_,?_,⟨0,rfl,rfl,rfl,rfl,by omega⟩⟩ ?_)))))))
 ·repeat (first|exact trivial|refine⟨rfl,?_⟩|refine⟨(by exact cm (by first|(simp only [mdays];omega)|(simp only [mdays];simp;done)|(simp [mdays]<;>omega))),?_⟩)
 rintro _ _ _ _ ⟨k,rfl,rfl,rfl,rfl,hk⟩
 have hmd:=m6 y k;have hmb2:=fi y ((k:Int)+1);have hdk:daysI y ((k+1:Nat):Int)=monthI y ((k:Int)+1):=(by rw [show((k+1:Nat):Int)=(k:Int)+1 by omega];exact if_neg z2_)
 refine aw (Sr (Ru 3 rfl (a_ (Cs rfl (fun hc14=>?_) fun hc14=>?_))))
 ·refine ax (aw (aE (Rg (Ru 3 rfl (aV ca_264 rfl (pF _ _ _ z2_) rfl ?_)))))
  refine ae ai_ rfl ?_
  refine Ru 1 rfl (a_ (Rg (Ru 1 rfl (ae ai_ rfl ?_))))
  refine Ru 1 rfl (a_ (⟨_,?_,_,?_,⟨k+1,rfl,rfl,rfl,rfl,by omega⟩⟩))
  ·omega
  repeat (first|exact trivial|refine⟨rfl,?_⟩|refine⟨(by exact cm (by first|(simp only [mdays];omega)|(simp only [mdays];simp;done)|(simp [mdays]<;>omega))),?_⟩)
 have hkm:k=m.toNat-1:=z2_;rw [hkm] at *;have hmd2:=m6 y (m.toNat-1)
 refine bx (Kp [0,3,4,5,14] rfl (aw (aE (bC (fun t_ S_ h_ L_=>∃ (q:Nat),t_=26-q∧S_=[(0,.int .i64 (y-400*q)),(3,.int .i64 hh),(4,.int .i64 mi),(5,.int .i64 s),(14,.int .i64 (d-1+mdays y (m.toNat-1)+146097*q))]∧h=h_∧L_=[]∧(400*q≤y∧beforeI y=beforeI (y-400*q)+146097*q)) ⟨_,_,?_,⟨0,rfl,rfl,rfl,rfl,⟨by omega,by simp⟩⟩⟩ ?_))))
 ·exact gp
 rintro _ _ _ _ ⟨q,rfl,rfl,rfl,rfl,hq,hbq⟩
 refine aw (Sr (Ru 2 rfl (a_ (Cs rfl (fun hc16=>?_) fun hc16=>?_))))
 ·refine ax (aE (Sr (Ru 1 rfl (ae si_ rfl ?_))))
  refine Ru 1 rfl (a_ (Rg (Ru 1 rfl (ae ai_ rfl ?_))))
  refine Ru 1 rfl (a_ (⟨_,?_,_,?_,⟨q+1,rfl,rfl,rfl,rfl,⟨by omega,by rw [hbq];have:=bef_400 (y-400*(q+1:Nat)) z2_;rw [show y-400*(q+1:Nat)+400=y-400*q by omega] at this;omega⟩⟩⟩))
  ·omega
  exact gp
 refine bx (aw (Sr (Ru 1 rfl (a_ (aE (bC (fun t_ S_ h_ L_=>∃ (z:Nat),t_=400-z∧S_=[(0,.int .i64 (y-400*q)),(3,.int .i64 hh),(4,.int .i64 mi),(5,.int .i64 s),(14,.int .i64 (d-1+mdays y (m.toNat-1)+146097*q+beforeI z)),(16,.int .i64 z)]∧h=h_∧L_=[]∧(z≤y-400*q)) ⟨_,_,?_,⟨0,rfl,rfl,rfl,rfl,by omega⟩⟩ ?_))))))
 ·repeat (first|exact trivial|refine⟨rfl,?_⟩|refine⟨(by exact cm (by first|omega|(have:=bef_1 z z2_;rw [show((z:Int)+1)=(z+1:Nat) by omega] at this;omega)|(simp [beforeI];done))),?_⟩)
 rintro _ _ _ _ ⟨z,rfl,rfl,rfl,rfl,hz⟩
 have hbb:=lp z z2_ z2_;have hdb:=daysI_bd z 0
 refine aw (Sr (Ru 3 rfl (a_ (Cs rfl (fun hc17=>?_) fun hc17=>?_))))
 ·refine ax (aw (aE (Rg (Ru 2 rfl (aV ca_264 rfl (pF _ _ _ z2_) rfl ?_)))))
  refine ae ai_ rfl ?_
  refine Ru 1 rfl (a_ (Rg (Ru 1 rfl (ae ai_ rfl ?_))))
  refine Ru 1 rfl (a_ (⟨_,?_,_,?_,⟨z+1,rfl,rfl,rfl,rfl,by omega⟩⟩))
  ·omega
  repeat (first|exact trivial|refine⟨rfl,?_⟩|refine⟨(by exact cm (by first|omega|(have:=bef_1 z z2_;rw [show((z:Int)+1)=(z+1:Nat) by omega] at this;omega)|(simp [beforeI];done))),?_⟩)
 have hzy:(z:Int)=y-400*q:=z2_;have hbz:beforeI y=beforeI z+146097*q:=(by rw [hzy];exact hbq)
 refine bx (Kp [3,4,5,14] rfl (Sr (Ru 1 rfl (ae im rfl ?_))))
 refine ae ai_ rfl ?_
 refine Ru 1 rfl (ae im rfl ?_)
 refine Ru 1 rfl (ae im rfl ?_)
 refine ae ai_ rfl ?_
 refine Ru 1 rfl (ae ai_ rfl ?_)
 refine ae ai_ rfl ?_
 exact Ru 2 rfl (Nk [13,12] rfl (az (aS rfl rfl rfl) (by rw [if_pos ⟨y0,y1,m0,m1,d0,d1,h0,h1,mi0,mi1,s0,s1⟩,an ⟨y0,y1,m0,m1,d0,d1,h0,h1,mi0,mi1,s0,s1⟩];unfold atT;congr 3;congr 1;congr 1;omega) rfl))
theorem momOk_at (y:Int) (s:List UInt8) (h:s.length=10) (hy:y≤9999):momOk y s=decide (atOk y (partI ((s.drop 0).take 2)) (partI ((s.drop 2).take 2)) (partI ((s.drop 4).take 2)) (partI ((s.drop 6).take 2)) (partI ((s.drop 8).take 2))) ∧
 (momOk y s=true→momT y s=atT y (partI ((s.drop 0).take 2)) (partI ((s.drop 2).take 2)) (partI ((s.drop 4).take 2)) (partI ((s.drop 6).take 2)) (partI ((s.drop 8).take 2))):=by
 rw [g_ s 0 z2_,g_ s 2 z2_,g_ s 4 z2_,g_ s 6 z2_,g_ s 8 z2_]
 have w0:=dA s 0;have w2:=dA s 2;have w4:=dA s 4;have w6:=dA s 6;have w8:=dA s 8
 by_cases c0:0≤twoI s 0
 ·by_cases c2:0≤twoI s 2
  ·by_cases c4:0≤twoI s 4
   ·by_cases c6:0≤twoI s 6
    ·by_cases c8:0≤twoI s 8
     ·rw [if_pos c0,if_pos c2,if_pos c4,if_pos c6,if_pos c8]
      refine⟨?_,fun _=>rfl⟩
      unfold momOk atOk
      exact decide_eq_decide.2 z2_
     ·have hf:momOk y s=false:=am z2_
      rw [hf,if_neg c8]
      exact⟨(am (by unfold atOk;omega)).symm,fun h=>by cases h⟩
    ·have hf:momOk y s=false:=am z2_
     rw [hf,if_neg c6]
     exact⟨(am (by unfold atOk;omega)).symm,fun h=>by cases h⟩
   ·have hf:momOk y s=false:=am z2_
    rw [hf,if_neg c4]
    exact⟨(am (by unfold atOk;omega)).symm,fun h=>by cases h⟩
  ·have hf:momOk y s=false:=am z2_
   rw [hf,if_neg c2]
   exact⟨(am (by unfold atOk;omega)).symm,fun h=>by cases h⟩
 ·have hf:momOk y s=false:=am z2_
  rw [hf,if_neg c0]
  exact⟨(am (by unfold atOk;omega)).symm,fun h=>by cases h⟩
theorem of_fn (y:Int) (s:List UInt8) (h:Part) (hl:s.length=10) (hy:y≤9999):Pure Tryz.prog 240 [.int .i64 y,.string ⟨s.toArray⟩] h (.tuple #[.int .i64 (momV y s),.bool (momOk y s)]):=by
 obtain⟨hm1,hm2⟩:=momOk_at y s hl hy
 refine aG Tryz.func240 rfl Tryz.ntmps240 rfl (fun e he=>?_)
 refine aU [(0,_),(1,_)] ⟨rfl,rfl,trivial⟩ ?_
 refine Sr (Ru 2 rfl (a_ (aw (cT cK cY ?_))))
 refine Rq 2 rfl ?_
 refine bR (bU d_ rfl rfl rfl (show _=((0:Nat):Int) from rfl) (show _=((2:Nat):Int) from rfl) z2_ z2_) rfl ?_
 refine di gn rfl (f_ _ _ rA) rfl ?_
 refine Rq 1 rfl ?_
 refine bR (bU d_ rfl rfl rfl (show _=((2:Nat):Int) from rfl) (show _=((4:Nat):Int) from rfl) z2_ z2_) rfl ?_
 refine di gn rfl (f_ _ _ rA) rfl ?_
 refine Rq 1 rfl ?_
 refine bR (bU d_ rfl rfl rfl (show _=((4:Nat):Int) from rfl) (show _=((6:Nat):Int) from rfl) z2_ z2_) rfl ?_
 refine di gn rfl (f_ _ _ rA) rfl ?_
 refine Rq 1 rfl ?_
 refine bR (bU d_ rfl rfl rfl (show _=((6:Nat):Int) from rfl) (show _=((8:Nat):Int) from rfl) z2_ z2_) rfl ?_
 refine di gn rfl (f_ _ _ rA) rfl ?_
 refine Rq 1 rfl ?_
 refine bR (bU d_ rfl rfl rfl (show _=((8:Nat):Int) from rfl) (show _=((10:Nat):Int) from rfl) z2_ z2_) rfl ?_
 refine di gn rfl (f_ _ _ rA) rfl ?_
 refine di ca_255 rfl (at_fn _ _ _ _ _ _ _) rfl ?_
 refine Rq 4 rfl ?_
 refine Nq [5,4] rfl ?_
 exact az (aS rfl rfl rfl) (by rw [momV,hm1];rw [hm1] at hm2;split;(rename_i hz;rw [if_pos (by simpa using hz),hm2 (by simpa using hz)]);(rename_i hz;rw [if_neg (by simpa using hz)])) rfl
theorem rN (s:List UInt8) (h:Part) (h2:s.length≤140737488355328):Pure Tryz.prog 197 [.string ⟨s.toArray⟩] h (.tuple #[.int .i64 (psT s),.int .i64 (if psOk s then 0 else 21)]):=by
 have w0:=dA s 0
 have hp2:2≤s.length→(0≤twoI s 0∧partI (s.take 2)=twoI s 0)∨(twoI s 0<0∧partI (s.take 2)=-1):=fun hh=>by
  have:=g_ s 0 z2_
  rw [List.drop_zero] at this
  split at this<;>omega
 refine aG Tryz.func197 rfl Tryz.ntmps197 rfl (fun e he=>?_)
 refine aU [(0,_)] ⟨rfl,trivial⟩ ?_
 refine Sr (Ru 2 rfl (a_ (aw (aw (cj [(20,.bool (decide (¬ (s.length=13∧byteAt s 12=90∧0≤twoI s 0))))] [(3,_),(2,_),(0,_)] ⟨rfl,rfl,rfl,trivial⟩ ?_ ?_)))))
 ·refine Rg (Ru 1 rfl (ae (bY d_ rfl) rfl ?_))
  refine Ru 2 rfl (Bs 10 rfl (fun hc1=>?_) fun hc1=>?_)
  ·refine Ru 10 rfl (a_ (⟨rfl,rfl,?_⟩))
   exact z8_
  refine Ru 1 rfl (aH rfl rfl  (bj (m:=12) d_ rfl rfl rfl z2_) rfl ?_)
  refine Ru 3 rfl (Bs 15 rfl (fun hc2=>?_) fun hc2=>?_)
  ·refine Ru 5 rfl (a_ (⟨rfl,rfl,?_⟩))
   exact z8_
  refine Ru 1 rfl (aH rfl rfl  (RunV.strCut_h d_ rfl rfl (show _=((2:Nat):Int) from rfl) z2_) rfl ?_)
  refine cE rfl rfl  gn rfl (f_ _ _ rA) rfl ?_
  refine Ru 2 rfl (a_ (⟨rfl,rfl,?_⟩))
  exact z8_
 refine Cs rfl (fun hc4=>?_) fun hc4=>?_
 ·have hm:psOk s=false:=(by unfold psOk;by_cases hz:s.length=13∧byteAt s 12=90;(have hy:psY s=twoI s 0:=if_neg z2_);rw [hy,show momOk (twoI s 0) ((s.drop 2).take 10)=false from am z2_,Bool.and_false];rw [am hz,Bool.false_and])
  exact Sr (Ru 2 rfl (a_ (az (aS rfl rfl rfl) (by rw [psT,hm];rfl) rfl)))
 obtain⟨hl13,hz90,htw⟩:s.length=13∧byteAt s 12=90∧0≤twoI s 0:=z2_;have hp3:partI (s.take 2)=twoI s 0:=z2_
 refine ax (Sr (Ru 1 rfl (ae (RunV.strCut_h d_ rfl rfl (show _=((2:Nat):Int) from rfl) z2_) rfl ?_)))
 refine aV gn rfl (f_ _ _ rA) rfl ?_
 rw [hp3]
 refine ae ai_ rfl ?_
 refine Ru 1 rfl (Nk [4,3,2,0] rfl (aw (Sr (Ru 2 rfl (a_ (Cs rfl (fun hc6=>?_) fun hc6=>?_))))))
 ·have hy:psY s=twoI s 0+1900+100:=(by unfold psY;rw [if_pos z2_,if_pos z2_])
  refine Rg (Ru 1 rfl (ae ai_ rfl ?_))
  refine Ru 1 rfl (Nk [4,3,2,0] rfl (Sr ?_))
  rw [show 1900+twoI s 0=twoI s 0+1900 by omega];rw [← hy];have hps:psOk s=momOk (psY s) ((s.drop 2).take 10):=(by unfold psOk;rw [an ⟨hl13,hz90⟩,Bool.true_and])
  refine Ru 2 rfl (ae (bU d_ rfl rfl rfl (show _=((2:Nat):Int) from rfl) (show _=((12:Nat):Int) from rfl) z2_ z2_) rfl ?_)
  refine aV rh rfl (of_fn _ _ _ rA z2_) rfl ?_
  refine Ru 5 rfl (Nk [6,5,3,2] rfl (aw (Sr (Ru 2 rfl (a_ (Cs rfl (fun hc8=>?_) fun hc8=>?_))))))
  ·exact Sr (Ru 2 rfl (Nk [3,2,5] rfl (az (aS rfl rfl rfl) (by rw [psT,hps,hc8];rfl) rfl)))
  exact ax (Sr (Ru 3 rfl (Nk [3,2] rfl (az (aS rfl rfl rfl) (by simp [psT,hps,momV,hc8]) rfl))))
 have hy:psY s=twoI s 0+1900:=(by unfold psY;rw [if_pos z2_,if_neg z2_])
 refine ax (Sr ?_)
 rw [show 1900+twoI s 0=twoI s 0+1900 by omega];rw [← hy];have hps:psOk s=momOk (psY s) ((s.drop 2).take 10):=(by unfold psOk;rw [an ⟨hl13,hz90⟩,Bool.true_and])
 refine Ru 2 rfl (ae (bU d_ rfl rfl rfl (show _=((2:Nat):Int) from rfl) (show _=((12:Nat):Int) from rfl) z2_ z2_) rfl ?_)
 refine aV rh rfl (of_fn _ _ _ rA z2_) rfl ?_
 refine Ru 5 rfl (Nk [6,5,3,2] rfl (aw (Sr (Ru 2 rfl (a_ (Cs rfl (fun hc10=>?_) fun hc10=>?_))))))
 ·exact Sr (Ru 2 rfl (Nk [3,2,5] rfl (az (aS rfl rfl rfl) (by simp [psT,hps,momV,hc10]) rfl)))
 exact ax (Sr (Ru 3 rfl (Nk [3,2] rfl (az (aS rfl rfl rfl) (by simp [psT,hps,momV,hc10]) rfl))))
theorem qG (s g:List UInt8) (hg:g.length=6) (hb:∀ k,k<6→byteAt g k=if 15+k+1<s.length then byteAt s (15+k) else 48):∀ k,k≤6→(g.take k).all dig=micOk s k∧(micOk s k=true→(numV (g.take k):Int)=micI s k)
 |0,_=>by simp [micOk,micI,numV]
 |k+1,hk=>by
  obtain⟨i1,i2⟩:=qG s g hg hb k z2_
  have hbk:=hb k z2_
  rw [mB g k z2_,gW g k z2_,i1]
  simp only [micOk,micI]
  by_cases hh:15+k+1<s.length
  ·rw [if_pos hh,if_pos hh]
   rw [if_pos hh] at hbk
   rw [hbk]
   refine⟨rfl,fun hz=>?_⟩
   rw [Bool.and_eq_true] at hz
   have:=i2 hz.1
   have:=of_decide_eq_true hz.2
   omega
  ·rw [if_neg hh,if_neg hh]
   rw [if_neg hh] at hbk
   rw [hbk,an z2_,Bool.and_true]
   exact⟨rfl,fun hz=>by have:=i2 hz;omega⟩
theorem part_mic (s g:List UInt8) (hg:g.length=6) (hb:∀ k,k<6→byteAt g k=if 15+k+1<s.length then byteAt s (15+k) else 48):(micOk s 6=true∧partI g=micI s 6∧0≤partI g)∨(micOk s 6=false∧partI g=-1):=by
 obtain⟨i1,i2⟩:=qG s g hg hb 6 (aD _)
 rw [aJ z2_] at i1 i2
 unfold partI
 rw [i1]
 cases hm:micOk s 6 with
 |true=>left;rw [if_pos rfl];exact⟨rfl,i2 hm,by omega⟩
 |false=>right;exact⟨rfl,by simp⟩
theorem sq (l:List UInt8) (n k:Nat) (h:k<l.length+n):byteAt (l++List.replicate n 48) k=if k<l.length then byteAt l k else 48:=by
 unfold byteAt
 rw [bg,List.getElem?_append]
 split
 ·rw [bg]
 ·rw [List.getElem?_replicate,if_pos z2_];rfl
theorem pl_year {s:List UInt8}{y:Int}{q:List UInt8}(h:4≤s.length) (hy:y=partI (s.take 4)):momOk y q=momOk (twoI s 0*100+twoI s 2) q∧momV y q=momV (twoI s 0*100+twoI s 2) q∧y≤9999:=by
 rcases part_four s h with ⟨e1,e2,e3⟩|⟨e1,e2⟩
 ·rw [hy,e1];exact⟨rfl,rfl,e3⟩
 ·have f1:momOk y q=false:=am z2_
  have f2:momOk (twoI s 0*100+twoI s 2) q=false:=am z2_
  unfold momV
  rw [f1,f2]
  exact⟨rfl,rfl,by omega⟩
theorem rplong_fn (s:List UInt8) (h:Part) (h2:s.length≤140737488355328):Pure Tryz.prog 198 [.string ⟨s.toArray⟩] h (.tuple #[.int .i64 (if plOk s then momT (twoI s 0*100+twoI s 2) ((s.drop 4).take 10) else 0),.int .i64 (if plOk s then plM s else 0),.int .i64 (if plOk s then 0 else 21)]):=by
 have e1:((s.length:Int)-1).toNat=s.length-1:=by omega
 have hbl:=bK s (s.length-1)
 refine aG Tryz.func198 rfl Tryz.ntmps198 rfl (fun e he=>?_)
 refine aU [(0,_)] ⟨rfl,trivial⟩ ?_
 refine Sr (Ru 3 rfl (a_ (aw (aw (cj [(30,.bool (decide (¬ (15≤s.length∧s.length≤22∧byteAt s (s.length-1)=90∧s.length≠16))))] [(4,_),(3,_),(2,_),(0,_)] ⟨rfl,rfl,rfl,rfl,trivial⟩ ?_ ?_)))))
 ·refine Rg (Ru 1 rfl (ae (bY d_ rfl) rfl ?_))
  refine Ru 2 rfl (Bs 13 rfl (fun hc1=>?_) fun hc1=>?_)
  ·refine Ru 17 rfl (a_ (⟨rfl,rfl,?_⟩))
   exact z8_
  refine Ru 1 rfl (aH rfl rfl  (bY d_ rfl) rfl ?_)
  refine Ru 3 rfl (Bs 18 rfl (fun hc2=>?_) fun hc2=>?_)
  ·refine Ru 12 rfl (a_ (⟨rfl,rfl,?_⟩))
   exact z8_
  refine Ru 2 rfl (aH rfl rfl  (bY d_ rfl) rfl ?_)
  refine aH rfl rfl  si_ rfl ?_
  refine aH rfl rfl  (bj (m:=s.length-1) d_ rfl rfl z2_ z2_) rfl ?_
  refine Ru 3 rfl (Bs 26 rfl (fun hc3=>?_) fun hc3=>?_)
  ·refine Ru 4 rfl (a_ (⟨rfl,rfl,?_⟩))
   exact z8_
  refine Ru 1 rfl (aH rfl rfl  (bY d_ rfl) rfl ?_)
  refine Ru 2 rfl (a_ (⟨rfl,rfl,?_⟩))
  exact z8_
 refine Cs rfl (fun hc4=>?_) fun hc4=>?_
 ·have hm:plOk s=false:=(by by_cases hz:15≤s.length∧s.length≤22∧byteAt s (s.length-1)=90;exact pl_f2 z2_ z2_;exact pl_f1 hz)
  exact Sr (Ru 3 rfl (Nk [4,3,2,0] rfl (az (bM rfl rfl rfl rfl) (by rw [hm];rfl) rfl)))
 obtain⟨l15,l22,lz,l16⟩:15≤s.length∧s.length≤22∧byteAt s (s.length-1)=90∧s.length≠16:=z2_;obtain⟨F,hF⟩:∃ F,F=(s.drop 14).take (s.length-1-14):=⟨_,rfl⟩;have hFl:F.length=s.length-15:=(by rw [hF];simp;omega);have hFb:∀ k,k<s.length-15→byteAt F k=byteAt s (14+k):=(fun k hk=>by rw [hF];exact gh s 14 _ k z2_);obtain⟨hy1,hy2,hy3⟩:=pl_year (s:=s) (y:=partI (s.take 4)) (q:=(s.drop 4).take 10) z2_ rfl
 refine ax (Sr (Ru 2 rfl (ae (bY d_ rfl) rfl ?_)))
 refine ae si_ rfl ?_
 refine ae (bU (m:=14) (m':=s.length-1) d_ rfl rfl rfl rfl z2_ z2_ z2_) rfl ?_
 rw [← hF]
 refine Ru 1 rfl (Nk [5,4,3,2,0] rfl (Sr (Ru 1 rfl (a_ (aw (Sr (Ru 1 rfl (ae (RunV.neqS rfl rfl) rfl ?_))))))))
 refine a_ (Cs rfl (fun hc5=>?_) fun hc5=>?_)
 ·have hne:s.length≠15:=(fun h15=>hc5 (List.eq_nil_of_length_eq_zero z2_));have hd1:(F.drop 1).length=s.length-16:=(by rw [bm];omega)
  refine Sr (Ru 1 rfl (ae (RunV.strCut_l d_ rfl rfl (show _=((1:Nat):Int) from rfl) z2_) rfl ?_))
  refine Ru 1 rfl (Nk [7,6,5,4,3,2,0] rfl (aw (aE (bC (fun t_ S_ h_ L_=>∃ (j:Nat) (G:List UInt8),t_=6-j∧S_=[(0,.string ⟨s.toArray⟩),(5,.string ⟨F.toArray⟩),(7,.string ⟨G.toArray⟩)]∧h=h_∧L_=[]∧((F.drop 1).length+j≤6∧G=F.drop 1++List.replicate j 48)) ⟨_,_,?_,⟨0,F.drop 1,rfl,rfl,rfl,rfl,⟨by omega,by simp⟩⟩⟩ ?_))))
  ·exact z7_
  rintro _ _ _ _ ⟨j,G,rfl,rfl,rfl,rfl,hj,hG⟩
  have hgl:G.length=(F.drop 1).length+j:=(by rw [hG,aX,List.length_replicate])
  refine aw (Sr (Ru 1 rfl (ae (bY d_ rfl) rfl ?_)))
  refine Ru 1 rfl (a_ (Cs rfl (fun hc6=>?_) fun hc6=>?_))
  ·refine ax (aE (Rg (Ru 1 rfl (ae (RunV.addS rfl rfl z4_) rfl ?_))))
   refine Ru 1 rfl (a_ (⟨_,?_,_,?_,⟨j+1,G++[48],rfl,rfl,rfl,rfl,⟨by omega,by rw [hG,List.append_assoc,← List.replicate_succ']⟩⟩⟩))
   ·omega
   exact z7_
  have hgb:∀ k,k<6→byteAt G k=if 15+k+1<s.length then byteAt s (15+k) else 48:=(fun k hk=>by rw [hG,sq _ _ _ z2_];by_cases hz:k<(F.drop 1).length;rw [if_pos hz,if_pos z2_,show 15+k=14+(1+k) by omega,← hFb (1+k) z2_];unfold byteAt;simp [Nat.add_comm];rw [if_neg hz,if_neg z2_]);have hpm:=part_mic s _ z2_ hgb;have hf0:byteAt F 0=byteAt s 14:=hFb 0 z2_;have hf1:=hFb (s.length-16) z2_;rw [show 14+(s.length-16)=s.length-2 by omega] at hf1
  refine bx (Sr (Ru 1 rfl (aV gn rfl (f_ _ _ z2_) rfl ?_)))
  refine Ru 1 rfl (Nk [6,0,5] rfl (aw (cj [(61,.bool (decide (¬ (byteAt s 14=46∧byteAt s (s.length-2)≠48)∨partI G<0)))] [(6,_),(0,_)] ⟨rfl,rfl,trivial⟩ ?_ ?_)))
  ·refine Rg (Ru 1 rfl (ae (bj (m:=0) d_ rfl rfl rfl z2_) rfl ?_))
   refine Ru 2 rfl (Bs 50 rfl (fun hc8=>?_) fun hc8=>?_)
   ·refine Ru 11 rfl (a_ (⟨rfl,rfl,?_⟩))
    exact z8_
   refine Ru 4 rfl (Bs 54 rfl (fun hc9=>?_) fun hc9=>?_)
   ·refine Ru 7 rfl (a_ (⟨rfl,rfl,?_⟩))
    exact z8_
   refine Ru 2 rfl (aH rfl rfl  (bY d_ rfl) rfl ?_)
   refine aH rfl rfl  si_ rfl ?_
   refine aH rfl rfl  (bj (m:=s.length-16) d_ rfl rfl z2_ z2_) rfl ?_
   refine Ru 2 rfl (a_ (⟨rfl,rfl,?_⟩))
   exact z8_
  refine Cs rfl (fun hc10=>?_) fun hc10=>?_
  ·have hm:plOk s=false:=(by rcases hpm with ⟨p1,p2,p3⟩|⟨p1,p2⟩;exact pl_f2 hne z2_;exact pl_f3 6 hne z2_ p1)
   exact Sr (Ru 3 rfl (a_ (az (bM rfl rfl rfl rfl) (by rw [hm];rfl) rfl)))
  obtain⟨p1,p2,p3⟩:micOk s 6=true∧partI G=micI s 6∧0≤partI G:=(by rcases hpm with hq|⟨q1,q2⟩;exact hq;exfalso;omega);have hpl:=pl_t1 (s:=s) ⟨l15,l22,lz⟩ hne z2_ p1;have hpM:plM s=micI s 6:=if_neg hne;rw [p2,← hpM]
  refine ax (aw (cT cK cY ?_))
  refine Rq 1 rfl ?_
  refine bR (RunV.strCut_h d_ rfl rfl (show _=((4:Nat):Int) from rfl) z2_) rfl ?_
  refine di gn rfl (f_ _ _ rA) rfl ?_
  refine Rq 1 rfl ?_
  refine bR (bU d_ rfl rfl rfl (show _=((4:Nat):Int) from rfl) (show _=((14:Nat):Int) from rfl) z2_ z2_) rfl ?_
  refine di rh rfl (of_fn _ _ _ rA hy3) rfl ?_
  rw [hy1,hy2]
  refine Rq 5 rfl ?_
  refine Nq [9,8,6] rfl ?_
  refine aw (Sr (Ru 2 rfl (a_ (Cs rfl (fun hc13=>?_) fun hc13=>?_))))
  ·exact Sr (Ru 3 rfl (a_ (az (bM rfl rfl rfl rfl) (by simp [hpl,hpM,momV,hc13]) rfl)))
  exact ax (Sr (Ru 5 rfl (Nk [4,3,2] rfl (az (bM rfl rfl rfl rfl) (by simp [hpl,hpM,momV,hc13]) rfl))))
 have h15:s.length=15:=(by have hF0:F.length=0:=(by rw [show F=[] from hc5];rfl);omega);have hpl:=pl_t0 (s:=s) ⟨l15,l22,lz⟩ h15;have hpM:plM s=0:=if_pos h15
 refine ax (aw (cT cK cY ?_))
 refine Rq 1 rfl ?_
 refine bR (RunV.strCut_h d_ rfl rfl (show _=((4:Nat):Int) from rfl) z2_) rfl ?_
 refine di gn rfl (f_ _ _ rA) rfl ?_
 refine Rq 1 rfl ?_
 refine bR (bU d_ rfl rfl rfl (show _=((4:Nat):Int) from rfl) (show _=((14:Nat):Int) from rfl) z2_ z2_) rfl ?_
 refine di rh rfl (of_fn _ _ _ rA hy3) rfl ?_
 rw [hy1,hy2]
 refine Rq 5 rfl ?_
 refine Nq [9,8,6,4,3,2] rfl ?_
 refine aw (Sr (Ru 2 rfl (a_ (Cs rfl (fun hc16=>?_) fun hc16=>?_))))
 ·exact Sr (Ru 3 rfl (Nk [4,3,2,8,6] rfl (az (bM rfl rfl rfl rfl) (by simp [hpl,hpM,momV,hc16]) rfl)))
 exact ax (Sr (Ru 5 rfl (Nk [4,3,2] rfl (az (bM rfl rfl rfl rfl) (by simp [hpl,hpM,momV,hc16]) rfl))))
end
section
def prL:List UInt8:=[32,39,40,41,43,44,45,46,47,58,61,63]
def prAl (b:Int):Bool:=(decide (65≤b∧b≤90)||decide (97≤b∧b≤122))||decide (48≤b∧b≤57)
def prAny (b:Int) (l:List UInt8):Bool:=l.any fun x=>decide (b=x.toNat)
theorem prC_eq (b:Nat):prC b=(prAl b||prAny b prL):=by
 rw [Bool.eq_iff_iff]
 simp only [prC,prAl,prAny,prL,List.any_cons,List.any_nil,Bool.or_eq_true,aj,Bool.or_false,show((32:UInt8).toNat=32) from rfl,show((39:UInt8).toNat=39) from rfl,show((40:UInt8).toNat=40) from rfl,show((41:UInt8).toNat=41) from rfl,show((43:UInt8).toNat=43) from rfl,show((44:UInt8).toNat=44) from rfl,show((45:UInt8).toNat=45) from rfl,show((46:UInt8).toNat=46) from rfl,show((47:UInt8).toNat=47) from rfl,show((58:UInt8).toNat=58) from rfl,show((61:UInt8).toNat=61) from rfl,show((63:UInt8).toNat=63) from rfl]
 omega
theorem rU (b:Int) (q:Nat) (h:q<prL.length):prAny b (prL.take (q+1))=(prAny b (prL.take q)||decide (b=byteAt prL q)):=by
 unfold prAny
 rw [av h,List.any_append,List.any_cons,List.any_nil,Bool.or_false,bv prL q h]
theorem prC_lt (c:Nat) (h:prC c=true):c<128:=by
 have:=of_decide_eq_true h;omega
theorem rprint_fn (s:List UInt8) (h:Part) (hl:s.length≤140737488355328):Pure Tryz.prog 195 [.string ⟨s.toArray⟩] h (.bool (runes (fun c _=>prC c) s 0)):=by
 rw [mM prC_lt _ s (aD _)]
 have hpl:prL.length=12:=rfl
 refine aG Tryz.func195 rfl Tryz.ntmps195 rfl (fun e he=>?_)
 refine aU [(0,_)] ⟨rfl,trivial⟩ ?_
 refine Sr (Ru 1 rfl (a_ ?_))
 refine Sr (Ru 1 rfl (a_ (aw (Sr (Ru 1 rfl (a_ (aE (bC (fun t_ S_ h_ L_=>∃ (p:Nat),t_=s.length-p∧S_=[(0,.string ⟨s.toArray⟩),(3,.string ⟨prL.toArray⟩),(4,.int .i64 p)]∧h=h_∧L_=[]∧(p≤s.length∧(s.all fun b=>prC b.toNat)=(s.drop p).all fun b=>prC b.toNat)) ⟨_,_,?_,⟨0,rfl,rfl,rfl,rfl,⟨by omega,rfl⟩⟩⟩ ?_))))))))
 ·exact z7_
 rintro _ _ _ _ ⟨p,rfl,rfl,rfl,rfl,hp,hq⟩
 refine aw (Sr (Ru 2 rfl (ae (bY d_ rfl) rfl ?_)))
 refine Ru 1 rfl (a_ (Cs rfl (fun hc1=>?_) fun hc1=>?_))
 ·have hst:=ru prC s p z2_;have hbp:=bK s p
  refine ax (aw (aE (Sr (Ru 2 rfl (ae (bj (m:=p) d_ rfl rfl z2_ z2_) rfl ?_)))))
  refine ae j8 rfl ?_
  refine Ru 1 rfl (a_ (Sr (Ru 1 rfl (aV eN rfl (cI _ _ _ _) rfl ?_))))
  refine Ru 1 rfl ?_
  apply On 20 23 3 [5,17,16,15,14,11,10,9,8,0,3,4] rfl rfl
  rotate_left
  ·intro hb3 hc3
   refine Ru 1 rfl (cE rfl rfl  eN rfl (cI _ _ _ _) rfl ?_)
   exact Ru 1 rfl (Ae (om_f hb3 rfl) rfl)
  rotate_right
  ·exact fun hb3 _=>Ru 3 rfl (Ae (om_t hb3 rfl) rfl)
  refine Ru 1 rfl ?_
  apply On 24 27 3 [5,17,16,15,14,11,10,9,8,0,3,4] rfl rfl
  rotate_left
  ·intro hb5 hc5
   refine Ru 1 rfl (cE rfl rfl  eN rfl (cI _ _ _ _) rfl ?_)
   exact Ru 1 rfl (Ae (om_f hb5 rfl) rfl)
  rotate_right
  ·exact fun hb5 _=>Ru 3 rfl (Ae (om_t hb5 rfl) rfl)
  refine Ru 1 rfl (a_ (aw (Sr (Ru 1 rfl (a_ (aE (bC (fun t_ S_ h_ L_=>∃ (q:Nat) (v:Bool),t_=prL.length-q∧S_=[(0,.string ⟨s.toArray⟩),(3,.string ⟨prL.toArray⟩),(4,.int .i64 p),(6,.bool v),(7,.int .i64 q)]∧h=h_∧L_=[]∧(q≤prL.length∧v=(prAl (byteAt s p)||prAny (byteAt s p) (prL.take q)))) ⟨_,_,?_,⟨0,prAl (byteAt s p),rfl,rfl,rfl,rfl,⟨by omega,by simp [prAny]⟩⟩⟩ ?_)))))))
  ·exact z7_
  rintro _ _ _ _ ⟨q,v,rfl,rfl,rfl,rfl,hq1,hv⟩
  refine aw (Sr (Ru 2 rfl (ae (bY d_ rfl) rfl ?_)))
  refine Ru 1 rfl (a_ (Cs rfl (fun hc7=>?_) fun hc7=>?_))
  ·refine ax (aw (aE (cj [(6,.bool (v||decide ((byteAt s p:Int)=byteAt prL q)))] [(31,_),(30,_),(29,_),(28,_),(0,_),(3,_),(4,_),(7,_)] ⟨rfl,rfl,rfl,rfl,rfl,rfl,rfl,rfl,trivial⟩ ?_ ?_)))
   ·refine cT cK cY ?_
    refine Rq 2 rfl ?_
    refine Bq 35 rfl (fun hc8=>?_) fun hc8=>?_
    ·refine Rq 9 rfl ?_
     refine JQ.nil ?_
     refine⟨rfl,rfl,?_⟩
     repeat (first|exact trivial|refine⟨rfl,?_⟩|refine⟨(by exact cy (by cases v<;>simp_all)),?_⟩)
    refine Rq 2 rfl ?_
    refine cW rfl rfl  (bj (m:=p) d_ rfl rfl z2_ z2_) rfl ?_
    refine Rq 2 rfl ?_
    refine cW rfl rfl  (bj (m:=q) d_ rfl rfl z2_ z2_) rfl ?_
    refine Rq 3 rfl ?_
    refine JQ.nil ?_
    refine⟨rfl,rfl,?_⟩
    repeat (first|exact trivial|refine⟨rfl,?_⟩|refine⟨(by exact cy (by cases v<;>simp_all)),?_⟩)
   refine Rg (Ru 1 rfl (ae ai_ rfl ?_))
   refine Ru 1 rfl (a_ (⟨_,?_,_,?_,⟨q+1,(v||decide ((byteAt s p:Int)=byteAt prL q)),rfl,rfl,rfl,rfl,⟨by omega,by rw [hv,rU _ _ z2_,Bool.or_assoc]⟩⟩⟩))
   ·omega
   exact z7_
  have hqe:q=prL.length:=z2_;have hpc:prC (byteAt s p)=v:=(by rw [hv,prC_eq,hqe,List.take_length])
  refine bx (Sr (Ru 2 rfl (a_ (Cs rfl (fun hc9=>?_) fun hc9=>?_))))
  ·exact Sr (Ru 1 rfl (a_ (az (au rfl rfl) (by rw [hq,hst,hpc];simp_all) rfl)))
  refine ax (Rg (Ru 1 rfl (ae ai_ rfl ?_)))
  refine Ru 1 rfl (a_ (⟨_,?_,_,?_,⟨p+1,rfl,rfl,rfl,rfl,⟨by omega,by rw [hq,hst,hpc];simp_all⟩⟩⟩))
  ·omega
  exact z7_
 exact bx (Kp [] rfl (Sr (Ru 1 rfl (a_ (az (au rfl rfl) (by rw [hq,List.drop_of_length_le z2_];rfl) rfl)))))
end
section
set_option maxRecDepth 100000
theorem ofNat_mod (n:Nat):UInt8.ofNat (n % 256)=UInt8.ofNat n:=by
 apply UInt8.toNat_inj.1
 simp
theorem oY (n j:Nat) (hn:n≤140737488355328) (h0:128≤n) (h2:j≤nby n):0<n / 256 ^ j↔j<nby n:=by
 cases j with
 |zero=>have:=jT n;simp;omega
 |succ j=>exact nby_gt n (j+1) hn z2_ h2
theorem jW {n:Nat}{h:Part}(hn:n≤140737488355328):FnR Tryz.prog 209 [.int .i64 n] h (fun v h'=>∃ a c,v=.slice a (lenB n).length c∧SlR u8R 1 h' a c (lenB n)):=by
 have hk:=jT n
 refine aG Tryz.func209 rfl Tryz.ntmps209 rfl (fun e he=>?_)
 refine aU [(0,_)] ⟨rfl,trivial⟩ ?_
 have hh0:=aO h
 refine Sr (Ru 1 rfl (a_ (aw (Sr (Ru 2 rfl (a_ (Cs rfl (fun hc1=>?_) fun hc1=>?_)))))))
 ·have hlb1:lenB n=[UInt8.ofNat n]:=if_pos z2_
  refine Sr (Ru 1 rfl (ae (cx n ib rfl rfl) rfl ?_))
  refine ct cP mC rfl rfl rfl rfl rfl (fun b2=>?_)
  refine JL.pubB (R:=u8R) (sz:=1) (l:=[UInt8.ofNat n]) dl_ (nQ (by first|kernel_rfl|rfl)) (by first|decide|omega|(simp;done)) (fun h3 hle3 hQ=>?_)
  replace hh0:=hh0.mono hle3
  refine Ru 1 rfl (Nk [2,0] rfl ?_)
  rw [hlb1];exact b_ (au rfl rfl) ⟨some ⟨b2,0,none⟩,1,rfl,hQ⟩
 refine ax (Sr (Ru 1 rfl (a_ (aw (aE (bC (fun t_ S_ h_ L_=>∃ (g:Part) (j:Nat) (la:Option Addr) (lc:Nat),t_=7-j∧S_=[(0,.int .i64 (n / 256 ^ j:Nat)),(3,.slice la (be j n).length lc)]∧g=h_∧L_=[]∧(h.le g∧j≤nby n∧SlR u8R 1 g la lc (be j n))) ⟨_,_,?_,⟨_,0,none,0,rfl,rfl,rfl,rfl,⟨by assumption,by omega,bc⟩⟩⟩ ?_))))))
 ·repeat (first|exact trivial|refine⟨rfl,?_⟩|refine⟨(by exact cm (by first|(simp;done)|(rw [Nat.pow_succ,← Nat.div_div_eq_div_mul];omega))),?_⟩)
 rintro _ _ _ _ ⟨g,j,la,lc,rfl,rfl,rfl,rfl,hhg,hj,hL⟩
 have hgt:=oY n j hn z2_ hj;have hlb:=ik j n;have hlb3:=ik (j+1) n;have hle:=Nat.div_le_self n (256 ^ j)
 refine aw (Sr (Ru 2 rfl (a_ (Cs rfl (fun hc4=>?_) fun hc4=>?_))))
 ·refine ax (aE (Sr (Ru 1 rfl (a_ (Sr (Ru 2 rfl (ae oe rfl ?_)))))))
  refine ae (cx (n / 256 ^ j % 256) ib rfl z2_) rfl ?_
  rw [ofNat_mod]
  refine ct cP mC rfl rfl rfl rfl rfl (fun b5=>?_)
  refine bZ 5 1 ?_
  refine bV cP rfl rfl (bQ (R:=u8R)) rfl dl_ dl_ rfl (rfl) z4_ rfl rfl (fun a6 c6 xs6 hC6 hN6=>?_)
  obtain rfl:=hC6.u8
  refine Ru 1 rfl (a_ (Sr (Ru 2 rfl (cw cP rfl rfl aW rfl z5_ rfl dl_ z4_ rfl rfl (fun a7 c7 xs7 hC7 hN7=>?_)))))
  obtain rfl:=hC7.u8
  refine cM (R:=u8R) (l:=be (j+1) n) dl_ aW rfl z4_ (fun h8 hle8 hP8=>?_)
  replace hhg:=hhg.mono hle8
  replace hL:=hL.mono hle8
  refine Ru 1 rfl (a_ (Rg (Ru 1 rfl (ae ky rfl ?_))))
  refine Ru 1 rfl (a_ (⟨_,?_,_,?_,⟨_,j+1,_,_,rfl,rfl,rfl,rfl,⟨by assumption,by omega,by assumption⟩⟩⟩))
  ·omega
  repeat (first|exact trivial|refine⟨rfl,?_⟩|refine⟨(by exact cm (by first|(simp;done)|(rw [Nat.pow_succ,← Nat.div_div_eq_div_mul];omega))),?_⟩)
 have hjn:j=nby n:=z2_;subst hjn;have hlb1:lenB n=UInt8.ofNat (128+nby n)::be (nby n) n:=if_neg z2_
 refine bx (Sr (Ru 2 rfl (ae ai_ rfl ?_)))
 refine ae (cx (128+nby n) ib rfl (by rw [hlb];omega)) rfl ?_
 refine ct cP mC rfl rfl rfl rfl rfl (fun b9=>?_)
 refine Ru 1 rfl (Nk [5,3] rfl (Sr (Ru 2 rfl (JL.rowB (b:=b9) dl_ ?_))))
 refine cw cP rfl rfl aW rfl z5_ rfl dl_ z4_ rfl rfl (fun a10 c10 xs10 hC10 hN10=>?_)
 obtain rfl:=hC10.u8
 refine cM (R:=u8R) (l:=UInt8.ofNat (128+nby n)::be (nby n) n) dl_ aW rfl z4_ (fun h11 hle11 hP11=>?_)
 replace hhg:=hhg.mono hle11
 replace hL:=hL.mono hle11
 refine Ru 1 rfl (Nk [2] rfl ?_)
 rw [hlb1];exact b_ (au rfl rfl) ⟨_,_,rfl,by assumption⟩
end
end Go.Proofs.YtcnacdlfmbigaaaGreatDoor
