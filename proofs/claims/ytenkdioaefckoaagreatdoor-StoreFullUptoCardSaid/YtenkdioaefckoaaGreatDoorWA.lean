/- Part 1 of what the statement rests on. -/
import Derived.WalkKit
import Derived.WalkLawsBesides
import Derived.RangeFuncLeaves
import Derived.OrdersIn
import Derived.TacticsIn
import Derived.Deep.AppendSrc
import Derived.Lib.Strings
import Derived.LaidEql
set_option linter.all false
open List renaming length->Z
open Bool renaming true->O,false->U
open Option renaming some->X,none->D
open Array renaming length_toList->Jc,toList_append->Nk
open Bool renaming and_eq_true->Af
open Go.Builtin renaming append_->Cv,firstCells->Cn,zeroCells->Cl
open Go.Result renaming andThen_ok->Ar
open Go.Sem renaming run_bind->Bd,run_pure->Cb
open Go.Value renaming int->Eu,ownBlock->Gn,slice->Hc
open Go.World renaming block_lt_of_cell?->Cx,cell?_of_block->Cw,ownsRow_nil->Hv
open Int renaming tmod_nonneg->Na
open List renaming eq_nil_of_length_eq_zero->Ay,getElem?_append_left->Ai,getElem?_append_right->Au,getElem?_cons_succ->Gp,getElem?_drop->Dm,getElem?_eq_getElem->Ab,getElem?_eq_none->Bp,getElem?_eq_some_iff->Ad,getElem?_map->Cd,getElem?_of_mem->Ck,getElem?_range->Fb,getElem?_set_ne->Bg,getElem?_set_self->Ba,getElem?_take_of_lt->Bm,getElem_mem->Aq,getLast?_eq_getElem?->Lo,length_append->Ah,length_drop->Dt,length_take->Cs,mem_append->Cc,mem_map->Cq,mem_of_getElem?->Ax,mem_of_mem_drop->Fl,mem_of_mem_take->Db,nodup_cons->Ci,prefix_refl->Ct,range->Dh,replicate->Ak,size_toArray->Gr,take_left->Gm
open Nat renaming add_mul->Ch,add_sub_cancel->Ih,add_zero->Ft,beq->Av,ble->Gc,blt->Fi,div_add_mod->Ge,div_lt_iff_lt_mul->Dl,le_of_ble_eq_true->Co,le_refl->Bc,le_trans->Cp,lor->Nr,lt_of_lt_of_le->Ew,min_eq_left->Gw,mod_le->Lk,mod_lt->Eh,mul_add_div->Ji,mul_comm->De,mul_le_mul_right->Bu,zero_add->Bv,zero_le->Bq
open Option renaming map_eq_some_iff->Cg
open Option.some renaming injEq->Ff
namespace Go.AW
theorem bk {p:Prop}[i:Decidable p]:decide p=U↔¬p:=decide_eq_false_iff_not
theorem bm {p:Prop}[i:Decidable p](a:decide p=U):¬p:=of_decide_eq_false a
theorem bn {p:Prop}[i:Decidable p](a:decide p=O):p:=of_decide_eq_true a
theorem bo {p:Prop}[i:Decidable p]:(decide p=O)=p:=decide_eq_true_eq
theorem bp {p:Prop}[i:Decidable p](a:¬p):decide p=false:=decide_eq_false a
theorem bq {p:Prop}[i:Decidable p](a:p):decide p=true:=decide_eq_true a
theorem bt.{u} {c:Prop}{h:Decidable c}(a:¬c){α:Sort u}{t e:α}:ite c t e=e:=if_neg a
theorem bu.{u} {c:Prop}{h:Decidable c}(a:c){α:Sort u}{t e:α}:ite c t e=t:=if_pos a
def bv.{v} {a:Prop}{b:Sort v}(h:a)(k:¬a):b:=absurd h k
open Go.RowKit
abbrev _root_.ax:=List Int
abbrev _root_.ay:=List UInt8
abbrev _root_.a6:=List Nat
abbrev _root_.bb:=List Value
abbrev _root_.bc:=List Oper
def _root_.o_{P:Prop}(h:P:=by omega):P:=h
def _root_.d_{P:Prop}(h:P:=by decide):P:=h
def _root_.s_{P:Prop}(h:P:=by simp):P:=h
def _root_.q_{P:Prop}(h:P:=by simp;omega):P:=h
def bS:IntKind->Int
 | .i8=> -128 | .i16=> -32768 | .i32=> -2147483648 | .i64=> -9223372036854775808|_=>0
def aX:IntKind->Int
 | .i8=>127 | .i16=>32767 | .i32=>2147483647 | .i64=>9223372036854775807
 | .u8=>255 | .u16=>65535 | .u32=>4294967295 | .u64=>18446744073709551615
def inR(k:IntKind)(n:Int):Prop:=bS k<=n/\n<=aX k
inductive Tk where
 | no|nil|full|own (k g:Nat)
inductive aa where
 | undef
 | bool (b:Bool)
 | int (k:IntKind) (n:Int)
 | str (l:ay)
 | slice (sz:Nat) (xs:List aa) (t:Tk)
 | agg (cs:List aa)
 | tup (vs:List aa)
 | ptr (cs:List aa)
 | ref (k off:Nat)
 | eref (k g i sz off:Nat)
 | csl (k off len sz:Nat)
 | row (k g:Nat)
 | sub (k g lo len sz:Nat)
 | rowc (k g c:Nat)
 | pre (k g n c sz:Nat)
 | mref (k:Nat)
 | nilptr|nilslice|nilmap|nilfunc|nilif
 | hsl (a:Option Addr) (n c:Nat)
 | func (fn:Fn) (first caps:List aa)
 | iface (t:TypeId) (v:aa)
abbrev _root_.az:=List aa
abbrev _root_.au:=List (Nat×aa)
def aa.cells:aa->az
 | .agg cs=>cs
 | v=>[v]
abbrev Imm:=Nat->Nat->aa->Prop
def NoM(M:Imm)(b o:Nat):Prop:=∀x,¬ M b o x
abbrev Hs:=List bb
def at'(ob:Hs)(k g:Nat):Option Value:=(ob[k]?).bind λhs=>hs[g]?
def dR(ob ob':Hs):Prop:=∀(k:Nat) hs,ob[k]? =X hs->∃hs',ob'[k]? =X hs'/\hs<+:hs'
def dR.refl(ob:Hs):dR ob ob:=λ_ hs h=>⟨hs,h,Ct _⟩
def dR.trans{a b c:Hs}(h:dR a b)(k:dR b c):dR a c:=λi hs d=>by obtain⟨h1,f,e⟩:=h i hs d;obtain⟨j,l,g⟩:=k i h1 f;exact⟨j,l,e.trans g⟩
def dR.at{ob ob':Hs}(h:dR ob ob'){k g:Nat}{v:Value}(a:at' ob k g=X v):at' ob' k g=X v:=by
 unfold at' at *
 cases b:ob[k]? with
 | none=>grind
 | some hs=>
  rw[b]at a;obtain⟨hs',e,p⟩:=h k hs b;rw[e];simp only[Option.bind_some]at a⊢;obtain⟨t,rfl⟩:=p
  grind[Ai,Ad]
def yD(ob:Hs)(v:Value):Tk->Prop
 | .no=>True
 | .nil=>v= .slice D 0 0
 | .full=>∃a n,v= .slice a n n
 | .own k g=>at' ob k g=X v
def yD.mono{ob ob':Hs}(a:dR ob ob'){v:Value}{t:Tk}(h:yD ob v t):yD ob' v t:=by
 cases t with
 | own k g=>exact a.at h
 | _=>exact h
inductive Rep(M:Imm)(ob:Hs):Value->aa->Prop
 | undef (v):Rep M ob v .undef
 | bool (b):Rep M ob (.bool b) (.bool b)
 | int (k n) (h:inR k n):Rep M ob (.int k n) (.int k n)
 | str (l:ay) (h:(Z l:Int)<=9223372036854775807):Rep M ob (.string ⟨l.toArray⟩) (.str l)
 | agg (vs:bb) (as:az) (hl:Z vs=Z as) (h:∀(i:Nat) v a,vs[i]? =X v->as[i]? =X a->Rep M ob v a):Rep M ob (.agg vs.toArray) (.agg as)
 | tup (vs:bb) (as:az) (hl:Z vs=Z as) (h:∀(i:Nat) v a,vs[i]? =X v->as[i]? =X a->Rep M ob v a):Rep M ob (.tuple vs.toArray) (.tup as)
 | ptr (b o:Nat) (cs:az) (h:∀(j:Nat) c,cs[j]? =X c->M b (o+j) c):Rep M ob (.pointer (X ⟨b,o,D⟩)) (.ptr cs)
 | ref (k off b:Nat) (h:at' ob k 0=X (.pointer (X ⟨b,0,D⟩))):Rep M ob (.pointer (X ⟨b,off,D⟩)) (.ref k off)
 | eref (k g i sz off b n c:Nat) (h:at' ob k g=X (.slice (X ⟨b,0,D⟩) n c)):Rep M ob (.pointer (X ⟨b,i*sz+off,D⟩)) (.eref k g i sz off)
 | csl (k off len sz b:Nat) (h:at' ob k 0=X (.pointer (X ⟨b,0,D⟩))) (hm:(len:Int)<=9223372036854775807):Rep M ob (.slice (X ⟨b,off,D⟩) len len) (.csl k off len sz)
 | row (k g:Nat) (a:Option Addr) (n c:Nat) (h:at' ob k g=X (.slice a n c)):Rep M ob (.slice a n c) (.row k g)
 | sub (k g lo len sz b n c:Nat) (h:at' ob k g=X (.slice (X ⟨b,0,D⟩) n c)) (hl:lo<c) (hn:lo+len<=n) (hc:n<=c) (hm:(n:Int)<=9223372036854775807):Rep M ob (.slice (X ⟨b,lo*sz,D⟩) len (c-lo)) (.sub k g lo len sz)
 | sub0 (k g lo sz:Nat) (a a':Option Addr) (n c:Nat) (h:at' ob k g=X (.slice a n c)) (hl:lo=n) (hc:n=c):Rep M ob (.slice a' 0 0) (.sub k g lo 0 sz)
 | rowc (k g c:Nat) (a:Option Addr) (n:Nat) (h:at' ob k g=X (.slice a n c)) (hm:(c:Int)<=9223372036854775807):Rep M ob (.slice a n c) (.rowc k g c)
 | pre (k g n c sz b len:Nat) (h:at' ob k g=X (.slice (X ⟨b,0,D⟩) len c)) (hc:0<c) (hn:n<=len) (hl:len<=c) (hm:(c:Int)<=9223372036854775807):Rep M ob (.slice (X ⟨b,0,D⟩) n c) (.pre k g n c sz)
 | mref (k b:Nat) (h:at' ob k 0=X (.map (X b))):Rep M ob (.map (X b)) (.mref k)
 | nilptr:Rep M ob (.pointer D) .nilptr
 | nilslice:Rep M ob (.slice D 0 0) .nilslice
 | nilmap:Rep M ob (.map D) .nilmap
 | nilfunc:Rep M ob .nilFunc .nilfunc
 | nilif:Rep M ob .nilIface .nilif
 | hsl (a:Option Addr) (n c:Nat):Rep M ob (.slice a n c) (.hsl a n c)
 | slnil (sz:Nat) (t:Tk) (ht:yD ob (.slice D 0 0) t):Rep M ob (.slice D 0 0) (.slice sz [] t)
 | slemp (sz:Nat) (t:Tk) (a:Addr) (cap:Nat) (ht:yD ob (.slice (X a) 0 cap) t):Rep M ob (.slice (X a) 0 cap) (.slice sz [] t)
 | sl (sz b o n cap:Nat) (xs:az) (t:Tk) (hn:Z xs=n) (hc:n<=cap) (hm:(n:Int)<=9223372036854775807) (hz:∀x∈xs,Z x.cells=sz)
   (h:∀(i j:Nat) x c,xs[i]? =X x->x.cells[j]? =X c->M b (o+i*sz+j) c) (ht:yD ob (.slice (X ⟨b,o,D⟩) n cap) t):Rep M ob (.slice (X ⟨b,o,D⟩) n cap) (.slice sz xs t)
 | func (fn:Fn) (fs cs:bb) (fa ca:az) (hf:Z fs=Z fa) (hc:Z cs=Z ca)
   (h1:∀(i:Nat) v a,fs[i]? =X v->fa[i]? =X a->Rep M ob v a) (h2:∀(i:Nat) v a,cs[i]? =X v->ca[i]? =X a->Rep M ob v a):
   Rep M ob (.func fn fs.toArray cs.toArray) (.func fn fa ca)
 | iface (t:TypeId) (v:Value) (a:aa) (h:Rep M ob v a):Rep M ob (.iface t v) (.iface t a)
def Rep.mono{M M':Imm}{ob ob':Hs}(s:∀b o x,M b o x->M' b o x)(d:dR ob ob'){v:Value}{a:aa}(h:Rep M ob v a):Rep M' ob' v a:=by
 induction h with
 | undef v=>exact .undef v
 | bool b=>exact .bool b
 | int k n h=>exact .int k n h
 | str l h=>exact .str l h
 | agg vs as hl _ f=>exact .agg vs as hl f
 | tup vs as hl _ f=>exact .tup vs as hl f
 | ptr b o cs h=>exact .ptr b o cs λj c e=>s _ _ _ (h j c e)
 | ref k off b h=>exact .ref k off b (d.at h)
 | eref k g i sz off b n c h=>exact .eref k g i sz off b n c (d.at h)
 | csl k off len sz b h hm=>exact .csl k off len sz b (d.at h) hm
 | row k g a n c h=>exact .row k g a n c (d.at h)
 | sub k g lo len sz b n c h hl m e hm=>exact .sub k g lo len sz b n c (d.at h) hl m e hm
 | sub0 k g lo sz a B n c h hl e=>exact .sub0 k g lo sz a B n c (d.at h) hl e
 | rowc k g c a n h hm=>exact .rowc k g c a n (d.at h) hm
 | pre k g n c sz b len h e m hl hm=>exact .pre k g n c sz b len (d.at h) e m hl hm
 | mref k b h=>exact .mref k b (d.at h)
 | nilptr=>exact .nilptr
 | nilslice=>exact .nilslice
 | nilmap=>exact .nilmap
 | nilfunc=>exact .nilfunc
 | nilif=>exact .nilif
 | hsl a n c=>exact .hsl a n c
 | slnil sz t p=>exact .slnil sz t (p.mono d)
 | slemp sz t a cap p=>exact .slemp sz t a cap (p.mono d)
 | sl sz b o n cap xs t m e hm hz h p=>exact .sl sz b o n cap xs t m e hm hz (λi j x c C A=>s _ _ _ (h i j x c C A)) (p.mono d)
 | func fn y cs w u z e _ _ q r=>exact .func fn y cs w u z e q r
 | iface t v a _ f=>exact .iface t v a f
def IT(ob:Hs):dR [] ob:=λk hs h=>by simp at h
def Rep.pure{M:Imm}{ob:Hs}{v:Value}{a:aa}(h:Rep M [] v a):Rep M ob v a:=h.mono (λ_ _ _ h=>h) (IT ob)
def Rep.monoM{M M':Imm}{ob:Hs}{v:Value}{a:aa}(h:Rep M ob v a)(c:∀b o x,M b o x->M' b o x):Rep M' ob v a:=h.mono c (dR.refl _)
structure BInv where
 inv:Imm->a6->World->Prop
 mono:∀{M M':Imm} {bs:a6} {w w':World},(∀b o x,M b o x->M' b o x)->(∀b,b∈bs->∀o,NoM M b o->NoM M' b o)->(∀b c,b∈bs->w.heap[b]? =X c->w'.heap[b]? =X c)->inv M bs w->inv M' bs w'
def IK:Obj->Bool
 | .deferred _=>O
 | _=>U
def fK(bs:a6):Value:=.tuple (bs.map λb=>Value.map (X b)).toArray
inductive ab where
 | dead
 | cells (T:TypeId) (cs:az)
 | fcells (cs:az)
 | row (g sz:Nat) (e:TypeId) (xs:az)
 | frow (g sz:Nat) (xs:az)
 | tail (g sz:Nat) (e:TypeId)
 | mp (ag:Bool) (es:List (ax×aa))
 | bun (g:Nat) (I:BInv)
abbrev _root_.aw:=List ab
def aQq:Value->Option Nat
 | .map (some b)=>X b
 | _=>D
def Q4:Value->a6
 | .pointer (some a)=>[a.block]
 | .slice (some a) _ _=>[a.block]
 | .map (some b)=>[b]
 | .tuple vs=>vs.toList.filterMap aQq
 | _=>[]
def blk(hs:bb):a6:=match hs.getLast? with|some v=>Q4 v|none=>[]
theorem FW{hs:bb}{bs:a6}(h:hs.getLast? =X (fK bs)):blk hs=bs:=by
 unfold blk;rw[h];show(bs.map λb=>Value.map (X b)).filterMap aQq=bs;clear h;induction bs with
 | nil=>rfl
 | cons b r a=>simp only[List.map_cons,List.filterMap_cons,aQq,a]
def fF{b c:Nat}:b∈([c]:a6)↔c=b:=by grind
def ab.owns:ab->Bool
 | .dead | .fcells _ | .frow _ _ _=>U
 | _=>O
def aQ(sz:Nat)(xs:az)(q:Nat):Option aa:=(xs[q / sz]?).bind λx=>x.cells[q % sz]?
def aAt(w:World)(v:Value):Prop:=∀b,v.ownBlock=X b->∀a T c,w.heap[b]? =X (.cells a T c)->∀u∈a.toList,u.oneCell'=O
def eT(M:Imm)(w:World)(v:Value)(sz:Nat)(e:TypeId)(xs:az):Prop:=
 ∃cv,w.ownsRow 0 e sz v (Z xs) cv/\(∀u∈cv,u.oneCell'=O)/\(∀x∈xs,Z x.cells=sz)/\
  (∀(q:Nat) c,aQ sz xs q=X c->∃u,cv[q]? =X u/\Rep M [] u c)/\(∀b,v.ownBlock=X b->∀o,NoM M b o)/\aAt w v
def iH(a:Bool)(l:ax):Value:=if a then .agg (l.map (Eu .i64)).toArray else .int .i64 (l.headD 0)
def aE6(M:Imm)(w:World)(b:Nat)(d:Bool)(es:List (ax×aa)):Prop:=
 ∃(c:List MapEntry) (a:Nat),w.heap[b]? =X (.map c.toArray a)/\Z c=Z es/\(∀(i:Nat) x y,c[i]? =X x->es[i]? =X y->x.key=iH d y.1/\(d=U->Z y.1=1)/\Rep M [] x.val y.2)/\
  (∀(i:Nat) x,c[i]? =X x->x.born<a)/\∀(i j:Nat) x y,c[i]? =X x->c[j]? =X y->x.born=y.born->i=j
def iY(M:Imm)(ob:Hs)(w:World)(hs:bb):ab->Prop
 | .dead=>True
 | .cells T cs=>∃b,hs=[.pointer (X ⟨b,0,D⟩)]/\(∀o,NoM M b o)/\∃(cv:bb),w.heap[b]? =X (.cells cv.toArray T (0,0))/\Z cv=Z cs/\(∀v∈cv,v.oneCell'=O)/\
   ∀(i:Nat) v a,cv[i]? =X v->cs[i]? =X a->Rep M ob v a
 | .fcells cs=>∃b,hs=[.pointer (X ⟨b,0,D⟩)]/\∀(j:Nat) c,cs[j]? =X c->M b j c
 | .row g sz e xs=>Z hs=g+1/\∃v,hs[g]? =X v/\eT M w v sz e xs
 | .frow g sz xs=>∃v,hs[g]? =X v/\Rep M [] v (.slice sz xs .no)
 | .tail g sz e=>Z hs=g+1/\∃v,hs[g]? =X v/\∃n cv,w.ownsRow 0 e sz v n cv/\∀b,v.ownBlock=X b->∀o,n*sz<=o->NoM M b o
 | .mp d es=>∃b,hs=[.map (X b)]/\(∀o,NoM M b o)/\aE6 M w b d es
 | .bun g I=>Z hs=g+1/\∃bs,hs[g]? =X (fK bs)/\(∀b,b∈bs->∃o,w.heap[b]? =X o/\IK o=U)/\I.inv M bs w
def aM(ob:Hs)(ac:aw)(k b:Nat):Prop:=∃c hs,ac[k]? =X c/\c.owns=O/\ob[k]? =X hs/\b∈blk hs
structure Mem(M:Imm)(ob:Hs)(ac:aw)(w:World):Prop where
 imm:∀b o x,M b o x->∃v,w.cell? ⟨b,o,D⟩=X v/\v.oneCell'=O/\Rep M [] v x
 len:Z ob=Z ac
 obj:∀(k:Nat) c,ac[k]? =X c->∃hs,ob[k]? =X hs/\iY M ob w hs c
 lt:∀k b,aM ob ac k b->b<w.heap.size
 inj:∀k k' b,aM ob ac k b->aM ob ac k' b->k=k'
structure Ext(M:Imm)(ob:Hs)(ac:aw)(w:World)(M':Imm)(ob':Hs)(ap:aw)(w':World):Prop where
 imm:∀b o x,M b o x->M' b o x
 new:∀b o x,M' b o x->M b o x\/w.heap.size<=b\/∃k,aM ob ac k b
 hs:dR ob ob'
 os:w'.os=w.os
 tape:w'.tape=w.tape
 output:w'.output=w.output
 size:w.heap.size<=w'.heap.size
 keep:∀b,b<w.heap.size->(∀k,¬ aM ob ac k b)->w'.heap[b]? =w.heap[b]?
 fresh:∀k b,aM ob' ap k b->(∃k',aM ob ac k' b)\/w.heap.size<=b
def Ext.refl(M:Imm)(ob:Hs)(ac:aw)(w:World):Ext M ob ac w M ob ac w where
 imm _ _ _ h:=h
 new _ _ _ h:=.inl h
 hs:=dR.refl _
 os:=rfl
 tape:=rfl
 output:=rfl
 size:=Bc _
 keep _ _ _:=rfl
 fresh k _ h:=.inl ⟨k,h⟩
def Ext.trans{M M1 M2:Imm}{ob ob1 ob2:Hs}{ac obs1 obs2:aw}{w w1 w2:World}(h:Ext M ob ac w M1 ob1 obs1 w1)(k:Ext M1 ob1 obs1 w1 M2 ob2 obs2 w2):
  Ext M ob ac w M2 ob2 obs2 w2 where
 imm b o x hx:=k.imm _ _ _ (h.imm _ _ _ hx)
 new b o x hx:=by
  rcases k.new b o x hx with h1|h1|⟨i,hi⟩
  .exact h.new b o x h1
  .exact .inr (.inl (Cp h.size h1))
  .rcases h.fresh i b hi with h2|h2
   .grind
   omega
 hs:=h.hs.trans k.hs
 os:=k.os.trans h.os
 tape:=k.tape.trans h.tape
 output:=k.output.trans h.output
 size:=Cp h.size k.size
 keep b hb ho:=by
  rw[<-h.keep b hb ho];refine k.keep b (Ew hb h.size) λi hi=>?_;rcases h.fresh i b hi with⟨j,hj⟩|h2
  .grind
  .omega
 fresh i b hi:=by
  rcases k.fresh i b hi with⟨j,hj⟩|h1
  .exact h.fresh j b hj
  .exact .inr (Cp h.size h1)
def dB(ob:Hs)(ac:aw)(ob':Hs)(ap:aw):Prop:=∀(k:Nat) hs,ac[k]? =X .dead->ob[k]? =X hs->
 (hs≠[]->ap[k]? =X .dead/\ob'[k]? =X hs)/\(hs=[]->ap[k]? =X .dead->ob'[k]? =X [])
def dB.refl(ob:Hs)(ac:aw):dB ob ac ob ac:=λ_ _ h1 a=>⟨λ_=>⟨h1,a⟩,λe _=>e▸a⟩
theorem gO{w:World}{b:Nat}{x:Obj}(a:w.heap[b]? =X x):b<w.heap.size:=(Array.getElem?_eq_some_iff.1 a).1
def eT.mono{M M':Imm}{w w':World}{v:Value}{sz:Nat}{e:TypeId}{xs:az}(h:eT M w v sz e xs)(y:∀b o x,M b o x->M' b o x)
  (n:∀b,v.ownBlock=X b->(∀o,NoM M b o)->∀o,NoM M' b o) (k:∀b c,v.ownBlock=X b->w.heap[b]? =X c->w'.heap[b]? =X c):eT M' w' v sz e xs:=by
 obtain⟨cv,⟨h1,i⟩,h3,s,A,B,t⟩:=h;refine⟨cv,⟨h1,?_⟩,h3,s,λq c j=>?_,λb e=>n b e (B b e),λb e d T C j=>?_⟩
 .rcases i with i|⟨g,cap,d,a,z,f,r⟩
  .exact .inl i
  .exact .inr ⟨g,cap,d,a,z,k g _ (by rw[a];rfl) f,r⟩
 .obtain ⟨u,m,p⟩:=A q c j;exact⟨u,m,p.monoM y⟩
 .rcases i with⟨rfl,_⟩|⟨g,cap,l,a,_,f,_⟩
  .cases e
  .rw [a]at e;cases e;have:=k g _ (by rw[a];rfl) f;rw[j]at this;cases this;exact t g (by rw[a];rfl) _ _ _ f
def iY.mono{M M':Imm}{ob ob':Hs}{w w':World}{hs:bb}{x:ab}(h:iY M ob w hs x)(s:∀b o x,M b o x->M' b o x)(z:dR ob ob')
  (t:∀b,x.owns=O->b∈blk hs->∀o,NoM M b o->NoM M' b o) (q:∀b c,x.owns=O->b∈blk hs->w.heap[b]? =X c->w'.heap[b]? =X c):iY M' ob' w' hs x:=by
 have f:∀{g:Nat} {v:Value},Z hs=g+1->hs[g]? =X v->blk hs=Q4 v:=λ{g v} hl C=>by unfold blk;rw[Lo,hl,Ih,C]
 have u:∀{v:Value} {b:Nat},v.ownBlock=X b->b∈Q4 v:=λ{v b} h=>by
  unfold Gn at h;split at h
  .cases h;simp[Q4]
  .cases h
 have k:∀{v:Value} {b:Nat},blk hs=Q4 v->v.ownBlock=X b->b∈blk hs:=λ{v b} h1 d=>by rw[h1];exact u d
 cases x with
 | dead=>trivial
 | cells T cs=>
  obtain⟨b,rfl,h1,cv,d,h3,m,p⟩:=h;exact⟨b,rfl,λo=>t b rfl (fF.2 rfl) o (h1 o),cv,q b _ rfl (fF.2 rfl) d,h3,m,λi v a C J=>(p i v a C J).mono s z⟩
 | fcells cs=>
  obtain⟨b,rfl,h1⟩:=h;exact⟨b,rfl,λj c P=>s _ _ _ (h1 j c P)⟩
 | row g sz e xs=>
  obtain⟨h1,v,d,h3⟩:=h;exact⟨h1,v,d,h3.mono s (λb e Be o=>t b rfl (k (f h1 d) e) o (Be o)) (λb c e=>q b c rfl (k (f h1 d) e))⟩
 | frow g sz xs=>
  obtain⟨v,h1,d⟩:=h;exact⟨v,h1,d.monoM s⟩
 | tail g sz e=>
  obtain⟨h1,v,d,n,cv,⟨h3,m⟩,p⟩:=h;refine⟨h1,v,d,n,cv,⟨h3,?_⟩,λb e o z=>t b rfl (k (f h1 d) e) o (p b e o z)⟩;rcases m with m|⟨H,cap,B,G,L,K,r⟩
  .exact .inl m
  .exact .inr ⟨H,cap,B,G,L,q H _ rfl (k (f h1 d) (by rw[G];rfl)) K,r⟩
 | mp Q es=>
  obtain⟨b,rfl,h1,N,cl,d,h3,m,p⟩:=h;exact⟨b,rfl,λo=>t b rfl (fF.2 rfl) o (h1 o),N,cl,q b _ rfl (fF.2 rfl) d,h3,λi x y F A=>⟨(m i x y F A).1,(m i x y F A).2.1,(m i x y F A).2.2.monoM s⟩,p⟩
 | bun g I=>
  obtain⟨h1,bs,d,h3,m⟩:=h;have e:blk hs=bs:=by rw[<-FW (hs:=[fK bs]) rfl];exact f h1 d
  refine⟨h1,bs,d,λb l=>?_,I.mono s (λb l=>t b rfl (by rw[e];exact l)) (λb c l=>q b c rfl (by rw[e];exact l)) m⟩;obtain⟨o,p,As⟩:=h3 b l;exact⟨o,q b _ rfl (by rw[e];exact l) p,As⟩
def Mem.same{M:Imm}{ob:Hs}{ac:aw}{w w':World}(h:Mem M ob ac w)(hs:w.heap.size<=w'.heap.size)
  (i:∀b,b<w.heap.size->w'.heap[b]? =w.heap[b]?):Mem M ob ac w':=by
 refine⟨λb o x m=>?_,h.len,λk c d=>?_,λk b g=>Ew (h.lt k b g) hs,h.inj⟩
 .obtain ⟨v,j,l⟩:=h.imm b o x m;exact⟨v,(Cw (w:=w) (a:=⟨b,o,D⟩) (i b (Cx w _ j))).trans j,l⟩
 .obtain ⟨hs',e,f⟩:=h.obj k c d;exact⟨hs',e,f.mono (λ_ _ _ h=>h) (dR.refl _) (λ_ _ _ _ h=>h) (λb c _ _ d=>(i b (gO d)).trans d)⟩
def Mem.noImm{M:Imm}{ob:Hs}{ac:aw}{w:World}(h:Mem M ob ac w){b:Nat}(d:w.heap.size<=b)(o:Nat):NoM M b o:=by
 intro x c;obtain⟨v,a,_⟩:=h.imm b o x c;have:=Cx w _ a
 grind
inductive TK where
 | int (k:IntKind)|bool|str|strct (fs:List (Nat×Nat×Bool))|arr (n esz:Nat) (eagg:Bool)|slc (e esz ebytes:Nat)|ptr (e:Nat)|iface|mp (k e:Nat)|other
structure TI where
 kind:TK
 size:Nat
 agg:Bool
 zero:aa
abbrev Tab:=List (Nat×TI)
def dO:Tab->Nat->Option TI
 | [],_=>D
 | (i,x)::r,n=>bif Av i n then X x else dO r n
abbrev aKa:=List (Nat×String×Nat)
def aHT:aKa->Nat->String->Option Nat
 | [],_,_=>D
 | (i,s,f)::r,n,m=>bif (Av i n&&s==m)then X f else aHT r n m
structure Env where
 P:Program
 T:Tab
 mt:aKa
 fl:List (Nat×Nat)
 own:a6
 rws:a6
 bl:a6
 df:List (Nat×az)
 rd:Option Nat:=D
def xX(n:Nat):a6->Bool
 | []=>U
 | x::r=>Av x n||xX n r
def bA:au->Nat->aa
 | [],_=>.undef
 | (i,v)::r,n=>bif Av i n then v else bA r n
def iS:au->Nat->aa->au
 | [],n,x=>[(n,x)]
 | (i,v)::r,n,x=>bif Av i n then(n,x)::r else(i,v)::iS r n x
def aE:aw->Nat->ab
 | [],_=>.dead
 | x::_,0=>x
 | _::r,n+1=>aE r n
def bU:aw->Nat->ab->aw
 | [],0,y=>[y]
 | [],n+1,y=>.dead::bU [] n y
 | _::r,0,y=>y::r
 | x::r,n+1,y=>x::bU r n y
def aV:aw->Nat
 | []=>0
 | _::r=>aV r+1
def mR:Nat->az->az
 | 0,l=>l
 | _+1,[]=>[]
 | n+1,_::l=>mR n l
def oS:Nat->az->Option az
 | 0,_=>X []
 | _+1,[]=>D
 | n+1,c::l=>match oS n l with|some r=>X (c::r)|none=>D
def aAb:az->az->Option az
 | [],l=>X l
 | _::_,[]=>D
 | c::r,_::l=>match aAb r l with|some x=>X (c::x)|none=>D
def qK:Nat->az->az->Option az
 | 0,new,l=>aAb new l
 | _+1,_,[]=>D
 | n+1,new,c::l=>match qK n new l with|some x=>X (c::x)|none=>D
def V8:az->Nat
 | []=>0
 | _::r=>V8 r+1
def nth{α:Type}:List α->Nat->Option α
 | [],_=>D
 | x::_,0=>X x
 | _::r,n+1=>nth r n
def aEY:az->az->az
 | [],l=>l
 | c::r,l=>c::aEY r l
def eZ(f:aa->aa):az->az
 | []=>[]
 | c::r=>f c::eZ f r
def aOC:IntKind->Nat
 | .i8=>127 | .i16=>32767 | .i32=>2147483647 | .i64=>9223372036854775807
 | .u8=>255 | .u16=>65535 | .u32=>4294967295 | .u64=>18446744073709551615
def aH9:IntKind->Nat
 | .i8=>128 | .i16=>32768 | .i32=>2147483648 | .i64=>9223372036854775808|_=>0
def aMF(k:IntKind):Int->Bool
 | .ofNat m=>Gc m (aOC k)
 | .negSucc m=>Fi m (aH9 k)
def aH0:ay->Nat
 | []=>0
 | _::r=>aH0 r+1
def aNQ:Value->aa
 | .bool b=>.bool b
 | .int k n=>bif aMF k n then .int k n else .undef
 | .string s=>bif Gc (aH0 s.data.toList) 1000000 then .str s.data.toList else .undef
 | .slice none 0 0=>.nilslice
 | .pointer none=>.nilptr
 | .map none=>.nilmap
 | .nilFunc=>.nilfunc
 | .nilIface=>.nilif
 | _=>.undef
def ev(fr:au):Operand->aa
 | .tmp t=>bA fr t
 | .const v=>aNQ v
 | .func f=>.func (.func f) [] []
 | .global _=>.undef
def one:aa->Bool
 | .undef | .agg _ | .tup _=>U
 | _=>O
def sS:az->Bool
 | []=>O
 | c::r=>one c&&sS r
def H3:aa->Bool
 | .undef=>U
 | _=>O
def ai(og:Nat->ab):Nat->aa->aa
 | 0,_=>.undef
 | n+1,v=>match v with
  | .slice sz xs _=>.slice sz xs .no
  | .agg cs=>.agg (eZ (ai og n) cs)
  | .tup cs=>.tup (eZ (ai og n) cs)
  | .func fn a cs=>.func fn (eZ (ai og n) a) (eZ (ai og n) cs)
  | .iface t v=>.iface t (ai og n v)
  | .ref k off=>(match og k with | .fcells cs=>.ptr (mR off cs)|_=>.undef)
  | .csl k off len sz=>(match og k with | .fcells cs=>bif Av sz 1 then(match oS len (mR off cs)with|some l=>bif sS l then .slice 1 l .full else .undef|none=>.undef)else .undef|_=>.undef)
  | .row k g=>(match og k with | .frow g' sz xs=>bif Av g g' then .slice sz xs .no else .undef|_=>.undef)
  | .sub k g lo len sz=>(match og k with | .frow g' sz' xs=>bif Av g g'&&Av sz sz' then .slice sz ((xs.drop lo).take len) .no else .undef|_=>.undef)
  | .eref _ _ _ _ _=>.undef
  | .rowc _ _ _=>.undef
  | .pre _ _ _ _ _=>.undef
  | .mref _=>.undef
  | v=>v
def foldO(f:aw->aa->aw):aw->az->aw
 | ac,[]=>ac
 | ac,c::r=>foldO f (f ac c) r
def frz1(ac:aw)(k:Nat):aw:=match aE ac k with
 | .cells _ cs=>bU ac k (.fcells (eZ (ai (aE ac) 4) cs))
 | _=>ac
def frzR(ac:aw)(k g:Nat):aw:=match aE ac k with
 | .row a sz _ xs=>bif Av g a then bU ac k (.frow g sz xs)else ac
 | _=>ac
def frzV:Nat->aw->aa->aw
 | 0,ac,_=>ac
 | n+1,ac,v=>match v with
  | .agg cs=>foldO (frzV n) ac cs
  | .tup cs=>foldO (frzV n) ac cs
  | .func _ a cs=>foldO (frzV n) (foldO (frzV n) ac a) cs
  | .iface _ v=>frzV n ac v
  | .ref k _=>(match aE ac k with | .cells _ cs=>frz1 (foldO (frzV n) ac cs) k|_=>ac)
  | .csl k _ _ _=>(match aE ac k with | .cells _ cs=>frz1 (foldO (frzV n) ac cs) k|_=>ac)
  | .row k g=>frzR ac k g
  | .sub k g _ _ _=>frzR ac k g
  | _=>ac
def frzL(ac:aw)(l:az):aw:=foldO (frzV 6) ac l
def ak:a6->aw->aw
 | [],ac=>ac
 | k::r,ac=>ak r (match aE ac k with
  | .row g _ _ _=>frzR ac k g
  | .cells _ _=>frzV 6 ac (.ref k 0)
  | _=>ac)
inductive OR where
 | no
 | val (v:aa)
 | mkf (fn:Fn) (fs cs:az)
 | need (p:Prop) (r:OR)
 | alt (p:Prop) (v w:aa)
 | idx (n:Int) (k:Nat->OR)
 | elem (xs:az) (i:Nat) (k:aa->OR)
 | byte (l:ay) (i:Nat)
 | text (xs:az)
 | find (es:List (ax×aa)) (key:ax) (k:Option aa->OR)
 | born (x:ab) (v:aa)
 | upd (k:Nat) (x:ab) (v:aa)
 | nilq (xs:az) (neg:Bool)
 | call (f:Fn) (args:az)
 | pan (v:aa)
def OR.bind:OR->(aa->OR)->OR
 | .val v,k=>k v
 | .need p r,k=>.need p (r.bind k)
 | .elem xs i f,k=>.elem xs i λx=>(f x).bind k
 | .idx n f,k=>.idx n λi=>(f i).bind k
 | _,_=>.no
def dL:BinOp->IntKind->Int->Int->Int
 | op,k,x,y=>
  let a:=BitVec.ofInt k.bits x
  let b:=BitVec.ofInt k.bits y
  match op with
  | .and=>k.wrap (a &&& b).toNat
  | .or=>k.wrap (a ||| b).toNat
  | .xor=>k.wrap (a ^^^ b).toNat
  | _=>k.wrap (a &&& ~~~b).toNat
def JG(k:IntKind)(n:Int):OR:=.alt (inR k n) (.int k n) (.int k (k.wrap n))
def aIc:IntKind->IntKind->Bool
 | .i8,.i8 | .i16,.i16 | .i32,.i32 | .i64,.i64 | .u8,.u8 | .u16,.u16 | .u32,.u32 | .u64,.u64=>O
 | _,_=>U
def aTc(op:BinOp)(k:IntKind)(x y:Int):OR:=
 match op with
 | .add=>JG k (x+y)
 | .sub=>JG k (x-y)
 | .mul=>JG k (x*y)
 | .quo=>.need (y≠0) (.alt (inR k (x.tdiv y)) (.int k (x.tdiv y)) (.int k (k.wrap (x.tdiv y))))
 | .rem=>.need (y≠0) (.val (.int k (x.tmod y)))
 | .and=>.val (.int k (dL .and k x y))
 | .or=>.val (.int k (dL .or k x y))
 | .xor=>.val (.int k (dL .xor k x y))
 | .andNot=>.val (.int k (dL .andNot k x y))
 | .eql=>.val (.bool (x==y))
 | .neq=>.val (.bool (x !=y))
 | .lss=>.val (.bool (decide (x<y)))
 | .leq=>.val (.bool (decide (x<=y)))
 | .gtr=>.val (.bool (decide (y<x)))
 | .geq=>.val (.bool (decide (y<=x)))
 | _=>.no
def ceq:az->az->Option Bool
 | [],[]=>X O
 | .int k a::r,.int k' b::s=>bif aIc k k' then(match ceq r s with|some c=>X ((a==b)&&c)|none=>D)else D
 | _,_=>D
def E3:List (Nat×Nat)->Nat->Nat
 | [],_=>0
 | (i,n)::r,t=>bif Av i t then n else E3 r t
def BC(op:BinOp)(c:Bool):OR:=
 match op with
 | .eql=>.val (.bool c)
 | .neq=>.val (.bool (!c))
 | _=>.no
def aQd(op:BinOp)(xs:az):OR:=
 match op with
 | .eql=>.nilq xs U
 | .neq=>.nilq xs O
 | _=>.no
def isC:Operand->Bool
 | .const _=>O
 | _=>U
def aRg(E:Env)(og:Nat->ab)(d:Bool)(op:BinOp)(t:Nat)(a b:aa):OR:=
 match a,b with
 | .int k x,.int k' y=>
  (match op with
  | .shl=>.need (0<=y) (.alt (y.toNat<=k.bits/\inR k (x*2 ^ y.toNat)) (.int k (x*2 ^ y.toNat)) (.int k (k.wrap (x*2 ^ (min y.toNat k.bits)))))
  | .shr=>.need (0<=y/\y.toNat<=k.bits) (.val (.int k (x.fdiv (2 ^ y.toNat))))
  | op=>bif aIc k k' then aTc op k x y else .no)
 | .str x,.str y=>
  (match op with
  | .add=>.need (((Z x+Z y:Nat):Int)<=9223372036854775807) (.val (.str (x++y)))
  | .eql=>.val (.bool (x==y))
  | .neq=>.val (.bool (!(x==y)))
  | .lss=>.val (.bool (Op.bytesLess x y))
  | .leq=>.val (.bool (Op.bytesLess x y||x==y))
  | .gtr=>.val (.bool (!(Op.bytesLess x y||x==y)))
  | .geq=>.val (.bool (!Op.bytesLess x y))
  | _=>.no)
 | .agg xs,.agg ys=>
  bif Fi 0 (E3 E.fl t)&&Av (V8 xs) (E3 E.fl t)then
   (match op,ceq xs ys with
   | .eql,some c=>.val (.bool c)
   | .neq,some c=>.val (.bool (!c))
   | _,_=>.no)
  else .no
 | a,b=>match dO E.T t with
  | none=>.no
  | some f=>match f.kind,a,b with
   | .bool,.bool x,.bool y=>BC op (x==y)
   | .slc _ _ _,.slice _ _ .nil,.nilslice=>BC op O
   | .slc _ _ _,.nilslice,.nilslice=>BC op O
   | .slc _ _ _,.slice _ xs _,.nilslice=>aQd op xs
   | .ptr _,.nilptr,.nilptr=>BC op O
   | .ptr _,.ref _ _,.nilptr=>BC op U
   | .ptr _,.ptr _,.nilptr=>BC op U
   | .ptr e,.ref k o,.ref k' o'=>(match dO E.T e with
    | some _=>bif Av k k'&&Av o o' then BC op O else .no
    | none=>.no)
   | .iface,.nilif,.nilif=>bif d then BC op O else .no
   | .iface,.iface _ _,.nilif=>BC op U
   | .iface,.nilif,.iface _ _=>BC op U
   | _,_,_=>.no
def mk(a:TI)(l:az):Option aa:=
 bif a.agg then X (.agg l)else match l with
  | [c]=>X c
  | _=>D
def fin(a:TI)(l:Option az):OR:=
 match l with
 | none=>.no
 | some l=>match mk a l with
  | none=>.no
  | some v=>.val v
def aCu(E:Env)(og:Nat->ab)(t:Nat)(a:aa):OR:=
 match dO E.T t with
 | none=>.no
 | some b=>match a with
  | .ptr cs=>fin b (oS b.size cs)
  | .ref k off=>(match og k with
   | .cells _ cs=>fin b (oS b.size (mR off cs))
   | .fcells cs=>fin b (oS b.size (mR off cs))
   | _=>.no)
  | .eref k g i sz off=>(match og k with
   | .row d c _ xs=>bif Av g d&&Av sz c then .elem xs i λx=>fin b (oS b.size (mR off x.cells))else .no
   | _=>.no)
  | _=>.no
def aOA:az->aa
 | [c]=>c
 | _=>.undef
def aPV(x:aa)(cs:az):aa:=
 match x with
 | .agg _=>.agg cs
 | _=>aOA cs
def ZM(E:Env)(og:Nat->ab)(t:Nat)(a v:aa):OR:=
 match dO E.T t with
 | none=>.no
 | some c=>
  bif sS v.cells&&Av (V8 v.cells) c.size then
   match a with
   | .ref k off=>(match og k with
    | .cells T cs=>(match qK off v.cells cs with
     | some cs=>.upd k (.cells T cs) .undef
     | none=>.no)
    | _=>.no)
   | .eref k g i sz off=>(match og k with
    | .row d b e xs=>
     bif ((Av g d&&Av sz b)&&Gc 1 sz)&&sS (ai og 4 v).cells then
            (bif Av off 0&&Av c.size sz then .need (i<Z xs) (.upd k (.row g sz e (xs.set i (ai og 4 v))) .undef)
            else .elem xs i λx=>match qK off (ai og 4 v).cells x.cells with
             | some cs=>.upd k (.row g sz e (xs.set i (aPV x cs))) .undef
             | none=>.no)
     else .no
    | _=>.no)
   | _=>.no
  else .no
def ZX(E:Env)(s:Nat)(a:aa)(f:Nat):OR:=
 match dO E.T s with
 | X {kind:=.strct fs,..}=>(match nth fs f with
  | none=>.no
  | some (off,sz,ag)=>match a with
   | .agg cs=>(match oS sz (mR off cs)with
    | none=>.no
    | some l=>bif ag then .val (.agg l)else match l with
     | [c]=>.val c
     | _=>.no)
   | _=>.no)
 | _=>.no
def zO(E:Env)(s:Nat)(a:aa)(f:Nat):OR:=
 match dO E.T s with
 | X {kind:=.strct fs,..}=>(match nth fs f with
  | none=>.no
  | some (off,sz,_)=>
   bif Av sz 0 then .no else
   match a with
   | .ptr cs=>.val (.ptr (mR off cs))
   | .ref k x=>.val (.ref k (x+off))
   | .eref k g i z x=>.val (.eref k g i z (x+off))
   | _=>.no)
 | _=>.no
def zN(E:Env)(og:Nat->ab)(t:Nat)(a i:aa):OR:=
 match dO E.T t,i with
 | some ti,.int _ n=>(match ti.kind with
  | .slc _ b _=>(match a with
   | .slice sz xs _=>bif Av sz b then .idx n λi=>.elem xs i λx=>.val (.ptr x.cells)else .no
   | .row k g=>(match og k with
    | .row c sz _ xs=>bif Av g c&&Av sz b then .idx n λi=>.need (i<Z xs) (.val (.eref k g i sz 0))else .no
    | .frow c sz xs=>bif Av g c&&Av sz b then .idx n λi=>.elem xs i λx=>.val (.ptr x.cells)else .no
    | _=>.no)
   | .sub k g lo len sz=>(match og k with
    | .row c d _ _=>bif (Av g c&&Av sz d)&&Av sz b then .idx n λi=>.need (i<len) (.val (.eref k g (lo+i) sz 0))else .no
    | _=>.no)
   | _=>.no)
  | .arr len b _=>(match a with
   | .ref k off=>.need (0<=n/\n.toNat<len) (.val (.ref k (off+n.toNat*b)))
   | .ptr cs=>.need (0<=n/\n.toNat<len) (.val (.ptr (mR (n.toNat*b) cs)))
   | _=>.no)
  | _=>.no)
 | _,_=>.no
def ZW(E:Env)(t:Nat)(a i:aa):OR:=
 match a,i with
 | .str l,.int _ n=>(match dO E.T t with
  | X {kind:=.str,..}=>.idx n λi=>.byte l i
  | _=>.no)
 | .agg cs,.int _ n=>(match dO E.T t with
  | X {kind:=.arr len esz ag,..}=>(match oS esz (mR (n.toNat*esz) cs)with
   | some l=>bif ag then .need (0<=n/\n<len) (.val (.agg l))else(match l with | [c]=>.need (0<=n/\n<len) (.val c)|_=>.no)
   | none=>.no)
  | _=>.no)
 | _,_=>.no
def JC(place:Nat->Option (Nat×Nat)):az->au->Option az
 | cs,[]=>X cs
 | cs,(i,v)::r=>match place i with
  | none=>D
  | some (off,sz)=>bif H3 v&&Av (V8 v.cells) sz then(match qK off v.cells cs with|some cs=>JC place cs r|none=>D)else D
def ZZ(E:Env)(t:Nat)(a:au):OR:=
 match dO E.T t with
 | some b=>(match b.kind,b.zero with
  | .strct fs,.agg z=>(match JC (λi=>(nth fs i).map λf=>(f.1,f.2.1)) z a with
   | some cs=>.val (.agg cs)
   | none=>.no)
  | .arr _ esz _,.agg z=>(match JC (λi=>X (i*esz,esz)) z a with
   | some cs=>.val (.agg cs)
   | none=>.no)
  | _,_=>.no)
 | _=>.no
def tI(hint base sz:Nat)(e:TypeId)(xs:az):OR:=
 match hint with
 | 2=>.born (.row 0 sz e xs) (.row base 0)
 | _=>.born (.tail 0 sz e) (.slice sz xs (.own base 0))
def JD(og:Nat->ab)(a:Nat):Nat->au->Option az
 | _,[]=>X []
 | n,(i,v)::r=>(λv=>bif Av i n&&Av (V8 v.cells) a&&sS v.cells then(match JD og a (n+1) r with|some l=>X (v::l)|none=>D)else D) (ai og 4 v)
def aHl:au->Nat
 | []=>0
 | _::r=>aHl r+1
def pT(E:Env)(hint base:Nat)(og:Nat->ab)(t len:Nat)(a:au):OR:=
 match dO E.T t with
 | X {kind:=.slc e esz _,..}=>
  bif Av (aHl a) len&&Gc (len*esz) 1000&&Gc 1 esz then
   match JD og esz 0 a with
   | some xs=>(match hint with|0=>.val (.slice esz xs .full)|h=>tI h base esz e xs)
   | none=>.no
  else .no
 | _=>.no
def evL(ρ:Operand->aa):List (Nat×Operand)->au
 | []=>[]
 | (i,x)::r=>(i,ρ x)::evL ρ r
def evO(ρ:Operand->aa):List Operand->az
 | []=>[]
 | x::r=>ρ x::evO ρ r
def bnd:Option aa->(Option Nat->OR)->OR
 | none,k=>k D
 | some (.int _ n),k=>.idx n λi=>k (X i)
 | some _,_=>.no
def ZN(E:Env)(og:Nat->ab)(t:Nat)(a:aa)(lo c d:Option aa):OR:=
 match dO E.T t with
 | none=>.no
 | some e=>match a with
  | .str l=>(match e.kind,d with
   | .str,none=>bnd lo λlo=>bnd c λc=>match lo,c with
    | none,none=>.val (.str l)
    | some x,none=>.need (x<=Z l) (.val (.str (l.drop x)))
    | none,some y=>.need (y<=Z l) (.val (.str (l.take y)))
    | some x,some y=>.need (x<=y/\y<=Z l) (.val (.str ((l.take y).drop x)))
   | _,_=>.no)
  | .slice sz xs _=>(match e.kind with
   | .slc _ b _=>bif Av sz b then
     (bnd lo λlo=>bnd c λc=>bnd d λd=>match d with
     | none=>(match lo,c with
            | none,none=>.val (.slice sz xs .no)
            | some x,none=>.need (x<=Z xs) (.val (.slice sz (xs.drop x) .no))
            | none,some y=>.need (y<=Z xs) (.val (.slice sz (xs.take y) .no))
            | some x,some y=>.need (x<=y/\y<=Z xs) (.val (.slice sz ((xs.take y).drop x) .no)))
     | some m=>(match lo,c with
            | none,some y=>.need (y<=Z xs/\m=y) (.val (.slice sz (xs.take y) .full))
            | _,_=>.no))
    else .no
   | _=>.no)
  | .row k g=>(match e.kind,d,og k with
   | .slc _ b _,none,.row g' sz _ xs=>bif Av g g'&&Av sz b then
     (bnd lo λlo=>bnd c λc=>match lo,c with
     | none,none=>.val (.row k g)
     | some x,none=>.need (x<=Z xs) (.val (.sub k g x (Z xs-x) sz))
     | none,some y=>.need (y<=Z xs) (.val (.sub k g 0 y sz))
     | some x,some y=>.need (x<=y/\y<=Z xs) (.val (.sub k g x (y-x) sz)))
    else .no
   | _,_,_=>.no)
  | .sub k g f len sz=>(match e.kind,d,og k with
   | .slc _ b _,none,.row g' sz' _ xs=>bif (Av g g'&&Av sz sz')&&Av sz b then
     (bnd lo λlo=>bnd c λc=>match lo,c with
     | none,none=>.val (.sub k g f len sz)
     | some x,none=>.need (x<=len) (.val (.sub k g (f+x) (len-x) sz))
     | none,some y=>.need (f+y<=Z xs) (.val (.sub k g f y sz))
     | some x,some y=>.need (x<=y/\f+y<=Z xs) (.val (.sub k g (f+x) (y-x) sz)))
    else .no
   | _,_,_=>.no)
  | .ref k off=>(match e.kind,lo,c,d with
   | .arr len b _,none,none,none=>.need ((len:Int)<=9223372036854775807) (.val (.csl k off len b))
   | _,_,_,_=>.no)
  | .ptr cs=>(match e.kind,lo,c,d with
   | .arr len 1 false,none,none,none=>(match oS len cs with
    | some l=>bif sS l then .need ((len:Int)<=9223372036854775807) (.val (.slice 1 l .full))else .no
    | none=>.no)
   | _,_,_,_=>.no)
  | _=>.no
def ub(c:UInt8):aa:=.int .u8 c.toNat
def aKP(og:Nat->ab):aa->Option (Nat×az)
 | .slice sz xs _=>X (sz,xs)
 | .row k g=>(match og k with
  | .row a sz _ xs=>bif Av g a then X (sz,xs)else D
  | .frow a sz xs=>bif Av g a then X (sz,xs)else D
  | _=>D)
 | .sub k g lo len sz=>(match og k with
  | .row a b _ xs=>bif Av g a&&Av sz b then X (sz,(xs.drop lo).take len)else D
  | _=>D)
 | _=>D
def aFS(E:Env)(og:Nat->ab)(a b:Nat)(x:aa):Option az:=
 match x with
 | .str l=>(match dO E.T b with|X {kind:=.str,..}=>bif Av a 1 then X (l.map ub)else D|_=>D)
 | .nilslice=>(match dO E.T b with|X {kind:=.slc _ _ _,..}=>X []|_=>D)
 | x=>match dO E.T b,aKP og x with
  | X {kind:=.slc _ _ _,..},X (sz,xs)=>bif Av sz a then X xs else D
  | _,_=>D
def aJh(E:Env)(og:Nat->ab)(s d:Nat)(a:aa):OR:=
 match dO E.T s,dO E.T d with
 | some ts,some td=>(match td.kind,a with
  | .int k,.int _ n=>.alt (inR k n) (.int k n) (.int k (k.wrap n))
  | .str,.str l=>(match ts.kind with | .str=>.val (.str l)|_=>.no)
  | .slc e 1 _,.str l=>(match ts.kind,dO E.T e with
   | .str,X {kind:=.int .u8,..}=>.val (.slice 1 (l.map ub) .no)
   | _,_=>.no)
  | .str,a=>(match ts.kind,aKP og a with
   | .slc e 1 _,some (1,xs)=>(match dO E.T e with
    | X {kind:=.int .u8,..}=>.text xs
    | _=>.no)
   | _,_=>.no)
  | _,_=>.no)
 | _,_=>.no
def aRb(E:Env)(og:Nat->ab)(t:Nat)(a:aa):OR:=
 match dO E.T t with
 | none=>.no
 | some c=>match c.kind,a with
  | .str,.str l=>.val (.int .i64 (Z l))
  | .slc _ _ _,.slice _ xs _=>.val (.int .i64 (Z xs))
  | .slc _ _ _,.nilslice=>.val (.int .i64 0)
  | .slc _ _ _,.csl _ _ len _=>.val (.int .i64 len)
  | .slc _ _ _,.hsl _ n _=>.need ((n:Int)<=9223372036854775807) (.val (.int .i64 n))
  | .slc _ _ _,.row k g=>(match og k with
   | .row b _ _ xs=>bif Av g b then .val (.int .i64 (Z xs))else .no
   | .frow b _ xs=>bif Av g b then .val (.int .i64 (Z xs))else .no
   | _=>.no)
  | .slc _ _ _,.sub _ _ _ len _=>.val (.int .i64 len)
  | .arr n _ _,_=>.need ((n:Int)<=9223372036854775807) (.val (.int .i64 n))
  | _,_=>.no
def DB(n a:Nat):Prop:=n<=maxLen/\n*a<=140737488355328
def xP(E:Env)(hint base:Nat)(og:Nat->ab)(t d:Nat)(s x:aa):OR:=
 match dO E.T t with
 | X {kind:=.slc e esz eb,..}=>
  bif Gc 1 esz then
   match aFS E og esz d x with
   | none=>.no
   | some ys=>(match s with
    | .slice sz xs tk=>(match tk with
     | .own k g=>(match og k with
      | .tail c a b=>bif ((Av g c&&Av sz a)&&Av sz esz)&&Av e b then .need (DB (Z xs+Z ys) eb) (.upd k (.tail (g+1) esz e) (.slice esz (xs++ys) (.own k (g+1))))else .no
      | _=>.no)
     | .nil=>bif Av sz esz then .need (DB (Z ys) eb) (tI hint base esz e ys)else .no
     | .full=>bif Av sz esz then .need (DB (Z xs+Z ys) eb) (match hint with|0=>.val (.slice esz (xs++ys) .no)|3=>.need (ys=[]) (.val (.slice esz xs .full))|h=>.need (ys≠[]) (tI h base esz e (xs++ys)))else .no
     | .no=>.no)
    | .nilslice=>.need (DB (Z ys) eb) (tI hint base esz e ys)
    | .row k g=>(match og k with
     | .row c sz b xs=>bif (Av g c&&Av sz esz)&&Av e b then .need (DB (Z xs+Z ys) eb) (.upd k (.row (g+1) sz e (xs++ys)) (.row k (g+1)))else .no
     | _=>.no)
    | .sub k g lo len sz=>(match og k with
     | .row c a b xs=>bif ((Av g c&&Av sz a)&&Av sz esz)&&Av e b then
       .need (lo+len+Z ys<=Z xs) (.upd k (.row g sz e (xs.take (lo+len)++ys++xs.drop (lo+len+Z ys))) (.sub k g lo (len+Z ys) sz))else .no
     | _=>.no)
    | _=>.no)
  else .no
 | _=>.no
def aJg(E:Env)(og:Nat->ab)(t f:Nat)(d x:aa):OR:=
 match dO E.T t with
 | X {kind:=.slc e esz _,..}=>
  bif Gc 1 esz then
   match aFS E og esz f x with
   | none=>.no
   | some ys=>(match d with
    | .row k g=>(match og k with
     | .row c sz b xs=>bif Av g c&&Av sz esz then .upd k (.row g sz b (ys.take (Z xs)++xs.drop (Z ys))) (.int .i64 (min (Z ys) (Z xs):Nat))else .no
     | _=>.no)
    | .sub k g lo len sz=>(match og k with
     | .row c a b xs=>bif (Av g c&&Av sz a)&&Av sz esz then
       .upd k (.row g sz b (xs.take lo++ys.take len++xs.drop (lo+min (Z ys) len))) (.int .i64 (min (Z ys) len:Nat))else .no
     | _=>.no)
    | _=>.no)
  else .no
 | _=>.no
def ZY(E:Env)(og:Nat->ab)(t:Nat)(d:aa):OR:=
 match dO E.T t with
 | X {kind:=.slc e esz _,..}=>(match dO E.T e with
  | some b=>bif Gc 1 esz&&H3 (ai (λ_=>.dead) 4 b.zero)then(match d with
   | .sub k g lo len sz=>(match og k with
    | .row f a c xs=>bif (Av g f&&Av sz a)&&Av sz esz then
            .upd k (.row g sz c (xs.take lo++Ak len (ai (λ_=>.dead) 4 b.zero)++xs.drop (lo+len))) (.tup [])else .no
    | _=>.no)
   | _=>.no)else .no
  | none=>.no)
 | _=>.no
def aCs(E:Env)(hint base:Nat)(t:Nat)(n c:aa):OR:=
 match dO E.T t,n,c with
 | X {kind:=.slc e esz f,..},.int _ a,.int _ b=>(match dO E.T e with
  | some d=>bif Gc 1 esz&&H3 (ai (λ_=>.dead) 4 d.zero)then
    .idx a λi=>.need (a=b/\(f:Int)*b<=281474976710656/\i<=maxLen) (.born (.row 0 esz e (Ak i (ai (λ_=>.dead) 4 d.zero))) (.row base 0))
   else .no
  | none=>.no)
 | _,_,_=>.no
def UR:az->Option ax
 | []=>X []
 | .int .i64 n::r=>(match UR r with|some l=>X (n::l)|none=>D)
 | _=>D
def MQ(E:Env)(k:Nat)(a:Bool)(v:aa):Option ax:=
 match a with
 | false=>(match dO E.T k with
  | X {kind:=.int .i64,..}=>(match v with | .int .i64 n=>X [n]|_=>D)
  | _=>D)
 | true=>(match dO E.T k with
  | some _=>(match v with
   | .agg cs=>(match UR cs with
    | some l=>bif Fi 0 (E3 E.fl k)&&Av (V8 cs) (E3 E.fl k)then X l else D
    | none=>D)
   | _=>D)
  | none=>D)
def cE:List (ax×aa)->ax->Option aa
 | [],_=>D
 | (k,v)::r,x=>if k=x then X v else cE r x
def oA:List (ax×aa)->ax->aa->List (ax×aa)
 | [],x,y=>[(x,y)]
 | (k,v)::r,x,y=>if k=x then(x,y)::r else(k,v)::oA r x y
def KR:List (ax×aa)->ax->List (ax×aa)
 | [],_=>[]
 | (k,v)::r,x=>if k=x then r else(k,v)::KR r x
def FP(a:Bool)(es:List (ax×aa))(key:ax)(r:OR):OR:=
 match a with
 | false=>r
 | true=>.need (∀p∈es,Z p.1=Z key) r
def QM(E:Env)(og:Nat->ab)(t:Nat)(m k:aa)(ok:Bool):OR:=
 match dO E.T t,m with
 | X {kind:=.mp kt e,..},.mref j=>(match dO E.T e,og j with
  | some te,.mp ag es=>(match MQ E kt ag k with
   | some key=>FP ag es key (.find es key λo=>match o with
    | some v=>.val (bif ok then .tup [v,.bool O]else v)
    | none=>.val (bif ok then .tup [te.zero,.bool U]else te.zero))
   | none=>.no)
  | _,_=>.no)
 | _,_=>.no
def ZV(E:Env)(og:Nat->ab)(t:Nat)(m k v:aa):OR:=
 match dO E.T t,m with
 | X {kind:=.mp kt _,..},.mref j=>(match og j with
  | .mp a es=>(match MQ E kt a k with
   | some key=>(λv=>bif H3 v then FP a es key (.upd j (.mp a (oA es key v)) .undef)else .no) (ai og 4 v)
   | none=>.no)
  | _=>.no)
 | _,_=>.no
def QL(E:Env)(og:Nat->ab)(t:Nat)(m k:aa):OR:=
 match dO E.T t,m with
 | X {kind:=.mp kt _,..},.mref j=>(match og j with
  | .mp a es=>(match MQ E kt a k with
   | some key=>FP a es key (.upd j (.mp a (KR es key)) (.tup []))
   | none=>.no)
  | _=>.no)
 | _,_=>.no
def GG(E:Env)(ty:Nat):aa->aa
 | .nilslice=>(match dO E.T ty with|X {kind:=.slc _ esz _,..}=>.slice esz [] .nil|_=>.nilslice)
 | v=>v
def oO(E:Env)(hint base:Nat)(og:Nat->ab)(ρ:Operand->aa)(op:Op)(ty:TypeId):OR:=
 match op with
 | .move x=>.val (ρ x)
 | .assign x=>(match hint with
  | 0=>.val (GG E ty (ρ x))
  | h=>match GG E ty (ρ x)with
   | .slice o xs t=>(match t with
    | .nil=>(match xs with
          | []=>(match dO E.T ty with|X {kind:=.slc e esz' _,..}=>bif Av o esz'&&Gc 1 o then tI h base o e []else .no|_=>.no)
          | _::_=>.no)
    | t=>.val (.slice o xs t))
   | v=>.val v)
 | .pick c a b=>(match ρ c with
  | .bool true=>.val (ρ a)
  | .bool false=>.val (ρ b)
  | _=>.no)
 | .alloc t=>(match dO E.T t with
  | some j=>bif sS j.zero.cells then .born (.cells t j.zero.cells) (.ref base 0)else .no
  | none=>.no)
 | .box t x=>(λv=>bif sS v.cells then .born (.cells t v.cells) (.ref base 0)else .no) (ρ x)
 | .build t w=>ZZ E t (evL ρ w.toList)
 | .buildSlice t n w=>pT E hint base og t n (evL ρ w.toList)
 | .load t a=>(aCu E og t (ρ a)).bind λv=>.val (GG E t v)
 | .store t a x=>ZM E og t (ρ a) (GG E t (ρ x))
 | .nilCheck x=>(match ρ x with
  | .ref k off=>.val (.ref k off)
  | .eref k g i sz off=>.val (.eref k g i sz off)
  | .ptr cs=>.val (.ptr cs)
  | .func (.func f) p cs=>.val (.func (.func f) p cs)
  | .func (.yield f) p cs=>.val (.func (.yield f) p cs)
  | .iface t v=>.val (.iface t v)
  | _=>.no)
 | .binOp op t x y _=>aRg E og (isC x||isC y) op t (ρ x) (ρ y)
 | .unOp op _ x=>(match op,ρ x with
  | .not,.bool b=>.val (.bool (!b))
  | .neg,.int k n=>JG k (0-n)
  | .xor,.int k n=>.val (.int k (dL .xor k (if k.signed then -1 else k.max) n))
  | _,_=>.no)
 | .convert s d x=>aJh E og s d (ρ x)
 | .makeSlice t n c=>aCs E hint base t (ρ n) (ρ c)
 | .makeInterface t x=>(match dO E.T t with
  | some j=>(match j.kind with | .iface=>.no|_=>.val (.iface t (ρ x)))
  | none=>.no)
 | .makeFunc fn p cs=>.mkf fn (evO ρ p.toList) (evO ρ cs.toList)
 | .slice t x lo A z=>ZN E og t (ρ x) (lo.map ρ) (A.map ρ) (z.map ρ)
 | .fieldAddr t x f=>zO E t (ρ x) f
 | .field t x f=>(ZX E t (ρ x) f).bind λv=>.val (GG E ty v)
 | .indexAddr t x i=>zN E og t (ρ x) (ρ i)
 | .index t x i=>ZW E t (ρ x) (ρ i)
 | .extract x i=>(match ρ x with
  | .tup vs=>(match nth vs i with|some v=>.val v|none=>.no)
  | _=>.no)
 | .panic x=>(match ρ x with
  | .iface t v=>(λv=>bif H3 v then .pan (.iface t v)else .no) (ai og 3 v)
  | _=>.no)
 | .typeAssert x _ t ok=>(match dO E.T t,ρ x with
  | some j,.iface u v=>(match j.kind with
   | .iface=>.no
   | _=>bif Av u t then .val (bif ok then .tup [v,.bool O]else v)else(bif ok then .val (.tup [j.zero,.bool U])else .no))
  | some j,.nilif=>(match j.kind with
   | .iface=>.no
   | _=>bif ok then .val (.tup [j.zero,.bool U])else .no)
  | _,_=>.no)
 | .makeMap t none=>(match dO E.T t with
  | X {kind:=.mp k _,..}=>(match dO E.T k with
   | some tk=>.born (.mp tk.agg []) (.mref base)
   | none=>.no)
  | _=>.no)
 | .lookup t m k ok=>QM E og t (ρ m) (ρ k) ok
 | .mapUpdate t m k v=>ZV E og t (ρ m) (ρ k) (ρ v)
 | .call c=>(match c.callee with
  | .value f=>(match ρ f with
   | .func (.func g) p cs=>.call (.func g) (aEY (aEY p (evO ρ c.args.toList)) cs)
   | .func (.yield l) p _=>.call (.yield l) (aEY p (evO ρ c.args.toList))
   | _=>.no)
  | .invoke r q=>(match ρ r with
   | .iface t v=>(match aHT E.mt t q with
    | some g=>.call (.func g) (v::evO ρ c.args.toList)
    | none=>.no)
   | _=>.no)
  | .builtin b=>(match b,c.args.toList,c.argTypes.toList with
   | .len,[x],[t]=>aRb E og t (ρ x)
   | .min,[x,y],_=>(match ρ x,ρ y with | .int k a,.int k' b=>bif aIc k k' then .val (.int k (min a b))else .no|_,_=>.no)
   | .max,[x,y],_=>(match ρ x,ρ y with | .int k a,.int k' b=>bif aIc k k' then .val (.int k (max a b))else .no|_,_=>.no)
   | .append,[x,y],[t,t2]=>xP E hint base og t t2 (ρ x) (ρ y)
   | .copy,[x,y],[t,t2]=>aJg E og t t2 (ρ x) (ρ y)
   | .clear,[x],[t]=>ZY E og t (ρ x)
   | .delete,[m,k],[t,_]=>QL E og t (ρ m) (ρ k)
   | _,_,_=>.no))
 | _=>.no
def nrm:aa->aa
 | .rowc k g _=>.row k g
 | .pre k g n _ sz=>.sub k g 0 n sz
 | v=>v
def aRe(E:Env)(hint:Nat)(og:Nat->ab)(t k g c:Nat)(h:aa):OR:=
 match dO E.T t,og k,h with
 | X {kind:=.slc _ esz _,..},.row g' sz e xs,.int _ n=>bif (Av g g'&&Av sz esz)&&Gc 1 sz then
   .idx n λy=>(match hint with
    | 0=>.need (y<=Z xs/\0<c) (.val (.pre k g y c sz))
    | _=>.need (Z xs<=y/\y<=c) (.upd k (.row (g+1) sz e (xs++Ak (y-Z xs) (.agg (Ak sz .undef)))) (.row k (g+1))))
  else .no
 | _,_,_=>.no
def aJf(E:Env)(og:Nat->ab)(t k g:Nat)(l h m:aa):OR:=
 match dO E.T t,og k,l,h,m with
 | X {kind:=.slc _ esz _,..},.row g' sz _ xs,.int _ a,.int _ b,.int _ c=>bif Av g g'&&Av sz esz then
   .idx a λx=>.idx b λy=>.idx c λz=>.need ((x<=y/\y<=z)/\z<=Z xs) (.val .undef)
  else .no
 | _,_,_,_,_=>.no
def aCp(E:Env)(base:Nat)(og:Nat->ab)(t k g n c sz:Nat)(m:aa):OR:=
 match dO E.T t,og k,m with
 | X {kind:=.slc e esz eb,..},.row g' sz' e' xs,.int .i64 a=>(match dO E.T e with
  | some b=>bif ((Av g g'&&Av sz sz')&&(Av sz esz&&Av e e'))&&(Gc 1 esz&&H3 (ai (λ_=>.dead) 4 b.zero))then
    .idx a λy=>.need (c<n+y/\DB (n+y) eb) (.born (.row 0 esz e (xs.take n++Ak y (ai (λ_=>.dead) 4 b.zero))) (.row base 0))
   else .no
  | none=>.no)
 | _,_,_=>.no
def nD(E:Env)(hint base:Nat)(og:Nat->ab)(ρ:Operand->aa)(op:Op):Option OR:=
 match op with
 | .move x=>X (.val (ρ x))
 | .assign x=>(match ρ x with
  | .rowc k g c=>X (.val (.rowc k g c))
  | _=>D)
 | .slice t x none (some h) none=>(match ρ x with
  | .rowc k g c=>X (aRe E hint og t k g c (ρ h))
  | _=>D)
 | .slice t x (some l) (some h) (some m)=>(match ρ x with
  | .row k g=>X (aJf E og t k g (ρ l) (ρ h) (ρ m))
  | _=>D)
 | .call c=>(match c.callee with
  | .builtin .cap=>(match c.args.toList,c.argTypes.toList with
   | [x],[t]=>(match ρ x,dO E.T t with
    | .rowc _ _ n,X {kind:=.slc _ _ _,..}=>X (.val (.int .i64 n))
    | _,_=>D)
   | _,_=>D)
  | .builtin .append=>(match c.args.toList,c.argTypes.toList with
   | [x,y],[t,t2]=>(match ρ x,dO E.T t2 with
    | .pre k g n c sz,X {kind:=.int _,..}=>X (aCp E base og t k g n c sz (ρ y))
    | _,_=>D)
   | _,_=>D)
  | _=>D)
 | _=>D
def eop(E:Env)(hint base:Nat)(og:Nat->ab)(ρ:Operand->aa)(op:Op)(ty:TypeId):OR:=
 match nD E hint base og ρ op with
 | some r=>r
 | none=>oO E hint base og (λx=>nrm (ρ x)) op ty
def KDL(f:aa->(aa->Prop)->Prop):az->(az->Prop)->Prop
 | [],k=>k []
 | c::r,k=>f c λc=>KDL f r λr=>k (c::r)
def KD:Nat->aa->(aa->Prop)->Prop
 | 0,v,k=>k v
 | n+1,v,k=>match v with
  | .undef=>k .undef
  | .bool b=>k (.bool b)
  | .int i n=>k (.int i n)
  | .str l=>k (.str l)
  | .slice sz xs t=>(match t with | .no=>k (.slice sz xs .no) | .nil=>k (.slice sz xs .nil) | .full=>k (.slice sz xs .full) | .own a b=>k (.slice sz xs (.own a b)))
  | .agg cs=>KDL (KD n) cs λcs=>k (.agg cs)
  | .tup cs=>KDL (KD n) cs λcs=>k (.tup cs)
  | .ptr cs=>k (.ptr cs)
  | .ref a b=>k (.ref a b)
  | .eref a b c d e=>k (.eref a b c d e)
  | .csl a b c d=>k (.csl a b c d)
  | .row a b=>k (.row a b)
  | .sub a b c d e=>k (.sub a b c d e)
  | .rowc a b c=>k (.rowc a b c)
  | .pre a b c d e=>k (.pre a b c d e)
  | .mref a=>k (.mref a)
  | .nilptr=>k .nilptr
  | .nilslice=>k .nilslice
  | .nilmap=>k .nilmap
  | .nilfunc=>k .nilfunc
  | .nilif=>k .nilif
  | .hsl a n c=>k (.hsl a n c)
  | .func fn f cs=>k (.func fn f cs)
  | .iface t v=>KD n v λv=>k (.iface t v)
def RE{f:aa->(aa->Prop)->Prop}(b:∀v k,f v k=k v)(l:az):∀(k:az->Prop),KDL f l k=k l:=by
 induction l with
 | nil=>intro k;rfl
 | cons c r a=>intro k;simp only[KDL,b,a]
theorem qB(n:Nat):∀(v:aa) (k:aa->Prop),KD n v k=k v:=by
 induction n with
 | zero=>intro v k;rfl
 | succ n a=>
  intro v k;cases v<;>simp only[KD,RE a,a]
  grind
def OD(x:ab)(k:ab->Prop):Prop:=
 match x with
 | .dead=>k .dead
 | .cells T cs=>KDL (KD 3) cs λcs=>k (.cells T cs)
 | .fcells cs=>KDL (KD 3) cs λcs=>k (.fcells cs)
 | .row g sz e xs=>k (.row g sz e xs)
 | .frow g sz xs=>k (.frow g sz xs)
 | .tail g sz e=>k (.tail g sz e)
 | .mp a es=>k (.mp a es)
 | .bun g I=>k (.bun g I)
def aJ9(x:ab)(k:ab->Prop):OD x k=k x:=by cases x<;>simp only[OD,RE (qB 3)]
def ODL:aw->(aw->Prop)->Prop
 | [],k=>k []
 | c::r,k=>OD c λc=>ODL r λr=>k (c::r)
def wI(l:aw):∀(k:aw->Prop),ODL l k=k l:=by
 induction l with
 | nil=>intro k;rfl
 | cons c r a=>intro k;simp only[ODL,aJ9,a]
def BA:au->Nat->aa->(au->Prop)->Prop
 | [],n,x,k=>k [(n,x)]
 | (i,v)::r,n,x,k=>bif Av i n then k ((n,x)::r)else BA r n x λr=>k ((i,v)::r)
def lQ(l:au)(n:Nat)(x:aa):∀(k:au->Prop),BA l n x k=k (iS l n x):=by
 induction l with
 | nil=>intro k;rfl
 | cons c r a=>intro k;obtain⟨i,v⟩:=c;simp only[BA,iS,a];grind
def pos(k:Nat):Nat->a6->Option Nat
 | _,[]=>D
 | j,x::r=>bif Av x k then X j else pos k (j+1) r
def iO:ab->Nat
 | .row g _ _ _=>g
 | .tail g _ _=>g
 | .bun g _=>g
 | _=>0
def gm(n0 j a g:Nat):Option Nat:=
 bif Av g a then X (bif Fi j n0 then(bif Av a 0 then 0 else 1)else 0)else(bif Fi j n0&&Av g 0 then X 0 else D)
def cvtV(n0:Nat)(ks:a6)(og:Nat->ab):Nat->aa->aa
 | 0,_=>.undef
 | n+1,v=>match v with
  | .slice sz xs t=>(match t with
   | .full=>.slice sz xs .full
   | .nil=>(match ks with | []=>.slice sz xs .no|_::_=>.slice sz xs .nil)
   | .own k g=>(match pos k 0 ks with
    | some j=>(match gm n0 j (iO (og k)) g with|some g=>.slice sz xs (.own j g)|none=>.slice sz xs .no)
    | none=>.slice sz xs .no)
   | _=>.slice sz xs .no)
  | .agg cs=>.agg (eZ (cvtV n0 ks og n) cs)
  | .tup cs=>.tup (eZ (cvtV n0 ks og n) cs)
  | .func fn a cs=>.func fn (eZ (cvtV n0 ks og n) a) (eZ (cvtV n0 ks og n) cs)
  | .iface t v=>.iface t (cvtV n0 ks og n v)
  | .ref k off=>(match pos k 0 ks with
   | some j=>(match gm n0 j (iO (og k)) 0 with|some _=>.ref j off|none=>.undef)
   | none=>ai og 1 (.ref k off))
  | .csl k off len sz=>(match pos k 0 ks with
   | some j=>(match gm n0 j (iO (og k)) 0 with|some _=>.csl j off len sz|none=>.undef)
   | none=>ai og 1 (.csl k off len sz))
  | .row k g=>(match pos k 0 ks with
   | some j=>(match gm n0 j (iO (og k)) g with|some g=>.row j g|none=>.undef)
   | none=>ai og 1 (.row k g))
  | .sub k g lo len sz=>(match pos k 0 ks with
   | some j=>(match gm n0 j (iO (og k)) g with|some g=>.sub j g lo len sz|none=>.undef)
   | none=>ai og 1 (.sub k g lo len sz))
  | .mref k=>(match pos k 0 ks with|some j=>(match gm n0 j (iO (og k)) 0 with|some _=>.mref j|none=>.undef)|none=>.undef)
  | .eref _ _ _ _ _=>.undef
  | .rowc _ _ _=>.undef
  | .pre _ _ _ _ _=>.undef
  | v=>v
def K4(n0:Nat)(ks:a6)(ac:aw)(j:Nat):ab->ab
 | .cells T cs=>.cells T (eZ (cvtV n0 ks (aE ac) 4) cs)
 | .row g sz e xs=>.row (match gm n0 j g g with|some g=>g|none=>0) sz e xs
 | .tail g sz e=>.tail (match gm n0 j g g with|some g=>g|none=>0) sz e
 | .bun g I=>.bun (match gm n0 j g g with|some g=>g|none=>0) I
 | o=>o
def uS(n0:Nat)(ks:a6)(ac:aw):Nat->a6->aw
 | _,[]=>[]
 | j,k::r=>K4 n0 ks ac j (aE ac k)::uS n0 ks ac (j+1) r
def iC(n0:Nat)(ks:a6)(ac:aw):aw:=uS n0 ks ac 0 ks
def kO:a6->aw->Bool
 | [],_=>O
 | k::r,ac=>(aE ac k).owns&& !xX k r&&kO r ac
def upto:Nat->Nat->a6
 | _,0=>[]
 | j,n+1=>j::upto (j+1) n
def kK:Nat->Nat->a6->Bool
 | 0,_,_=>O
 | n+1,j,k::r=>Av k j&&kK n (j+1) r
 | _+1,_,[]=>U
def fS(ks:a6)(base j:Nat):Nat:=match nth ks j with|some k=>k|none=>base+(j-(olenN ks))
 where olenN:a6->Nat
 | []=>0
 | _::r=>olenN r+1
def kP(ks:a6)(ac:aw)(j g:Nat):Nat:=match nth ks j with|some k=>iO (aE ac k)+g|none=>g
def embV(ks:a6)(base:Nat)(ac:aw):Nat->aa->aa
 | 0,_=>.undef
 | n+1,v=>match v with
  | .slice sz xs t=>(match t with
   | .own j g=>.slice sz xs (.own (fS ks base j) (kP ks ac j g))
   | t=>.slice sz xs t)
  | .agg cs=>.agg (eZ (embV ks base ac n) cs)
  | .tup cs=>.tup (eZ (embV ks base ac n) cs)
  | .func fn a cs=>.func fn (eZ (embV ks base ac n) a) (eZ (embV ks base ac n) cs)
  | .iface t v=>.iface t (embV ks base ac n v)
  | .ref j off=>.ref (fS ks base j) off
  | .csl j off len sz=>.csl (fS ks base j) off len sz
  | .row j g=>.row (fS ks base j) (kP ks ac j g)
  | .sub j g lo len sz=>.sub (fS ks base j) (kP ks ac j g) lo len sz
  | .mref j=>.mref (fS ks base j)
  | .eref _ _ _ _ _=>.undef
  | .rowc _ _ _=>.undef
  | .pre _ _ _ _ _=>.undef
  | v=>v
def vZ(ks:a6)(base:Nat)(ac:aw)(j:Nat):ab->ab
 | .cells T cs=>.cells T (eZ (embV ks base ac 4) cs)
 | .row g sz e xs=>.row (kP ks ac j g) sz e xs
 | .frow g sz xs=>.frow (kP ks ac j g) sz xs
 | .tail g sz e=>.tail (kP ks ac j g) sz e
 | .bun g I=>.bun (kP ks ac j g) I
 | o=>o
def iN(ks:a6)(base:Nat)(ac:aw):Nat->aw->aw->aw
 | _,[],l=>l
 | j,o::r,l=>iN ks base ac (j+1) r (bU l (fS ks base j) (vZ ks base ac j o))
inductive Res where
 | ret (a:aa)
 | pan (a:aa)
def wJ(M:Imm)(ob:Hs):Ending->Res->Prop
 | .returned v,.ret a=>Rep M ob v a
 | .panicked ch,.pan a=>∃v,ch=[{v,recovered:=U}]/\Rep M ob v a
 | _,_=>False
def cV(M:Imm)(ob:Hs)(vs:bb)(as:az):Prop:=
 Z vs=Z as/\∀(i:Nat) v a,vs[i]? =X v->as[i]? =X a->Rep M ob v a
def kL(P:Program)(f:FuncId)(a:Array Value)(w:World)(R:Ending->World->Prop):Prop:=
 ((callFunc f a).run P w= .ok (.enter f a) w/\Calls P f a w R)\/∃u w',(callFunc f a).run P w= .ok (.value u) w'/\R (.returned u) w'
def aE5(P:Program)(l:Nat)(b:Array Value)(w:World)(R:Ending->World->Prop):Prop:=
 ∃f tmps as a,(Instr.yield l b).run P w= .ok (.round l f tmps as a) w/\RoundIn Fence.wide 0 P l f tmps as a w R
def JV:Fn->Array Value->Sem Next
 | .func f,va=>callFunc f va
 | .yield l,va=>Instr.yield l va
 | _,va=>callFunc 0 va
@[reducible] def cP(P:Program)(f:Fn)(va:Array Value)(w:World)(R:Ending->World->Prop):Prop:=
 match f with
 | .func f=>kL P f va w R
 | .yield l=>aE5 P l va w R
 | _=>False
def bQ(P:Program)(f:Fn)(args:az)(ac:aw)(r:Res)(ap:aw):Prop:=
 ∀M ob w a,Mem M ob ac w->cV M ob a args->
  cP P f a.toArray w λe w'=>∃M' ob',Ext M ob ac w M' ob' ap w'/\Mem M' ob' ap w'/\wJ M' ob' e r
abbrev aA(P:Program)(f:FuncId)(args:az)(ac:aw)(r:Res)(ap:aw):Prop:=bQ P (.func f) args ac r ap
inductive CallG(P:Program)(f:Fn)(args:az)(ac:aw)(K:aa->aw->Prop)(Kp:aa->aw->Prop):Prop
 | pure (r:aa) (new:aw) (h:bQ P f (eZ (cvtV 0 [] (aE (frzL ac args)) 5) args) [] (.ret r) new) (k:K (embV [] (aV ac) (frzL ac args) 5 r) (iN [] (aV ac) (frzL ac args) 0 new (frzL ac args)))
 | eff (fz ks:a6) (r:aa) (ap:aw) (hk:kO ks (ak fz ac)=O) (h:bQ P f (eZ (cvtV 0 ks (aE (ak fz ac)) 5) args) (iC 0 ks (ak fz ac)) (.ret r) ap)
   (k:K (embV ks (aV (ak fz ac)) (ak fz ac) 5 r) (iN ks (aV (ak fz ac)) (ak fz ac) 0 ap (ak fz ac)))
 | effp (fz ks:a6) (r:aa) (ap:aw) (hk:kO ks (ak fz ac)=O) (h:bQ P f (eZ (cvtV 0 ks (aE (ak fz ac)) 5) args) (iC 0 ks (ak fz ac)) (.pan r) ap)
   (k:Kp (embV ks (aV (ak fz ac)) (ak fz ac) 5 r) (iN ks (aV (ak fz ac)) (ak fz ac) 0 ap (ak fz ac)))
 | pan (r:aa) (h:bQ P f (eZ (cvtV 0 [] (aE (frzL ac args)) 5) args) [] (.pan r) []) (k:Kp r (frzL ac args))
inductive CallD(P:Program)(f:Fn)(args:az)(so:Bool)(seen:aw)(base:Nat)(ac:aw)(K:aa->aw->Prop)(Kp:aa->aw->Prop):Prop
 | pure (r:aa) (new:aw) (h:bQ P f (eZ (cvtV 0 [] (aE seen) 5) args) [] (.ret r) new) (k:K (embV [] base seen 5 r) (iN [] base seen 0 new ac)):CallD P f args so seen base ac K Kp
 | sole (h:so=O) (h:CallG P f args ac K Kp):CallD P f args so seen base ac K Kp
 | look (ks:a6) (r:aa) (ap:aw) (hk:kO ks seen=O) (hl:Z ap=Z ks) (h:bQ P f (eZ (cvtV 0 ks (aE seen) 5) args) (iC 0 ks seen) (.ret r) ap) (hi:∀b,iN ks b seen 0 ap seen=seen) (hz:∀b,embV ks b seen 5 r=r) (k:K r ac):CallD P f args so seen base ac K Kp
def orF(P:Program)(ac:aw)(K:aa->aw->Prop)(Kp:aa->aw->Prop):OR->Prop
 | .no=>False
 | .val v=>K v ac
 | .mkf fn d cs=>K (.func fn d cs) ac
 | .need p r=>p/\orF P ac K Kp r
 | .alt p v w=>(p/\K v ac)\/K w ac
 | .idx n f=>∃i:Nat,n=(i:Int)/\orF P ac K Kp (f i)
 | .elem xs i f=>∃x,xs[i]? =X x/\orF P ac K Kp (f x)
 | .byte l i=>∃c,l[i]? =X c/\K (.int .u8 (c.toNat:Int)) ac
 | .text xs=>∃l:ay,xs=l.map ub/\(Z l:Int)<=9223372036854775807/\K (.str l) ac
 | .find es key f=>∃o,cE es key=o/\orF P ac K Kp (f o)
 | .born x v=>K v (bU ac (aV ac) x)
 | .upd k x v=>K v (bU ac k x)
 | .nilq xs a=>∀b:Bool,(b=O->xs=[])->K (.bool (if a then !b else b)) ac
 | .call f args=>CallG P f args ac K Kp
 | .pan v=>Kp v ac
def nd:ab->Bool
 | .dead=>U
 | _=>O
def orD(P:Program)(d e bl:Bool)(a ac:aw)(base:Nat)(K:aa->aw->Prop)(Kp:aa->aw->Prop):OR->Prop
 | .val v=>K v ac
 | .mkf fn h cs=>K (.func fn h cs) ac
 | .need p r=>p/\orD P d e bl a ac base K Kp r
 | .alt p v w=>(p/\K v ac)\/K w ac
 | .idx n f=>∃i:Nat,n=(i:Int)/\orD P d e bl a ac base K Kp (f i)
 | .elem xs i f=>∃x,xs[i]? =X x/\orD P d e bl a ac base K Kp (f x)
 | .byte l i=>∃c,l[i]? =X c/\K (.int .u8 (c.toNat:Int)) ac
 | .text xs=>∃l:ay,xs=l.map ub/\(Z l:Int)<=9223372036854775807/\K (.str l) ac
 | .find es key f=>∃o,cE es key=o/\orD P d e bl a ac base K Kp (f o)
 | .born x v=>(match bl with|true=>False|false=>K v (bU ac base x))
 | .upd k x v=>(match (d||(e&&nd (aE a k)))with|true=>K v (bU ac k x)|false=>False)
 | .nilq xs g=>(match d with|true=>∀b:Bool,(b=O->xs=[])->K (.bool (if g then !b else b)) ac|false=>False)
 | .call f args=>(match bl with|true=>False|false=>CallD P f args d a base ac K Kp)
 | .pan v=>(match d with|true=>Kp v ac|false=>False)
 | .no=>False
def cM(all:bc)(ρ:Operand->aa)(g:Option (Nat×Bool)):Option Bool:=
 match g with
 | none=>X O
 | some (j,want)=>match nth all j with
  | some p=>match p.dst with
   | some d=>match ρ (.tmp d)with
    | .bool b=>X (b==want)
    | .tup []=>X U
    | _=>D
   | none=>D
  | none=>D
def sY(n:Nat):bc->Bool
 | []=>U
 | o::r=>(match o.guard with|some (j,_)=>Av j n|none=>U)||sY n r
def fA(E:Env):Option Nat->Nat
 | none=>0
 | some d=>bif xX d E.own then(bif xX d E.rws then 3 else 1)else bif xX d E.rws then 2 else 0
def kU(fr:au):Option Nat->aa->au
 | none,_=>fr
 | some d,v=>iS fr d v
def wrP(rest:bc)(n:Nat)(d:Option Nat)(fr:au)(v:aa)(k:au->Prop):Prop:=
 match d with
 | none=>k fr
 | some d=>bif sY n rest then(match v with
   | .bool b=>(b=O->k (iS fr d (.bool O)))/\(b=U->k (iS fr d (.bool U)))
   | _=>False)
  else k (iS fr d v)
def fV(E:Env)(all:bc)(K:au->aw->Prop)(Kp:(Nat->aa)->aa->aw->Prop):Nat->bc->au->aw->Prop
 | _,[],fr,ac=>K fr ac
 | n,p::rest,fr,ac=>match cM all (ev fr) p.guard with
  | none=>False
  | some false=>fV E all K Kp (n+1) rest (kU fr p.dst (.tup [])) ac
  | some true=>orF E.P ac (λv ac=>wrP rest n p.dst fr v λfr=>fV E all K Kp (n+1) rest fr ac) (Kp (bA fr))
    (eop E (fA E p.dst) (aV ac) (aE ac) (ev fr) p.op p.type)
def jD(p:Oper):a6:=(p.after.toList.filter (Go.Region.binds .any)).map (·.on)
def dG(m i:Nat):Bool:=Av (Nat.land (Nat.shiftRight m i) 1) 1
def dP:a6->Nat->Nat
 | [],_=>0
 | x::_,0=>x
 | _::r,n+1=>dP r n
def kT(tab:a6):a6->Nat
 | []=>0
 | i::r=>Nr (Nr (Nat.shiftLeft 1 i) (dP tab i)) (kT tab r)
def iX:a6->bc->a6
 | tab,[]=>tab
 | tab,p::r=>iX (tab++[kT tab (jD p)]) r
def aSp(n:Nat)(k:Nat->Prop):Prop:=match n with|0=>k 0|m+1=>k (m+1)
def aL7(n:Nat)(k:Nat->Prop):aSp n k=k n:=by cases n<;>rfl
def aA4:a6->Nat->(a6->Prop)->Prop
 | [],m,k=>k [m]
 | x::r,m,k=>aA4 r m λr=>k (x::r)
def aFU(l:a6)(m:Nat):∀(k:a6->Prop),aA4 l m k=k (l++[m]):=by
 induction l with
 | nil=>intro k;rfl
 | cons x r a=>intro k;simp only[aA4,a,List.cons_append]
def aCK:a6->bc->(a6->Prop)->Prop
 | tab,[],k=>k tab
 | tab,p::r,k=>aSp (kT tab (jD p)) λm=>aA4 tab m λtab=>aCK tab r k
def aJS(l:bc):∀(tab:a6) (k:a6->Prop),aCK tab l k=k (iX tab l):=by
 induction l with
 | nil=>intro tab k;rfl
 | cons p r a=>intro tab k;simp only[aCK,iX,aL7,aFU,a]
def loose(tab:a6)(i j:Nat):Bool:=!Av i j&& !dG (dP tab j) i&& !dG (dP tab i) j
def UW(tab:a6)(j t:Nat):Nat->bc->Bool
 | _,[]=>U
 | i,p::r=>(match p.dst with|some d=>Av d t&&loose tab i j|none=>U)||UW tab j t (i+1) r
def evH(tab:a6)(all:bc)(j:Nat)(fr:au):Operand->aa
 | .tmp t=>bif UW tab j t 0 all then .undef else bA fr t
 | x=>ev fr x
def uF:a6->aw->aw
 | [],ac=>ac
 | k::r,ac=>uF r (bU ac k .dead)
def KU(tab:a6)(j:Nat):List (Nat×Nat)->a6
 | []=>[]
 | (i,k)::r=>bif dG (dP tab j) i then KU tab j r else k::KU tab j r
def sole(tab:a6)(j:Nat):Nat->bc->Bool
 | _,[]=>O
 | i,_::r=>!loose tab i j&&sole tab j (i+1) r
def blD(E:Env):Option Nat->Bool
 | none=>U
 | some d=>xX d E.bl
def LR(E:Env)(tab:a6)(j:Nat):Nat->bc->Bool
 | _,[]=>O
 | i,p::r=>(!loose tab i j||blD E p.dst)&&LR E tab j (i+1) r
def soN(E:Env)(tab:a6)(all:bc)(n:Nat)(d:Option Nat):Bool:=sole tab n 0 all&& !blD E d
def uoN(E:Env)(tab:a6)(all:bc)(n:Nat)(d:Option Nat):Bool:=LR E tab n 0 all&& !blD E d
def tN(E:Env)(tab:a6)(n:Nat)(br:List (Nat×Nat))(ac:aw)(d:Option Nat):aw:=bif blD E d then[]else uF (KU tab n br) ac
def born(j base:Nat):aw->List (Nat×Nat)->List (Nat×Nat)
 | [],br=>br
 | _::r,br=>(j,base)::born j (base+1) r br
def jH:Nat->aw->aw
 | 0,l=>l
 | _+1,[]=>[]
 | n+1,_::l=>jH n l
def kH(E:Env)(all:bc)(tab:a6)(K:au->aw->Prop)(Kp:(Nat->aa)->aa->aw->Prop):Nat->bc->List (Nat×Nat)->au->aw->Prop
 | _,[],_,fr,ac=>K fr ac
 | n,p::rest,br,fr,ac=>
  match cM all (evH tab all n fr) p.guard with
  | none=>False
  | some false=>kH E all tab K Kp (n+1) rest br (kU fr p.dst (.tup [])) ac
  | some true=>orD E.P (soN E tab all n p.dst) (uoN E tab all n p.dst) (blD E p.dst) (tN E tab n br ac p.dst) ac (aV ac) (λv ap=>wrP rest n p.dst fr v λfr=>kH E all tab K Kp (n+1) rest (born n (aV ac) (jH (aV ac) ap) br) fr ap) (Kp (bA fr))
     (eop E (fA E p.dst) (aV ac) (aE (tN E tab n br ac p.dst)) (evH tab all n fr) p.op p.type)
inductive KI where
 | code (c:Code)|inB (id:Nat)|inL (c:Code)|beginR
abbrev _root_.bg:=List KI
def I8(id:Nat):bg->Option bg
 | []=>D
 | .inB i::r=>bif Av i id then X r else I8 id r
 | _::r=>I8 id r
inductive Goal where
 | pure (r:Res)
 | full (n0:Nat) (r:Res) (ap:aw)
 | keep (n0:Nat) (r:Res) (ap:aw)
def aPT(E:Env)(ac:aw)(fr:au):ResultVar->Option aa
 | .tmp t=>X (bA fr t)
 | .cell t ty=>match dO E.T ty,bA fr t with
  | some ti,.ref k off=>match aE ac k with
   | .cells _ cs=>match oS ti.size (mR off cs)with|some l=>mk ti l|none=>D
   | _=>D
  | _,_=>D
def aGL(E:Env)(ac:aw)(fr:au):List ResultVar->Option az
 | []=>X []
 | r::rs=>match aPT E ac fr r,aGL E ac fr rs with
  | some v,some vs=>X (v::vs)
  | _,_=>D
def aGM(E:Env)(ac:aw)(a:List ResultVar)(fr:au):Option aa:=
 match aGL E ac fr a with
 | some [v]=>X v
 | some vs=>X (.tup vs)
 | none=>D
def aTt(n:Nat):Tk->Bool
 | .own k _=>Fi k n
 | _=>O
def JZ(f:aa->Bool):az->Bool
 | []=>O
 | c::r=>f c&&JZ f r
def bel(n:Nat):Nat->aa->Bool
 | 0,_=>U
 | m+1,a=>match a with
  | .slice _ _ t=>aTt n t
  | .agg cs=>JZ (bel n m) cs
  | .tup cs=>JZ (bel n m) cs
  | .ref k _=>Fi k n
  | .eref k _ _ _ _=>Fi k n
  | .csl k _ _ _=>Fi k n
  | .row k _=>Fi k n
  | .sub k _ _ _ _=>Fi k n
  | .rowc k _ _=>Fi k n
  | .pre k _ _ _ _=>Fi k n
  | .mref k=>Fi k n
  | .func _ b cs=>JZ (bel n m) b&&JZ (bel n m) cs
  | .iface _ v=>bel n m v
  | _=>O
def K7(n:Nat):aw->Bool
 | []=>O
 | .cells _ cs::r=>JZ (bel n 5) cs&&K7 n r
 | _::r=>K7 n r
def aJQ(n:Nat):au->Bool
 | []=>O
 | (_,v)::r=>bel n 5 v&&aJQ n r
def rD:Nat->aw->aw
 | 0,_=>[]
 | _+1,[]=>[]
 | n+1,x::r=>x::rD n r
def VN(g:Goal)(a:aa->Res)(v:aa)(ac:aw):Prop:=
 match g with
 | .pure r=>a (cvtV 0 [] (aE (frzL ac [v])) 5 v)=r
 | .full n0 r ap=>∃b ks,(kO ks (ak b ac)=O/\kK n0 0 ks=O)/\a (cvtV n0 ks (aE (ak b ac)) 5 v)=r/\iC n0 ks (ak b ac)=ap
 | .keep n0 r ap=>(bel n0 5 v=O/\K7 n0 (rD n0 ac)=O)/\a v=r/\rD n0 ac=ap
def Goal.n0:Goal->Nat
 | .pure _=>0
 | .full n _ _=>n
 | .keep n _ _=>n
def eF(fn:Func):Code:=fn.body.getD .skip
def GX:Nat->Code->bg->bg ⊕ Nat
 | n,.seq a b,ks=>match GX n a (.code b::ks)with | .inl r=>.inl r | .inr n=>GX n b ks
 | n,.cond _ a b,ks=>match GX n a ks with | .inl r=>.inl r | .inr n=>GX n b ks
 | n,.block id b,ks=>GX n b (.inB id::ks)
 | 0,.loop b,ks=>.inl (.code b:: .inL b::ks)
 | n+1,.loop b,ks=>GX n b (.inL b::ks)
 | n,_,_=>.inr n
def stk(fn:Func)(n:Nat):bg:=match GX n (eF fn) []with | .inl r=>r | .inr _=>[]
def frA:Nat->az->au
 | _,[]=>[]
 | n,a::r=>(n,a)::frA (n+1) r
def nY:a6->au->au
 | [],_=>[]
 | t::r,fr=>(t,bA fr t)::nY r fr
structure RI where
 all:bc
 dr:Bool
 tab:a6
 ks:bg
inductive St where
 | code (ks:bg) (fr:au) (ac:aw)
 | head (ks:bg) (fr:au) (ac:aw)
 | mid (R:RI) (n:Nat) (rest:bc) (br:List (Nat×Nat)) (fr:au) (ac:aw)
 | pend (R:RI) (n:Nat) (d:Option Nat) (rest:bc) (br:List (Nat×Nat)) (fr:au) (ac:aw) (r:OR)
 | got (R:RI) (n:Nat) (d:Option Nat) (rest:bc) (br:List (Nat×Nat)) (fr:au) (len:Nat) (ac:aw) (v:aa)
 | leave (p:Option aa) (fr:au) (ac:aw)
def aI9(g:Goal)(a:aa->Res)(v:aa)(ac:aw):Prop:=
 match g with
 | .pure r=>KD 5 (cvtV 0 [] (aE (frzL ac [v])) 5 v) λy=>a y=r
 | .full n0 r ap=>∃b ks,(kO ks (ak b ac)=O/\kK n0 0 ks=O)/\KD 5 (cvtV n0 ks (aE (ak b ac)) 5 v) λy=>ODL (iC n0 ks (ak b ac)) λos=>a y=r/\os=ap
 | .keep n0 r ap=>(bel n0 5 v=O/\K7 n0 (rD n0 ac)=O)/\ODL (rD n0 ac) λos=>a v=r/\os=ap
theorem QJ(g:Goal)(a:aa->Res)(v:aa)(ac:aw):aI9 g a v ac=VN g a v ac:=by cases g<;>simp only[aI9,VN,qB,wI]
def aQa(E:Env)(g:Goal)(J:St->Prop)(fr:au)(v:aa)(ac:aw):Prop:=match E.rd with
 | some _=>False
 | none=>match E.df with
  | []=>VN g .pan v ac
  | _::_=>J (.leave (X v) fr ac)
def aLr(E:Env)(fn:Func)(g:Goal)(J:St->Prop)(b:Bool)(fr:au)(ac:aw):Prop:=match E.rd with
 | some _=>aI9 g .ret (.bool b) ac
 | none=>match E.df with
  | []=>(match aGM E ac fn.results.toList fr with|some v=>KD 5 v λv=>aI9 g .ret v ac|none=>False)
  | _::_=>J (.leave D fr ac)
def aSy:bc->Bool
 | [p]=>(match p.op with | .defer _=>O|_=>U)
 | _=>U
def cF(E:Env)(fn:Func)(g:Goal)(J:St->Prop):Nat->St->Prop
 | 0,s=>J s
 | n+1,.head ks fr ac=>cF E fn g J n (.code ks fr ac)
 | _+1,.leave p fr ac=>J (.leave p fr ac)
 | _+1,.code [] fr ac=>aLr E fn g J O fr ac
 | n+1,.code (k::ks) fr ac=>(match k with
  | .inB _=>cF E fn g J n (.code ks fr ac)
  | .inL b=>J (.head (.code b:: .inL b::ks) fr ac)
  | .beginR=>J (.code (.beginR::ks) fr ac)
  | .code q=>match q with
   | .skip=>cF E fn g J n (.code ks fr ac)
   | .seq a b=>cF E fn g J n (.code (.code a:: .code b::ks) fr ac)
   | .block id b=>cF E fn g J n (.code (.code b:: .inB id::ks) fr ac)
   | .loop b=>J (.head (.code b:: .inL b::ks) fr ac)
   | .exit id=>(match I8 id ks with
    | some ks=>cF E fn g J n (.code ks fr ac)
    | none=>False)
   | .ret=>aLr E fn g J U fr ac
   | .rangeFunc x t as u=>J (.code (.code (.rangeFunc x t as u)::ks) fr ac)
   | .cond x a b=>(match ev fr x with
    | .bool p=>(p=O->J (.code (.code a::ks) fr ac))/\(p=U->J (.code (.code b::ks) fr ac))
    | _=>False)
   | .region id ops dr=>(match aSy ops.toList with
    | true=>J (.code (.code (.region id ops dr)::ks) fr ac)
    | false=>(match dr with
     | false=>cF E fn g J n (.mid ⟨ops.toList,U,[],ks⟩ 0 ops.toList [] fr ac)
     | true=>aCK [] ops.toList λtab=>cF E fn g J n (.mid ⟨ops.toList,O,tab,ks⟩ 0 ops.toList [] fr ac)))
   | _=>False)
 | n+1,.mid R _ [] _ fr ac=>cF E fn g J n (.code R.ks fr ac)
 | n+1,.mid R i (p::rest) br fr ac=>(match R.dr with
  | false=>(match cM R.all (ev fr) p.guard with
   | none=>False
   | some false=>(match p.dst with|none=>cF E fn g J n (.mid R (i+1) rest br fr ac)|some d=>BA fr d (.tup []) λfr=>cF E fn g J n (.mid R (i+1) rest br fr ac))
   | some true=>cF E fn g J n (.pend R i p.dst rest br fr ac (eop E (fA E p.dst) (aV ac) (aE ac) (ev fr) p.op p.type)))
  | true=>(match cM R.all (evH R.tab R.all i fr) p.guard with
   | none=>False
   | some false=>(match p.dst with|none=>cF E fn g J n (.mid R (i+1) rest br fr ac)|some d=>BA fr d (.tup []) λfr=>cF E fn g J n (.mid R (i+1) rest br fr ac))
   | some true=>ODL (tN E R.tab i br ac p.dst) λe=>cF E fn g J n (.pend R i p.dst rest br fr ac (eop E (fA E p.dst) (aV ac) (aE e) (evH R.tab R.all i fr) p.op p.type))))
 | n+1,.pend R i d rest br fr ac r=>(match r with
  | .no=>False
  | .val v=>KD 4 v λv=>cF E fn g J n (.got R i d rest br fr (aV ac) ac v)
  | .mkf f j cs=>KDL (KD 3) j λj=>KDL (KD 3) cs λcs=>cF E fn g J n (.got R i d rest br fr (aV ac) ac (.func f j cs))
  | .need p r=>p/\J (.pend R i d rest br fr ac r)
  | .alt p v w=>(p/\J (.got R i d rest br fr (aV ac) ac v))\/J (.got R i d rest br fr (aV ac) ac w)
  | .idx m f=>∃x:Nat,m=(x:Int)/\J (.pend R i d rest br fr ac (f x))
  | .elem xs m f=>∃x,xs[m]? =X x/\J (.pend R i d rest br fr ac (f x))
  | .byte l m=>∃c,l[m]? =X c/\J (.got R i d rest br fr (aV ac) ac (.int .u8 (c.toNat:Int)))
  | .text xs=>∃l:ay,xs=l.map ub/\(Z l:Int)<=9223372036854775807/\J (.got R i d rest br fr (aV ac) ac (.str l))
  | .find es key f=>∃o,cE es key=o/\J (.pend R i d rest br fr ac (f o))
  | .born x v=>(match (R.dr&&blD E d)with
   | true=>False
   | false=>OD x λx=>ODL (bU ac (aV ac) x) λap=>KD 4 v λv=>cF E fn g J n (.got R i d rest br fr (aV ac) ap v))
  | .upd k x v=>(match (!R.dr||(soN E R.tab R.all i d||(uoN E R.tab R.all i d&&nd (aE (tN E R.tab i br ac d) k))))with
   | true=>OD x λx=>ODL (bU ac k x) λap=>KD 4 v λv=>cF E fn g J n (.got R i d rest br fr (aV ac) ap v)
   | false=>False)
  | .nilq xs h=>(match (!R.dr||soN E R.tab R.all i d)with
   | true=>∀b:Bool,(b=O->xs=[])->J (.got R i d rest br fr (aV ac) ac (.bool (if h then !b else b)))
   | false=>False)
  | .call f args=>KDL (KD 5) args λargs=>(match R.dr with
   | false=>CallG E.P f args ac (λv ap=>J (.got R i d rest br fr (aV ac) ap v)) (aQa E g J fr)
   | true=>match blD E d with
    | true=>False
    | false=>ODL (tN E R.tab i br ac d) λe=>CallD E.P f args (soN E R.tab R.all i d) e (aV ac) ac (λv ap=>J (.got R i d rest br fr (aV ac) ap v)) (aQa E g J fr))
  | .pan v=>(match (!R.dr||soN E R.tab R.all i d)with
   | true=>KD 5 v λv=>(match E.rd with|some _=>False|none=>match E.df with | []=>aI9 g .pan v ac|_::_=>J (.leave (X v) fr ac))
   | false=>False))
 | n+1,.got R i d rest br fr len ac v=>KD 4 v λv=>ODL ac λac=>(match d with
  | none=>cF E fn g J n (.mid R (i+1) rest (bif R.dr then born i len (jH len ac) br else br) fr ac)
  | some d=>bif sY i rest then(match v with
    | .bool b=>(b=O->BA fr d (.bool O) λfr=>J (.mid R (i+1) rest (bif R.dr then born i len (jH len ac) br else br) fr ac))/\
      (b=U->BA fr d (.bool U) λfr=>J (.mid R (i+1) rest (bif R.dr then born i len (jH len ac) br else br) fr ac))
    | _=>False)
   else BA fr d v λfr=>cF E fn g J n (.mid R (i+1) rest (bif R.dr then born i len (jH len ac) br else br) fr ac))
theorem JX{i n:Nat}(h:¬ i=n):Av i n=false:=by
 cases a:Av i n with
 | false=>rfl
 | true=>simp_all
theorem aG{i n:Nat}(h:Av i n=O):i=n:=Nat.eq_of_beq_eq_true h
def bB{a b:Bool}(h:(a&&b)=O):a=O/\b=true:=by grind
theorem cC(l:aw):aV l=Z l:=by
 induction l with
 | nil=>rfl
 | cons x r a=>simp[aV,a]
theorem rG{l:aw}:∀{n:Nat},n<Z l->l[n]? =X (aE l n):=by
 induction l with
 | nil=>simp
 | cons x r a=>intro n h;cases n with
  | zero=>rfl
  | succ n=>simpa[aE]using a (n:=n) (by grind)
theorem bO{l:aw}:∀{n:Nat} {x:ab},aE l n=x->x≠ .dead->l[n]? =X x:=by
 induction l with
 | nil=>intro n x h a;exact bv h.symm (by simpa[aE]using a)
 | cons y r b=>intro n x h a;cases n with
  | zero=>simpa[aE]using h
  | succ n=>simpa using b (n:=n) h a
theorem iE{l:aw}:∀{n:Nat} {x:ab},l[n]? =X x->aE l n=x:=by
 induction l with
 | nil=>simp
 | cons y r a=>intro n x h;cases n with
  | zero=>simpa[aE]using h
  | succ n=>exact a (n:=n) (by simp_all)
theorem gY{l:aw}:∀{n:Nat} (x:ab),n<Z l->bU l n x=l.set n x:=by
 induction l with
 | nil=>simp
 | cons y r a=>intro n x h;cases n with
  | zero=>rfl
  | succ n=>simp only[bU,List.set_cons_succ];grind
theorem TW(l:aw)(x:ab):bU l (Z l) x=l++[x]:=by
 induction l with
 | nil=>rfl
 | cons y r a=>simp[bU,a]
theorem oX(n:Nat):∀(l:az),mR n l=l.drop n:=by
 induction n with
 | zero=>intro l;rfl
 | succ n a=>intro l;cases l with
  | nil=>rfl
  | cons c r=>simpa[mR]using a r
def lE{n:Nat}:∀{l r:az},oS n l=X r->Z r=n/\∀(i:Nat) c,r[i]? =X c->l[i]? =X c:=by
 induction n with
 | zero=>intro l r h;cases h;simp
 | succ n a=>
  intro l r h;cases l with
  | nil=>cases h
  | cons c l=>
   simp only[oS]at h
   grind
def aEG:∀{new l r:az},aAb new l=X r->Z new<=Z l/\Z r=Z l/\∀(i:Nat),r[i]? =if i<Z new then new[i]? else l[i]?:=by
 intro new;induction new with
 | nil=>intro l r h;cases h;simp
 | cons c new a=>
  intro l r h;cases l with
  | nil=>cases h
  | cons d l=>
   simp only[aAb]at h
   grind
def mJ{off:Nat}:∀{new l r:az},qK off new l=X r->off+Z new<=Z l/\Z r=Z l/\∀(i:Nat),r[i]? =if off<=i/\i<off+Z new then new[i-off]? else l[i]?:=by
 induction off with
 | zero=>
  intro new l r h;obtain⟨h1,b,h3⟩:=aEG (show aAb new l=X r by cases l<;>exact h)
  grind
 | succ n a=>
  intro new l r h;cases l with
  | nil=>cases h
  | cons c l=>
   simp only[qK]at h
   grind
theorem B5(l:az):V8 l=Z l:=by
 induction l with
 | nil=>rfl
 | cons c r a=>simp[V8,a]
theorem qH{α:Type}(l:List α):∀(n:Nat),nth l n=l[n]?:=by
 induction l with
 | nil=>intro n;rfl
 | cons x r a=>intro n;cases n with
  | zero=>rfl
  | succ n=>simpa[nth]using a n
def gZ{α:Type}{l:List α}{n:Nat}{x:α}(h:nth l n=X x):l[n]? =X x:=by rw[<-qH];exact h
def Q6(a b:az):aEY a b=a++b:=by
 induction a with
 | nil=>rfl
 | cons c r d=>simp[aEY,d]
theorem BF(f:aa->aa)(l:az):eZ f l=l.map f:=by
 induction l with
 | nil=>rfl
 | cons c r a=>simp[eZ,a]
def oB{n:Nat}:∀{l:a6},xX n l=O↔n∈l
 | []=>by simp[xX]
 | x::r=>by
  simp only[xX,Bool.or_eq_true,oB (l:=r),List.mem_cons];constructor
  all_goals
   rintro(h|h)
   .simp_all
   grind
def rK(fr:au)(n m:Nat)(x:aa):bA (iS fr n x) m=if m=n then x else bA fr m:=by
 induction fr with
 | nil=>
  simp only[iS,bA];by_cases h:m=n
  .simp_all
  .rw [JX (λe=>h e.symm),bt h];rfl
 | cons p r a=>
  obtain⟨i,v⟩:=p;simp only[iS];cases b:Av i n with
  | true=>
   have:=aG b;subst this;simp only[cond_true,bA];by_cases h:m=i
   .grind
   .rw [JX (λe=>h e.symm),bt h];rfl
  | false=>
   simp only[cond_false,bA,a]
   grind
theorem bK(b o j:Nat):(⟨b,o,D⟩:Addr).add j=⟨b,o+j,D⟩:=by unfold Addr.add;simp
def fU{α:Type}{b:Bool}{x:Option α}{r:α}(h:(bif b then x else D)=X r):b=O/\x=X r:=by grind
section
variable {M:Imm} {ob:Hs} {ac:aw} {w:World}
def Rep.int_inv{v:Value}{k:IntKind}{n:Int}(h:Rep M ob v (.int k n)):v= .int k n/\inR k n:=by cases h with|int _ _ h=>grind
def Rep.bool_inv{v:Value}{b:Bool}(h:Rep M ob v (.bool b)):v= .bool b:=by cases h;rfl
def Rep.str_inv{v:Value}{l:ay}(h:Rep M ob v (.str l)):v= .string ⟨l.toArray⟩/\(Z l:Int)<=9223372036854775807:=by cases h with|str _ h=>grind
def Rep.agg_inv{v:Value}{as:az}(h:Rep M ob v (.agg as)):∃vs:bb,v= .agg vs.toArray/\Z vs=Z as/\∀(i:Nat) u a,vs[i]? =X u->as[i]? =X a->Rep M ob u a:=by cases h with|agg vs as hl h=>grind
def Rep.tup_inv{v:Value}{as:az}(h:Rep M ob v (.tup as)):∃vs:bb,v= .tuple vs.toArray/\Z vs=Z as/\∀(i:Nat) u a,vs[i]? =X u->as[i]? =X a->Rep M ob u a:=by cases h with|tup vs as hl h=>grind
def Rep.ptr_inv{v:Value}{cs:az}(h:Rep M ob v (.ptr cs)):∃b o,v= .pointer (X ⟨b,o,D⟩)/\∀(j:Nat) c,cs[j]? =X c->M b (o+j) c:=by cases h with|ptr b o cs h=>grind
def Rep.ref_inv{v:Value}{k off:Nat}(h:Rep M ob v (.ref k off)):∃b,v= .pointer (X ⟨b,off,D⟩)/\at' ob k 0=X (.pointer (X ⟨b,0,D⟩)):=by cases h with|ref k off b h=>grind
def Rep.iface_inv{v:Value}{t:TypeId}{a:aa}(h:Rep M ob v (.iface t a)):∃u,v= .iface t u/\Rep M ob u a:=by cases h with|iface _ v _ h=>grind
def Rep.row_inv{v:Value}{k g:Nat}(h:Rep M ob v (.row k g)):∃a n c,v= .slice a n c/\at' ob k g=X (.slice a n c):=by cases h with|row _ _ a n c h=>grind
def Rep.untok{v:Value}{sz:Nat}{xs:az}{t:Tk}(h:Rep M ob v (.slice sz xs t)):Rep M ob v (.slice sz xs .no)/\yD ob v t:=by
 cases h with
 | slnil sz t c=>exact⟨.slnil sz .no trivial,c⟩
 | slemp sz t a cap c=>exact⟨.slemp sz .no a cap trivial,c⟩
 | sl sz b o n cap xs t e d hm hz h c=>exact⟨.sl sz b o n cap xs .no e d hm hz h trivial,c⟩
def Rep.tok{v:Value}{sz:Nat}{xs:az}{t:Tk}(h:Rep M ob v (.slice sz xs .no))(c:yD ob v t):Rep M ob v (.slice sz xs t):=by
 cases h with
 | slnil sz _=>exact .slnil sz t c
 | slemp sz _ a cap _=>exact .slemp sz t a cap c
 | sl sz b o n cap xs _ e d hm hz h _=>exact .sl sz b o n cap xs t e d hm hz h c
def Rep.slice_pure{v:Value}{sz:Nat}{xs:az}(h:Rep M ob v (.slice sz xs .no)):Rep M [] v (.slice sz xs .no):=by
 cases h with
 | slnil sz _=>exact .slnil sz .no trivial
 | slemp sz _ a cap _=>exact .slemp sz .no a cap trivial
 | sl sz b o n cap xs _ d c hm hz h _=>exact .sl sz b o n cap xs .no d c hm hz h trivial
def Rep.slice_inv{v:Value}{sz:Nat}{xs:az}{t:Tk}(h:Rep M ob v (.slice sz xs t)):∃a c,v= .slice a (Z xs) c/\(a=D->xs=[]/\c=0)/\(xs≠[]->Z xs<=c)/\(Z xs:Int)<=9223372036854775807:=by
 cases h with
 | slnil sz t d=>grind
 | slemp sz t a cap d=>grind
 | sl sz b o n cap xs t f e hm hz h d=>grind
def Rep.sl_inv{v:Value}{sz:Nat}{xs:az}{t:Tk}(h:Rep M ob v (.slice sz xs t)):(v= .slice D 0 0/\xs=[])\/(∃a cap,v= .slice (X a) 0 cap/\xs=[])\/
  ∃b o cap,v= .slice (X ⟨b,o,D⟩) (Z xs) cap/\Z xs<=cap/\(Z xs:Int)<=9223372036854775807/\(∀x∈xs,Z x.cells=sz)/\∀(i j:Nat) x c,xs[i]? =X x->x.cells[j]? =X c->M b (o+i*sz+j) c:=by
 cases h with
 | slnil sz t d=>simp
 | slemp sz t a cap d=>exact .inr (.inl ⟨a,cap,rfl,rfl⟩)
 | sl sz b o n cap xs t f e hm hz h d=>grind
def Rep.cells{v:Value}{a:aa}(h:Rep M ob v a)(m:a≠ .undef):Z v.cells.toList=Z a.cells/\∀(i:Nat) u c,v.cells.toList[i]? =X u->a.cells[i]? =X c->Rep M ob u c:=by
 have d:∀{v:Value} {a:aa},Rep M ob v a->v.cells= #[v]->a.cells=[a]->Z v.cells.toList=Z a.cells/\∀(i:Nat) u c,v.cells.toList[i]? =X u->a.cells[i]? =X c->Rep M ob u c:=by grind
 cases h with
 | undef v=>exact bv rfl m
 | agg vs as hl h=>exact⟨by simpa[Value.cells,aa.cells]using hl,λi u c m e=>h i u c (by simpa[Value.cells]using m) (by simpa[aa.cells]using e)⟩
 | row k g a n c h=>exact d (.row k g a n c h) rfl rfl
 | bool b=>exact d (.bool b) rfl rfl
 | int k n p=>exact d (.int k n p) rfl rfl
 | str l hl=>exact d (.str l hl) rfl rfl
 | tup vs as hl h=>exact d (.tup vs as hl h) rfl rfl
 | ptr b o cs h=>exact d (.ptr b o cs h) rfl rfl
 | ref k off b h=>exact d (.ref k off b h) rfl rfl
 | eref k g i sz off b n c h=>exact d (.eref k g i sz off b n c h) rfl rfl
 | csl k off len sz b h hm=>exact d (.csl k off len sz b h hm) rfl rfl
 | sub k g lo len sz b n c h hl f e hm=>exact d (.sub k g lo len sz b n c h hl f e hm) rfl rfl
 | sub0 k g lo sz a y n c h hl e=>exact d (.sub0 k g lo sz a y n c h hl e) rfl rfl
 | rowc k g c a n h hm=>exact d (.rowc k g c a n h hm) rfl rfl
 | pre k g n c sz b len h e f hl hm=>exact d (.pre k g n c sz b len h e f hl hm) rfl rfl
 | mref k b h=>exact d (.mref k b h) rfl rfl
 | nilptr=>exact d .nilptr rfl rfl
 | nilslice=>exact d .nilslice rfl rfl
 | nilmap=>exact d .nilmap rfl rfl
 | nilfunc=>exact d .nilfunc rfl rfl
 | nilif=>exact d .nilif rfl rfl
 | hsl a n c=>exact d (.hsl a n c) rfl rfl
 | slnil sz t j=>exact d (.slnil sz t j) rfl rfl
 | slemp sz t a cap j=>exact d (.slemp sz t a cap j) rfl rfl
 | sl sz b o n cap xs t f e hm hz h j=>exact d (.sl sz b o n cap xs t f e hm hz h j) rfl rfl
 | func fn s cs r q w e h1 x=>exact d (.func fn s cs r q w e h1 x) rfl rfl
 | iface t v a h=>exact d (.iface t v a h) rfl rfl
def Rep.one{v:Value}{a:aa}(h:Rep M ob v a)(h1:one a=O):v.oneCell'=true:=by cases h<;>first|rfl|(simp[AW.one]at h1)
theorem nZ{l:az}(h:sS l=O):∀(i:Nat) c,l[i]? =X c->one c=true:=by
 induction l with
 | nil=>simp
 | cons d r a=>
  simp only[sS,Af]at h
  grind
theorem rF{c:aa}(h:AW.one c=O):c.cells=[c]:=by cases c<;>first|rfl|cases h
def Rep.cells_one{v:Value}{a:aa}(h:Rep M ob v a)(h1:sS a.cells=O):Z v.cells.toList=Z a.cells/\(∀u∈v.cells.toList,u.oneCell'=O)/\∀(i:Nat) u c,v.cells.toList[i]? =X u->a.cells[i]? =X c->Rep M ob u c:=by
 have f:a≠ .undef:=λe=>by subst e;simp[aa.cells,sS,AW.one]at h1
 obtain⟨g,h3⟩:=h.cells f;refine⟨g,λu hm=>?_,h3⟩;obtain⟨i,d⟩:=Ck hm;have b:i<Z a.cells:=by grind
 exact(h3 i u _ d (Ab b)).one (nZ h1 i _ (Ab b))
end
theorem dE{ob:Hs}{ac:aw}{k:Nat}{x:ab}{hs:bb}(h1:ac[k]? =X x)(d:ob[k]? =X hs){b:Nat}:aM ob ac k b↔x.owns=O/\b∈blk hs:=by
 constructor
 .rintro ⟨c,hs',g,h,e,f⟩
  grind
 .rintro ⟨h3,a⟩;exact⟨x,hs,h1,h3,d,a⟩
def Mem.turn{M M':Imm}{ob:Hs}{ac:aw}{w w':World}(h:Mem M ob ac w){k:Nat}{x x':ab}{hs hs':bb}(T:ac[k]? =X x)(R:ob[k]? =X hs)(hp:hs<+:hs')(hd:x= .dead->hs=[])
  (S:∀b o y,M b o y->M' b o y) (C:∀b o y,M' b o y->M b o y\/(x.owns=O/\b∈blk hs)\/w.heap.size<=b)
  (z:∀b o y,M' b o y->∃v,w'.cell? ⟨b,o,D⟩=X v/\v.oneCell'=O/\Rep M' [] v y)
  (heap:∀b,b<w.heap.size->¬ (x.owns=O/\b∈blk hs)->w'.heap[b]? =w.heap[b]?)
  (H:w'.os=w.os) (r:w'.tape=w.tape) (A:w'.output=w.output) (g:w.heap.size<=w'.heap.size)
  (hok:dR ob (ob.set k hs')->iY M' (ob.set k hs') w' hs' x') (hb:x'.owns=O->∀b,b∈blk hs'->((x.owns=O/\b∈blk hs)\/w.heap.size<=b)/\b<w'.heap.size) (W:x'≠ .dead:=by intro h;cases h):
  Mem M' (ob.set k hs') (ac.set k x') w'/\Ext M ob ac w M' (ob.set k hs') (ac.set k x') w'/\dB ob ac (ob.set k hs') (ac.set k x'):=by
 have As:k<Z ac:=(Ad.1 T).1;have I:k<Z ob:=(Ad.1 R).1;have Be:dR ob (ob.set k hs'):=λi l hl=>by grind[Ba,Bg,Ct]
 have n:∀{i:Nat},i≠k->(ac.set k x')[i]? =ac[i]?/\(ob.set k hs')[i]? =ob[i]?:=λ{i} m=>
  ⟨Bg (λe=>m e.symm),Bg (λe=>m e.symm)⟩
 have t:(ac.set k x')[k]? =X x':=Ba As;have s:(ob.set k hs')[k]? =X hs':=Ba I;have d:∀{i b:Nat},aM (ob.set k hs') (ac.set k x') i b->(i≠k/\aM ob ac i b)\/(i=k/\((x.owns=O/\b∈blk hs)\/w.heap.size<=b)/\b<w'.heap.size):=λ{i b} a=>by
  by_cases m:i=k
  .subst m;have:=(dE t s).1 a;exact .inr ⟨rfl,hb this.1 b this.2⟩
  .obtain ⟨c,l,F,K,Q,e4⟩:=a;rw[(n m).1]at F;rw[(n m).2]at Q;exact .inl ⟨m,c,l,F,K,Q,e4⟩
 have p:∀{b:Nat},x.owns=O/\b∈blk hs->aM ob ac k b:=λa=>(dE T R).2 a;refine⟨⟨z,by simp[h.len],λi c N=>?_,λi b a=>?_,λi j b a u=>?_⟩,⟨S,λb o y P=>?_,Be,H,r,A,g,λb u Y=>heap b u λa=>Y k (p a),λi b a=>?_⟩,λi l h1 B=>⟨λh3=>?_,λh3 h4=>?_⟩⟩
 .by_cases m:i=k
  .grind
  .rw [(n m).1]at N;obtain⟨l,hl,Am⟩:=h.obj i c N;have G:∀b,c.owns=O->b∈blk l->¬ (x.owns=O/\b∈blk hs)/\b<w.heap.size:=λb h1 B=>by have a:aM ob ac i b:=(dE N hl).2 ⟨h1,B⟩;exact⟨λAn=>m (h.inj i k b a (p An)),h.lt i b a⟩
   refine⟨l,by rw[(n m).2];exact hl,Am.mono S Be (λb h1 B o L y P=>?_) (λb c' h1 B At=>?_)⟩
   .obtain ⟨V,g2⟩:=G b h1 B;rcases C b o y P with q|q|q
    .exact L y q
    .exact V q
    .omega
   grind
 .rcases d a with⟨_,a⟩|⟨_,_,J⟩
  .exact Ew (h.lt i b a) g
  .exact J
 .rcases d a with⟨_,a⟩|⟨F,a,_⟩<;>rcases d u with⟨_,f⟩|⟨K,f,_⟩
  .exact h.inj i j b a f
  .rcases f with f|f
   .rw [K];exact h.inj i k b a (p f)
   .have:=h.lt i b a;omega
  .rcases a with a|a
   .rw [F];exact h.inj k j b (p a) f
   .have:=h.lt j b f;omega
  omega
 .grind
 .grind
 .grind
 grind
def Mem.more{M M':Imm}{ob:Hs}{ac:aw}{w w':World}(h:Mem M ob ac w)(p:∀b o y,M b o y->M' b o y)(g:∀b o y,M' b o y->M b o y\/w.heap.size<=b)
  (e:∀b o y,M' b o y->∃v,w'.cell? ⟨b,o,D⟩=X v/\v.oneCell'=O/\Rep M' [] v y) (heap:∀b,b<w.heap.size->w'.heap[b]? =w.heap[b]?)
  (k:w'.os=w.os) (d:w'.tape=w.tape) (f:w'.output=w.output) (a:w.heap.size<=w'.heap.size):Mem M' ob ac w'/\Ext M ob ac w M' ob ac w':=by
 refine⟨⟨e,h.len,λi c s=>?_,λi b j=>Ew (h.lt i b j) a,h.inj⟩,⟨p,λb o y n=>?_,dR.refl _,k,d,f,a,λb x _=>heap b x,λi b j=>.inl ⟨i,j⟩⟩⟩
 .obtain ⟨l,hl,u⟩:=h.obj i c s;refine⟨l,hl,u.mono p (dR.refl _) (λb h1 r o m y n=>?_) (λb z h1 r t=>?_)⟩
  .have:=h.lt i b ((dE s hl).2 ⟨h1,r⟩);rcases g b o y n with q|q
   .exact m y q
   .omega
  grind[dE]
 grind
def Mem.extend{M:Imm}{ob:Hs}{ac:aw}{w:World}(h:Mem M ob ac w)(n:Nat):
  Mem M (ob++Ak n []) (ac++Ak n .dead) w/\Ext M ob ac w M (ob++Ak n []) (ac++Ak n .dead) w/\dB ob ac (ob++Ak n []) (ac++Ak n .dead):=by
 have part:∀{i:Nat} {c:ab},(ac++Ak n .dead)[i]? =X c->(i<Z ac/\ac[i]? =X c)\/(Z ac<=i/\c= .dead/\i-Z ac<n):=λ{i c} g=>by grind[Ai,Au]
 have left:∀{i:Nat},i<Z ac->(ob++Ak n ([]:bb))[i]? =ob[i]?:=λ{i} d=>Ai (by rw[h.len];exact d)
 have f:dR ob (ob++Ak n []):=λi l hl=>⟨l,by grind[Ai,Ad],Ct _⟩
 have a:∀{i b:Nat},aM (ob++Ak n []) (ac++Ak n .dead) i b->aM ob ac i b:=λ{i b} ⟨c,l,m,e2,e3,e4⟩=>by
  rcases part m with⟨d,m⟩|⟨_,rfl,_⟩
  .rw [left d]at e3;exact⟨c,l,m,e2,e3,e4⟩
  .cases e2
 refine⟨⟨h.imm,by simp[h.len],λi c g=>?_,λi b e=>h.lt i b (a e),λi j b e p=>h.inj i j b (a e) (a p)⟩,⟨λ_ _ _ h=>h,λ_ _ _ h=>.inl h,f,rfl,rfl,rfl,Bc _,λ_ _ _=>rfl,λi b e=>.inl ⟨i,a e⟩⟩,λi l h1 q=>?_⟩
 .rcases part g with⟨d,g⟩|⟨d,rfl,k⟩
  .obtain ⟨l,hl,o⟩:=h.obj i c g;exact⟨l,by rw[left d];exact hl,o.mono (λ_ _ _ h=>h) f (λ_ _ _ _ h=>h) (λ_ _ _ _ h=>h)⟩
  .refine ⟨[],?_,trivial⟩;rw[Au (by rw[h.len];exact d),List.getElem?_replicate,bu (by rw[h.len];exact k)]
 grind[Ad,Ai]
def NZ{sz:Nat}{xs:az}{i j:Nat}{x c:aa}(b:xs[i]? =X x)(d:x.cells[j]? =X c)(hz:Z x.cells=sz):aQ sz xs (i*sz+j)=X c:=by
 have a:j<sz:=by grind
 have h1:(i*sz+j) / sz=i:=by rw[De,Ji o_,Nat.div_eq_of_lt a,Ft]
 have e:(i*sz+j) % sz=j:=by rw[De,Nat.mul_add_mod,Nat.mod_eq_of_lt a]
 simp[aQ,h1,e,b,d]
theorem hD{sz:Nat}{xs:az}{o:Nat}{c:aa}(h:aQ sz xs o=X c):∃x,xs[o / sz]? =X x/\x.cells[o % sz]? =X c:=by
 unfold aQ at h
 grind
theorem iJ{sz:Nat}{xs:az}{q:Nat}{c:aa}(hs:0<sz)(h:aQ sz xs q=X c):q<Z xs*sz:=by grind[hD,Dl,Ad]
def DR{sz:Nat}{xs:az}{q:Nat}(hs:0<sz)(hz:∀x∈xs,Z x.cells=sz)(h:q<Z xs*sz):∃c,aQ sz xs q=X c:=by
 have a:q / sz<Z xs:=(Dl hs).2 h;have b:xs[q / sz]? =X xs[q / sz]:=Ab a;have d:q % sz<Z (xs[q / sz]).cells:=by rw[hz _ (Aq a)];exact Eh _ hs
 exact⟨_,by unfold aQ;rw[b];exact Ab d⟩
theorem dC{sz:Nat}{xs ys:az}{o:Nat}(hs:0<sz)(h:o<Z xs*sz):aQ sz (xs++ys) o=aQ sz xs o:=by have a:o / sz<Z xs:=(Dl hs).2 h;simp[aQ,Ai a]
theorem cY{sz:Nat}{xs ys:az}{o:Nat}(hs:0<sz)(h:Z xs*sz<=o):aQ sz (xs++ys) o=aQ sz ys (o-Z xs*sz):=by
 have b:Z xs<=o / sz:=(Nat.le_div_iff_mul_le hs).2 h;obtain⟨q,rfl⟩:=Nat.exists_eq_add_of_le h;have h1:(Z xs*sz+q) / sz=Z xs+q / sz:=by rw[De,Ji hs]
 have a:(Z xs*sz+q) % sz=q % sz:=by simp
 simp only[aQ,h1,a,Nat.add_sub_cancel_left];rw[Au o_];simp
theorem pX{sz n:Nat}{xs:az}{q:Nat}(hs:0<sz)(h:q<n*sz):aQ sz (xs.take n) q=aQ sz xs q:=by have a:q / sz<n:=(Dl hs).2 h;simp[aQ,Bm a]
theorem EM{sz n:Nat}{xs:az}{q:Nat}(hs:0<sz):aQ sz (xs.drop n) q=aQ sz xs (n*sz+q):=by
 have h1:(n*sz+q) / sz=n+q / sz:=by rw[De,Ji hs]
 have a:(n*sz+q) % sz=q % sz:=by simp
 simp[aQ,h1,a,Dm]
def K5{sz i:Nat}{xs ys:az}(hs:0<sz)(b:i+Z ys<=Z xs){q:Nat}{c:aa}(h:aQ sz (xs.take i++ys++xs.drop (i+Z ys)) q=X c):
  (i*sz<=q/\q<i*sz+Z ys*sz/\aQ sz ys (q-i*sz)=X c)\/((q<i*sz\/i*sz+Z ys*sz<=q)/\aQ sz xs q=X c):=by
 have hl:Z (xs.take i)=i:=by simp;omega
 have a:Z (xs.take i++ys)=i+Z ys:=by simp;omega
 by_cases h1:q<i*sz
 .grind [List.append_assoc,dC,pX]
 .by_cases d:q<i*sz+Z ys*sz
  .grind [dC,Ch,cY]
  .right;refine⟨.inr o_,?_⟩;rw[cY hs (by rw[a,Ch];omega),EM hs,a]at h
   grind[Ch]
def gE{α:Type}(cv vs:List α)(off:Nat)(h:off+Z vs<=Z cv):Z (cv.take off++vs++cv.drop (off+Z vs))=Z cv/\
  ∀(i:Nat),(cv.take off++vs++cv.drop (off+Z vs))[i]? =if off<=i/\i<off+Z vs then vs[i-off]? else cv[i]?:=by
 refine⟨by simp;omega,λi=>?_⟩;by_cases h1:i<off
 .grind
 grind
section
variable {M:Imm} {ob:Hs} {ac:aw} {w:World}
theorem fH{hs:bb}{g:Nat}{v:Value}(hl:Z hs=g+1)(a:hs[g]? =X v):blk hs=Q4 v:=by unfold blk;rw[Lo,hl,Ih,a]
def qA{hs:bb}{v:Value}{b:Nat}(h:blk hs=v.ownBlock.toList)(e:v.ownBlock=X b):b∈blk hs:=by grind
def BB{hs:bb}{v:Value}{b:Nat}(h:blk hs=v.ownBlock.toList)(e:b∈blk hs):v.ownBlock=X b:=by grind
def fW{w:World}{e:TypeId}{sz n:Nat}{v:Value}{cv:bb}(h:w.ownsRow 0 e sz v n cv):Q4 v=v.ownBlock.toList:=by rcases h.2 with⟨rfl,_⟩|⟨g,cap,a,rfl,_⟩<;>rfl
theorem cN{k g:Nat}{hs:bb}(h:ob[k]? =X hs):at' ob k g=hs[g]?:=by simp[at',h]
def Mem.rowOf(h:Mem M ob ac w){k g sz:Nat}{e:TypeId}{xs:az}(d:ac[k]? =X (.row g sz e xs)):∃hs v,ob[k]? =X hs/\Z hs=g+1/\hs[g]? =X v/\at' ob k g=X v/\eT M w v sz e xs/\blk hs=v.ownBlock.toList:=by obtain⟨hs,h1,b,v,h3,a⟩:=h.obj k _ d;refine⟨hs,v,h1,b,h3,(cN h1).trans h3,a,(fH b h3).trans ?_⟩;obtain⟨cv,c,_⟩:=a;exact fW c
def Mem.rowTurn(h:Mem M ob ac w){k g sz:Nat}{e:TypeId}{xs:az}(J:ac[k]? =X (.row g sz e xs)){hs:bb}{v:Value}(I:ob[k]? =X hs)(As:hs[g]? =X v)
  {w':World} {s:Nat} {hs':bb} {t:Value} {xs':az} (hp:hs<+:hs') (r:Z hs'=s+1) (p:hs'[s]? =X t) (Be:eT M w' t sz e xs')
  (heap:∀b,b<w.heap.size->v.ownBlock≠X b->w'.heap[b]? =w.heap[b]?) (A:w'.os=w.os) (j:w'.tape=w.tape) (l:w'.output=w.output) (i:w.heap.size<=w'.heap.size)
  (L:∀b,t.ownBlock=X b->v.ownBlock=X b\/w.heap.size<=b):
  Mem M (ob.set k hs') (ac.set k (.row s sz e xs')) w'/\Ext M ob ac w M (ob.set k hs') (ac.set k (.row s sz e xs')) w'/\dB ob ac (ob.set k hs') (ac.set k (.row s sz e xs')):=by
 obtain⟨N,R,F,Q,G,_,n,f⟩:=h.rowOf J;rw[I]at F;cases F;rw[As]at G;cases G;obtain⟨cv,H,_,_,_,B,_⟩:=n;obtain⟨cv',c,_⟩:=id Be;have m:∀b o y,M b o y->v.ownBlock≠X b:=λb o y x e=>B b e o y x;refine h.turn J I hp (λe=>by cases e) (λ_ _ _ h=>h) (λ_ _ _ h=>.inl h) (λb o y x=>?_) (λb z K=>heap b z λe=>K ⟨rfl,qA f e⟩) A j l i (λ_=>?_) (λ_ b d=>?_)
 .obtain ⟨u,C,h1,P⟩:=h.imm b o y x;exact⟨u,(Cw (w:=w) (a:=⟨b,o,D⟩) (heap b (Cx w _ C) (m b o y x))).trans C,h1,P⟩
 .exact ⟨r,t,p,Be⟩
 .have d:=BB ((fH r p).trans (fW c)) d;refine⟨?_,(c.lt b d).2⟩;rcases L b d with q|q
  .exact .inl ⟨rfl,qA f q⟩
  omega
theorem gR{α:Type}{l:List α}{k:Nat}{x:α}(h:l[k]? =X x):l.set k x=l:=by
 apply List.ext_getElem?
 grind[Ba,Ad,Bg]
def eT.write{v:Value}{sz:Nat}{e:TypeId}{xs xs':az}(h:eT M w v sz e xs){b n cap:Nat}(F:v= .slice (X ⟨b,0,D⟩) n cap)(hs:0<sz){p:Nat}{news:bb}(hp:p+Z news<=Z xs*sz)
  (h1:∀u∈news,u.oneCell'=O) (hl:Z xs'=Z xs) (hz:∀x∈xs',Z x.cells=sz)
  (Q:∀q c,aQ sz xs' q=X c->(p<=q/\q<p+Z news/\∃u,news[q-p]? =X u/\Rep M [] u c)\/((q<p\/p+Z news<=q)/\aQ sz xs q=X c)):
  ∃a,w.heap[b]? =X (.cells a e (0,0))/\p+Z news<=a.size/\eT M (w.setRow b (a.toList.take p++news++a.toList.drop (p+Z news)).toArray) v sz e xs':=by
 subst F;obtain⟨cv,⟨K,y⟩,h3,N,As,H,G⟩:=h;rcases y with⟨j,_⟩|⟨g,m,a,j,_,i,A,Be,r,I⟩
 .cases j
 cases j;have t:Z xs*sz<=a.size:=by rw[r];exact Bu _ A
 have f:p+Z news<=Z a.toList:=by simp;omega
 obtain⟨z,P⟩:=gE a.toList news p f;have C:∀q,q<Z xs*sz->cv[q]? =a.toList[q]?:=λq k=>by rw[<-I,Bm k]
 refine⟨a,i,by omega,(a.toList.take p++news++a.toList.drop (p+Z news)).take (Z xs*sz),⟨by grind[Cs,Jc],.inr ⟨b,cap,_,by rw[hl],Bq _,setRow_heap w b a _ e _ i,by omega,Be,?_,by rw[hl]⟩⟩,λu l=>?_,hz,λq c k=>?_,H,λJ B o T L d u l=>?_⟩
 .rw [Gr,z,Jc,r]
 .obtain ⟨q,k⟩:=Ck l
  grind[Ax]
 .grind
 .cases B;rw[setRow_heap w b a _ e _ i]at d;cases d;have s:∀u∈a.toList,u.oneCell'=true:=G b rfl _ _ _ i
  grind[Db,Fl]
def Mem.rowWrite{P:Program}(h:Mem M ob ac w){k g sz:Nat}{e:TypeId}{xs xs':az}(s:ac[k]? =X (.row g sz e xs)){b n cap:Nat}(A:at' ob k g=X (.slice (X ⟨b,0,D⟩) n cap))(hs:0<sz)
  {p:Nat} {news:bb} (hp:p+Z news<=Z xs*sz) (h1:∀u∈news,u.oneCell'=O) (hl:Z xs'=Z xs) (hz:∀x∈xs',Z x.cells=sz)
  (C:∀q c,aQ sz xs' q=X c->(p<=q/\q<p+Z news/\∃u,news[q-p]? =X u/\Rep M [] u c)\/((q<p\/p+Z news<=q)/\aQ sz xs q=X c)):
  ∃w',(storeCells ⟨b,p,D⟩ news).run P w= .ok () w'/\Mem M ob (ac.set k (.row g sz e xs')) w'/\Ext M ob ac w M ob (ac.set k (.row g sz e xs')) w'/\dB ob ac ob (ac.set k (.row g sz e xs')):=by
 obtain⟨d,v,m,B,o,l,a,r⟩:=h.rowOf s;rw[A]at l;cases l;obtain⟨f,y,Be,t⟩:=a.write rfl hs hp h1 hl hz C;have hst:=run_storeCells_at P b p e news 0 f w y o_ h1;simp only[Ft]at hst;refine⟨_,hst,?_⟩;have:=h.rowTurn (hs':=d) s m o (Ct _) B o t (λj _ z=>setRow_other w b j _ (λe=>z (by simp[Gn,e]))) rfl rfl rfl s_ (λj i=>.inl i);rw[gR m]at this;exact this
end
theorem zX(w:World)(o:Obj):(w.alloc o).heap.size=w.heap.size+1:=by simp
structure Grown(M:Imm)(w w':World)(sz:Nat)(e:TypeId)(v:Value)(xs:az):Prop where
 own:∃cv,w'.ownsRow 0 e sz v (Z xs) cv/\(∀u∈cv,u.oneCell'=O)/\∀(q:Nat) c,aQ sz xs q=X c->∃u,cv[q]? =X u/\Rep M [] u c
 pos:0<sz
 hz:∀x∈xs,Z x.cells=sz
 blk:∀b,v.ownBlock=X b->w.heap.size<=b
 heap:∀b,b<w.heap.size->w'.heap[b]? =w.heap[b]?
 os:w'.os=w.os
 tape:w'.tape=w.tape
 output:w'.output=w.output
 size:w.heap.size<=w'.heap.size
 oneb:aAt w' v
section
variable {M:Imm} {ob:Hs} {ac:aw} {w w':World} {sz:Nat} {e:TypeId} {v:Value} {xs:az}
theorem gG{w:World}{n:Nat}{cv:bb}(h:w.ownsRow 0 e sz v n cv){b:Nat}(c:v.ownBlock=X b){q:Nat}{u:Value}(a:cv[q]? =X u):w.cell? ⟨b,q,D⟩=X u:=by have:=h.cells (g:=b) c q u a;rwa [bK,Bv]at this
theorem eM{w:World}{n:Nat}{cv:bb}(h:w.ownsRow 0 e sz v n cv):(v= .slice D 0 0/\n=0)\/∃b cap,v= .slice (X ⟨b,0,D⟩) n cap/\v.ownBlock=X b/\n<=cap/\cap<=maxLen:=by
 rcases h.2 with h|⟨g,cap,f,a,_,_,c,d,_⟩
 .exact .inl h
 .exact .inr ⟨g,cap,a,by rw[a];rfl,c,d⟩
def iZ(M:Imm)(v:Value)(sz:Nat)(xs:az):Imm:=λb o x=>M b o x\/(v.ownBlock=X b/\aQ sz xs o=X x)
def mD{w:World}{cv:bb}(h:w.ownsRow 0 e sz v (Z xs) cv)(hz:∀x∈xs,Z x.cells=sz){t:Tk}(a:yD ob v t):Rep (iZ M v sz xs) ob v (.slice sz xs t):=by
 rcases eM h with⟨rfl,f⟩|⟨b,cap,k,m,l,g⟩
 .have:xs=[]:=Ay f;subst this;exact .slnil sz t a
 .subst k;refine .sl sz b 0 (Z xs) cap xs t rfl l (by simp only[maxLen]at g;omega) hz (λi j x c d n=>.inr ⟨m,?_⟩) a;rw[Bv];exact NZ d n (hz x (Ax d))
def Grown.imm(g:Grown M w w' sz e v xs)(h:Mem M ob ac w):∀b o y,iZ M v sz xs b o y->∃u,w'.cell? ⟨b,o,D⟩=X u/\u.oneCell'=O/\Rep (iZ M v sz xs) [] u y:=by
 obtain⟨cv,h1,k,h3⟩:=g.own;intro b o y c;rcases c with c|⟨i,c⟩
 .obtain ⟨u,d,j,l⟩:=h.imm b o y c;exact⟨u,(Cw (w:=w) (a:=⟨b,o,D⟩) (g.heap b (Cx w _ d))).trans d,j,l.monoM λ_ _ _ h=>.inl h⟩
 .obtain ⟨u,d,f⟩:=h3 o y c;exact⟨u,gG h1 i d,k u (Ax d),f.monoM λ_ _ _ h=>.inl h⟩
def Grown.more(g:Grown M w w' sz e v xs)(h:Mem M ob ac w):Mem (iZ M v sz xs) ob ac w'/\Ext M ob ac w (iZ M v sz xs) ob ac w':=
 h.more (λ_ _ _ h=>.inl h) (λb o y a=>by
  rcases a with a|⟨c,_⟩
  .grind
  .exact .inr (g.blk b c)) (g.imm h) g.heap g.os g.tape g.output g.size
def Grown.row(g:Grown M w w' sz e v xs)(h:Mem M ob ac w){k:Nat}(h1:ac[k]? =X .dead)(n:ob[k]? =X []):
  Mem M (ob.set k [v]) (ac.set k (.row 0 sz e xs)) w'/\Ext M ob ac w M (ob.set k [v]) (ac.set k (.row 0 sz e xs)) w'/\dB ob ac (ob.set k [v]) (ac.set k (.row 0 sz e xs)):=by
 obtain⟨cv,f,j,q⟩:=g.own;refine h.turn h1 n ⟨[v],rfl⟩ (λ_=>rfl) (λ_ _ _ h=>h) (λ_ _ _ h=>.inl h) (λb o y l=>?_) (λb c _=>g.heap b c) g.os g.tape g.output g.size (λ_=>⟨rfl,v,rfl,cv,f,j,g.hz,q,λb c o=>h.noImm (g.blk b c) o,g.oneb⟩) (λ_ b c=>?_)
 .obtain ⟨u,i,m,p⟩:=h.imm b o y l;exact⟨u,(Cw (w:=w) (a:=⟨b,o,D⟩) (g.heap b (Cx w _ i))).trans i,m,p⟩
 .have d:v.ownBlock=X b:=BB (hs:=[v]) (fW f) c;exact⟨.inr (g.blk b d),(f.lt b d).2⟩
def Grown.tail(g:Grown M w w' sz e v xs)(h:Mem M ob ac w){k:Nat}(h1:ac[k]? =X .dead)(j:ob[k]? =X []):
  Mem (iZ M v sz xs) (ob.set k [v]) (ac.set k (.tail 0 sz e)) w'/\Ext M ob ac w (iZ M v sz xs) (ob.set k [v]) (ac.set k (.tail 0 sz e)) w'/\dB ob ac (ob.set k [v]) (ac.set k (.tail 0 sz e))/\
   Rep (iZ M v sz xs) (ob.set k [v]) v (.slice sz xs (.own k 0)):=by
 obtain⟨cv,i,n,p⟩:=g.own;have l:k<Z ob:=(Ad.1 j).1
 have a:=h.turn (M':=iZ M v sz xs) (w':=w') (x':=.tail 0 sz e) (hs':=[v]) h1 j ⟨[v],rfl⟩ (λ_=>rfl) (λ_ _ _ h=>.inl h) (λb o y c=>by
  rcases c with c|⟨d,_⟩
  .grind
  .exact .inr (.inr (g.blk b d))) (g.imm h) (λb d _=>g.heap b d) g.os g.tape g.output g.size
  (λ_=>⟨rfl,v,rfl,_,cv,i,λb d o m y c=>by
   rcases c with c|⟨_,c⟩
   .exact h.noImm (g.blk b d) o y c
   .have:=iJ g.pos c;omega⟩)
  (λ_ b d=>by
   have f:v.ownBlock=X b:=BB (hs:=[v]) (fW i) d
   exact⟨.inr (g.blk b f),(i.lt b f).2⟩)
 refine⟨a.1,a.2.1,a.2.2,mD i g.hz ?_⟩;show at' _ k 0=X v;rw[cN (Ba l)];rfl
end
def HZ(w:World):aAt w (.slice D 0 0):=λb a=>by cases a
theorem lL{z:Array Value}{n:Nat}(hz:z.toList.all (·.oneCell')=O):∀u∈(Cl z n).toList,u.oneCell'=true:=by
 intro u a;simp only[Cl,Array.toList_map,Cq]at a
 grind[Nat.pos_of_ne_zero,Eh]
def sT{w:World}{cs:bb}{n c:Nat}{T:TypeId}(h:∀u∈cs,u.oneCell'=O):aAt (w.alloc (.cells cs.toArray T)) (.slice (X ⟨w.heap.size,0,D⟩) n c):=by
 intro b a e f g d u i;cases a;rw[heap_alloc_new w _]at d
 grind
def jS{P:Program}(w:World)(t L ty e:TypeId)(i:TypeInfo)(z:Value)(As:P.underlying t=X (.slice e))(N:P.info? e=X i)(hz:i.zero=X z)(hz1:z.cells.toList.all (·.oneCell')=O)
  (S:z.cells.size=i.size) (v:Value) (n:Nat) (a:bb) (d:w.ownsRow 0 e i.size v n a) (T:∀u∈a,u.oneCell'=O) (x:Value) (m:Nat) (news:bb) (hs:Src P i.size L x m news w)
  (F:n+m<=maxLen) (s:(n+m)*i.bytes<=140737488355328):
  ∃I w',(Cv #[t,L] ty #[v,x]).run P w= .ok I w'/\w'.ownsRow 0 e i.size I (n+m) (a++news)/\w'.os=w.os/\w'.tape=w.tape/\w'.output=w.output/\w.heap.size<=w'.heap.size/\
   ((I.ownBlock=v.ownBlock/\∀b,v.ownBlock≠X b->w'.heap[b]? =w.heap[b]?)\/(I.ownBlock=X w.heap.size/\∀b,b<w.heap.size->w'.heap[b]? =w.heap[b]?))/\(aAt w v->aAt w' I):=by
 have q:Z (a++news)=(n+m)*i.size:=by rw[Ah,d.1,hs.newsLen,Ch]
 have Y:n+m<=4611686018427387904\/True:=.inr trivial
 have y:∀(p:Nat),p<n+m->
   (w.drew.alloc (.cells ((a++news).toArray++Cl z.cells (grownCap w (n+m) p e-(n+m))) e)).ownsRow 0 e i.size
    (.slice (X ⟨w.heap.size,0,D⟩) (n+m) (grownCap w (n+m) p e)) (n+m) (a++news):=by
  intro p ho;have At:=grownCap_ge w (n+m) p e;have Be:grownCap w (n+m) p e<=maxLen:=grownCap_le_maxLen w (n+m) p e F;refine⟨q,.inr ⟨w.heap.size,_,_,rfl,Bq _,heap_alloc_new w.drew _,At,Be,?_,?_⟩⟩
  .simp only[Array.size_append,Gr,size_zeroCells,S,q,<-Ch];simp_all
  grind[Nk,Gm]
 have r:∀(k n' c':Nat),aAt (w.drew.alloc (.cells ((a++news).toArray++Cl z.cells k) e)) (.slice (X ⟨w.heap.size,0,D⟩) n' c'):=by
  intro k n' c';have:(a++news).toArray++Cl z.cells k=((a++news)++(Cl z.cells k).toList).toArray:=by simp
  rw[this];refine sT (w:=w.drew) λu c=>?_;rcases Cc.1 c with c|c
  .rcases Cc.1 c with c|c
   .exact T u c
   .exact hs.one u c
  .exact lL hz1 u c
 have G:∀o,w.heap.size<=(w.drew.alloc o).heap.size:=λo=>by simp
 have K:((n+m:Nat):Int)<=9223372036854775807:=by simp only[maxLen]at F;omega
 rcases d.2 with⟨rfl,rfl⟩|⟨g,cap,l,rfl,_,M,hnc,Be,R,B⟩
 .have hx:a=[]:=Ay (by simpa using d.1);subst hx;by_cases hm:m=0
  .subst hm;have hn:news=[]:=Ay (by simpa using hs.newsLen);subst hn;refine⟨.slice D 0 0,w,?_,Hv w 0 e i.size,rfl,rfl,rfl,Bc _,.inl ⟨rfl,λ_ _=>rfl⟩,λh=>h⟩;rcases hs.kind with⟨e',H⟩|H<;>simp[Cv,run_underlying As,run_underlying H,sizeOf,typeInfo,N,hs.len,hs.cells]
  .have J:=run_append_grow_src (P:=P) w t L ty e i z As N hz D 0 0 [] (by rfl) x m news hs o_ K (growslice_fits o_ s);exact⟨_,_,J,y 0 o_,rfl,rfl,rfl,G _,.inr ⟨rfl,λb C=>heap_alloc_old w.drew _ C⟩,λ_=>r _ _ _⟩
 .by_cases f:n+m<=cap
  .have Am:n*i.size+Z news<=l.size:=by rw[hs.newsLen,R,<-Ch];exact Bu _ f
   have hst:=run_storeCells_at P g (n*i.size) e news 0 l w M o_ hs.one;simp only[Ft]at hst;have V:(⟨g,0,D⟩:Addr).add (n*i.size)=⟨g,n*i.size,D⟩:=by rw[bK,Bv]
   have J:(Cv #[t,L] ty #[.slice (X ⟨g,0,D⟩) n cap,x]).run P w= .ok (.slice (X ⟨g,0,D⟩) (n+m) cap) (w.setRow g (l.toList.take (n*i.size)++news++l.toList.drop (n*i.size+Z news)).toArray):=by rcases hs.kind with⟨e',H⟩|H<;>simp[Cv,run_underlying As,run_underlying H,sizeOf,typeInfo,N,hs.len,f,hs.cells,V,hst]
   refine⟨_,_,J,⟨q,.inr ⟨g,cap,_,rfl,Bq _,setRow_heap w g l _ e _ M,f,Be,?_,?_⟩⟩,rfl,rfl,rfl,by simp,.inl ⟨rfl,λb C=>setRow_other w g b _ (λe=>C (by simp[Gn,e]))⟩,λQ b C cur' T' fz hc u c=>?_⟩
   .grind [Gr,Ah,Cs,Dt,Jc]
   .rw [B,<-q];exact Gm
   .cases C;rw[setRow_heap w g l _ e _ M]at hc;cases hc;have A:∀u∈l.toList,u.oneCell'=true:=Q g rfl _ _ _ M;simp only[Cc]at c;rcases c with(c|c)|c
    .exact A u (Db c)
    .exact hs.one u c
    .exact A u (Fl c)
  .have An:∀(j:Nat) u,a[j]? =X u->w.cell? ((⟨g,0,D⟩:Addr).add j)=X u:=d.cells (g:=g) rfl;have W:(Cn i.size n (.slice (X ⟨g,0,D⟩) n cap)).run P w.drew= .ok a.toArray w.drew:=run_firstCells_some w.drew i.size n ⟨g,0,D⟩ n cap a d.1 q_;have J:=run_append_grow_src (P:=P) w t L ty e i z As N hz (X ⟨g,0,D⟩) n cap a W x m news hs o_ K (growslice_fits o_ s);exact⟨_,_,J,y cap o_,rfl,rfl,rfl,G _,.inr ⟨rfl,λb C=>heap_alloc_old w.drew _ C⟩,λ_=>r _ _ _⟩
section
variable {M:Imm} {ob:Hs} {ac:aw} {w:World}
structure SrcA(P:Program)(M:Imm)(w:World)(sz:Nat)(tx:TypeId)(x:Value)(ys:az):Prop where
 src:∃news,Src P sz tx x (Z ys) news w/\∀(q:Nat) c,aQ sz ys q=X c->∃u,news[q]? =X u/\Rep M [] u c
 hz:∀y∈ys,Z y.cells=sz
 pre:∀m,m<=Z ys->∃news:bb,(Cn sz m x).run P w= .ok news.toArray w/\Z news=m*sz/\(∀u∈news,u.oneCell'=O)/\∀(q:Nat) c,q<m*sz->aQ sz ys q=X c->∃u,news[q]? =X u/\Rep M [] u c
def Mem.appendRow{P:Program}(h:Mem M ob ac w){t As ty e:TypeId}{i:TypeInfo}{z:Value}(ht:P.underlying t=X (.slice e))(hi:P.info? e=X i)(hz:i.zero=X z)(hz1:z.cells.toList.all (·.oneCell')=O)
  (H:z.cells.size=i.size) (C:0<i.size) {k g:Nat} {xs ys:az} (Y:ac[k]? =X (.row g i.size e xs)) {v x:Value} (hv:at' ob k g=X v) (hs:SrcA P M w i.size As x ys)
  (G:Z xs+Z ys<=maxLen) (l:(Z xs+Z ys)*i.bytes<=140737488355328):
  ∃a w' ob',(Cv #[t,As] ty #[v,x]).run P w= .ok a w'/\Mem M ob' (ac.set k (.row (g+1) i.size e (xs++ys))) w'/\Ext M ob ac w M ob' (ac.set k (.row (g+1) i.size e (xs++ys))) w'/\
   dB ob ac ob' (ac.set k (.row (g+1) i.size e (xs++ys)))/\Rep M ob' a (.row k (g+1)):=by
 obtain⟨f,v0,At,An,e3,S,A,V⟩:=h.rowOf Y;rw[hv]at S;cases S;obtain⟨cv,L,R,o3,o4,o5,o6⟩:=A;obtain⟨⟨news,Q,s2⟩,s3⟩:=hs;obtain⟨a,w',hr,n,J,p,B,m,N,s⟩:=jS (P:=P) w t As ty e i z ht hi hz hz1 H v (Z xs) cv L R x (Z ys) news Q G l;have d:∀b,a.ownBlock=X b->v.ownBlock=X b\/w.heap.size<=b:=λb T=>by grind
 have r:eT M w' a i.size e (xs++ys):=by
  refine⟨cv++news,by simp;omega,λu F=>?_,λy hy=>?_,λq c W=>?_,λb T o=>?_,s o6⟩
  .rcases Cc.1 F with F|F
   .exact R u F
   .exact Q.one u F
  .grind
  .by_cases I:q<Z xs*i.size
   .grind [dC,Ai]
   .rw [cY C o_]at W;rw[Au (by rw[L.1];omega),L.1];exact s2 _ c W
  .rcases d b T with q|q
   .exact o5 b q o
   .exact h.noImm q o
 have K:Z (f++[a])=g+1+1:=by simp[An]
 have Be:(f++[a])[g+1]? =X a:=by rw[<-An];simp
 have:=h.rowTurn (hs':=f++[a]) Y At e3 ⟨[a],rfl⟩ K Be r (λb I hn=>by grind) J p B m d
 refine⟨a,w',_,hr,this.1,this.2.1,this.2.2,?_⟩;have Am:k<Z ob:=(Ad.1 At).1;have j:at' (ob.set k (f++[a])) k (g+1)=X a:=by rw[cN (Ba Am)];exact Be
 rcases eM n with⟨q,_⟩|⟨b,cap,q,_⟩
 all_goals (rw[q]at j⊢;exact .row _ _ _ _ _ j)
def D7{v:Value}{sz:Nat}{xs:az}{e:TypeId}{n:Nat}{cv:bb}(b:Rep M ob v (.slice sz xs .no))(d:w.ownsRow 0 e sz v n cv):n=Z xs:=by
 obtain⟨a,c,rfl,h1,_⟩:=b.slice_inv
 grind[eM]
def Mem.appendTail{P:Program}(h:Mem M ob ac w){t tx ty e:TypeId}{i:TypeInfo}{z:Value}(ht:P.underlying t=X (.slice e))(hi:P.info? e=X i)(hz:i.zero=X z)(hz1:z.cells.toList.all (·.oneCell')=O)
  (hzs:z.cells.size=i.size) (Be:0<i.size) {k g:Nat} {xs ys:az} (Q:ac[k]? =X (.tail g i.size e)) {v x:Value} (hv:Rep M ob v (.slice i.size xs (.own k g))) (hs:SrcA P M w i.size tx x ys)
  (h63:Z xs+Z ys<=maxLen) (K:(Z xs+Z ys)*i.bytes<=140737488355328):
  ∃p w' M' ob',(Cv #[t,tx] ty #[v,x]).run P w= .ok p w'/\Mem M' ob' (ac.set k (.tail (g+1) i.size e)) w'/\Ext M ob ac w M' ob' (ac.set k (.tail (g+1) i.size e)) w'/\
   dB ob ac ob' (ac.set k (.tail (g+1) i.size e))/\Rep M' ob' p (.slice i.size (xs++ys) (.own k (g+1))):=by
 obtain⟨V,hvt⟩:=hv.untok;have Am:at' ob k g=X v:=hvt;obtain⟨G,e1,e2,v0,e3,n,cv,C,o5⟩:=h.obj k _ Q;have e4:G[g]? =X v:=by rw[<-cN e1];exact Am
 rw[e4]at e3;cases e3;have hn:=D7 V C;subst hn;obtain⟨⟨news,s1,s2⟩,s3⟩:=hs
 have T:(∀x∈xs,Z x.cells=i.size)/\(∀u∈cv,u.oneCell'=O)/\(∀(q:Nat) c,aQ i.size xs q=X c->∃u,cv[q]? =X u/\Rep M [] u c)/\∀b,v.ownBlock=X b->b<w.heap.size/\∀(q:Nat) u,cv[q]? =X u->w.cell? ⟨b,q,D⟩=X u:=by
  have m:∀b,v.ownBlock=X b->∀(q:Nat) u,cv[q]? =X u->w.cell? ⟨b,q,D⟩=X u:=λb d q u r=>gG C d r;cases V with
  | slnil sz t' An=>
   have:cv=[]:=Ay (by simpa using C.1);subst this;exact⟨λx Q=>by simp at Q,λu r=>by simp at r,λq c A=>by simp[aQ]at A,λb d=>⟨(C.lt b d).2,m b d⟩⟩
  | slemp sz t' a cap An=>
   have:cv=[]:=Ay (by simpa using C.1);subst this;exact⟨λx Q=>by simp at Q,λu r=>by simp at r,λq c A=>by simp[aQ]at A,λb d=>⟨(C.lt b d).2,m b d⟩⟩
  | sl sz b o n cap xs t' hn hc hm N hM An=>
   have ho:o=0:=by grind[eM]
   subst ho;have j:∀q,q<Z xs*i.size->∃u c,cv[q]? =X u/\aQ i.size xs q=X c/\u.oneCell'=O/\Rep M [] u c:=λq A=>by
    obtain⟨c,hc⟩:=DR Be N A;obtain⟨y,f,hyc⟩:=hD hc;have Y:=hM _ _ y c f hyc;have hqq:0+q / i.size*i.size+q % i.size=q:=by rw[Bv,De];exact Ge q _
    rw[hqq]at Y;obtain⟨u,r,h1,I⟩:=h.imm b q c Y;have s:q<Z cv:=by rw[C.1];exact A
    have:=m b rfl q _ (Ab s)
    grind[Ab]
   refine⟨N,λu r=>?_,λq c A=>?_,λb d=>⟨(C.lt b d).2,m b d⟩⟩
   .obtain ⟨q,A⟩:=Ck r;obtain⟨u',c,h1,_,I,_⟩:=j q (by have:=(Ad.1 A).1;rw[C.1]at this;exact this);rw[A]at h1;cases h1;exact I
   .obtain ⟨u,c',h1,I,_,h3⟩:=j q (iJ Be A);rw[A]at I;cases I;exact⟨u,h1,h3⟩
 obtain⟨N,o2,o4,o6⟩:=T;obtain⟨p,w',hr,l,hos,As,At,L,hcase,honeb⟩:=jS (P:=P) w t tx ty e i z ht hi hz hz1 hzs v (Z xs) cv C o2 x (Z ys) news s1 h63 K;have B:∀b,p.ownBlock=X b->v.ownBlock=X b\/w.heap.size<=b:=λb d=>by grind
 have F:∀b,b<w.heap.size->v.ownBlock≠X b\/p.ownBlock≠X b->w'.heap[b]? =w.heap[b]?:=λb d hne=>by grind
 have hzz:∀y∈xs++ys,Z y.cells=i.size:=λy f=>by grind
 have J:∀(q:Nat) c,aQ i.size (xs++ys) q=X c->∃u,(cv++news)[q]? =X u/\u.oneCell'=O/\Rep M [] u c:=λq c A=>by
  by_cases s:q<Z xs*i.size
  .grind [dC,Ai,Ax]
  .rw [cY Be o_]at A;obtain⟨u,r,hr⟩:=s2 _ c A;exact⟨u,by rw[Au (by rw[C.1];omega),C.1];exact r,s1.one u (Ax r),hr⟩
 have H:blk G=v.ownBlock.toList:=(fH e2 e4).trans (fW C);have W:Z (G++[p])=g+1+1:=by simp[e2]
 have R:(G++[p])[g+1]? =X p:=by rw[<-e2];simp
 have hMo:∀b o y,p.ownBlock=X b->M b o y->v.ownBlock=X b/\o<Z xs*i.size:=λb o y d f=>by
  rcases B b d with q|q
  .refine ⟨q,?_⟩;rcases Nat.lt_or_ge o (Z xs*i.size)with s|hge
   .exact s
   .exact bv f (o5 b q o hge y)
  .exact bv f (h.noImm q o y)
 have j:=h.turn (M':=iZ M p i.size (xs++ys)) (w':=w') (x':=.tail (g+1) i.size e) (hs':=G++[p]) Q e1 ⟨[p],rfl⟩ (λe=>by cases e) (λ_ _ _ h=>.inl h) (λb o y f=>by
   rcases f with f|⟨d,_⟩
   .exact .inl f
   .rcases B b d with q|q
    .exact .inr (.inl ⟨rfl,qA H q⟩)
    omega) (λb o y f=>by
   rcases f with f|⟨d,f⟩
   .obtain ⟨u,r,h1,I⟩:=h.imm b o y f;refine⟨u,?_,h1,I.monoM λ_ _ _ h=>.inl h⟩;by_cases d:p.ownBlock=X b
    .obtain ⟨q1,q2⟩:=hMo b o y d f;have s:o<Z cv:=by rw[C.1];exact q2
     grind[Ab,gG,Ai]
    .exact (Cw (w:=w) (a:=⟨b,o,D⟩) (F b (Cx w _ r) (.inr d))).trans r
   .obtain ⟨u,r,h1,I⟩:=J o y f
    exact⟨u,gG l d r,h1,I.monoM λ_ _ _ h=>.inl h⟩)
  (λb s hn=>F b s (.inl λe=>hn ⟨rfl,qA H e⟩)) hos As At L
  (λ_=>⟨W,p,R,_,cv++news,l,λb d o ho y f=>by
   rcases f with f|⟨_,f⟩
   .grind [Ch]
   .have:=iJ Be f
    rw[Ah]at this;omega⟩)
  (λ_ b d=>by
   have S:p.ownBlock=X b:=BB ((fH W R).trans (fW l)) d;refine⟨?_,(l.lt b S).2⟩;rcases B b S with q|q
   .exact .inl ⟨rfl,qA H q⟩
   omega)
 refine⟨p,w',_,_,hr,j.1,j.2.1,j.2.2,mD q_ hzz ?_⟩;show at' _ k (g+1)=X p
 grind[cN,Ba,Ad]
def append_nil{P:Program}(h:Mem M ob ac w){t r ty e:TypeId}{i:TypeInfo}{z:Value}(B:P.underlying t=X (.slice e))(A:P.info? e=X i)(hz:i.zero=X z)(hz1:z.cells.toList.all (·.oneCell')=O)
  (o:z.cells.size=i.size) (l:0<i.size) {ys:az} {x:Value} (hs:SrcA P M w i.size r x ys) (u:Z ys<=maxLen) (n:Z ys*i.bytes<=140737488355328):
  ∃m w',(Cv #[t,r] ty #[.slice D 0 0,x]).run P w= .ok m w'/\Grown M w w' i.size e m ys:=by
 obtain⟨⟨news,s,y⟩,C⟩:=hs;obtain⟨m,w',v,a,p,f,k,d,c,g⟩:=jS (P:=P) w t r ty e i z B A hz hz1 o _ 0 [] (Hv w 0 e i.size) s_ x (Z ys) news s o_ q_;rw[Bv,List.nil_append]at a;refine⟨m,w',v,⟨news,a,s.one,y⟩,l,C,λb j=>?_,λb j=>?_,p,f,k,d,g (HZ w)⟩
 .rcases c with⟨q,_⟩|⟨q,_⟩
  .rw [q]at j;cases j
  .rw [q]at j;cases j;omega
 .rcases c with⟨_,q⟩|⟨_,q⟩
  .exact q b (by simp[Gn])
  .exact q b j
end
section
variable {M:Imm} {ob:Hs} {ac:aw} {w:World}
def Mem.sliceCells(h:Mem M ob ac w){sz b o:Nat}{xs:az}(hs:0<sz)(hz:∀x∈xs,Z x.cells=sz)
  (hm:∀(i j:Nat) x c,xs[i]? =X x->x.cells[j]? =X c->M b (o+i*sz+j) c):
  ∃vs:bb,Z vs=Z xs*sz/\(∀(j:Nat) u,vs[j]? =X u->w.cell? ⟨b,o+j,D⟩=X u)/\(∀u∈vs,u.oneCell'=O)/\
   ∀(q:Nat) c,aQ sz xs q=X c->∃u,vs[q]? =X u/\Rep M [] u c:=by
 have key:∀q,q<Z xs*sz->∃u,w.cell? ⟨b,o+q,D⟩=X u/\u.oneCell'=O/\∀c,aQ sz xs q=X c->Rep M [] u c:=by
  intro q d;obtain⟨c,g⟩:=DR hs hz d;obtain⟨x,f,a⟩:=hD g;have l:o+q / sz*sz+q % sz=o+q:=by grind[Ge,De]
  obtain⟨v,n,h1,m⟩:=h.imm _ _ _ (hm _ _ _ _ f a)
  grind
 refine⟨(Dh (Z xs*sz)).map λq=>(w.cell? ⟨b,o+q,D⟩).getD undef,by simp,λj u k=>?_,λu k=>?_,λq c d=>?_⟩
 .grind [Fb,Bp]
 .grind
 .have e:=iJ hs d
  grind[Fb]
def HN{P:Program}{sz c m:Nat}{n:Nat}(hm:m<=0){ys:az}:∃news:bb,(Cn sz m (.slice D n c)).run P w= .ok news.toArray w/\Z news=m*sz/\(∀u∈news,u.oneCell'=O)/\∀(q:Nat) c,q<m*sz->aQ sz ys q=X c->∃u,news[q]? =X u/\Rep M [] u c:=by have:m=0:=o_;subst this;exact⟨[],rfl,by simp,λu a=>by simp at a,λq c b=>by simp at b⟩
def TM{P:Program}{sz n c m:Nat}{a:Addr}{ys:az}{vs:bb}(hm:m*sz<=Z vs)(d:∀(j:Nat) u,vs[j]? =X u->w.cell? (a.add j)=X u)(h1:∀u∈vs,u.oneCell'=O)
  (b:∀(q:Nat) c,aQ sz ys q=X c->∃u,vs[q]? =X u/\Rep M [] u c):
  ∃news:bb,(Cn sz m (.slice (X a) n c)).run P w= .ok news.toArray w/\Z news=m*sz/\(∀u∈news,u.oneCell'=O)/\∀(q:Nat) c,q<m*sz->aQ sz ys q=X c->∃u,news[q]? =X u/\Rep M [] u c:=by
 have hl:Z (vs.take (m*sz))=m*sz:=by simp;omega
 have e:Cn sz m (.slice (X a) n c)=loadCells a (m*sz):=rfl
 grind[run_loadCells_list,Db,Bm]
def TL{P:Program}{sz c m n:Nat}{a:Addr}(hm:m<=0){ys:az}:∃news:bb,(Cn sz m (.slice (X a) n c)).run P w= .ok news.toArray w/\Z news=m*sz/\(∀u∈news,u.oneCell'=O)/\∀(q:Nat) c,q<m*sz->aQ sz ys q=X c->∃u,news[q]? =X u/\Rep M [] u c:=by have:m=0:=o_;subst this;have e:Cn sz 0 (.slice (X a) n c)=loadCells a (0*sz):=rfl;have:=run_loadCells_list (P:=P) w a [] (λj v b=>by simp at b);simp_all
def SrcA.ofSlice{P:Program}(h:Mem M ob ac w){sz:Nat}(hs:0<sz){s A:TypeId}(e:P.underlying s=X (.slice A)){x:Value}{ys:az}{t:Tk}(C:Rep M ob x (.slice sz ys t)):SrcA P M w sz s x ys:=by
 cases C with
 | slnil sz t p=>exact⟨⟨[],Src.ofNil w e 0,λq c g=>by simp[aQ]at g⟩,λy f=>by simp at f,λm hm=>HN hm⟩
 | slemp sz t a cap p=>exact⟨⟨[],Src.ofSlice w e a 0 cap [] s_ (λj u d=>by simp at d) (λu v=>by simp at v),λq c g=>by simp[aQ]at g⟩,λy f=>by simp at f,λm hm=>TL hm⟩
 | sl sz b o n cap xs t z Be hm hz B p=>
  subst z;obtain⟨vs,r,i,k,l⟩:=h.sliceCells hs hz B;exact⟨⟨vs,Src.ofSlice w e ⟨b,o,D⟩ _ cap vs r (λj u d=>by rw[bK];exact i j u d) k,l⟩,hz,λm hm=>TM (vs:=vs) (by rw[r];exact Bu _ hm) (λj u d=>by rw[bK];exact i j u d) k l⟩
def SrcA.ofRow{P:Program}(h:Mem M ob ac w){k g sz:Nat}{e:TypeId}{xs:az}(hs:0<sz)(S:ac[k]? =X (.row g sz e xs)){A K:TypeId}(r:P.underlying A=X (.slice K)){v:Value}(As:at' ob k g=X v)
  {lo len:Nat} (hl:lo+len<=Z xs) {x:Value} (p:∀b n c,v= .slice (X ⟨b,0,D⟩) n c->len≠0->∃f,x= .slice (X ⟨b,lo*sz,D⟩) len f) (z:len=0->∃a f,x= .slice a 0 f):SrcA P M w sz A x ((xs.drop lo).take len):=by
 obtain⟨L,V,_,_,_,C,i,_⟩:=h.rowOf S;rw[As]at C;cases C;obtain⟨cv,s,I,Q,W,At⟩:=i;have hz:∀y∈(xs.drop lo).take len,Z y.cells=sz:=λy J=>Q y (Fl (Db J));have l:Z ((xs.drop lo).take len)=len:=by simp;omega
 suffices hsuf:(∃news,Src P sz A x len news w/\∀(q:Nat) c,aQ sz ((xs.drop lo).take len) q=X c->∃u,news[q]? =X u/\Rep M [] u c)/\
   ∀m,m<=len->∃news:bb,(Cn sz m x).run P w= .ok news.toArray w/\Z news=m*sz/\(∀u∈news,u.oneCell'=O)/\∀(q:Nat) c,q<m*sz->aQ sz ((xs.drop lo).take len) q=X c->∃u,news[q]? =X u/\Rep M [] u c by
  exact⟨by rw[l];exact hsuf.1,hz,λm hm=>hsuf.2 m o_⟩
 by_cases F:len=0
 .subst F;obtain⟨a,f,rfl⟩:=z rfl;cases a with
  | none=>exact⟨⟨[],Src.ofNil w r f,λq c t=>by simp[aQ]at t⟩,λm hm=>HN hm⟩
  | some a=>exact⟨⟨[],Src.ofSlice w r a 0 f [] s_ (λj u d=>by simp at d) (λu o=>by simp at o),λq c t=>by simp[aQ]at t⟩,λm hm=>TL hm⟩
 .rcases eM s with⟨q,T⟩|⟨b,cap,q,R,_⟩
  .omega
  .obtain ⟨f,rfl⟩:=p b _ cap q F;have N:(lo+len)*sz<=Z cv:=by rw[s.1];exact Bu _ hl
   have B:Z ((cv.drop (lo*sz)).take (len*sz))=len*sz:=by grind[Cs,Dt,Ch]
   have H:∀(j:Nat) u,((cv.drop (lo*sz)).take (len*sz))[j]? =X u->w.cell? ((⟨b,lo*sz,D⟩:Addr).add j)=X u:=λj u d=>by
    rw[List.getElem?_take]at d;split at d
    .rw [Dm]at d;rw[bK];exact gG s R d
    .cases d
   have Be:∀u∈(cv.drop (lo*sz)).take (len*sz),u.oneCell'=true:=λu o=>I u (Fl (Db o));have G:∀(j:Nat) c,aQ sz ((xs.drop lo).take len) j=X c->∃u,((cv.drop (lo*sz)).take (len*sz))[j]? =X u/\Rep M [] u c:=λj c d=>by grind[iJ,pX,EM,Bm]
   exact⟨⟨_,Src.ofSlice w r _ _ _ _ B H Be,G⟩,λm hm=>TM (by rw[B];exact Bu _ hm) H Be G⟩
theorem xE(l:ay):(⟨l.toArray⟩:ByteArray).size=Z l:=by rfl
def A6(c:UInt8):Rep M ob (.int .u8 c.toNat) (ub c):=.int _ _ ⟨by simp only[bS];omega,by simp only[aX];have:=c.toNat_lt;omega⟩
def aAL(l:ay):∀y∈l.map ub,Z y.cells=1:=λy a=>by obtain⟨c,_,rfl⟩:=Cq.1 a;rfl
theorem DQ(l:ay)(q:Nat):aQ 1 (l.map ub) q=(l[q]?).map ub:=by unfold aQ;rw[Nat.div_one,Nat.mod_one,Cd];cases l[q]?<;>rfl
def SrcA.ofStr{P:Program}{g:TypeId}(j:P.underlying g=X .string)(l:ay):SrcA P M w 1 g (.string ⟨l.toArray⟩) (l.map ub):=by
 have f:∀(q:Nat) c,aQ 1 (l.map ub) q=X c->∃b,l[q]? =X b/\c=ub b:=λq c a=>by grind[DQ,Cg]
 refine⟨⟨byteCells ⟨l.toArray⟩,?_,λq c a=>?_⟩,aAL l,λm hm=>⟨(l.take m).map λb=>Eu .u8 b.toNat,?_,by grind,λu i=>by obtain⟨_,_,rfl⟩:=Cq.1 i;rfl,λq c a h=>?_⟩⟩
 .grind [Src.ofString,xE]
 .rw [DQ]at a;obtain⟨b,d,rfl⟩:=Cg.1 a;exact⟨.int .u8 b.toNat,by simp[byteCells,d],A6 b⟩
 .have e:(Cn 1 m (.string ⟨l.toArray⟩)).run P w= .ok (((⟨l.toArray⟩:ByteArray).extract 0 m).data.map λb=>Eu .u8 b.toNat) w:=rfl;rw[e];simp
 .obtain ⟨b,d,rfl⟩:=f q c h;rw[Nat.mul_one]at a;exact⟨.int .u8 b.toNat,by rw[Cd,Bm a,d];rfl,A6 b⟩
def WX{P:Program}(h:Mem M ob ac w){t K ty e:TypeId}{i:TypeInfo}{z:Value}(C:P.underlying t=X (.slice e))(V:P.info? e=X i)(hz:i.zero=X z)(hz1:z.cells.toList.all (·.oneCell')=O)
  (As:z.cells.size=i.size) (m:0<i.size) {xs ys:az} {v x:Value} (hv:Rep M ob v (.slice i.size xs .full)) (hs:SrcA P M w i.size K x ys)
  (F:Z xs+Z ys<=maxLen) (g:(Z xs+Z ys)*i.bytes<=140737488355328):
  ∃N w',(Cv #[t,K] ty #[v,x]).run P w= .ok N w'/\((ys=[]/\N=v/\w'=w)\/(ys≠[]/\Grown M w w' i.size e N (xs++ys))):=by
 obtain⟨s,⟨a,n,W⟩⟩:=hv.untok;obtain⟨⟨news,B,s2⟩,s3⟩:=hs;obtain⟨a',c,L,h0,h1,_⟩:=s.slice_inv;subst W;cases L;have At:((Z xs+Z ys:Nat):Int)<=9223372036854775807:=by simp only[maxLen]at F;omega
 by_cases I:ys=[]
 .subst I;refine⟨_,w,?_,.inl ⟨rfl,rfl,rfl⟩⟩;have Y:news=[]:=Ay (by simpa using B.newsLen);subst Y;have Be:Src P i.size K x 0 [] w:=B;cases a with
  | none=>rcases Be.kind with⟨e',G⟩|G<;>simp[Cv,run_underlying C,run_underlying G,sizeOf,typeInfo,V,Be.len,Be.cells]
  | some a=>rcases Be.kind with⟨e',G⟩|G<;>simp[Cv,run_underlying C,run_underlying G,sizeOf,typeInfo,V,Be.len,Be.cells,storeCells]
 .have Q:0<Z ys:=List.length_pos_iff.2 I
  have pre:(∀x∈xs,Z x.cells=i.size)/\∃d:bb,Z d=Z xs*i.size/\(Cn i.size (Z xs) (.slice a (Z xs) (Z xs))).run P w.drew= .ok d.toArray w.drew/\(∀u∈d,u.oneCell'=O)/\
    ∀(q:Nat) c,aQ i.size xs q=X c->∃u,d[q]? =X u/\Rep M [] u c:=by
   have l:xs=[]->(∀x∈xs,Z x.cells=i.size)/\∃d:bb,Z d=Z xs*i.size/\(Cn i.size (Z xs) (.slice a (Z xs) (Z xs))).run P w.drew= .ok d.toArray w.drew/\(∀u∈d,u.oneCell'=O)/\
     ∀(q:Nat) c,aQ i.size xs q=X c->∃u,d[q]? =X u/\Rep M [] u c:=by
    intro An;subst An;refine⟨λx An=>by simp at An,[],by simp,?_,λu f=>by simp at f,λq c Am=>by simp[aQ]at Am⟩;cases a<;>simp[Cn,loadCells,loadCellsFrom]
   generalize r:Hc a (Z xs) (Z xs)=v at s;cases s with
   | slnil sz t C=>have q:=l rfl;rw[r]at q;exact q
   | slemp sz t a cap C=>have q:=l rfl;rw[r]at q;exact q
   | sl sz b o n cap xs t Y hc hm A hM C=>
    injection r with v1 v2 v3
    subst v1;obtain⟨d,J,T,H,k4⟩:=h.sliceCells m A hM;exact⟨A,d,J,run_firstCells_some w.drew i.size _ ⟨b,o,D⟩ _ _ d J (λj u hj=>by rw[bK];simpa using T j u hj),H,k4⟩
  obtain⟨A,d,J,T,H,k4⟩:=pre;have hr:=run_append_grow_src (P:=P) w t K ty e i z C V hz a (Z xs) (Z xs) d T x (Z ys) news B o_ At (growslice_fits o_ g);have hge:=grownCap_ge w (Z xs+Z ys) (Z xs) e;have S:grownCap w (Z xs+Z ys) (Z xs) e<=maxLen:=grownCap_le_maxLen w (Z xs+Z ys) (Z xs) e F;have p:Z (d++news)=(Z xs+Z ys)*i.size:=by rw[Ah,J,B.newsLen,Ch]
  refine⟨_,_,hr,.inr ⟨I,⟨d++news,⟨by rw[p,Ah],.inr ⟨w.heap.size,_,_,by simp,Bq _,heap_alloc_new w.drew _,by simp;omega,S,?_,?_⟩⟩,λu f=>?_,λq c Am=>?_⟩,m,λy I=>?_,λb R=>?_,λb R=>heap_alloc_old w.drew _ R,rfl,rfl,rfl,by simp,?_⟩⟩
  .simp only[Array.size_append,Gr,size_zeroCells,As,p,<-Ch];congr 1;omega
  .grind [Ah,Nk,Gm]
  .rcases Cc.1 f with f|f
   .exact H u f
   .exact B.one u f
  .grind [dC,Ai,cY,Au]
  .grind
  .simp only[Gn,Ff]at R;omega
  .have:∀k,(d++news).toArray++Cl z.cells k=((d++news)++(Cl z.cells k).toList).toArray:=λk=>by simp
   rw[this];refine sT (w:=w.drew) λu f=>?_;rcases Cc.1 f with f|f
   .rcases Cc.1 f with f|f
    .exact H u f
    .exact B.one u f
   .exact lL hz1 u f
def Grown.ofAlloc{sz:Nat}{e:TypeId}{xs:az}{cv:bb}(a:0<sz)(d:Z cv=Z xs*sz)(h1:∀u∈cv,u.oneCell'=O)(hz:∀x∈xs,Z x.cells=sz)(hm:Z xs<=maxLen)
  (g:∀(q:Nat) c,aQ sz xs q=X c->∃u,cv[q]? =X u/\Rep M [] u c):Grown M w (w.alloc (.cells cv.toArray e)) sz e (.slice (X ⟨w.heap.size,0,D⟩) (Z xs) (Z xs)) xs:=by
 refine⟨⟨cv,⟨d,.inr ⟨w.heap.size,Z xs,cv.toArray,rfl,Bq _,heap_alloc_new w _,Bc _,hm,by omega,by grind⟩⟩,h1,g⟩,a,hz,λb f=>?_,λb f=>heap_alloc_old w _ f,rfl,rfl,rfl,by simp,sT h1⟩;simp only[Gn,Ff]at f;omega
def Mem.bornCells(h:Mem M ob ac w){k:Nat}(h1:ac[k]? =X .dead)(f:ob[k]? =X []){cv:bb}{cs:az}(T:TypeId)(hl:Z cv=Z cs)(c:∀v∈cv,v.oneCell'=O)
  (l:∀(i:Nat) v a,cv[i]? =X v->cs[i]? =X a->Rep M ob v a):
  Mem M (ob.set k [.pointer (X ⟨w.heap.size,0,D⟩)]) (ac.set k (.cells T cs)) (w.alloc (.cells cv.toArray T))/\Ext M ob ac w M (ob.set k [.pointer (X ⟨w.heap.size,0,D⟩)]) (ac.set k (.cells T cs)) (w.alloc (.cells cv.toArray T))/\
   dB ob ac (ob.set k [.pointer (X ⟨w.heap.size,0,D⟩)]) (ac.set k (.cells T cs))/\Rep M (ob.set k [.pointer (X ⟨w.heap.size,0,D⟩)]) (.pointer (X ⟨w.heap.size,0,D⟩)) (.ref k 0):=by
 have j:k<Z ob:=(Ad.1 f).1
 have:=h.turn (M':=M) (w':=w.alloc (.cells cv.toArray T)) (x':=.cells T cs) (hs':=[.pointer (X ⟨w.heap.size,0,D⟩)]) h1 f ⟨_,rfl⟩ (λ_=>rfl) (λ_ _ _ h=>h) (λ_ _ _ h=>.inl h) (λb o y n=>by
   obtain⟨u,g,p,r⟩:=h.imm b o y n
   exact⟨u,(Cw (w:=w) (a:=⟨b,o,D⟩) (heap_alloc_old w _ (Cx w _ g))).trans g,p,r⟩)
  (λb d _=>heap_alloc_old w _ d) rfl rfl rfl s_ (λe=>⟨_,rfl,λo=>h.noImm (Bc _) o,cv,heap_alloc_new w _,hl,c,λi v a q m=>(l i v a q m).mono (λ_ _ _ h=>h) e⟩)
  (λ_ b d=>by
   have:w.heap.size=b:=fF.1 d
   simp;omega)
 refine⟨this.1,this.2.1,this.2.2,.ref k 0 _ ?_⟩;rw[cN (Ba j)];rfl
def Mem.bornMap(h:Mem M ob ac w){k:Nat}(h1:ac[k]? =X .dead)(f:ob[k]? =X [])(d:Bool):
  Mem M (ob.set k [.map (X w.heap.size)]) (ac.set k (.mp d [])) (w.alloc (.map #[] 0))/\Ext M ob ac w M (ob.set k [.map (X w.heap.size)]) (ac.set k (.mp d [])) (w.alloc (.map #[] 0))/\
   dB ob ac (ob.set k [.map (X w.heap.size)]) (ac.set k (.mp d []))/\Rep M (ob.set k [.map (X w.heap.size)]) (.map (X w.heap.size)) (.mref k):=by
 have l:k<Z ob:=(Ad.1 f).1
 have:=h.turn (M':=M) (w':=w.alloc (.map #[] 0)) (x':=.mp d []) (hs':=[.map (X w.heap.size)]) h1 f ⟨_,rfl⟩ (λ_=>rfl) (λ_ _ _ h=>h) (λ_ _ _ h=>.inl h) (λb o y m=>by
   obtain⟨u,g,n,p⟩:=h.imm b o y m
   exact⟨u,(Cw (w:=w) (a:=⟨b,o,D⟩) (heap_alloc_old w _ (Cx w _ g))).trans g,n,p⟩)
  (λb e _=>heap_alloc_old w _ e) rfl rfl rfl s_ (λq=>⟨_,rfl,λo=>h.noImm (Bc _) o,[],0,heap_alloc_new w _,rfl,λi x y c=>by simp at c,λi x c=>by simp at c,λi j x y c=>by simp at c⟩)
  (λ_ b e=>by
   have:w.heap.size=b:=fF.1 e
   simp_all)
 refine⟨this.1,this.2.1,this.2.2,.mref k _ ?_⟩;rw[cN (Ba l)];rfl
def Mem.cellsTurn(h:Mem M ob ac w){k:Nat}{T:TypeId}{cs cs':az}(s:ac[k]? =X (.cells T cs)){b:Nat}(q:at' ob k 0=X (.pointer (X ⟨b,0,D⟩))){cv':bb}(hl:Z cv'=Z cs')(h1:∀u∈cv',u.oneCell'=O)
  (z:∀(i:Nat) v a,cv'[i]? =X v->cs'[i]? =X a->Rep M ob v a):
  Mem M ob (ac.set k (.cells T cs')) (w.setRow b cv'.toArray)/\Ext M ob ac w M ob (ac.set k (.cells T cs')) (w.setRow b cv'.toArray)/\dB ob ac ob (ac.set k (.cells T cs')):=by
 obtain⟨hs,m,c,j,g,cv,r,_⟩:=h.obj k _ s;have:c=b:=by rw[cN m,j]at q;simpa using q
 subst this;have f:=gR (l:=ob) m
 have:=h.turn (M':=M) (w':=w.setRow c cv'.toArray) (x':=.cells T cs') (hs':=hs) s m (Ct _) (λe=>by cases e) (λ_ _ _ h=>h) (λ_ _ _ h=>.inl h) (λb o y p=>by
   obtain⟨u,F,C,Be⟩:=h.imm b o y p;have t:b≠c:=λe=>by subst e;exact g o y p
   grind[Cw,setRow_other])
  (λb _ x=>setRow_other w c b _ λe=>x ⟨rfl,by subst e;rw[j];exact fF.2 rfl⟩) rfl rfl rfl s_ (λn=>⟨c,j,g,cv',setRow_heap w c _ _ T _ r,hl,h1,λi v a B A=>(z i v a B A).mono (λ_ _ _ h=>h) n⟩)
  (λ_ b d=>⟨.inl ⟨rfl,d⟩,by
   have:c=b:=by rw[j]at d;exact fF.1 d
   subst this;have:=gO r
   simp;omega⟩)
 rw[f]at this;exact this
end
section
variable {M:Imm} {ob:Hs} {ac:aw} {w:World}
def cQ{M':Imm}{ob':Hs}{f:aa->aa}(b:∀v a,Rep M ob v a->Rep M' ob' v (f a)){as:az}{vs:bb}(hl:Z vs=Z as)(h:∀(i:Nat) v a,vs[i]? =X v->as[i]? =X a->Rep M ob v a):
  Z vs=Z (eZ f as)/\∀(i:Nat) v a,vs[i]? =X v->(eZ f as)[i]? =X a->Rep M' ob' v a:=by
 grind[BF,Cg]
def B7{k g:Nat}{v:Value}{hs:bb}(h1:ob[k]? =X hs)(a:at' ob k g=X v):hs[g]? =X v:=by rw[<-cN h1];exact a
def aPq{b o n sz:Nat}{xs:az}(g:Z xs=n)(hm:(n:Int)<=9223372036854775807)(hz:∀x∈xs,Z x.cells=sz)(h:∀(i j:Nat) x c,xs[i]? =X x->x.cells[j]? =X c->M b (o+i*sz+j) c)
  {lo len a:Nat} (hl:lo+len<=n) (f:len<=a) {t:Tk} (e:yD ob (.slice (X ⟨b,o+lo*sz,D⟩) len a) t):Rep M ob (.slice (X ⟨b,o+lo*sz,D⟩) len a) (.slice sz ((xs.drop lo).take len) t):=by
 refine .sl sz b _ len a _ t q_ f o_ (λx d=>hz x (Fl (Db d))) (λi j x c d k=>?_) e
 grind[Nat.add_assoc]
def Mem.pureV(h:Mem M ob ac w):∀(n:Nat) (v:Value) (a:aa),Rep M ob v a->Rep M [] v (ai (aE ac) n a):=by
 intro n;induction n with
 | zero=>intro v a _;exact .undef v
 | succ n u=>
  intro v a d;cases d with
  | undef v=>exact .undef v
  | bool b=>exact .bool b
  | int k n d=>exact .int k n d
  | str l hl=>exact .str l hl
  | agg vs as hl d=>
   obtain⟨h1,e⟩:=cQ (u) hl d;exact .agg vs _ h1 e
  | tup vs as hl d=>
   obtain⟨h1,e⟩:=cQ (u) hl d;exact .tup vs _ h1 e
  | ptr b o cs d=>exact .ptr b o cs d
  | ref k off b f=>
   simp only[AW.ai];split
   .rename_i cs p;obtain⟨hs,h1,F,e,h3⟩:=h.obj k _ (bO p s_);have:=B7 h1 f;rw[e]at this;simp at this;subst this;exact .ptr _ _ _ λj c m=>by rw[oX,Dm]at m;simp_all
   .exact .undef _
  | eref k g i sz off b n c f=>exact .undef _
  | rowc k g c a n h hm=>exact .undef _
  | pre k g n c sz b len h m A hl hm=>exact .undef _
  | csl k off len sz b f hm=>
   simp only[AW.ai];split
   .rename_i cs p;cases y:Av sz 1 with
    | false=>exact .undef _
    | true=>
     simp only[cond_true];split
     .rename_i l hl;cases T:sS l with
      | false=>exact .undef _
      | true=>
       simp only[cond_true];obtain⟨hs,h1,F,e,h3⟩:=h.obj k _ (bO p s_);have:=B7 h1 f;rw[e]at this;simp at this;subst this;obtain⟨As,S⟩:=lE hl;refine .sl 1 _ off len len l .full As (Bc _) hm (λx R=>?_) (λi j x c R m=>?_) ⟨_,_,rfl⟩
       .grind [Ck,rF,nZ]
       grind[rF,nZ,oX]
     .exact .undef _
   .exact .undef _
  | row k g a n c f=>
   simp only[AW.ai];split
   .rename_i z sz xs p;cases y:Av g z with
    | false=>exact .undef _
    | true=>
     have:=aG y;subst this;simp only[cond_true];obtain⟨hs,h1,J,e,h3⟩:=h.obj k _ (bO p s_);have:=B7 h1 f
     grind
   .exact .undef _
  | sub k g lo len sz b n c f hl A m hm=>
   simp only[AW.ai];split
   .rename_i z r xs p;cases y:(Av g z&&Av sz r)with
    | false=>exact .undef _
    | true=>
     obtain⟨s,B⟩:=bB y;have:=aG s;have:=aG B
     subst_vars
     simp only[cond_true];obtain⟨hs,h1,J,e,h3⟩:=h.obj k _ (bO p s_);have:=B7 h1 f;rw[e]at this;cases this;rcases h3.sl_inv with⟨q,_⟩|⟨a,cap,q,B⟩|⟨F,W,G,q,I,Q,hz,P⟩
     .cases q
     .grind
     .injection q with s B q3
      injection s with s
      injection s with s q4 _
      subst s q4;have:=aPq (ob:=[]) (t:=.no) B.symm hm hz P A (show len<=c-lo by omega) trivial;rw[Bv]at this;exact this
   .exact .undef _
  | sub0 k g lo sz _ a n c f hl m=>
   simp only[AW.ai];split
   .rename_i z r xs p;cases y:(Av g z&&Av sz r)with
    | false=>exact .undef _
    | true=>
     simp only[cond_true,List.take_zero];cases a with
     | none=>exact .slnil _ _ trivial
     | some a=>exact .slemp _ _ _ _ trivial
   .exact .undef _
  | mref k b f=>exact .undef _
  | nilptr=>exact .nilptr
  | nilslice=>exact .nilslice
  | nilmap=>exact .nilmap
  | nilfunc=>exact .nilfunc
  | nilif=>exact .nilif
  | hsl a n c=>exact .hsl a n c
  | slnil sz t H=>exact .slnil sz .no trivial
  | slemp sz t a cap H=>exact .slemp sz .no a cap trivial
  | sl sz b o n cap xs t A m hm hz d H=>exact .sl sz b o n cap xs .no A m hm hz d trivial
  | func fn K cs V At L m C Be=>
   obtain⟨h1,e⟩:=cQ (u) L C;obtain⟨h3,N⟩:=cQ (u) m Be;exact .func fn K cs _ _ h1 h3 e N
  | iface t v a d=>exact .iface t v _ (u v a d)
theorem aW{k:Nat}{x y:ab}(h:ac[k]? =X x):bU ac k y=ac.set k y:=gY y (Ad.1 h).1
def sA(M:Imm)(ob:Hs)(ac:aw)(w:World)(ap:aw):Prop:=∃M',Mem M' ob ap w/\Ext M ob ac w M' ob ap w/\(∀k:Nat,ac[k]? =X .dead->ap[k]? =X .dead)/\Z ap=Z ac
def sA.refl(h:Mem M ob ac w):sA M ob ac w ac:=⟨M,h,Ext.refl _ _ _ _,λ_ h=>h,rfl⟩
def sA.trans{a b:aw}(h:sA M ob ac w a)(k:∀M',Mem M' ob a w->sA M' ob a w b):sA M ob ac w b:=by obtain⟨j,h1,n,h3,e⟩:=h;obtain⟨l,m,c,f,g⟩:=k j h1;exact⟨l,m,n.trans c,λi d=>f i (h3 i d),g.trans e⟩
def Mem.frzR(h:Mem M ob ac w)(k g:Nat):sA M ob ac w (AW.frzR ac k g):=by
 unfold AW.frzR;split
 .rename_i A sz e xs p;cases x:Av g A with
  | false=>exact .refl h
  | true=>
   have:=aG x;subst this;simp only[cond_true];have l:=bO p s_;rw[aW l];obtain⟨hs,v,m,G,s,Be,⟨cv,n,r,C,B,F⟩,d⟩:=h.rowOf l
   have a:=h.turn (M':=iZ M v sz xs) (w':=w) (x':=.frow g sz xs) (hs':=hs) l m (Ct _) (λe=>by cases e) (λ_ _ _ h=>.inl h) (λb o y c=>by
     rcases c with c|⟨j,_⟩
     .grind
     .exact .inr (.inl ⟨rfl,qA d j⟩)) (λb o y c=>by
     rcases c with c|⟨j,c⟩
     .obtain ⟨u,f,h1,z⟩:=h.imm b o y c;exact⟨u,f,h1,z.monoM λ_ _ _ h=>.inl h⟩
     .obtain ⟨u,f,q⟩:=B o y c
      exact⟨u,gG n j f,r u (Ax f),q.monoM λ_ _ _ h=>.inl h⟩) (λ_ _ _=>rfl) rfl rfl rfl (Bc _)
    (λ_=>⟨v,s,mD n C trivial⟩) (λe=>by cases e)
   rw[gR m]at a;exact⟨_,a.1,a.2.1,λi t=>by rw[Bg (λe=>by grind)];exact t,by simp⟩
 .exact .refl h
def Mem.frz1(h:Mem M ob ac w)(k:Nat):sA M ob ac w (AW.frz1 ac k):=by
 unfold AW.frz1;split
 .rename_i cs r;have l:=bO r s_;rw[aW l];obtain⟨hs,n,m,p,C,cv,t,s,x,Be⟩:=h.obj k _ l;have q:Z cv=Z (eZ (AW.ai (aE ac) 4) cs)/\∀(i:Nat) v a,cv[i]? =X v->(eZ (AW.ai (aE ac) 4) cs)[i]? =X a->Rep M [] v a:=cQ (h.pureV 4) s Be
  let M':Imm:=λb o y=>M b o y\/(b=m/\(eZ (AW.ai (aE ac) 4) cs)[o]? =X y)
  have d:=h.turn (M':=M') (w':=w) (x':=.fcells (eZ (AW.ai (aE ac) 4) cs)) (hs':=hs) l n (Ct _) (λe=>by cases e) (λ_ _ _ h=>.inl h) (λb o y f=>by
    rcases f with f|⟨rfl,_⟩
    .exact .inl f
    .exact .inr (.inl ⟨rfl,by rw[p];exact fF.2 rfl⟩)) (λb o y f=>by
    rcases f with f|⟨rfl,f⟩
    .obtain ⟨u,F,h1,A⟩:=h.imm b o y f;exact⟨u,F,h1,A.monoM λ_ _ _ h=>.inl h⟩
    .have g:o<Z cv:=by rw[q.1];exact(Ad.1 f).1
     exact⟨cv[o],by rw[cell_of_row w b _ _ _ (0,0) t];simp[g],x _ (Aq g),(q.2 o _ y (Ab g) f).monoM λ_ _ _ h=>.inl h⟩) (λ_ _ _=>rfl) rfl rfl rfl (Bc _)
   (λ_=>⟨m,p,λj c B=>.inr ⟨rfl,B⟩⟩) (λe=>by cases e)
  rw[gR n]at d;exact⟨_,d.1,d.2.1,λi z=>by rw[Bg (λe=>by simp_all)];exact z,by simp⟩
 .exact .refl h
def Mem.foldO{f:aw->aa->aw}(b:∀(M:Imm) (ac:aw) (a:aa),Mem M ob ac w->sA M ob ac w (f ac a)):∀(l:az) (M:Imm) (ac:aw),Mem M ob ac w->sA M ob ac w (foldO f ac l)
 | [],_,_,h=>.refl h
 | c::r,M,ac,h=>(b M ac c h).trans λM' d=>Mem.foldO b r M' _ d
def Mem.frzV:∀(n:Nat) (M:Imm) (ac:aw) (a:aa),Mem M ob ac w->sA M ob ac w (frzV n ac a):=by
 intro n;induction n with
 | zero=>intro M ac a h;exact .refl h
 | succ n d=>
  intro M ac a h;cases a
  case agg cs=>exact Mem.foldO d _ _ _ h
  case tup cs=>exact Mem.foldO d _ _ _ h
  case func fn fs cs=>exact(Mem.foldO d _ _ _ h).trans λM' e=>Mem.foldO d _ _ _ e
  case iface t v=>exact d _ _ _ h
  case ref k off=>
   simp only[AW.frzV];split
   .exact (Mem.foldO d _ _ _ h).trans λM' e=>e.frz1 k
   .exact .refl h
  case csl k a b c=>
   simp only[AW.frzV];split
   .exact (Mem.foldO d _ _ _ h).trans λM' e=>e.frz1 k
   .exact .refl h
  case row k g=>exact h.frzR k g
  case sub k g a b c=>exact h.frzR k g
  all_goals exact .refl h
def Mem.frzL(l:az)(h:Mem M ob ac w):sA M ob ac w (frzL ac l):=Mem.foldO (Mem.frzV 6) l M ac h
def Mem.frzs:∀(l:a6) (M:Imm) (ac:aw),Mem M ob ac w->sA M ob ac w (ak l ac)
 | [],_,_,h=>.refl h
 | k::r,M,ac,h=>by
  unfold AW.ak;split
  .exact (h.frzR _ _).trans λM' a=>Mem.frzs r M' _ a
  .exact (Mem.frzV 6 M ac _ h).trans λM' a=>Mem.frzs r M' _ a
  .exact Mem.frzs r M _ h
end
def TN{k:Nat}:∀{ks:a6} {j i:Nat},pos k j ks=X i->j<=i/\ks[i-j]? =X k
 | [],j,i,h=>by cases h
 | x::r,j,i,h=>by
  simp only[pos]at h;cases a:Av x k with
  | true=>
   simp_all
  | false=>
   rw[a]at h;obtain⟨h1,b⟩:=TN (ks:=r) h
   grind
def aBo{k i:Nat}{ks:a6}(h:pos k 0 ks=X i):ks[i]? =X k:=by simpa using(TN h).2
def oD{ac:aw}:∀{ks:a6},kO ks ac=O->(∀(j k:Nat),ks[j]? =X k->(aE ac k).owns=O)/\ks.Nodup
 | [],_=>⟨λj k h=>by simp at h,List.nodup_nil⟩
 | x::r,h=>by
  simp only[kO,Af,Bool.not_eq_true']at h;obtain⟨⟨h1,a⟩,h3⟩:=h;obtain⟨b,c⟩:=oD h3;refine⟨λj k d=>?_,Ci.2 ⟨λhm=>?_,c⟩⟩
  .cases j with
   | zero=>grind
   | succ j=>exact b j k (by simp_all)
  .rw [oB.2 hm]at a;cases a
theorem MF{l:a6}(h:l.Nodup):∀{i j b:Nat},l[i]? =X b->l[j]? =X b->i=j:=by
 induction l with
 | nil=>simp
 | cons x r a=>
  grind[Ci,Ax]
def fQ{ac:aw}{k:Nat}(h:(aE ac k).owns=O):ac[k]? =X (aE ac k):=by refine bO rfl λe=>?_;rw[e]at h;cases h
def kF(n0 j:Nat)(o:ab)(hs:bb):bb:=
 if 0<iO o then(if j<n0 then hs.take 1 else[])++hs.drop (iO o)else hs
def fT(n0:Nat)(ob:Hs)(ac:aw):Nat->a6->Hs
 | _,[]=>[]
 | j,k::r=>kF n0 j (aE ac k) (ob.getD k [])::fT n0 ob ac (j+1) r
def iV{n0:Nat}{ob:Hs}{ac:aw}:∀{ks:a6} {j i:Nat},(fT n0 ob ac j ks)[i]? =(ks[i]?).map λk=>kF n0 (j+i) (aE ac k) (ob.getD k [])
 | [],j,i=>by simp[fT]
 | k::r,j,i=>by
  cases i with
  | zero=>simp[fT]
  | succ i=>simp only[fT,Gp,iV (ks:=r)];grind
def rW{n0:Nat}{ob:Hs}{ac:aw}:∀{ks:a6} {j:Nat},Z (fT n0 ob ac j ks)=Z ks
 | [],j=>rfl
 | k::r,j=>by simp[fT,rW (ks:=r)]
def R4{n0:Nat}{a:a6}{ac:aw}:∀{ks:a6} {j i:Nat},(uS n0 a ac j ks)[i]? =(ks[i]?).map λk=>K4 n0 a ac (j+i) (aE ac k)
 | [],j,i=>by simp[uS]
 | k::r,j,i=>by
  cases i with
  | zero=>simp[uS]
  | succ i=>simp only[uS,Gp,R4 (ks:=r)];grind
def qP{n0:Nat}{a:a6}{ac:aw}:∀{ks:a6} {j:Nat},Z (uS n0 a ac j ks)=Z ks
 | [],j=>rfl
 | k::r,j=>by simp[uS,qP (ks:=r)]
def aB1{n0 j c g d:Nat}(h:gm n0 j c g=X d):(g=c/\d=(if j<n0 then(if c=0 then 0 else 1)else 0))\/(g≠c/\j<n0/\g=0/\d=0):=by
 unfold gm at h;have f:∀a b:Nat,Av a b=decide (a=b):=λa b=>by
  by_cases e:a=b
  .simp_all
  .rw [JX e];simp[e]
 have hl:∀a b:Nat,Fi a b=decide (a<b):=λa b=>by
  by_cases e:a<b
  .simp_all
  .have:Fi a b=false:=by
    cases i:Fi a b with
    | false=>rfl
    | true=>simp_all;omega
   grind
 grind
def pQ(n0 j g:Nat):gm n0 j g g=X (if j<n0 then(if g=0 then 0 else 1)else 0):=by
 unfold gm;simp only[Nat.beq_eq_true_eq,Nat.beq_refl,cond_true,Ff];by_cases b:j<n0
 .simp_all
 .have:Fi j n0=false:=by
   cases a:Fi j n0 with
   | false=>rfl
   | true=>simp_all;omega
  grind
section
variable {M:Imm} {ob:Hs} {ac:aw} {w:World}
def Mem.histLen(h:Mem M ob ac w){k:Nat}{hs:bb}(d:(aE ac k).owns=O)(f:ob[k]? =X hs):Z hs=iO (aE ac k)+1:=by
 obtain⟨hs',e,a⟩:=h.obj k _ (fQ d);rw[f]at e;cases e;cases c:aE ac k with
 | dead=>rw[c]at d;cases d
 | fcells cs=>rw[c]at d;cases d
 | frow g sz xs=>rw[c]at d;cases d
 | cells T cs=>rw[c]at a;obtain⟨b,rfl,_⟩:=a;rfl
 | row g sz e xs=>rw[c]at a;exact a.1
 | tail g sz e=>rw[c]at a;exact a.1
 | mp i es=>rw[c]at a;obtain⟨b,rfl,_⟩:=a;rfl
 | bun g I=>rw[c]at a;exact a.1
def B2{n0 j g a:Nat}{o:ab}{hs:bb}(hl:Z hs=iO o+1)(b:gm n0 j (iO o) g=X a):(kF n0 j o hs)[a]? =hs[g]?:=by
 unfold kF;rcases aB1 b with⟨rfl,rfl⟩|⟨h1,d,rfl,rfl⟩
 .grind
 .have c:0<iO o:=o_;simp_all
theorem DL{n0 j:Nat}{o:ab}{hs:bb}(hl:Z hs=iO o+1):(kF n0 j o hs).getLast? =hs.getLast?:=by
 unfold kF
 grind
def wC{n0 j:Nat}{o:ab}{hs:bb}(hl:Z hs=iO o+1):Z (kF n0 j o hs)=(if j<n0 then(if iO o=0 then 0 else 1)else 0)+1:=by
 unfold kF
 grind
def Mem.cutAt(h:Mem M ob ac w){n0:Nat}{ks:a6}(i:kO ks ac=O){k j g d:Nat}{v:Value}(hp:pos k 0 ks=X j)(m:gm n0 j (iO (aE ac k)) g=X d)(l:at' ob k g=X v):
  at' (fT n0 ob ac 0 ks) j d=X v:=by
 have f:=aBo hp;have c:=(oD i).1 j k f;have b:k<Z ob:=by rw[h.len];exact(Ad.1 (fQ c)).1
 have a:ob[k]? =X ob[k]:=Ab b;have hl:=h.histLen c a;have e:(fT n0 ob ac 0 ks)[j]? =X (kF n0 j (aE ac k) ob[k]):=by rw[iV,f];simp[a]
 rw[cN e,B2 hl m];exact B7 a l
def Mem.cvtV(h:Mem M ob ac w){n0:Nat}{ks:a6}(r:kO ks ac=O):∀(n:Nat) (v:Value) (a:aa),Rep M ob v a->Rep M (fT n0 ob ac 0 ks) v (cvtV n0 ks (aE ac) n a):=by
 intro n;induction n with
 | zero=>intro v a _;exact .undef v
 | succ n u=>
  intro v a m;have Be:∀{n0 j c x:Nat},gm n0 j c 0=X x->x=0:=λ{n0 j c x} d=>by
   rcases aB1 d with⟨e,rfl⟩|⟨_,_,_,rfl⟩
   .grind
   .rfl
  have tok:∀{v:Value} {sz:Nat} {xs:az} {t:Tk},Rep M ob v (.slice sz xs t)->Rep M (fT n0 ob ac 0 ks) v (AW.cvtV n0 ks (aE ac) (n+1) (.slice sz xs t)):=by
   intro v sz xs t m;obtain⟨K,C⟩:=m.untok;have p:Rep M (fT n0 ob ac 0 ks) v (.slice sz xs .no):=K.slice_pure.pure;cases t with
   | no=>exact p
   | nil=>
    cases ks with
    | nil=>exact p
    | cons k ks=>exact p.tok C
   | full=>exact p.tok C
   | own k g=>
    simp only[AW.cvtV];split
    .rename_i j hp;split
     .rename_i s d;exact p.tok (show at' _ _ _=_ from h.cutAt r hp d C)
     .exact p
    .exact p
  cases m with
  | undef v=>exact .undef v
  | bool b=>exact .bool b
  | int k n m=>exact .int k n m
  | str l hl=>exact .str l hl
  | agg vs as hl m=>
   obtain⟨h1,A⟩:=cQ (u) hl m;exact .agg vs _ h1 A
  | tup vs as hl m=>
   obtain⟨h1,A⟩:=cQ (u) hl m;exact .tup vs _ h1 A
  | ptr b o cs m=>exact .ptr b o cs m
  | ref k off b f=>
   simp only[AW.cvtV];split
   .rename_i j hp;split
    .rename_i x d;have:=Be d;subst this;exact .ref j off b (h.cutAt r hp d f)
    .exact .undef _
   .exact (h.pureV 1 _ _ (.ref k off b f)).pure
  | eref k g i sz off b n c f=>exact .undef _
  | rowc k g c a n h hm=>exact .undef _
  | pre k g n c sz b len h q y hl hm=>exact .undef _
  | csl k off len sz b f hm=>
   simp only[AW.cvtV];split
   .rename_i j hp;split
    .rename_i x d;have:=Be d;subst this;exact .csl j off len sz b (h.cutAt r hp d f) hm
    .exact .undef _
   .exact (h.pureV 1 _ _ (.csl k off len sz b f hm)).pure
  | row k g a n c f=>
   simp only[AW.cvtV];split
   .rename_i j hp;split
    .rename_i s d;exact .row j s a n c (h.cutAt r hp d f)
    .exact .undef _
   .exact (h.pureV 1 _ _ (.row k g a n c f)).pure
  | sub k g lo len sz b n c f hl y q hm=>
   simp only[AW.cvtV];split
   .rename_i j hp;split
    .rename_i s d;exact .sub j s lo len sz b n c (h.cutAt r hp d f) hl y q hm
    .exact .undef _
   .exact (h.pureV 1 _ _ (.sub k g lo len sz b n c f hl y q hm)).pure
  | sub0 k g lo sz a G n c f hl q=>
   simp only[AW.cvtV];split
   .rename_i j hp;split
    .rename_i s d;exact .sub0 j s lo sz a G n c (h.cutAt r hp d f) hl q
    .exact .undef _
   .exact (h.pureV 1 _ _ (.sub0 k g lo sz a G n c f hl q)).pure
  | mref k b f=>
   simp only[AW.cvtV];split
   .rename_i j hp;split
    .rename_i x d;have:=Be d;subst this;exact .mref j b (h.cutAt r hp d f)
    .exact .undef _
   .exact .undef _
  | nilptr=>exact .nilptr
  | nilslice=>exact .nilslice
  | nilmap=>exact .nilmap
  | nilfunc=>exact .nilfunc
  | nilif=>exact .nilif
  | hsl a n c=>exact .hsl a n c
  | slnil sz t z=>exact tok (.slnil sz t z)
  | slemp sz t a cap z=>exact tok (.slemp sz t a cap z)
  | sl sz b o n cap xs t y q hm hz m z=>exact tok (.sl sz b o n cap xs t y q hm hz m z)
  | func fn H cs N L I q B F=>
   obtain⟨h1,A⟩:=cQ (u) I B;obtain⟨h3,J⟩:=cQ (u) q F;exact .func fn H cs _ _ h1 h3 A J
  | iface t v a m=>exact .iface t v _ (u v a m)
def Mem.cvt(h:Mem M ob ac w){n0:Nat}{ks:a6}(H:kO ks ac=O):
  Mem M (fT n0 ob ac 0 ks) (iC n0 ks ac) w/\(∀j b,aM (fT n0 ob ac 0 ks) (iC n0 ks ac) j b->∃k,ks[j]? =X k/\aM ob ac k b)/\
   (∀j k b,ks[j]? =X k->aM ob ac k b->aM (fT n0 ob ac 0 ks) (iC n0 ks ac) j b):=by
 obtain⟨x,R⟩:=oD H;have hist:∀{j k:Nat},ks[j]? =X k->∃hs,ob[k]? =X hs/\Z hs=iO (aE ac k)+1/\(fT n0 ob ac 0 ks)[j]? =X (kF n0 j (aE ac k) hs)/\(iC n0 ks ac)[j]? =X (K4 n0 ks ac j (aE ac k))/\iY M ob w hs (aE ac k):=by
  intro j k a;have J:=x j k a;obtain⟨hs,F,G⟩:=h.obj k _ (fQ J);refine⟨hs,F,h.histLen J F,?_,?_,G⟩
  .rw [iV,a];simp[F]
  .unfold iC;rw[R4,a];simp
 have f:∀j o,(K4 n0 ks ac j o).owns=o.owns:=λj o=>by cases o<;>rfl
 have p:∀j b,aM (fT n0 ob ac 0 ks) (iC n0 ks ac) j b->∃k,ks[j]? =X k/\aM ob ac k b:=by
  rintro j b ⟨c,hs,Be,At,L,K⟩;have a:∃k,ks[j]? =X k:=by
   have:j<Z ks:=by have:=(Ad.1 Be).1;unfold iC at this;rwa [qP]at this
   exact⟨_,Ab this⟩
  obtain⟨k,a⟩:=a;obtain⟨hs',z,t,y,u,_⟩:=hist a;rw[u]at Be;rw[y]at L;cases Be;cases L;refine⟨k,a,(dE (fQ (x j k a)) z).2 ⟨by rw[<-f j];exact At,?_⟩⟩;unfold blk at K⊢;rwa [DL t]at K
 have B:∀j k b,ks[j]? =X k->aM ob ac k b->aM (fT n0 ob ac 0 ks) (iC n0 ks ac) j b:=by intro j k b a n;obtain⟨hs',z,t,y,u,_⟩:=hist a;have:=(dE (fQ (x j k a)) z).1 n;refine(dE u y).2 ⟨by rw[f];exact this.1,?_⟩;unfold blk;rw[DL t];exact this.2
 refine⟨⟨h.imm,by unfold iC;rw[rW,qP],λj c l=>?_,λj b n=>?_,λi j b n C=>?_⟩,p,B⟩
 .have a:∃k,ks[j]? =X k:=by
   have:j<Z ks:=by have:=(Ad.1 l).1;unfold iC at this;rwa [qP]at this
   exact⟨_,Ab this⟩
  obtain⟨k,a⟩:=a;obtain⟨hs,z,t,y,u,m⟩:=hist a;rw[u]at l;cases l;refine⟨_,y,?_⟩;have hl:=wC (n0:=n0) (j:=j) t;have s:=pQ n0 j (iO (aE ac k));have d:=B2 t s;cases l:aE ac k with
  | dead=>exact trivial
  | fcells cs=>have:=x j k a;rw[l]at this;cases this
  | frow g sz xs=>have:=x j k a;rw[l]at this;cases this
  | cells T cs=>
   rw[l]at m;obtain⟨b,rfl,A,cv,q,r,P,V⟩:=m;obtain⟨N,As⟩:=cQ (h.cvtV (n0:=n0) H 4) r V;exact⟨b,rfl,A,cv,q,N,P,As⟩
  | row g sz e xs=>
   rw[l]at m hl d;obtain⟨A,v,q,r⟩:=m;simp only[K4,pQ];exact⟨hl,v,d.trans q,r⟩
  | tail g sz e=>
   rw[l]at m hl d;obtain⟨A,v,q,r⟩:=m;simp only[K4,pQ];exact⟨hl,v,d.trans q,r⟩
  | mp W es=>
   rw[l]at m;exact m
  | bun g I=>
   rw[l]at m hl d;obtain⟨A,v,q,r⟩:=m;simp only[K4,pQ];exact⟨hl,v,d.trans q,r⟩
 .obtain ⟨k,_,n⟩:=p j b n;exact h.lt k b n
 .obtain ⟨k,S,n⟩:=p i b n;obtain⟨Q,a,C⟩:=p j b C;have:=h.inj k Q b n C;subst this;exact MF R S a
end
def aHB(ks:a6):fS.olenN ks=Z ks:=by
 induction ks with
 | nil=>rfl
 | cons k r a=>simp[fS.olenN,a]
theorem kC{ks:a6}{base j k:Nat}(h:ks[j]? =X k):fS ks base j=k:=by simp[fS,qH,h]
theorem nE{ks:a6}{base j:Nat}(h:Z ks<=j):fS ks base j=base+(j-Z ks):=by simp[fS,qH,Bp h,aHB]
theorem aJb{ks:a6}{base:Nat}(f:ks.Nodup)(d:∀(j k:Nat),ks[j]? =X k->k<base){i j:Nat}(h:fS ks base i=fS ks base j):i=j:=by
 by_cases a:i<Z ks<;>by_cases c:j<Z ks
 .have b:=Ab a
  grind[Ab,kC,MF]
 .have b:=Ab a
  grind[kC,nE]
 .have e:=Ab c
  grind[kC,nE]
 grind[nE]
def aEx{ks:a6}{base:Nat}{ac:aw}(v:ks.Nodup)(w:∀(j k:Nat),ks[j]? =X k->k<base):∀(l:aw) (j:Nat) (a:aw),Z a=base+(j-Z ks)->
  Z (iN ks base ac j l a)=base+(j+Z l-Z ks)/\(∀(t:Nat) o,l[t]? =X o->(iN ks base ac j l a)[fS ks base (j+t)]? =X (vZ ks base ac (j+t) o))/\
   ∀i,(∀t,t<Z l->fS ks base (j+t)≠i)->i<Z a->(iN ks base ac j l a)[i]? =a[i]?:=by
 intro l;induction l with
 | nil=>intro j a hl;exact⟨by simpa[iN]using hl,λt o h=>by simp at h,λi _ _=>rfl⟩
 | cons o r f=>
  intro j a hl;simp only[iN]
  have c:Z (bU a (fS ks base j) (vZ ks base ac j o))=base+(j+1-Z ks)/\(bU a (fS ks base j) (vZ ks base ac j o))[fS ks base j]? =X (vZ ks base ac j o)/\
    ∀i,fS ks base j≠i->i<Z a->(bU a (fS ks base j) (vZ ks base ac j o))[i]? =a[i]?:=by
   by_cases q:j<Z ks
   .have x:=Ab q
    grind[kC,gY,Ba,Bg]
   grind[nE,TW,Ai]
  obtain⟨s,u,n⟩:=c;obtain⟨m,z,e⟩:=f (j+1) _ s;have g:fS ks base j<Z (bU a (fS ks base j) (vZ ks base ac j o)):=(Ad.1 u).1;refine⟨by rw[m];simp;omega,λt y p=>?_,λi d b=>?_⟩
  .cases t with
   | zero=>
    grind[aJb]
   | succ t=>
    grind
  .rw [e i (λt p=>?_) (by grind),n i (d 0 s_) b]
   have:=d (t+1) q_;rwa [show j+(t+1)=j+1+t from by omega]at this
def kY(ks:a6)(ob a:Hs):Hs:=
 (Dh (Z ob)).map (λk=>match pos k 0 ks with|some j=>ob.getD k []++(a.getD j []).drop 1|none=>ob.getD k [])++a.drop (Z ks)
def aHg{ks:a6}(a:ks.Nodup){j k:Nat}(h:ks[j]? =X k):pos k 0 ks=X j:=by
 have b:∀(ks:a6) (j i:Nat),ks.Nodup->ks[j]? =X k->pos k i ks=X (i+j):=by
  intro ks;induction ks with
  | nil=>simp
  | cons x r d=>
   intro j i a h;rw[Ci]at a;simp only[pos];cases j with
   | zero=>simp at h;subst h;simp
   | succ j=>
    have c:r[j]? =X k:=by simpa using h
    have:¬ x=k:=λe=>a.1 (e▸Ax c);rw[JX this]
    grind
 simpa using b ks j 0 a h
section
variable {M M':Imm} {ob obK':Hs} {ac ap:aw} {w w':World}
def Mem.embAt(h:Mem M ob ac w){ks:a6}(p:kO ks ac=O)(l:dR (fT 0 ob ac 0 ks) obK'){j g:Nat}{v:Value}(y:at' obK' j g=X v):
  at' (kY ks ob obK') (fS ks (Z ac) j) (kP ks ac j g)=X v:=by
 obtain⟨q,r⟩:=oD p;have e:∃hs,obK'[j]? =X hs/\hs[g]? =X v:=by
  unfold at' at y
  grind
 obtain⟨hs,i,s⟩:=e;by_cases d:j<Z ks
 .have a:=Ab d;have m:=q j _ a;have c:ks[j]<Z ob:=by rw[h.len];exact(Ad.1 (fQ m)).1
  have f:ob[ks[j]]? =X ob[ks[j]]:=Ab c;have hl:=h.histLen m f;have b:(fT 0 ob ac 0 ks)[j]? =X (kF 0 j (aE ac ks[j]) ob[ks[j]]):=by rw[iV,a];simp[f]
  obtain⟨hs',n,t,z⟩:=l j _ b;rw[i]at n;cases n;have u:Z (kF 0 j (aE ac ks[j]) ob[ks[j]])=1:=by rw[wC hl];simp
  have o:(kF 0 j (aE ac ks[j]) ob[ks[j]])[0]? =ob[ks[j]][iO (aE ac ks[j])]?:=B2 hl (by rw[pQ];simp);have k:(kY ks ob obK')[ks[j]]? =X (ob[ks[j]]++hs.drop 1):=by unfold kY;rw[Ai q_,Cd,Fb c];simp[aHg r a,f,i]
  rw[kC a,cN k];have x:kP ks ac j g=iO (aE ac ks[j])+g:=by simp[kP,qH,a]
  grind
 .have k:(kY ks ob obK')[Z ac+(j-Z ks)]? =X hs:=by unfold kY;rw[Au (by simp;rw[h.len];omega),Dm,<-i];congr 1;simp[h.len];omega
  rw[nE o_,cN k];simpa[kP,qH,Bp (show Z ks<=j by omega)]using s
def VO{M':Imm}{obK' f:Hs}{ks:a6}{base:Nat}{ac:aw}(m:∀{j g:Nat} {v:Value},at' obK' j g=X v->at' f (fS ks base j) (kP ks ac j g)=X v)
  (z:∀{j:Nat} {v:Value},at' obK' j 0=X v->(∃b,v= .pointer (X ⟨b,0,D⟩))\/(∃b,v= .map (X b))->at' f (fS ks base j) 0=X v):
  ∀(n:Nat) (v:Value) (a:aa),Rep M' obK' v a->Rep M' f v (embV ks base ac n a):=by
 intro n;induction n with
 | zero=>intro v a _;exact .undef v
 | succ n r=>
  intro v a d;have tok:∀{v:Value} {sz:Nat} {xs:az} {t:Tk},Rep M' obK' v (.slice sz xs t)->Rep M' f v (AW.embV ks base ac (n+1) (.slice sz xs t)):=by
   intro v sz xs t d;obtain⟨F,y⟩:=d.untok;have p:Rep M' f v (.slice sz xs .no):=F.slice_pure.pure;cases t with
   | no=>exact p
   | nil=>exact p.tok y
   | full=>exact p.tok y
   | own k g=>exact p.tok (show at' _ _ _=_ from m y)
  cases d with
  | undef v=>exact .undef v
  | bool b=>exact .bool b
  | int k n d=>exact .int k n d
  | str l hl=>exact .str l hl
  | agg vs as hl d=>
   obtain⟨h1,u⟩:=cQ (r) hl d;exact .agg vs _ h1 u
  | tup vs as hl d=>
   obtain⟨h1,u⟩:=cQ (r) hl d;exact .tup vs _ h1 u
  | ptr b o cs d=>exact .ptr b o cs d
  | ref k off b e=>exact .ref _ off b (z e (.inl ⟨b,rfl⟩))
  | eref k g i sz off b n c e=>exact .undef _
  | rowc k g c a n h hm=>exact .undef _
  | pre k g n c sz b len h q w hl hm=>exact .undef _
  | csl k off len sz b e hm=>exact .csl _ off len sz b (z e (.inl ⟨b,rfl⟩)) hm
  | row k g a n c e=>exact .row _ _ a n c (m e)
  | sub k g lo len sz b n c e hl w q hm=>exact .sub _ _ lo len sz b n c (m e) hl w q hm
  | sub0 k g lo sz a G n c e hl q=>exact .sub0 _ _ lo sz a G n c (m e) hl q
  | mref k b e=>exact .mref _ b (z e (.inr ⟨b,rfl⟩))
  | nilptr=>exact .nilptr
  | nilslice=>exact .nilslice
  | nilmap=>exact .nilmap
  | nilfunc=>exact .nilfunc
  | nilif=>exact .nilif
  | hsl a n c=>exact .hsl a n c
  | slnil sz t s=>exact tok (.slnil sz t s)
  | slemp sz t a cap s=>exact tok (.slemp sz t a cap s)
  | sl sz b o n cap xs t w q hm hz d s=>exact tok (.sl sz b o n cap xs t w q hm hz d s)
  | func fn B cs I H C q x A=>
   obtain⟨h1,u⟩:=cQ (r) C x;obtain⟨h3,Be⟩:=cQ (r) q A;exact .func fn B cs _ _ h1 h3 u Be
  | iface t v a d=>exact .iface t v _ (r v a d)
def Mem.embV(h:Mem M ob ac w){ks:a6}(r:kO ks ac=O)(m:dR (fT 0 ob ac 0 ks) obK')(B:Z (fT 0 ob ac 0 ks)=Z ks):∀(n:Nat) (v:Value) (a:aa),Rep M' obK' v a->
  Rep M' (kY ks ob obK') v (embV ks (Z ac) ac n a):=by
 have H:∀{j:Nat} {v:Value},at' obK' j 0=X v->(∃b,v= .pointer (X ⟨b,0,D⟩))\/(∃b,v= .map (X b))->at' (kY ks ob obK') (fS ks (Z ac) j) 0=X v:=by
  intro j v y hs;have:=h.embAt r m y;by_cases s:j<Z ks
  .have t:=Ab s;have o:iO (aE ac ks[j])=0:=by
    have A:=(oD r).1 j _ t;obtain⟨hs',C,d⟩:=h.obj _ _ (fQ A);have f:(fT 0 ob ac 0 ks)[j]? =X (kF 0 j (aE ac ks[j]) hs'):=by rw[iV,t];simp[C]
    have hl:=h.histLen A C;have p:(kF 0 j (aE ac ks[j]) hs')[0]? =hs'[iO (aE ac ks[j])]?:=B2 hl (by rw[pQ];simp);have c:at' (fT 0 ob ac 0 ks) j 0=X v:=by
     have Be:Z (kF 0 j (aE ac ks[j]) hs')=1:=by rw[wC hl];simp
     have z:=Ab (l:=kF 0 j (aE ac ks[j]) hs') (i:=0) o_;generalize (kF 0 j (aE ac ks[j]) hs')[0]=u at z;have:=m.at (ob:=fT 0 ob ac 0 ks) (k:=j) (g:=0) (v:=u) (by rw[cN f];exact z)
     grind[cN]
    rw[cN f,p]at c;cases o:aE ac ks[j]with
    | row g sz e xs=>
     rw[o]at d c;obtain⟨_,F,q,cv,G,_⟩:=d
     grind[eM]
    | tail g sz e=>
     rw[o]at d c;obtain⟨_,F,q,J,cv,G,_⟩:=d
     grind[eM]
    | bun g I=>
     rw[o]at d c;obtain⟨_,bs,q,_⟩:=d;simp only[iO]at c;rw[q]at c;cases c;rcases hs with⟨b,hs⟩|⟨b,hs⟩<;>cases hs
    | _=>rfl
   have x:kP ks ac j 0=0:=by simp[kP,qH,t,o]
   grind
  .have x:kP ks ac j 0=0:=by simp[kP,qH,Bp (show Z ks<=j by omega)]
   grind
 exact VO (λy=>h.embAt r m y) H
def Mem.emb(h:Mem M ob ac w){ks:a6}(hk:kO ks ac=O)(s:Ext M (fT 0 ob ac 0 ks) (iC 0 ks ac) w M' obK' ap w')(h':Mem M' obK' ap w'):
  Mem M' (kY ks ob obK') (iN ks (Z ac) ac 0 ap ac) w'/\Ext M ob ac w M' (kY ks ob obK') (iN ks (Z ac) ac 0 ap ac) w'/\∀(i:Nat) hs,ac[i]? =X .dead->ob[i]? =X hs->(iN ks (Z ac) ac 0 ap ac)[i]? =X .dead/\(kY ks ob obK')[i]? =X hs:=by
 obtain⟨k1,k2⟩:=oD hk;obtain⟨c1,c2,c3⟩:=h.cvt (n0:=0) hk;have hks:∀(j k:Nat),ks[j]? =X k->k<Z ac:=λj k B=>(Ad.1 (fQ (k1 j k B))).1;have hcl:Z (fT 0 ob ac 0 ks)=Z ks:=rW;have hm:Z ks<=Z ap:=by
  rcases Nat.eq_zero_or_pos (Z ks)with h0|h0
  .omega
  .have:(fT 0 ob ac 0 ks)[Z ks-1]? =X (fT 0 ob ac 0 ks)[Z ks-1]:=Ab o_;obtain⟨hs',e,_⟩:=s.hs _ _ this;have:=(Ad.1 e).1;rw[h'.len]at this;omega
 obtain⟨s1,s2,s3⟩:=aEx (base:=Z ac) (ac:=ac) k2 hks ap 0 ac s_;simp only[Bv]at s1 s2 s3;have hEl:Z (kY ks ob obK')=Z ac+(Z ap-Z ks):=by unfold kY;simp[h.len,h'.len]
 have cls:∀{i:Nat},i<Z (iN ks (Z ac) ac 0 ap ac)->(∃j,j<Z ap/\i=fS ks (Z ac) j)\/(i<Z ac/\(∀j,j<Z ap->fS ks (Z ac) j≠i)):=by
  intro i H;rw[s1]at H;by_cases S:i<Z ac
  .grind
  .refine .inl ⟨Z ks+(i-Z ac),by omega,?_⟩;rw[nE o_];omega
 have V:∀{i:Nat},i<Z ac->(∀j,j<Z ap->fS ks (Z ac) j≠i)->(iN ks (Z ac) ac 0 ap ac)[i]? =ac[i]?/\(kY ks ob obK')[i]? =ob[i]?:=by
  intro i H a;refine⟨s3 i a H,?_⟩;have hib:i<Z ob:=by rw[h.len];exact H
  have hp:pos i 0 ks=none:=by
   cases hq:pos i 0 ks with
   | none=>rfl
   | some j=>
    have:=aBo hq;exact bv (kC this) (a j (by have:=(Ad.1 this).1;omega))
  unfold kY
  grind[Ai,Fb,Ab]
 have An:∀{j:Nat} {o:ab},ap[j]? =X o->∃hs hs',obK'[j]? =X hs/\iY M' obK' w' hs o/\(iN ks (Z ac) ac 0 ap ac)[fS ks (Z ac) j]? =X (vZ ks (Z ac) ac j o)/\(kY ks ob obK')[fS ks (Z ac) j]? =X hs'/\
   Z hs'=(match ks[j]? with|some k=>iO (aE ac k)|none=>0)+Z hs/\(o.owns=O->blk hs'=blk hs)/\(∀(g:Nat) v,hs[g]? =X v->hs'[kP ks ac j g]? =X v):=by
  intro j o B;obtain⟨hs,F,m⟩:=h'.obj j o B;have hat:∀(g:Nat) v,hs[g]? =X v->at' (kY ks ob obK') (fS ks (Z ac) j) (kP ks ac j g)=X v:=λg v hg=>h.embAt hk s.hs (by rw[cN F];exact hg);by_cases S:j<Z ks
  .have W:=Ab S;have At:=k1 j _ W;have hko:ks[j]<Z ob:=by rw[h.len];exact(Ad.1 (fQ At)).1
   have Y:ob[ks[j]]? =X ob[ks[j]]:=Ab hko;have hl:=h.histLen At Y;have N:(fT 0 ob ac 0 ks)[j]? =X (kF 0 j (aE ac ks[j]) ob[ks[j]]):=by rw[iV,W];simp[Y]
   obtain⟨Be,G,t,Am⟩:=s.hs j _ N;rw[F]at G;cases G;have hc1:Z (kF 0 j (aE ac ks[j]) ob[ks[j]])=1:=by rw[wC hl];simp
   have hpos:1<=Z hs:=by rw[<-Am];simp;omega
   have eE:(kY ks ob obK')[ks[j]]? =X (ob[ks[j]]++hs.drop 1):=by unfold kY;rw[Ai q_,Cd,Fb hko];simp[aHg k2 W,Y,F]
   refine⟨hs,_,F,m,s2 j o B,by rw[kC W];exact eE,by rw[W];simp;omega,λ_=>?_,λg v hg=>?_⟩
   .unfold blk;rw[List.getLast?_append];by_cases h2:1<Z hs
    .grind
    .have:hs.drop 1=[]:=List.drop_eq_nil_of_le o_;rw[this];simp only[List.getLast?_nil,Option.none_or];have h1l:Z hs=1:=o_;have ht:t=[]:=by grind
     grind[DL]
   grind[kC,cN]
  .have hjl:j<Z obK':=(Ad.1 F).1;have eE:(kY ks ob obK')[Z ac+(j-Z ks)]? =X hs:=by unfold kY;rw[Au (by simp;rw[h.len];omega),Dm,<-F];congr 1;simp[h.len];omega
   refine⟨hs,hs,F,m,s2 j o B,by rw[nE o_];exact eE,by rw[Bp o_];simp,λ_=>rfl,λg v hg=>?_⟩;simpa[kP,qH,Bp (show Z ks<=j by omega)]using hg
 have ownsE:∀j o,(vZ ks (Z ac) ac j o).owns=o.owns:=λj o=>by cases o<;>rfl
 have l:∀{i b:Nat},aM (kY ks ob obK') (iN ks (Z ac) ac 0 ap ac) i b->(∃j,i=fS ks (Z ac) j/\aM obK' ap j b)\/((∀j,j<Z ap->fS ks (Z ac) j≠i)/\aM ob ac i b):=by
  rintro i b ⟨c,hs,G,Am,e3,e4⟩;rcases cls (Ad.1 G).1 with⟨j,B,rfl⟩|⟨H,a⟩
  .obtain ⟨J,Be,g1,A,g3,g4,_,g5,_⟩:=An (Ab B)
   grind[dE,Ab]
  .obtain ⟨o1,o2⟩:=V H a;rw[o1]at G;rw[o2]at e3;exact .inr ⟨a,c,hs,G,Am,e3,e4⟩
 have hle:dR ob (kY ks ob obK'):=by
  intro i hs H;have hib:=(Ad.1 H).1;cases hq:pos i 0 ks with
  | none=>
   refine⟨hs,?_,Ct _⟩;unfold kY
   grind[Ai,Fb]
  | some j=>
   refine⟨hs++(obK'.getD j []).drop 1,?_,⟨_,rfl⟩⟩;unfold kY
   grind[Ai,Fb]
 have d:∀{i b:Nat},(∀j,j<Z ap->fS ks (Z ac) j≠i)->aM ob ac i b->(∀j,¬ aM (fT 0 ob ac 0 ks) (iC 0 ks ac) j b)/\b<w.heap.size:=by intro i b a n;refine⟨λj B=>?_,h.lt i b n⟩;obtain⟨k,hk',ha'⟩:=c2 j b B;have:=h.inj i k b n ha';subst this;exact a j (by have:=(Ad.1 hk').1;omega) (kC hk')
 refine⟨⟨h'.imm,by rw[hEl,s1],λi c r=>?_,λi b n=>?_,λi i' b n hb=>?_⟩,⟨s.imm,λb o y hy=>?_,hle,s.os,s.tape,s.output,s.size,λb hb hn=>s.keep b hb λj B=>?_,λi b n=>?_⟩,λi hs hd F=>?_⟩
 .rcases cls (Ad.1 r).1 with⟨j,B,rfl⟩|⟨H,a⟩
  .obtain ⟨J,Be,g1,A,g3,g4,g5,g6,g7⟩:=An (Ab B);rw[g3]at r;cases r;refine⟨Be,g4,?_⟩;have one0:∀{p:Value},J=[p]->Z J=1->(match ks[j]? with|some k=>iO (aE ac k)|none=>0)=0\/True:=λ_ _=>.inr trivial;have single:∀{b:Nat} {p:Value},J=[p]->((∃q,p= .pointer (X ⟨q,0,D⟩))\/(∃q,p= .map (X q)))->Be=[p]:=by
    intro b p e hp;have hcur:(match ks[j]? with|some k=>iO (aE ac k)|none=>0)=0:=by
     cases hq:ks[j]? with
     | none=>rfl
     | some k=>
      have C:=g7 0 p (by rw[e];rfl);have At:=k1 j k hq;obtain⟨Q,hhk,m⟩:=h.obj k _ (fQ At);have hl:=h.histLen At hhk;have N:(fT 0 ob ac 0 ks)[j]? =X (kF 0 j (aE ac k) Q):=by rw[iV,hq];simp[hhk]
      obtain⟨hs3,G,t,Am⟩:=s.hs j _ N;rw[g1]at G;cases G;have hc1:Z (kF 0 j (aE ac k) Q)=1:=by rw[wC hl];simp
      have hc0:(kF 0 j (aE ac k) Q)[0]? =Q[iO (aE ac k)]?:=B2 hl (by rw[pQ];simp);have f:Q[iO (aE ac k)]? =X p:=by grind[Ai]
      show iO (aE ac k)=0;cases r:aE ac k with
      | row g sz e xs=>
       rw[r]at m f;obtain⟨_,v',u,cv,K,_⟩:=m
       grind[eM]
      | tail g sz e=>
       rw[r]at m f;obtain⟨_,v',u,n',cv,K,_⟩:=m
       grind[eM]
      | bun g I=>
       rw[r]at m f;obtain⟨_,bs,u,_⟩:=m;simp only[iO]at f;rw[u]at f;cases f;rcases hp with⟨b,hp⟩|⟨b,hp⟩<;>cases hp
      | _=>rfl
    rw[hcur,e]at g5;have C:=g7 0 p (by rw[e];rfl);have hG:kP ks ac j 0=0:=by unfold kP;rw[qH];omega
    rw[hG]at C
    match Be,g5,C with
    | [x],_,C=>simp at C;rw[C]
   have z:∀g,Z J=g+1->Z Be=kP ks ac j g+1:=λg hg=>by
    rw[g5,hg];unfold kP
    grind[qH]
   cases r:ap[j]with
   | dead=>exact trivial
   | cells T cs=>
    rw[r]at A;obtain⟨b,rfl,P,cv,u,K,a4,a5⟩:=A;obtain⟨m1,m2⟩:=cQ (h.embV (M':=M') hk s.hs hcl 4) K a5;exact⟨b,single (b:=b) rfl (.inl ⟨b,rfl⟩),P,cv,u,m1,a4,m2⟩
   | fcells cs=>
    rw[r]at A;obtain⟨b,rfl,P⟩:=A;exact⟨b,single (b:=b) rfl (.inl ⟨b,rfl⟩),P⟩
   | row g sz e xs=>
    rw[r]at A;obtain⟨P,v,u,K⟩:=A;exact⟨z g P,v,g7 g v u,K⟩
   | frow g sz xs=>
    rw[r]at A;obtain⟨v,u,K⟩:=A;exact⟨v,g7 g v u,K⟩
   | tail g sz e=>
    rw[r]at A;obtain⟨P,v,u,K⟩:=A;exact⟨z g P,v,g7 g v u,K⟩
   | mp ag es=>
    rw[r]at A;obtain⟨b,rfl,P,u⟩:=A;exact⟨b,single (b:=b) rfl (.inr ⟨b,rfl⟩),P,u⟩
   | bun g I=>
    rw[r]at A;obtain⟨P,v,u,K⟩:=A;exact⟨z g P,v,g7 g _ u,K⟩
  .obtain ⟨o1,o2⟩:=V H a;rw[o1]at r;obtain⟨hs,F,m⟩:=h.obj i c r;refine⟨hs,by rw[o2];exact F,m.mono s.imm hle (λb p1 p2 o hno y hy=>?_) (λb c' p1 p2 hc'=>?_)⟩
   .obtain ⟨n1,n2⟩:=d a ((dE r F).2 ⟨p1,p2⟩);rcases s.new b o y hy with q|q|⟨j,q⟩
    .exact hno y q
    .omega
    .exact n1 j q
   .obtain ⟨n1,n2⟩:=d a ((dE r F).2 ⟨p1,p2⟩);rw[s.keep b n2 n1];exact hc'
 .rcases l n with⟨j,_,n⟩|⟨_,n⟩
  .exact h'.lt j b n
  .exact Ew (h.lt i b n) s.size
 .have R:∀{i j:Nat},(∀j,j<Z ap->fS ks (Z ac) j≠i)->aM ob ac i b->aM obK' ap j b->False:=by
   intro i j a n hb;obtain⟨n1,n2⟩:=d a n;rcases s.fresh j b hb with⟨j',q⟩|q
   .exact n1 j' q
   .omega
  rcases l n with⟨j,G,As⟩|⟨a,As⟩<;>rcases l hb with⟨j',Am,L⟩|⟨hne',L⟩
  .rw [G,Am,h'.inj j j' b As L]
  .exact (R hne' L As).elim
  .exact (R a As L).elim
  .exact h.inj i i' b As L
 .rcases s.new b o y hy with q|q|⟨j,q⟩
  .exact .inl q
  .omega
  grind
 .obtain ⟨k,_,n⟩:=c2 j b B;exact hn k n
 .rcases l n with⟨j,_,n⟩|⟨_,n⟩
  .rcases s.fresh j b n with⟨j',q⟩|q
   .grind
   omega
  .exact .inl ⟨i,n⟩
 .have H:=(Ad.1 hd).1;have a:∀j,j<Z ap->fS ks (Z ac) j≠i:=by
   intro j B e;by_cases S:j<Z ks
   .have W:=Ab S;rw[kC W]at e;have At:=k1 j _ W;rw[e,iE hd]at At;cases At
   .rw [nE o_]at e;omega
  grind
end
section
variable {M M':Imm} {ob ob':Hs} {ac obs1 obs1' ap:aw} {w w':World}
def aAq(obs1 ac:aw):Prop:=Z obs1=Z ac/\∀(k:Nat),obs1[k]? =ac[k]?\/obs1[k]? =X .dead
def aAq.alive(h:aAq obs1 ac){k b:Nat}(e:aM ob obs1 k b):aM ob ac k b:=by
 obtain⟨c,hs,a,d,g,f⟩:=e;rcases h.2 k with q|q
 .rw [q]at a;exact⟨c,hs,a,d,g,f⟩
 .rw [q]at a;cases a;cases d
def Mem.weak(h:Mem M ob ac w)(a:aAq obs1 ac):Mem M ob obs1 w:=by
 refine⟨h.imm,h.len.trans a.1.symm,λk c d=>?_,λk b f=>h.lt k b (a.alive f),λi j b f g=>h.inj i j b (a.alive f) (a.alive g)⟩;rcases a.2 k with q|q
 .rw [q]at d;exact h.obj k c d
 .rw [q]at d;cases d;have e:k<Z ob:=by rw[h.len,<-a.1];grind
  exact⟨ob[k],Ab e,trivial⟩
def Mem.revive(h:Mem M ob ac w)(v:aAq obs1 ac)(d:Ext M ob obs1 w M' ob' obs1' w')(hs:dB ob obs1 ob' obs1')(z:Mem M' ob' obs1' w')(hl:Z ap=Z obs1')
  (F:∀(k:Nat) c,ap[k]? =X c->obs1'[k]? =X c\/(obs1[k]? =X .dead/\(∃hs,ob[k]? =X hs/\hs≠[])/\ac[k]? =X c)):
  Mem M' ob' ap w'/\Ext M ob ac w M' ob' ap w'/\dB ob ac ob' ap:=by
 have a:∀{k b:Nat},aM ob' ap k b->aM ob' obs1' k b\/(obs1[k]? =X .dead/\aM ob ac k b):=by
  rintro k b ⟨c,hs',u,C,As,N⟩;rcases F k c u with q|⟨m,⟨f,n,A⟩,x⟩
  .exact .inl ⟨c,hs',q,C,As,N⟩
  .have:=((hs k f m n).1 A).2;rw[As]at this;cases this;exact .inr ⟨m,c,hs',x,C,n,N⟩
 have g:∀{k b:Nat},obs1[k]? =X .dead->aM ob ac k b->∀j,¬ aM ob obs1 j b:=by intro k b Q e j B;have:=h.inj k j b e (v.alive B);subst this;obtain⟨c,_,u,C,_⟩:=B;rw[Q]at u;cases u;cases C
 refine⟨⟨z.imm,z.len.trans hl.symm,λk c W=>?_,λk b e=>?_,λi j b e H=>?_⟩,⟨d.imm,λb o y G=>?_,d.hs,d.os,d.tape,d.output,d.size,λb H S=>d.keep b H λj B=>S j (v.alive B),λk b e=>?_⟩,λk hs' h1 P=>⟨λh3=>?_,λh3 At=>?_⟩⟩
 .rcases F k c W with q|⟨m,⟨f,n,A⟩,x⟩
  .exact z.obj k c q
  .obtain ⟨R,u,I⟩:=h.obj k c x;rw[n]at u;cases u;refine⟨f,((hs k f m n).1 A).2,I.mono d.imm d.hs (λb K L o J y G=>?_) (λb Am K L Be=>?_)⟩
   .have e:aM ob ac k b:=(dE x n).2 ⟨K,L⟩;rcases d.new b o y G with q|q|⟨j,q⟩
    .exact J y q
    .have:=h.lt k b e;omega
    .exact g m e j q
   .have e:aM ob ac k b:=(dE x n).2 ⟨K,L⟩;rw[d.keep b (h.lt k b e) (g m e)];exact Be
 .rcases a e with q|⟨_,q⟩
  .exact z.lt k b q
  .exact Ew (h.lt k b q) d.size
 .have l:∀{i j:Nat},aM ob' obs1' i b->obs1[j]? =X .dead->aM ob ac j b->False:=λ{i j} p q r=>by
   rcases d.fresh i b p with⟨T,t⟩|t
   .exact g q r T t
   .have:=h.lt j b r;omega
  rcases a e with q|⟨m,q⟩<;>rcases a H with r|⟨V,r⟩
  .exact z.inj i j b q r
  .exact (l q V r).elim
  .exact (l r m q).elim
  .exact h.inj i j b q r
 .rcases d.new b o y G with q|q|⟨j,q⟩
  .exact .inl q
  .omega
  .exact .inr (.inr ⟨j,v.alive q⟩)
 .rcases a e with q|⟨_,q⟩
  .rcases d.fresh k b q with⟨j,t⟩|t
   .exact .inl ⟨j,v.alive t⟩
   omega
  .exact .inl ⟨k,q⟩
 .have s:obs1[k]? =X .dead:=by
   rcases v.2 k with q|q
   .grind
   .exact q
  obtain⟨An,Y⟩:=(hs k hs' s P).1 h3
  grind[Ad,Ab]
 .have s:obs1[k]? =X .dead:=by
   rcases v.2 k with q|q
   .grind
   .exact q
  rcases F k _ At with q|⟨_,⟨f,n,A⟩,_⟩
  .exact (hs k hs' s P).2 h3 q
  grind
end
def aP(P:Program)(t:TypeId):Bool:=match P.underlying t with|X (.struct _)|some (.array _ _)=>O|_=>U
def sB(P:Program):List Field->List (Nat×Nat×Bool)->Prop
 | [],[]=>True
 | f::fs,(off,sz,ag)::r=>f.offset=off/\(P.info? f.type).map (·.size)=X sz/\(P.underlying f.type).isSome=O/\aP P f.type=ag/\sB P fs r
 | _,_=>False
def zZ(P:Program)(t:Nat)(a:Bool)(size:Nat):TK->Prop
 | .int k=>P.underlying t=X (.int k)/\a=U/\size=1
 | .bool=>P.underlying t=X .bool/\a=U/\size=1
 | .str=>P.underlying t=X .string/\a=U/\size=1
 | .strct g=>(∃c,P.underlying t=X (.struct c)/\sB P c.toList g)/\a=O
 | .arr n b h=>(∃e,P.underlying t=X (.array n e)/\(P.info? e).map (·.size)=X b/\(P.underlying e).isSome=O/\aP P e=h)/\a=O
 | .slc e b j=>(P.underlying t=X (.slice e)/\∃i z,P.info? e=X i/\i.size=b/\i.bytes=j/\i.zero=X z/\z.cells.size=b/\z.cells.toList.all (·.oneCell')=O)/\a=U/\size=1
 | .ptr e=>P.underlying t=X (.pointer e)/\a=U/\size=1
 | .iface=>(∃f,P.underlying t=X (.interface f))/\a=U/\size=1
 | .mp k e=>P.underlying t=X (.map k e)/\a=U/\size=1
 | .other=>(∃d,P.underlying t=X d/\(∀f,d≠ .interface f))/\aP P t=a
structure TIOK(P:Program)(t:Nat)(ti:TI):Prop where
 info:∃i z,P.info? t=X i/\i.size=ti.size/\i.zero=X z/\z.cells.size=ti.size/\Rep (λ_ _ _=>False) [] z ti.zero/\z.cells.toList.all (·.oneCell')=O/\ti.zero≠ .undef
 kind:zZ P t ti.agg ti.size ti.kind
def aRP(P:Program)(t n:Nat):Prop:=∀(w:World) (x y:Operand) (xs ys:az) (vs us:bb) (c:Bool),ceq xs ys=X c->Z xs=n->
 cV (λ_ _ _=>False) [] vs xs->cV (λ_ _ _=>False) [] us ys->
 (∀op,(eqGuard op t x y (.agg vs.toArray) (.agg us.toArray)).run P w= .ok () w)/\(Op.equal t (.agg vs.toArray) (.agg us.toArray)).run P w= .ok c w
def RF(P:Program)(t n:Nat):Prop:=∀(w:World) (a b:ax),Z a=n->Z b=n->(Op.equal t (iH O a) (iH O b)).run P w= .ok (decide (a=b)) w/\∀c,(Go.Instr.checkKey c 10000 t (iH O a)).run P w= .ok () w
def aAu(P:Program)(t n:Nat):Prop:=aRP P t n/\RF P t n
structure ae(E:Env):Prop where
 mix:E.P.follows .mixedOrders=O
 tab:∀t ti,dO E.T t=X ti->TIOK E.P t ti
 mth:∀t name g,aHT E.mt t name=X g->∀v w,(method (E.P.types.size+Made.depth) t v name).run E.P w= .ok (g,v) w
 fl:∀t,0<E3 E.fl t->aAu E.P t (E3 E.fl t)
def zZ.isAgg{P:Program}{t:Nat}{g:Bool}{size:Nat}{k:TK}(h:zZ P t g size k):(P.underlying t).isSome=O/\aP P t=g:=by
 cases k with
 | strct j=>obtain⟨⟨f,h1,_⟩,c⟩:=h;simp[aP,h1,c]
 | arr n i l=>obtain⟨⟨f,h1,_⟩,c⟩:=h;simp[aP,h1,c]
 | slc e a b=>obtain⟨⟨h1,_⟩,c,_⟩:=h;simp[aP,h1,c]
 | iface=>obtain⟨⟨m,h1⟩,c,_⟩:=h;simp[aP,h1,c]
 | other=>obtain⟨⟨d,h1,_⟩,c⟩:=h;grind
 | _=>obtain⟨h1,c,_⟩:=h;simp[aP,h1,c]
def CL{P:Program}{t:Nat}(h:(P.underlying t).isSome=O)(w:World):(isAgg t).run P w= .ok (aP P t) w:=by obtain⟨d,a⟩:=Option.isSome_iff_exists.1 h;unfold isAgg;simp only[Bd,run_underlying a,Ar,aP,a];cases d<;>rfl
def af{P:Program}{t:Nat}{s:Nat}(h:(P.info? t).map (·.size)=X s)(w:World):(sizeOf t).run P w= .ok s w:=by obtain⟨i,a,rfl⟩:=Cg.1 h;simp[sizeOf,typeInfo,a]
def TIOK.size?{P:Program}{t:Nat}{a:TI}(h:TIOK P t a):(P.info? t).map (·.size)=X a.size:=by
 obtain⟨i,z,c,b,_⟩:=h.info
 grind
def sB.get{P:Program}:∀{a:List Field} {b:List (Nat×Nat×Bool)},sB P a b->∀{i:Nat} {off sz:Nat} {c:Bool},nth b i=X (off,sz,c)->
  ∃f,a[i]? =X f/\f.offset=off/\(P.info? f.type).map (·.size)=X sz/\(P.underlying f.type).isSome=O/\aP P f.type=c
 | [],[],_,i,_,_,_,hn=>by cases i<;>cases hn
 | [],_::_,h,_,_,_,_,_=>h.elim
 | _::_,[],h,_,_,_,_,_=>h.elim
 | f::a,(off',sz',ag')::b,h,i,off,sz,c,hn=>by
  obtain⟨h1,e,h3,d,j⟩:=h;cases i with
  | zero=>cases hn;exact⟨f,rfl,h1,e,h3,d⟩
  | succ i=>
   obtain⟨g,k,r⟩:=j.get (show nth b i=_ from hn);exact⟨g,by simp;omega,r⟩
def lV{M:Imm}{ob:Hs}{z:Value}{a:aa}(h:Rep (λ_ _ _=>False) [] z a):Rep M ob z a:=h.mono (λ_ _ _ h=>h.elim) (IT ob)
def Sd(VS:aa->aw->Prop)(CS:Fn->az->Prop)(PS:aa->Prop)(ac:aw)(base:Nat):OR->Prop
 | .no=>True
 | .val v=>VS v ac
 | .mkf fn d cs=>VS (.func fn d cs) ac
 | .need p r=>p->Sd VS CS PS ac base r
 | .alt p v w=>(p->VS v ac)/\VS w ac
 | .idx n f=>∀i:Nat,n=(i:Int)->Sd VS CS PS ac base (f i)
 | .elem xs i f=>∀x,xs[i]? =X x->Sd VS CS PS ac base (f x)
 | .byte l i=>∀c,l[i]? =X c->VS (.int .u8 (c.toNat:Int)) ac
 | .text xs=>∀l:ay,xs=l.map ub->(Z l:Int)<=9223372036854775807->VS (.str l) ac
 | .find es key f=>Sd VS CS PS ac base (f (cE es key))
 | .born x v=>VS v (bU ac base x)
 | .upd k x v=>VS v (bU ac k x)
 | .nilq xs a=>∃b:Bool,(b=O->xs=[])/\VS (.bool (if a then !b else b)) ac
 | .call f args=>CS f args
 | .pan v=>PS v
def Sd.mono{VS e:aa->aw->Prop}{CS g:Fn->az->Prop}{PS d:aa->Prop}{ac:aw}{base:Nat}(h1:∀v o,VS v o->e v o)(j:∀f a,CS f a->g f a)(h3:∀v,PS v->d v):
  ∀{r:OR},Sd VS CS PS ac base r->Sd e g d ac base r
 | .no,_=>trivial
 | .val v,h=>h1 _ _ h
 | .mkf fn fs cs,h=>h1 _ _ h
 | .need p r,h=>λhp=>Sd.mono h1 j h3 (h hp)
 | .alt p v w,h=>⟨λhp=>h1 _ _ (h.1 hp),h1 _ _ h.2⟩
 | .idx n f,h=>λi q=>Sd.mono h1 j h3 (h i q)
 | .elem xs i f,h=>λx s=>Sd.mono h1 j h3 (h x s)
 | .byte l i,h=>λc t=>h1 _ _ (h c t)
 | .text xs,h=>λl hl m=>h1 _ _ (h l hl m)
 | .find es key f,h=>Sd.mono (r:=f (cE es key)) h1 j h3 h
 | .born x v,h=>h1 _ _ h
 | .upd k x v,h=>h1 _ _ h
 | .nilq xs neg,⟨b,m,h⟩=>⟨b,m,h1 _ _ h⟩
 | .call f args,h=>j _ _ h
 | .pan v,h=>h3 _ h
def PV(P:Program)(M:Imm)(ob:Hs)(w:World)(s:Sem Value)(ac:aw)(v:aa)(o:aw):Prop:=o=ac/\∃u,s.run P w= .ok u w/\Rep M ob u v
abbrev PS0(P:Program)(M:Imm)(ob:Hs)(w:World)(s:Sem Value)(ac:aw)(base:Nat)(r:OR):Prop:=Sd (PV P M ob w s ac) (λ_ _=>False) (λ_=>False) ac base r
def PS0.bind{P:Program}{M:Imm}{ob:Hs}{w:World}{s:Sem Value}{ac:aw}{base:Nat}{f:aa->aa}(a:∀v u,Rep M ob u v->Rep M ob u (f v)):∀{r:OR},PS0 P M ob w s ac base r->PS0 P M ob w s ac base (r.bind λv=>.val (f v))
 | .no,_=>trivial
 | .val v,⟨h1,u,h2,h3⟩=>⟨h1,u,h2,a _ _ h3⟩
 | .mkf fn fs cs,_=>trivial
 | .need p r,h=>λhp=>PS0.bind a (r:=r) (h hp)
 | .alt p v w,_=>trivial
 | .idx n f',h=>λi b=>PS0.bind a (r:=f' i) (h i b)
 | .elem xs i f',h=>λx c=>PS0.bind a (r:=f' x) (h x c)
 | .byte l i,_=>trivial
 | .text xs,_=>trivial
 | .find es key f',_=>trivial
 | .born x v,_=>trivial
 | .upd k x v,_=>trivial
 | .nilq xs neg,_=>trivial
 | .call f' args,_=>trivial
 | .pan v,_=>trivial
structure VS1(P:Program)(ρv:Operand->Value)(op:Op)(ty:TypeId)(M:Imm)(ob:Hs)(ac:aw)(w:World)(v:aa)(ap:aw)(u:Value)(w':World)(M':Imm)(ob':Hs):Prop where
 run:∀d pos after g,(execOp ρv ⟨d,op,ty,pos,after,g⟩).run P w= .ok (.value u) w'\/((execOp ρv ⟨d,op,ty,pos,after,g⟩).run P w= .ok .skip w'/\u=undef)
 ext:Ext M ob ac w M' ob' ap w'
 mem:Mem M' ob' ap w'
 still:dB ob ac ob' ap
 rep:Rep M' ob' u v
def VS(P:Program)(ρv:Operand->Value)(op:Op)(ty:TypeId)(M:Imm)(ob:Hs)(ac:aw)(w:World)(v:aa)(ap:aw):Prop:=∃u w' M' ob',VS1 P ρv op ty M ob ac w v ap u w' M' ob'
def CS(P:Program)(ρv:Operand->Value)(op:Op)(ty:TypeId)(M:Imm)(ob:Hs)(w:World)(f:Fn)(args:az):Prop:=
 ∃b:bb,cV M ob b args/\∀d pos a g,(execOp ρv ⟨d,op,ty,pos,a,g⟩).run P w=(JV f b.toArray).run P w
def PS(P:Program)(ρv:Operand->Value)(op:Op)(ty:TypeId)(M:Imm)(w:World)(v:aa):Prop:=
 ∃u,(∀d pos a g,(execOp ρv ⟨d,op,ty,pos,a,g⟩).run P w= .halt (.panic u) w)/\Rep M [] u v
abbrev cW(P:Program)(ρv:Operand->Value)(op:Op)(ty:TypeId)(M:Imm)(ob:Hs)(ac:aw)(w:World)(base:Nat)(r:OR):Prop:=
 Sd (VS P ρv op ty M ob ac w) (CS P ρv op ty M ob w) (PS P ρv op ty M w) ac base r
def cW.pv{P:Program}{ρv:Operand->Value}{op:Op}{ty:TypeId}{M:Imm}{ob:Hs}{ac:aw}{w:World}{base:Nat}{r:OR}{s:Sem Value}(hm:Mem M ob ac w)
  (c:∀d pos a g,execOp ρv ⟨d,op,ty,pos,a,g⟩=(s >>= λv=>Pure.pure (.value v))) (h:PS0 P M ob w s ac base r):cW P ρv op ty M ob ac w base r:=
 Sd.mono (λv o ⟨h1,u,b,h3⟩=>⟨u,w,M,ob,λd pos a g=>.inl (by simp_all),h1▸Ext.refl _ _ _ _,h1▸hm,h1▸dB.refl _ _,h3⟩) (λ_ _ h=>h.elim) (λ_ h=>h.elim) h
def aD9{k:IntKind}{n:Int}(h:aMF k n=O):inR k n:=by
 unfold aMF at h;split at h
 .rename_i m;have:=Co h;rw[show Int.ofNat m=(m:Int)from rfl];constructor
  .cases k<;>simp only[bS]<;>omega
  .cases k<;>simp only[aOC,aX]at * <;>omega
 .rename_i m;have:m<aH9 k:=by simp_all
  constructor
  .cases k<;>simp only[aH9,bS]at * <;>omega
  .cases k<;>simp only[aX]<;>omega
def aMo(l:ay):aH0 l=Z l:=by
 induction l with
 | nil=>rfl
 | cons c r a=>simp[aH0,a]
theorem lW{k:IntKind}{n:Int}(h:inR k n):k.wrap n=n:=by unfold inR bS aX at h;unfold IntKind.wrap;cases k<;>simp only[IntKind.bits,IntKind.signed]at * <;>simp at * <;>omega
def jY(k:IntKind)(n:Int):inR k (k.wrap n):=by unfold inR bS aX IntKind.wrap;cases k<;>simp only[IntKind.bits,IntKind.signed]<;>simp<;>(try split)<;>omega
def aIg{k:IntKind}{x y:Int}(h:inR k x):inR k (x.tmod y):=by
 obtain⟨h1,g⟩:=h;have f:bS k<=0:=by cases k<;>decide
 have d:0<=aX k:=by cases k<;>decide
 by_cases c:0<=x
 .have a:=Na y c;have b:x.tmod y<=x:=by have:=Int.natAbs_tmod x y;have:=Lk x.natAbs y.natAbs;omega
  exact⟨by omega,by omega⟩
 .have e:x.tmod y= -((-x).tmod y):=by simp
  have a:=Na y (show 0<= -x by omega);have b:(-x).tmod y<= -x:=by have:=Int.natAbs_tmod (-x) y;have:=Lk (-x).natAbs y.natAbs;omega
  exact⟨by omega,by omega⟩
def aIh{k:IntKind}{x:Int}(p:Nat)(h:inR k x):inR k (x.fdiv (2 ^ p)):=by
 obtain⟨h1,d⟩:=h;have c:bS k<=0:=by cases k<;>decide
 have b:0<=aX k:=by cases k<;>decide
 have hp:(0:Int)<2 ^ p:=Int.pow_pos d_;have a:(1:Int)<=2 ^ p:=o_;rw[Int.fdiv_eq_ediv_of_nonneg _ o_];generalize (2:Int) ^ p=q at hp a;constructor
 .refine Int.le_ediv_of_mul_le hp ?_;have:bS k*q<=bS k*1:=Int.mul_le_mul_of_nonpos_left c a;omega
 .refine Int.ediv_le_of_le_mul hp ?_;have:aX k*1<=aX k*q:=Int.mul_le_mul_of_nonneg_left a b;omega
def BK{k a:IntKind}(h:aIc k a=O):k=a:=by cases k<;>cases a<;>first|rfl|cases h
def sdc{VS:aa->aw->Prop}{CS:Fn->az->Prop}{PS:aa->Prop}{ac:aw}{base:Nat}{b:Bool}{r:OR}(h:b=O->Sd VS CS PS ac base r):Sd VS CS PS ac base (bif b then r else .no):=by
 cases b with
 | true=>exact h rfl
 | false=>exact trivial
section
variable {P:Program} {E:Env} {M:Imm} {ob:Hs} {ac:aw} {w:World} {base:Nat}
def rV(v:Value):Rep M ob v (aNQ v):=by
 unfold aNQ;split
 .exact .bool _
 .rename_i k n;cases h:aMF k n with
  | true=>exact .int _ _ (aD9 h)
  | false=>exact .undef _
 .rename_i s;cases h:Gc (aH0 s.data.toList) 1000000 with
  | true=>
   have:=Co h;rw[aMo]at this;obtain⟨⟨l⟩⟩:=s;exact .str l (by grind)
  | false=>exact .undef _
 .exact .nilslice
 .exact .nilptr
 .exact .nilmap
 .exact .nilfunc
 .exact .nilif
 .exact .undef _
def JF{op:BinOp}{t:TypeId}{k:IntKind}{x y n:Int}(a:(binOp op t (.int k x) (.int k y)).run P w= .ok (.int k (k.wrap n)) w):
  PS0 P M ob w (binOp op t (.int k x) (.int k y)) ac base (JG k n):=
 ⟨λhp=>⟨rfl,_,by rw[a,lW hp],.int _ _ hp⟩,rfl,_,a,.int _ _ (jY _ _)⟩
def aRc{op:BinOp}{t:TypeId}{k:IntKind}{x y:Int}(g:inR k x):PS0 P M ob w (binOp op t (.int k x) (.int k y)) ac base (aTc op k x y):=by
 have c:∀{op:BinOp} {n:Int},(binOp op t (.int k x) (.int k y)).run P w= .ok (.int k n) w->inR k n->PS0 P M ob w (binOp op t (.int k x) (.int k y)) ac base (.val (.int k n)):=λh1 h=>⟨rfl,_,h1,.int _ _ h⟩
 have a:∀{op:BinOp} {b:Bool},(binOp op t (.int k x) (.int k y)).run P w= .ok (.bool b) w->PS0 P M ob w (binOp op t (.int k x) (.int k y)) ac base (.val (.bool b)):=λh1=>⟨rfl,_,h1,.bool _⟩
 have d:∀op,inR k (dL op k x y):=λop=>by unfold dL;cases op<;>exact jY _ _
 cases op with
 | add=>exact JF (by rw[binOp_add];rfl)
 | sub=>exact JF (by rw[binOp_sub];rfl)
 | mul=>exact JF (by rw[binOp_mul];rfl)
 | quo=>
  intro f;have e:(binOp .quo t (.int k x) (.int k y)).run P w= .ok (.int k (k.wrap (x.tdiv y))) w:=by rw[binOp_quo];simp only[Op.intDiv,bt f];rfl
  exact⟨λhp=>⟨rfl,_,by rw[e,lW hp],.int _ _ hp⟩,rfl,_,e,.int _ _ (jY _ _)⟩
 | rem=>
  intro f;exact c (by rw[binOp_rem];simp only[Op.intDiv,bt f];rfl) (aIg g)
 | and=>exact c (by rw[binOp_and];rfl) (d .and)
 | or=>exact c (by rw[binOp_or];rfl) (d .or)
 | xor=>exact c (by rw[binOp_xor];rfl) (d .xor)
 | andNot=>exact c (by rw[binOp_andNot];rfl) (d .andNot)
 | shl=>exact trivial
 | shr=>exact trivial
 | eql=>exact a (by rw[binOp_eql];rfl)
 | neq=>exact a (by rw[binOp_neq];rfl)
 | lss=>exact a (by rw[binOp_lss];rfl)
 | leq=>exact a (by rw[binOp_leq];rfl)
 | gtr=>exact a (by rw[binOp_gtr];rfl)
 | geq=>exact a (by rw[binOp_geq];rfl)
def fB(l:ay):(⟨l.toArray⟩:ByteArray).toList=l:=by simp
def Y0(l:ay)(i j:Nat):(⟨l.toArray⟩:ByteArray).extract i j=⟨((l.take j).drop i).toArray⟩:=by
 have h:=Lib.extract_data ⟨l.toArray⟩ i j;have:((⟨l.toArray⟩:ByteArray).extract i j).data=((l.take j).drop i).toArray:=by rw[<-Array.toList_inj,h];simp[List.drop_take]
 cases a:(⟨l.toArray⟩:ByteArray).extract i j with
 | mk d=>grind
def B6{M':Imm}{ob':Hs}:∀{xs ys:az} {c:Bool},ceq xs ys=X c->∀{vs:bb},cV M ob vs xs->cV M' ob' vs xs:=by
 intro xs;induction xs with
 | nil=>intro ys c _ vs h;exact⟨h.1,λi v a _ j=>by simp at j⟩
 | cons x xs g=>
  intro ys c h vs d;cases ys with
  | nil=>cases x<;>cases h
  | cons y ys=>
   cases x with
   | int k a=>
    cases y with
    | int n b=>
     simp only[ceq]at h;obtain⟨_,o⟩:=fU h;cases m:ceq xs ys with
     | none=>grind
     | some p=>
      match vs,d with
      | [],d=>exact bv d.1 s_
      | v::vs,d=>
       have l:=g m (vs:=vs) ⟨by simpa using d.1,λi u b f e=>d.2 (i+1) u b (by grind) q_⟩;refine⟨by simpa using d.1,λi u b f e=>?_⟩;cases i with
       | zero=>
        simp at f e;subst f e;have:=(d.2 0 v _ rfl rfl).int_inv;rw[this.1];exact .int _ _ this.2
       | succ i=>exact l.2 i u b (by simpa using f) (by simpa using e)
    | _=>cases h
   | _=>cases h
def WK:∀{xs ys:az} {c:Bool},ceq xs ys=X c->∃e,ceq ys xs=X e:=by
 intro xs;induction xs with
 | nil=>intro ys c h;cases ys with
  | nil=>grind
  | cons y ys=>cases h
 | cons x xs g=>
  intro ys c h;cases ys with
  | nil=>cases x<;>cases h
  | cons y ys=>
   cases x with
   | int k a=>
    cases y with
    | int l b=>
     simp only[ceq]at h;obtain⟨f,m⟩:=fU h;have:=BK f;subst this;cases j:ceq xs ys with
     | none=>grind
     | some e=>
      obtain⟨d,i⟩:=g j;exact⟨(b==a)&&d,by simp only[ceq,f,cond_true,i]⟩
    | _=>cases h
   | _=>cases h
def CM{P:Program}{w:World}{t e:TypeId}{a:Addr}{j:TypeInfo}(d:Nat)(h:P.underlying t=X (.pointer e))(b:P.info? e=X j):(Op.equalIn (d+1) t (.pointer (X a)) (.pointer (X a))).run P w= .ok O w:=by by_cases hz:j.size=0<;>simp[Op.equalIn,run_underlying h,sizeOf,typeInfo,b,hz,run_sameAddr_same]
def aQD{P:Program}{t e:TypeId}(h:P.underlying t=X (.pointer e)):P.underlying t=X (.pointer (P.pointee t)):=by simp[Program.pointee,h]
abbrev QX(op:BinOp)(t:TypeId)(x y:Operand)(vx vy:Value):Sem Value:=eqGuard op t x y vx vy >>= λ_=>binOp op t vx vy
def aOz{s s':Sem Value}(h:∀{r},s'.run P w=r->s.run P w=r){r:OR}(k:PS0 P M ob w s' ac base r):PS0 P M ob w s ac base r:=
 Sd.mono (λ_ _ ⟨h1,u,a,h3⟩=>⟨h1,u,h a,h3⟩) (λ_ _ h=>h) (λ_ h=>h) k
def aHt{op:BinOp}{t:TypeId}{x y:Operand}{b a:Value}{c:Bool}(h1:∀op,eqGuard op t x y b a=Pure.pure ())(d:∀op,op= .eql\/op= .neq->binOp op t b a=(Op.equal t b a >>= λr=>Pure.pure (.bool (if op= .eql then r else !r))))
  (h3:(Op.equal t b a).run P w= .ok c w):PS0 P M ob w (QX op t x y b a) ac base (BC op c):=by
 unfold BC;split
 .refine ⟨rfl,.bool c,?_,.bool c⟩;simp only[QX,h1,d _ (.inl rfl)];simp only[Bd,Cb,Ar,h3,if_true]
 .refine ⟨rfl,.bool (!c),?_,.bool _⟩;simp only[QX,h1,d _ (.inr rfl)]
  grind[Bd,Cb,Ar]
 .exact trivial
def aQc{op:BinOp}{t:TypeId}{x y:Operand}{b a:Value}{c:Bool}{xs:az}(h1:∀op,eqGuard op t x y b a=Pure.pure ())(e:∀op,op= .eql\/op= .neq->binOp op t b a=(Op.equal t b a >>= λr=>Pure.pure (.bool (if op= .eql then r else !r))))
  (h3:(Op.equal t b a).run P w= .ok c w) (d:c=O->xs=[]):PS0 P M ob w (QX op t x y b a) ac base (aQd op xs):=by
 have:=aHt (M:=M) (ob:=ob) (ac:=ac) (base:=base) (op:=op) h1 e h3;unfold aQd;unfold BC at this;split
 .exact ⟨c,d,this⟩
 .exact ⟨c,d,this⟩
 .exact trivial
def uZ{P:Program}(w:World)(d:Nat)(t u:TypeId)(x:Value)(h:P.underlying t=X (.interface (P.methodsAt t))):(Op.equalIn (d+1) t .nilIface (.iface u x)).run P w= .ok U w:=by simp[Op.equalIn,run_underlying h]
def aRf(hE:ae E){og:Nat->ab}{op:BinOp}{t:TypeId}{x y:Operand}{u v:Value}{a b:aa}(m:Rep M ob u a)(l:Rep M ob v b):PS0 E.P M ob w (QX op t x y u v) ac base (aRg E og (isC x||isC y) op t a b):=by
 unfold aRg;split
 .rename_i k x' L F;obtain⟨rfl,J⟩:=m.int_inv;obtain⟨rfl,An⟩:=l.int_inv;have z:∀op,(eqGuard op t x y (.int k x') (.int L F))=Pure.pure ():=λop=>by cases op<;>rfl
  refine aOz (s':=binOp op t (.int k x') (.int L F)) (λh=>by grind) ?_;split
  .intro T;have e:(binOp .shl t (.int k x') (.int L F)).run E.P w= .ok (.int k (k.wrap (x'*2 ^ min F.toNat k.bits))) w:=by rw[binOp_shl];simp only[Op.shift];simp;omega
   refine⟨λ⟨K,At⟩=>⟨rfl,_,?_,.int _ _ At⟩,rfl,_,e,.int _ _ (jY _ _)⟩;rw[e,Gw K,lW At]
  .rintro ⟨T,K⟩;refine⟨rfl,_,?_,.int _ _ (aIh _ J)⟩;rw[binOp_shr];simp only[Op.shift];rw[bt o_,Gw K];rfl
  .refine sdc λf=>?_;have:=BK f;subst this;exact aRc J
 .rename_i As G;obtain⟨rfl,J⟩:=m.str_inv;obtain⟨rfl,An⟩:=l.str_inv;have z:∀op,(eqGuard op t x y (.string ⟨As.toArray⟩) (.string ⟨G.toArray⟩))=Pure.pure ():=λop=>by cases op<;>rfl
  refine aOz (s':=binOp op t (.string ⟨As.toArray⟩) (.string ⟨G.toArray⟩)) (λh=>by grind) ?_;split
  .intro T;refine⟨rfl,.string ⟨(As++G).toArray⟩,?_,.str _ (by grind)⟩
   grind[binOp_string_add,run_string_add_sum,xE,ByteArray.mk_append_mk]
  .exact ⟨rfl,_,by rw[binOp_string_eql,fB,fB];rfl,.bool _⟩
  .exact ⟨rfl,_,by rw[binOp_string_neq,fB,fB];rfl,.bool _⟩
  .exact ⟨rfl,_,by rw[binOp_string_lss,fB,fB];rfl,.bool _⟩
  .exact ⟨rfl,_,by rw[binOp_string_leq,fB,fB];rfl,.bool _⟩
  .exact ⟨rfl,_,by rw[binOp_string_gtr,fB,fB];rfl,.bool _⟩
  .exact ⟨rfl,_,by rw[binOp_string_geq,fB,fB];rfl,.bool _⟩
  .exact trivial
 .rename_i xs ys;refine sdc λz=>?_;obtain⟨W,Q⟩:=bB z;have S:0<E3 E.fl t:=by simp_all
  have q:=aG Q;rw[B5]at q;obtain⟨vs,rfl,hl,R⟩:=m.agg_inv;obtain⟨us,rfl,A,C⟩:=l.agg_inv;split
  .rename_i c i;obtain⟨c',s⟩:=WK i;obtain⟨H,I⟩:=(hE.fl t S).1 w x y _ _ vs us c i q (B6 i ⟨hl,R⟩) (B6 s ⟨A,C⟩);refine⟨rfl,.bool c,?_,.bool c⟩;simp only[QX,Bd,H,Ar,binOp,I,Cb]
  .rename_i c i;obtain⟨c',s⟩:=WK i;obtain⟨H,I⟩:=(hE.fl t S).1 w x y _ _ vs us c i q (B6 i ⟨hl,R⟩) (B6 s ⟨A,C⟩);refine⟨rfl,.bool (!c),?_,.bool _⟩;simp only[QX,Bd,H,Ar,binOp,I,Cb]
  .exact trivial
 .split
  .exact trivial
  .rename_i n hT;have d:=(hE.tab t n hT).kind
   have two:∀{u v:Value},(∀op,eqGuard op t x y u v=Pure.pure ())->(∀op,op= .eql\/op= .neq->binOp op t u v=(Op.equal t u v >>= λr=>Pure.pure (.bool (if op= .eql then r else !r))))->
     ∀{c:Bool},(Op.equal t u v).run E.P w= .ok c w->PS0 E.P M ob w (QX op t x y u v) ac base (BC op c):=λh1 B _ h3=>aHt h1 B h3
   split
   .have f:=‹n.kind=TK.bool›;rw[f]at d;obtain rfl:=m.bool_inv;obtain rfl:=l.bool_inv;exact two (λop=>by cases op<;>rfl) (λop g=>by rcases g with rfl|rfl<;>rfl) (run_equal_bool w t _ _ d.1)
   .have f:=‹n.kind=TK.slc _ _ _›;rw[f]at d;have:=m.untok.2;obtain rfl:u= .slice D 0 0:=this;cases l;exact two (λop=>by cases op<;>rfl) (λop g=>by rcases g with rfl|rfl<;>rfl) (run_equal_slice_nil w t _ D 0 0 d.1.1)
   .have f:=‹n.kind=TK.slc _ _ _›;rw[f]at d;cases m;cases l;exact two (λop=>by cases op<;>rfl) (λop g=>by rcases g with rfl|rfl<;>rfl) (run_equal_slice_nil w t _ D 0 0 d.1.1)
   .have f:=‹n.kind=TK.slc _ _ _›;rw[f]at d;obtain⟨a,c,rfl,Am,_⟩:=m.slice_inv;cases l;exact aQc (λop=>by cases op<;>rfl) (λop g=>by rcases g with rfl|rfl<;>rfl) (run_equal_slice_nil w t _ a _ c d.1.1) (λe=>(Am (by cases a<;>first|rfl|cases e)).1)
   .have f:=‹n.kind=TK.ptr _›;rw[f]at d;cases m;cases l;exact two (λop=>by cases op<;>rfl) (λop g=>by rcases g with rfl|rfl<;>rfl) (run_equal_pointer_nil w t _ (aQD d.1))
   .have f:=‹n.kind=TK.ptr _›;rw[f]at d;obtain⟨b,rfl,_⟩:=m.ref_inv;cases l;exact two (λop=>by cases op<;>rfl) (λop g=>by rcases g with rfl|rfl<;>rfl) (run_equal_pointer_nil w t _ (aQD d.1))
   .have f:=‹n.kind=TK.ptr _›;rw[f]at d;obtain⟨b,o,rfl,_⟩:=m.ptr_inv;cases l;exact two (λop=>by cases op<;>rfl) (λop g=>by rcases g with rfl|rfl<;>rfl) (run_equal_pointer_nil w t _ (aQD d.1))
   .have f:=‹n.kind=TK.ptr _›;rw[f]at d;split
    .rename_i tj N;refine sdc λz=>?_;obtain⟨h1,B⟩:=bB z;have h1:=aG h1;have B:=aG B;subst h1 B;obtain⟨b,rfl,Y⟩:=m.ref_inv;obtain⟨b',rfl,Be⟩:=l.ref_inv;rw[Y]at Be;cases Be;obtain⟨j,hj,_⟩:=Cg.1 (hE.tab _ tj N).size?;refine two (λop=>by cases op<;>rfl) (λop g=>by rcases g with rfl|rfl<;>rfl) (c:=O) ?_;exact CM 9999 d.1 hj
    .exact trivial
   .have f:=‹n.kind=TK.iface›;rw[f]at d;obtain⟨V,p⟩:=d.1;cases m;cases l;refine sdc λhl=>two (λop=>?_) (λop g=>by rcases g with rfl|rfl<;>rfl) (run_equal_nil_nil w t (by simp only[Program.methodsAt,p]));cases op<;>first|rfl|(cases x<;>first|rfl|(cases y<;>first|rfl|cases hl))
   .have f:=‹n.kind=TK.iface›;rw[f]at d;obtain⟨V,p⟩:=d.1;cases m;cases l;exact two (λop=>by cases op<;>rfl) (λop g=>by rcases g with rfl|rfl<;>rfl) (run_equal_held_nil w t _ _ (by simp only[Program.methodsAt,p]))
   .have f:=‹n.kind=TK.iface›;rw[f]at d;obtain⟨V,p⟩:=d.1;cases m;cases l;exact two (λop=>by cases op<;>rfl) (λop g=>by rcases g with rfl|rfl<;>rfl) (uZ w 9999 t _ _ (by simp only[Program.methodsAt,p]))
   .exact trivial
end
end Go.AW
