/- Part 1 of what the statement rests on. -/
import Derived.WalkKit
import Derived.WalkLawsBesides
import Derived.RangeFuncLeaves
import Derived.OrdersIn
import Derived.TacticsIn
import Derived.Deep.AppendSrc
import Derived.Lib.Strings
import Derived.LaidEql
set_option linter.all false
open List renaming length->Z
open Bool renaming true->O,false->S
open Option renaming some->X,none->U
open Array renaming length_toList->Ir,toList_append->Mx
open Bool renaming and_eq_true->Af
open Go.Builtin renaming append_->Cr,firstCells->Ci,zeroCells->Cf
open Go.Result renaming andThen_ok->Aq
open Go.Sem renaming run_bind->Bd,run_pure->Bu
open Go.Value renaming int->Em,ownBlock->Ge,slice->Gt
open Go.World renaming block_lt_of_cell?->Ct,cell?_of_block->Cs,ownsRow_nil->Hh
open List renaming eq_nil_of_length_eq_zero->Bb,getElem?_append_left->Ai,getElem?_append_right->Ar,getElem?_cons_succ->Gf,getElem?_drop->Dd,getElem?_eq_getElem->Ab,getElem?_eq_none->Bk,getElem?_eq_some_iff->Ad,getElem?_map->Bw,getElem?_of_mem->Cu,getElem?_range->Ew,getElem?_set_ne->Bf,getElem?_set_self->Ay,getElem?_take_of_lt->Bj,getElem_mem->Av,getLast?_eq_getElem?->Lk,length_append->Ah,length_drop->Dq,length_take->Dr,mem_append->Bx,mem_map->Co,mem_of_getElem?->Ax,mem_of_mem_drop->Ff,mem_of_mem_take->Cw,nodup_cons->Ce,prefix_refl->Cp,range->Df,replicate->Ak,size_toArray->Gg,take_left->Hq
open Nat renaming add_mul->Cg,add_sub_cancel->Hx,add_zero->Fj,beq->Au,ble->Fv,blt->Fl,div_add_mod->Fy,div_lt_iff_lt_mul->Dc,le_of_ble_eq_true->Cj,le_refl->Bc,le_trans->Cl,lor->Nf,lt_of_lt_of_le->Ep,min_eq_left->Gl,mod_le->Lf,mod_lt->Ef,mul_add_div->Iy,mul_comm->Cz,mul_le_mul_right->Br,zero_add->Bv,zero_le->Bn
open Option renaming map_eq_some_iff->Cd
open Option.some renaming injEq->Fa
namespace Go.AW
theorem bk {p:Prop}[i:Decidable p]:decide p=S↔¬p:=decide_eq_false_iff_not
theorem bm {p:Prop}[i:Decidable p](a:decide p=S):¬p:=of_decide_eq_false a
theorem bn {p:Prop}[i:Decidable p](a:decide p=O):p:=of_decide_eq_true a
theorem bo {p:Prop}[i:Decidable p]:(decide p=O)=p:=decide_eq_true_eq
theorem bp {p:Prop}[i:Decidable p](a:¬p):decide p=false:=decide_eq_false a
theorem bq {p:Prop}[i:Decidable p](a:p):decide p=true:=decide_eq_true a
theorem bt.{u} {c:Prop}{h:Decidable c}(a:¬c){α:Sort u}{t e:α}:ite c t e=e:=if_neg a
theorem bu.{u} {c:Prop}{h:Decidable c}(a:c){α:Sort u}{t e:α}:ite c t e=t:=if_pos a
def bv.{v} {a:Prop}{b:Sort v}(h:a)(k:¬a):b:=absurd h k
open Go.RowKit
abbrev _root_.ax:=List Int
abbrev _root_.ay:=List UInt8
abbrev _root_.a6:=List Nat
abbrev _root_.bb:=List Value
abbrev _root_.bf:=List Oper
def _root_.o_{P:Prop}(h:P:=by omega):P:=h
def _root_.d_{P:Prop}(h:P:=by decide):P:=h
def _root_.s_{P:Prop}(h:P:=by simp):P:=h
def _root_.q_{P:Prop}(h:P:=by simp;omega):P:=h
def bV:IntKind->Int
 |.i8=> -128 | .i16=> -32768 | .i32=> -2147483648 | .i64=> -9223372036854775808|_=>0
def aW:IntKind->Int
 |.i8=>127 | .i16=>32767 | .i32=>2147483647 | .i64=>9223372036854775807
 |.u8=>255 | .u16=>65535 | .u32=>4294967295 | .u64=>18446744073709551615
def inR(k:IntKind)(n:Int):Prop:=bV k<=n/\n<=aW k
inductive Tk where
 |no|nil|full|own (k g:Nat)
inductive aa where
 |undef
 |bool (b:Bool)
 |int (k:IntKind) (n:Int)
 |str (l:ay)
 |slice (sz:Nat) (xs:List aa) (t:Tk)
 |agg (cs:List aa)
 |tup (vs:List aa)
 |ptr (cs:List aa)
 |ref (k off:Nat)
 |eref (k g i sz off:Nat)
 |csl (k off len sz:Nat)
 |row (k g:Nat)
 |sub (k g lo len sz:Nat)
 |rowc (k g c:Nat)
 |pre (k g n c sz:Nat)
 |mref (k:Nat)
 |nilptr|nilslice|nilmap|nilfunc|nilif
 |hsl (a:Option Addr) (n c:Nat)
 |func (fn:Fn) (first caps:List aa)
 |iface (t:TypeId) (v:aa)
abbrev _root_.az:=List aa
abbrev _root_.au:=List (Nat×aa)
def aa.cells:aa->az
 |.agg cs=>cs
 |v=>[v]
abbrev Imm:=Nat->Nat->aa->Prop
def NoM(M:Imm)(b o:Nat):Prop:=∀x,¬ M b o x
abbrev Hs:=List bb
def at'(ob:Hs)(k g:Nat):Option Value:=(ob[k]?).bind λhs=>hs[g]?
def dH(ob ob':Hs):Prop:=∀(k:Nat) hs,ob[k]? =X hs->∃hs',ob'[k]? =X hs'/\hs<+:hs'
def dH.refl(ob:Hs):dH ob ob:=λ_ hs h=>⟨hs,h,Cp _⟩
def dH.trans{a b c:Hs}(h:dH a b)(k:dH b c):dH a c:=λi hs e=>by obtain⟨h1,f,l⟩:=h i hs e;obtain⟨d,g,j⟩:=k i h1 f;exact⟨d,g,l.trans j⟩
def dH.at{ob ob':Hs}(h:dH ob ob'){k g:Nat}{v:Value}(b:at' ob k g=X v):at' ob' k g=X v:=by
 unfold at' at*
 cases a:ob[k]? with
 |none=>grind
 |some hs=>
  rw[a]at b;obtain⟨hs',e,p⟩:=h k hs a;rw[e];simp only[Option.bind_some]at b⊢;obtain⟨t,rfl⟩:=p
  grind[Ai,Ad]
def wI(ob:Hs)(v:Value):Tk->Prop
 |.no=>True
 |.nil=>v= .slice U 0 0
 |.full=>∃a n,v= .slice a n n
 |.own k g=>at' ob k g=X v
def wI.mono{ob ob':Hs}(a:dH ob ob'){v:Value}{t:Tk}(h:wI ob v t):wI ob' v t:=by
 cases t with
 |own k g=>exact a.at h
 |_=>exact h
inductive Rep(M:Imm)(ob:Hs):Value->aa->Prop
 |undef (v):Rep M ob v .undef
 |bool (b):Rep M ob (.bool b) (.bool b)
 |int (k n) (h:inR k n):Rep M ob (.int k n) (.int k n)
 |str (l:ay) (h:(Z l:Int)<=9223372036854775807):Rep M ob (.string ⟨l.toArray⟩) (.str l)
 |agg (vs:bb) (as:az) (hl:Z vs=Z as) (h:∀(i:Nat) v a,vs[i]? =X v->as[i]? =X a->Rep M ob v a):Rep M ob (.agg vs.toArray) (.agg as)
 |tup (vs:bb) (as:az) (hl:Z vs=Z as) (h:∀(i:Nat) v a,vs[i]? =X v->as[i]? =X a->Rep M ob v a):Rep M ob (.tuple vs.toArray) (.tup as)
 |ptr (b o:Nat) (cs:az) (h:∀(j:Nat) c,cs[j]? =X c->M b (o+j) c):Rep M ob (.pointer (X ⟨b,o,U⟩)) (.ptr cs)
 |ref (k off b:Nat) (h:at' ob k 0=X (.pointer (X ⟨b,0,U⟩))):Rep M ob (.pointer (X ⟨b,off,U⟩)) (.ref k off)
 |eref (k g i sz off b n c:Nat) (h:at' ob k g=X (.slice (X ⟨b,0,U⟩) n c)):Rep M ob (.pointer (X ⟨b,i*sz+off,U⟩)) (.eref k g i sz off)
 |csl (k off len sz b:Nat) (h:at' ob k 0=X (.pointer (X ⟨b,0,U⟩))) (hm:(len:Int)<=9223372036854775807):Rep M ob (.slice (X ⟨b,off,U⟩) len len) (.csl k off len sz)
 |row (k g:Nat) (a:Option Addr) (n c:Nat) (h:at' ob k g=X (.slice a n c)):Rep M ob (.slice a n c) (.row k g)
 |sub (k g lo len sz b n c:Nat) (h:at' ob k g=X (.slice (X ⟨b,0,U⟩) n c)) (hl:lo<c) (hn:lo+len<=n) (hc:n<=c) (hm:(n:Int)<=9223372036854775807):Rep M ob (.slice (X ⟨b,lo*sz,U⟩) len (c-lo)) (.sub k g lo len sz)
 |sub0 (k g lo sz:Nat) (a a':Option Addr) (n c:Nat) (h:at' ob k g=X (.slice a n c)) (hl:lo=n) (hc:n=c):Rep M ob (.slice a' 0 0) (.sub k g lo 0 sz)
 |rowc (k g c:Nat) (a:Option Addr) (n:Nat) (h:at' ob k g=X (.slice a n c)) (hm:(c:Int)<=9223372036854775807):Rep M ob (.slice a n c) (.rowc k g c)
 |pre (k g n c sz b len:Nat) (h:at' ob k g=X (.slice (X ⟨b,0,U⟩) len c)) (hc:0<c) (hn:n<=len) (hl:len<=c) (hm:(c:Int)<=9223372036854775807):Rep M ob (.slice (X ⟨b,0,U⟩) n c) (.pre k g n c sz)
 |mref (k b:Nat) (h:at' ob k 0=X (.map (X b))):Rep M ob (.map (X b)) (.mref k)
 |nilptr:Rep M ob (.pointer U) .nilptr
 |nilslice:Rep M ob (.slice U 0 0) .nilslice
 |nilmap:Rep M ob (.map U) .nilmap
 |nilfunc:Rep M ob .nilFunc .nilfunc
 |nilif:Rep M ob .nilIface .nilif
 |hsl (a:Option Addr) (n c:Nat):Rep M ob (.slice a n c) (.hsl a n c)
 |slnil (sz:Nat) (t:Tk) (ht:wI ob (.slice U 0 0) t):Rep M ob (.slice U 0 0) (.slice sz [] t)
 |slemp (sz:Nat) (t:Tk) (a:Addr) (cap:Nat) (ht:wI ob (.slice (X a) 0 cap) t):Rep M ob (.slice (X a) 0 cap) (.slice sz [] t)
 |sl (sz b o n cap:Nat) (xs:az) (t:Tk) (hn:Z xs=n) (hc:n<=cap) (hm:(n:Int)<=9223372036854775807) (hz:∀x∈xs,Z x.cells=sz)
   (h:∀(i j:Nat) x c,xs[i]? =X x->x.cells[j]? =X c->M b (o+i*sz+j) c) (ht:wI ob (.slice (X ⟨b,o,U⟩) n cap) t):Rep M ob (.slice (X ⟨b,o,U⟩) n cap) (.slice sz xs t)
 |func (fn:Fn) (fs cs:bb) (fa ca:az) (hf:Z fs=Z fa) (hc:Z cs=Z ca)
   (h1:∀(i:Nat) v a,fs[i]? =X v->fa[i]? =X a->Rep M ob v a) (h2:∀(i:Nat) v a,cs[i]? =X v->ca[i]? =X a->Rep M ob v a):
   Rep M ob (.func fn fs.toArray cs.toArray) (.func fn fa ca)
 |iface (t:TypeId) (v:Value) (a:aa) (h:Rep M ob v a):Rep M ob (.iface t v) (.iface t a)
def Rep.mono{M M':Imm}{ob ob':Hs}(s:∀b o x,M b o x->M' b o x)(d:dH ob ob'){v:Value}{a:aa}(h:Rep M ob v a):Rep M' ob' v a:=by
 induction h with
 |undef v=>exact .undef v
 |bool b=>exact .bool b
 |int k n h=>exact .int k n h
 |str l h=>exact .str l h
 |agg vs as hl _ m=>exact .agg vs as hl m
 |tup vs as hl _ m=>exact .tup vs as hl m
 |ptr b o cs h=>exact .ptr b o cs λj c e=>s _ _ _ (h j c e)
 |ref k off b h=>exact .ref k off b (d.at h)
 |eref k g i sz off b n c h=>exact .eref k g i sz off b n c (d.at h)
 |csl k off len sz b h hm=>exact .csl k off len sz b (d.at h) hm
 |row k g a n c h=>exact .row k g a n c (d.at h)
 |sub k g lo len sz b n c h hl f e hm=>exact .sub k g lo len sz b n c (d.at h) hl f e hm
 |sub0 k g lo sz a z n c h hl e=>exact .sub0 k g lo sz a z n c (d.at h) hl e
 |rowc k g c a n h hm=>exact .rowc k g c a n (d.at h) hm
 |pre k g n c sz b len h e f hl hm=>exact .pre k g n c sz b len (d.at h) e f hl hm
 |mref k b h=>exact .mref k b (d.at h)
 |nilptr=>exact .nilptr
 |nilslice=>exact .nilslice
 |nilmap=>exact .nilmap
 |nilfunc=>exact .nilfunc
 |nilif=>exact .nilif
 |hsl a n c=>exact .hsl a n c
 |slnil sz t p=>exact .slnil sz t (p.mono d)
 |slemp sz t a cap p=>exact .slemp sz t a cap (p.mono d)
 |sl sz b o n cap xs t f e hm hz h p=>exact .sl sz b o n cap xs t f e hm hz (λi j x c w C=>s _ _ _ (h i j x c w C)) (p.mono d)
 |func fn u cs B y A e _ _ r q=>exact .func fn u cs B y A e r q
 |iface t v a _ m=>exact .iface t v a m
def GD(ob:Hs):dH [] ob:=λk hs h=>by simp at h
def Rep.pure{M:Imm}{ob:Hs}{v:Value}{a:aa}(h:Rep M [] v a):Rep M ob v a:=h.mono (λ_ _ _ h=>h) (GD ob)
def Rep.monoM{M M':Imm}{ob:Hs}{v:Value}{a:aa}(h:Rep M ob v a)(c:∀b o x,M b o x->M' b o x):Rep M' ob v a:=h.mono c (dH.refl _)
structure BInv where
 inv:Imm->a6->World->Prop
 mono:∀{M M':Imm} {bs:a6} {w w':World},(∀b o x,M b o x->M' b o x)->(∀b,b∈bs->∀o,NoM M b o->NoM M' b o)->(∀b c,b∈bs->w.heap[b]? =X c->w'.heap[b]? =X c)->inv M bs w->inv M' bs w'
def F5:Obj->Bool
 |.deferred _=>O
 |_=>S
def fA(bs:a6):Value:=.tuple (bs.map λb=>Value.map (X b)).toArray
inductive ab where
 |dead
 |cells (T:TypeId) (cs:az)
 |fcells (cs:az)
 |row (g sz:Nat) (e:TypeId) (xs:az)
 |frow (g sz:Nat) (xs:az)
 |tail (g sz:Nat) (e:TypeId)
 |mp (ag:Bool) (es:List (ax×aa))
 |bun (g:Nat) (I:BInv)
abbrev _root_.aw:=List ab
def aPt:Value->Option Nat
 |.map (some b)=>X b
 |_=>U
def OK:Value->a6
 |.pointer (some a)=>[a.block]
 |.slice (some a) _ _=>[a.block]
 |.map (some b)=>[b]
 |.tuple vs=>vs.toList.filterMap aPt
 |_=>[]
def blk(hs:bb):a6:=match hs.getLast? with|some v=>OK v|none=>[]
theorem D0{hs:bb}{bs:a6}(h:hs.getLast? =X (fA bs)):blk hs=bs:=by
 unfold blk;rw[h];show(bs.map λb=>Value.map (X b)).filterMap aPt=bs;clear h;induction bs with
 |nil=>rfl
 |cons b r a=>simp only[List.map_cons,List.filterMap_cons,aPt,a]
def eM{b c:Nat}:b∈([c]:a6)↔c=b:=by grind
def ab.owns:ab->Bool
 |.dead | .fcells _ | .frow _ _ _=>S
 |_=>O
def aM(sz:Nat)(xs:az)(q:Nat):Option aa:=(xs[q/sz]?).bind λx=>x.cells[q%sz]?
def YW(w:World)(v:Value):Prop:=∀b,v.ownBlock=X b->∀a T c,w.heap[b]? =X (.cells a T c)->∀u∈a.toList,u.oneCell'=O
def dY(M:Imm)(w:World)(v:Value)(sz:Nat)(e:TypeId)(xs:az):Prop:=
 ∃cv,w.ownsRow 0 e sz v (Z xs) cv/\(∀u∈cv,u.oneCell'=O)/\(∀x∈xs,Z x.cells=sz)/\
  (∀(q:Nat) c,aM sz xs q=X c->∃u,cv[q]? =X u/\Rep M [] u c)/\(∀b,v.ownBlock=X b->∀o,NoM M b o)/\YW w v
def hC(a:Bool)(l:ax):Value:=if a then .agg (l.map (Em .i64)).toArray else .int .i64 (l.headD 0)
def aDR(M:Imm)(w:World)(b:Nat)(d:Bool)(es:List (ax×aa)):Prop:=
 ∃(c:List MapEntry) (a:Nat),w.heap[b]? =X (.map c.toArray a)/\Z c=Z es/\(∀(i:Nat) x y,c[i]? =X x->es[i]? =X y->x.key=hC d y.1/\(d=S->Z y.1=1)/\Rep M [] x.val y.2)/\
  (∀(i:Nat) x,c[i]? =X x->x.born<a)/\∀(i j:Nat) x y,c[i]? =X x->c[j]? =X y->x.born=y.born->i=j
def iM(M:Imm)(ob:Hs)(w:World)(hs:bb):ab->Prop
 |.dead=>True
 |.cells T cs=>∃b,hs=[.pointer (X ⟨b,0,U⟩)]/\(∀o,NoM M b o)/\∃(cv:bb),w.heap[b]? =X (.cells cv.toArray T (0,0))/\Z cv=Z cs/\(∀v∈cv,v.oneCell'=O)/\
   ∀(i:Nat) v a,cv[i]? =X v->cs[i]? =X a->Rep M ob v a
 |.fcells cs=>∃b,hs=[.pointer (X ⟨b,0,U⟩)]/\∀(j:Nat) c,cs[j]? =X c->M b j c
 |.row g sz e xs=>Z hs=g+1/\∃v,hs[g]? =X v/\dY M w v sz e xs
 |.frow g sz xs=>∃v,hs[g]? =X v/\Rep M [] v (.slice sz xs .no)
 |.tail g sz e=>Z hs=g+1/\∃v,hs[g]? =X v/\∃n cv,w.ownsRow 0 e sz v n cv/\∀b,v.ownBlock=X b->∀o,n*sz<=o->NoM M b o
 |.mp d es=>∃b,hs=[.map (X b)]/\(∀o,NoM M b o)/\aDR M w b d es
 |.bun g I=>Z hs=g+1/\∃bs,hs[g]? =X (fA bs)/\(∀b,b∈bs->∃o,w.heap[b]? =X o/\F5 o=S)/\I.inv M bs w
def aK(ob:Hs)(ac:aw)(k b:Nat):Prop:=∃c hs,ac[k]? =X c/\c.owns=O/\ob[k]? =X hs/\b∈blk hs
structure Mem(M:Imm)(ob:Hs)(ac:aw)(w:World):Prop where
 imm:∀b o x,M b o x->∃v,w.cell? ⟨b,o,U⟩=X v/\v.oneCell'=O/\Rep M [] v x
 len:Z ob=Z ac
 obj:∀(k:Nat) c,ac[k]? =X c->∃hs,ob[k]? =X hs/\iM M ob w hs c
 lt:∀k b,aK ob ac k b->b<w.heap.size
 inj:∀k k' b,aK ob ac k b->aK ob ac k' b->k=k'
structure Ext(M:Imm)(ob:Hs)(ac:aw)(w:World)(M':Imm)(ob':Hs)(ap:aw)(w':World):Prop where
 imm:∀b o x,M b o x->M' b o x
 new:∀b o x,M' b o x->M b o x\/w.heap.size<=b\/∃k,aK ob ac k b
 hs:dH ob ob'
 os:w'.os=w.os
 tape:w'.tape=w.tape
 output:w'.output=w.output
 size:w.heap.size<=w'.heap.size
 keep:∀b,b<w.heap.size->(∀k,¬ aK ob ac k b)->w'.heap[b]? =w.heap[b]?
 fresh:∀k b,aK ob' ap k b->(∃k',aK ob ac k' b)\/w.heap.size<=b
def Ext.refl(M:Imm)(ob:Hs)(ac:aw)(w:World):Ext M ob ac w M ob ac w where
 imm _ _ _ h:=h
 new _ _ _ h:=.inl h
 hs:=dH.refl _
 os:=rfl
 tape:=rfl
 output:=rfl
 size:=Bc _
 keep _ _ _:=rfl
 fresh k _ h:=.inl ⟨k,h⟩
def Ext.trans{M M1 M2:Imm}{ob ob1 ob2:Hs}{ac obs1 obs2:aw}{w w1 w2:World}(h:Ext M ob ac w M1 ob1 obs1 w1)(k:Ext M1 ob1 obs1 w1 M2 ob2 obs2 w2):
  Ext M ob ac w M2 ob2 obs2 w2 where
 imm b o x hx:=k.imm _ _ _ (h.imm _ _ _ hx)
 new b o x hx:=by
  rcases k.new b o x hx with h1|h1|⟨i,hi⟩
  .exact h.new b o x h1
  .exact .inr (.inl (Cl h.size h1))
  .rcases h.fresh i b hi with h2|h2
   .grind
   omega
 hs:=h.hs.trans k.hs
 os:=k.os.trans h.os
 tape:=k.tape.trans h.tape
 output:=k.output.trans h.output
 size:=Cl h.size k.size
 keep b hb ho:=by
  rw[<-h.keep b hb ho];refine k.keep b (Ep hb h.size) λi hi=>?_;rcases h.fresh i b hi with⟨j,hj⟩|h2
  .grind
  .omega
 fresh i b hi:=by
  rcases k.fresh i b hi with⟨j,hj⟩|h1
  .exact h.fresh j b hj
  .exact .inr (Cl h.size h1)
def cS(ob:Hs)(ac:aw)(ob':Hs)(ap:aw):Prop:=∀(k:Nat) hs,ac[k]? =X .dead->ob[k]? =X hs->
 (hs≠[]->ap[k]? =X .dead/\ob'[k]? =X hs)/\(hs=[]->ap[k]? =X .dead->ob'[k]? =X [])
def cS.refl(ob:Hs)(ac:aw):cS ob ac ob ac:=λ_ _ h1 a=>⟨λ_=>⟨h1,a⟩,λe _=>e▸a⟩
theorem gD{w:World}{b:Nat}{x:Obj}(a:w.heap[b]? =X x):b<w.heap.size:=(Array.getElem?_eq_some_iff.1 a).1
def dY.mono{M M':Imm}{w w':World}{v:Value}{sz:Nat}{e:TypeId}{xs:az}(h:dY M w v sz e xs)(z:∀b o x,M b o x->M' b o x)
  (p:∀b,v.ownBlock=X b->(∀o,NoM M b o)->∀o,NoM M' b o) (k:∀b c,v.ownBlock=X b->w.heap[b]? =X c->w'.heap[b]? =X c):dY M' w' v sz e xs:=by
 obtain⟨cv,⟨h1,i⟩,h3,y,n,B,s⟩:=h;refine⟨cv,⟨h1,?_⟩,h3,y,λq c j=>?_,λb e=>p b e (B b e),λb e d T C j=>?_⟩
 .rcases i with i|⟨g,cap,d,a,A,f,r⟩
  .exact .inl i
  .exact .inr ⟨g,cap,d,a,A,k g _ (by rw[a];rfl) f,r⟩
 .obtain ⟨u,t,m⟩:=n q c j;exact⟨u,t,m.monoM z⟩
 .rcases i with⟨rfl,_⟩|⟨g,cap,l,a,_,f,_⟩
  .cases e
  .rw [a]at e;cases e;have:=k g _ (by rw[a];rfl) f;rw[j]at this;cases this;exact s g (by rw[a];rfl) _ _ _ f
def iM.mono{M M':Imm}{ob ob':Hs}{w w':World}{hs:bb}{x:ab}(h:iM M ob w hs x)(q:∀b o x,M b o x->M' b o x)(C:dH ob ob')
  (t:∀b,x.owns=O->b∈blk hs->∀o,NoM M b o->NoM M' b o) (s:∀b c,x.owns=O->b∈blk hs->w.heap[b]? =X c->w'.heap[b]? =X c):iM M' ob' w' hs x:=by
 have f:∀{g:Nat} {v:Value},Z hs=g+1->hs[g]? =X v->blk hs=OK v:=λ{g v} hl D=>by unfold blk;rw[Lk,hl,Hx,D]
 have u:∀{v:Value} {b:Nat},v.ownBlock=X b->b∈OK v:=λ{v b} h=>by
  unfold Ge at h;split at h
  .cases h;simp[OK]
  .cases h
 have k:∀{v:Value} {b:Nat},blk hs=OK v->v.ownBlock=X b->b∈blk hs:=λ{v b} h1 d=>by rw[h1];exact u d
 cases x with
 |dead=>trivial
 |cells T cs=>
  obtain⟨b,rfl,h1,cv,d,h3,m,p⟩:=h;exact⟨b,rfl,λo=>t b rfl (eM.2 rfl) o (h1 o),cv,s b _ rfl (eM.2 rfl) d,h3,m,λi v a D As=>(p i v a D As).mono q C⟩
 |fcells cs=>
  obtain⟨b,rfl,h1⟩:=h;exact⟨b,rfl,λj c P=>q _ _ _ (h1 j c P)⟩
 |row g sz e xs=>
  obtain⟨h1,v,d,h3⟩:=h;exact⟨h1,v,d,h3.mono q (λb e B o=>t b rfl (k (f h1 d) e) o (B o)) (λb c e=>s b c rfl (k (f h1 d) e))⟩
 |frow g sz xs=>
  obtain⟨v,h1,d⟩:=h;exact⟨v,h1,d.monoM q⟩
 |tail g sz e=>
  obtain⟨h1,v,d,n,cv,⟨h3,m⟩,p⟩:=h;refine⟨h1,v,d,n,cv,⟨h3,?_⟩,λb e o C=>t b rfl (k (f h1 d) e) o (p b e o C)⟩;rcases m with m|⟨G,cap,F,H,K,J,r⟩
  .exact .inl m
  .exact .inr ⟨G,cap,F,H,K,s G _ rfl (k (f h1 d) (by rw[H];rfl)) J,r⟩
 |mp Q es=>
  obtain⟨b,rfl,h1,L,cl,d,h3,m,p⟩:=h;exact⟨b,rfl,λo=>t b rfl (eM.2 rfl) o (h1 o),L,cl,s b _ rfl (eM.2 rfl) d,h3,λi x y A z=>⟨(m i x y A z).1,(m i x y A z).2.1,(m i x y A z).2.2.monoM q⟩,p⟩
 |bun g I=>
  obtain⟨h1,bs,d,h3,m⟩:=h;have e:blk hs=bs:=by rw[<-D0 (hs:=[fA bs]) rfl];exact f h1 d
  refine⟨h1,bs,d,λb l=>?_,I.mono q (λb l=>t b rfl (by rw[e];exact l)) (λb c l=>s b c rfl (by rw[e];exact l)) m⟩;obtain⟨o,p,N⟩:=h3 b l;exact⟨o,s b _ rfl (by rw[e];exact l) p,N⟩
def Mem.same{M:Imm}{ob:Hs}{ac:aw}{w w':World}(h:Mem M ob ac w)(hs:w.heap.size<=w'.heap.size)
  (j:∀b,b<w.heap.size->w'.heap[b]? =w.heap[b]?):Mem M ob ac w':=by
 refine⟨λb o x m=>?_,h.len,λk c d=>?_,λk b f=>Ep (h.lt k b f) hs,h.inj⟩
 .obtain ⟨v,i,l⟩:=h.imm b o x m;exact⟨v,(Cs (w:=w) (a:=⟨b,o,U⟩) (j b (Ct w _ i))).trans i,l⟩
 .obtain ⟨hs',e,g⟩:=h.obj k c d;exact⟨hs',e,g.mono (λ_ _ _ h=>h) (dH.refl _) (λ_ _ _ _ h=>h) (λb c _ _ d=>(j b (gD d)).trans d)⟩
def Mem.noImm{M:Imm}{ob:Hs}{ac:aw}{w:World}(h:Mem M ob ac w){b:Nat}(d:w.heap.size<=b)(o:Nat):NoM M b o:=by
 intro x a;obtain⟨v,c,_⟩:=h.imm b o x a;have:=Ct w _ c
 grind
inductive TK where
 |int (k:IntKind)|bool|str|strct (fs:List (Nat×Nat×Bool))|arr (n esz:Nat) (eagg:Bool)|slc (e esz ebytes:Nat)|ptr (e:Nat)|iface|mp (k e:Nat)|other
structure TI where
 kind:TK
 size:Nat
 agg:Bool
 zero:aa
abbrev Tab:=List (Nat×TI)
def dE:Tab->Nat->Option TI
 |[],_=>U
 |(i,x)::r,n=>bif Au i n then X x else dE r n
abbrev aI1:=List (Nat×String×Nat)
def aGC:aI1->Nat->String->Option Nat
 |[],_,_=>U
 |(i,s,f)::r,n,m=>bif (Au i n&&s==m)then X f else aGC r n m
structure Env where
 P:Program
 T:Tab
 mt:aI1
 fl:List (Nat×Nat)
 own:a6
 rws:a6
 bl:a6
 df:List (Nat×az)
 rd:Option Nat:=U
def wC(n:Nat):a6->Bool
 |[]=>S
 |x::r=>Au x n||wC n r
def aX:au->Nat->aa
 |[],_=>.undef
 |(i,v)::r,n=>bif Au i n then v else aX r n
def iI:au->Nat->aa->au
 |[],n,x=>[(n,x)]
 |(i,v)::r,n,x=>bif Au i n then(n,x)::r else(i,v)::iI r n x
def aC:aw->Nat->ab
 |[],_=>.dead
 |x::_,0=>x
 |_::r,n+1=>aC r n
def bQ:aw->Nat->ab->aw
 |[],0,y=>[y]
 |[],n+1,y=>.dead::bQ [] n y
 |_::r,0,y=>y::r
 |x::r,n+1,y=>x::bQ r n y
def aS:aw->Nat
 |[]=>0
 |_::r=>aS r+1
def lT:Nat->az->az
 |0,l=>l
 |_+1,[]=>[]
 |n+1,_::l=>lT n l
def nO:Nat->az->Option az
 |0,_=>X []
 |_+1,[]=>U
 |n+1,c::l=>match nO n l with|some r=>X (c::r)|none=>U
def YC:az->az->Option az
 |[],l=>X l
 |_::_,[]=>U
 |c::r,_::l=>match YC r l with|some x=>X (c::x)|none=>U
def oX:Nat->az->az->Option az
 |0,new,l=>YC new l
 |_+1,_,[]=>U
 |n+1,new,c::l=>match oX n new l with|some x=>X (c::x)|none=>U
def TW:az->Nat
 |[]=>0
 |_::r=>TW r+1
def nth{α:Type}:List α->Nat->Option α
 |[],_=>U
 |x::_,0=>X x
 |_::r,n+1=>nth r n
def aDJ:az->az->az
 |[],l=>l
 |c::r,l=>c::aDJ r l
def eF(f:aa->aa):az->az
 |[]=>[]
 |c::r=>f c::eF f r
def aNB:IntKind->Nat
 |.i8=>127 | .i16=>32767 | .i32=>2147483647 | .i64=>9223372036854775807
 |.u8=>255 | .u16=>65535 | .u32=>4294967295 | .u64=>18446744073709551615
def aGT:IntKind->Nat
 |.i8=>128 | .i16=>32768 | .i32=>2147483648 | .i64=>9223372036854775808|_=>0
def aLA(k:IntKind):Int->Bool
 |.ofNat m=>Fv m (aNB k)
 |.negSucc m=>Fl m (aGT k)
def aGK:ay->Nat
 |[]=>0
 |_::r=>aGK r+1
def aMM:Value->aa
 |.bool b=>.bool b
 |.int k n=>bif aLA k n then .int k n else .undef
 |.string s=>bif Fv (aGK s.data.toList) 1000000 then .str s.data.toList else .undef
 |.slice none 0 0=>.nilslice
 |.pointer none=>.nilptr
 |.map none=>.nilmap
 |.nilFunc=>.nilfunc
 |.nilIface=>.nilif
 |_=>.undef
def ev(fr:au):Operand->aa
 |.tmp t=>aX fr t
 |.const v=>aMM v
 |.func f=>.func (.func f) [] []
 |.global _=>.undef
def one:aa->Bool
 |.undef | .agg _ | .tup _=>S
 |_=>O
def rC:az->Bool
 |[]=>O
 |c::r=>one c&&rC r
def FP:aa->Bool
 |.undef=>S
 |_=>O
def ai(og:Nat->ab):Nat->aa->aa
 |0,_=>.undef
 |n+1,v=>match v with
  |.slice sz xs _=>.slice sz xs .no
  |.agg cs=>.agg (eF (ai og n) cs)
  |.tup cs=>.tup (eF (ai og n) cs)
  |.func fn a cs=>.func fn (eF (ai og n) a) (eF (ai og n) cs)
  |.iface t v=>.iface t (ai og n v)
  |.ref k off=>(match og k with | .fcells cs=>.ptr (lT off cs)|_=>.undef)
  |.csl k off len sz=>(match og k with | .fcells cs=>bif Au sz 1 then(match nO len (lT off cs)with|some l=>bif rC l then .slice 1 l .full else .undef|none=>.undef)else .undef|_=>.undef)
  |.row k g=>(match og k with | .frow g' sz xs=>bif Au g g' then .slice sz xs .no else .undef|_=>.undef)
  |.sub k g lo len sz=>(match og k with | .frow g' sz' xs=>bif Au g g'&&Au sz sz' then .slice sz ((xs.drop lo).take len) .no else .undef|_=>.undef)
  |.eref _ _ _ _ _=>.undef
  |.rowc _ _ _=>.undef
  |.pre _ _ _ _ _=>.undef
  |.mref _=>.undef
  |v=>v
def foldO(f:aw->aa->aw):aw->az->aw
 |ac,[]=>ac
 |ac,c::r=>foldO f (f ac c) r
def frz1(ac:aw)(k:Nat):aw:=match aC ac k with
 |.cells _ cs=>bQ ac k (.fcells (eF (ai (aC ac) 4) cs))
 |_=>ac
def frzR(ac:aw)(k g:Nat):aw:=match aC ac k with
 |.row a sz _ xs=>bif Au g a then bQ ac k (.frow g sz xs)else ac
 |_=>ac
def frzV:Nat->aw->aa->aw
 |0,ac,_=>ac
 |n+1,ac,v=>match v with
  |.agg cs=>foldO (frzV n) ac cs
  |.tup cs=>foldO (frzV n) ac cs
  |.func _ a cs=>foldO (frzV n) (foldO (frzV n) ac a) cs
  |.iface _ v=>frzV n ac v
  |.ref k _=>(match aC ac k with | .cells _ cs=>frz1 (foldO (frzV n) ac cs) k|_=>ac)
  |.csl k _ _ _=>(match aC ac k with | .cells _ cs=>frz1 (foldO (frzV n) ac cs) k|_=>ac)
  |.row k g=>frzR ac k g
  |.sub k g _ _ _=>frzR ac k g
  |_=>ac
def frzL(ac:aw)(l:az):aw:=foldO (frzV 6) ac l
def ak:a6->aw->aw
 |[],ac=>ac
 |k::r,ac=>ak r (match aC ac k with
  |.row g _ _ _=>frzR ac k g
  |.cells _ _=>frzV 6 ac (.ref k 0)
  |_=>ac)
inductive OR where
 |no
 |val (v:aa)
 |mkf (fn:Fn) (fs cs:az)
 |need (p:Prop) (r:OR)
 |alt (p:Prop) (v w:aa)
 |idx (n:Int) (k:Nat->OR)
 |elem (xs:az) (i:Nat) (k:aa->OR)
 |byte (l:ay) (i:Nat)
 |text (xs:az)
 |find (es:List (ax×aa)) (key:ax) (k:Option aa->OR)
 |born (x:ab) (v:aa)
 |upd (k:Nat) (x:ab) (v:aa)
 |nilq (xs:az) (neg:Bool)
 |call (f:Fn) (args:az)
 |pan (v:aa)
def OR.bind:OR->(aa->OR)->OR
 |.val v,k=>k v
 |.need p r,k=>.need p (r.bind k)
 |.elem xs i f,k=>.elem xs i λx=>(f x).bind k
 |.idx n f,k=>.idx n λi=>(f i).bind k
 |_,_=>.no
def dB:BinOp->IntKind->Int->Int->Int
 |op,k,x,y=>
  let a:=BitVec.ofInt k.bits x
  let b:=BitVec.ofInt k.bits y
  match op with
  |.and=>k.wrap (a &&& b).toNat
  |.or=>k.wrap (a ||| b).toNat
  |.xor=>k.wrap (a ^^^ b).toNat
  |_=>k.wrap (a &&& ~~~b).toNat
def G4(k:IntKind)(n:Int):OR:=.alt (inR k n) (.int k n) (.int k (k.wrap n))
def aGW:IntKind->IntKind->Bool
 |.i8,.i8 | .i16,.i16 | .i32,.i32 | .i64,.i64 | .u8,.u8 | .u16,.u16 | .u32,.u32 | .u64,.u64=>O
 |_,_=>S
def aSl(op:BinOp)(k:IntKind)(x y:Int):OR:=
 match op with
 |.add=>G4 k (x+y)
 |.sub=>G4 k (x-y)
 |.mul=>G4 k (x*y)
 |.quo=>.need (y≠0) (.alt (inR k (x.tdiv y)) (.int k (x.tdiv y)) (.int k (k.wrap (x.tdiv y))))
 |.rem=>.need (y≠0) (.val (.int k (x.tmod y)))
 |.and=>.val (.int k (dB .and k x y))
 |.or=>.val (.int k (dB .or k x y))
 |.xor=>.val (.int k (dB .xor k x y))
 |.andNot=>.val (.int k (dB .andNot k x y))
 |.eql=>.val (.bool (x==y))
 |.neq=>.val (.bool (x !=y))
 |.lss=>.val (.bool (decide (x<y)))
 |.leq=>.val (.bool (decide (x<=y)))
 |.gtr=>.val (.bool (decide (y<x)))
 |.geq=>.val (.bool (decide (y<=x)))
 |_=>.no
def ceq:az->az->Option Bool
 |[],[]=>X O
 |.int k a::r,.int k' b::s=>bif aGW k k' then(match ceq r s with|some c=>X ((a==b)&&c)|none=>U)else U
 |_,_=>U
def C1:List (Nat×Nat)->Nat->Nat
 |[],_=>0
 |(i,n)::r,t=>bif Au i t then n else C1 r t
def yX(op:BinOp)(c:Bool):OR:=
 match op with
 |.eql=>.val (.bool c)
 |.neq=>.val (.bool (!c))
 |_=>.no
def aPg(op:BinOp)(xs:az):OR:=
 match op with
 |.eql=>.nilq xs S
 |.neq=>.nilq xs O
 |_=>.no
def isC:Operand->Bool
 |.const _=>O
 |_=>S
def aQj(E:Env)(og:Nat->ab)(d:Bool)(op:BinOp)(t:Nat)(a b:aa):OR:=
 match a,b with
 |.int k x,.int k' y=>
  (match op with
  |.shl=>.need (0<=y) (.alt (y.toNat<=k.bits/\inR k (x*2^y.toNat)) (.int k (x*2^y.toNat)) (.int k (k.wrap (x*2^(min y.toNat k.bits)))))
  |.shr=>.need (0<=y/\y.toNat<=k.bits) (.val (.int k (x.fdiv (2^y.toNat))))
  |op=>bif aGW k k' then aSl op k x y else .no)
 |.str x,.str y=>
  (match op with
  |.add=>.need (((Z x+Z y:Nat):Int)<=9223372036854775807) (.val (.str (x++y)))
  |.eql=>.val (.bool (x==y))
  |.neq=>.val (.bool (!(x==y)))
  |.lss=>.val (.bool (Op.bytesLess x y))
  |.leq=>.val (.bool (Op.bytesLess x y||x==y))
  |.gtr=>.val (.bool (!(Op.bytesLess x y||x==y)))
  |.geq=>.val (.bool (!Op.bytesLess x y))
  |_=>.no)
 |.agg xs,.agg ys=>
  bif Fl 0 (C1 E.fl t)&&Au (TW xs) (C1 E.fl t)then
   (match op,ceq xs ys with
   |.eql,some c=>.val (.bool c)
   |.neq,some c=>.val (.bool (!c))
   |_,_=>.no)
  else .no
 |a,b=>match dE E.T t with
  |none=>.no
  |some f=>match f.kind,a,b with
   |.bool,.bool x,.bool y=>yX op (x==y)
   |.slc _ _ _,.slice _ _ .nil,.nilslice=>yX op O
   |.slc _ _ _,.nilslice,.nilslice=>yX op O
   |.slc _ _ _,.slice _ xs _,.nilslice=>aPg op xs
   |.ptr _,.nilptr,.nilptr=>yX op O
   |.ptr _,.ref _ _,.nilptr=>yX op S
   |.ptr _,.ptr _,.nilptr=>yX op S
   |.ptr e,.ref k o,.ref k' o'=>(match dE E.T e with
    |some _=>bif Au k k'&&Au o o' then yX op O else .no
    |none=>.no)
   |.iface,.nilif,.nilif=>bif d then yX op O else .no
   |.iface,.iface _ _,.nilif=>yX op S
   |.iface,.nilif,.iface _ _=>yX op S
   |_,_,_=>.no
def mk(a:TI)(l:az):Option aa:=
 bif a.agg then X (.agg l)else match l with
  |[c]=>X c
  |_=>U
def fin(a:TI)(l:Option az):OR:=
 match l with
 |none=>.no
 |some l=>match mk a l with
  |none=>.no
  |some v=>.val v
def aBj(E:Env)(og:Nat->ab)(t:Nat)(a:aa):OR:=
 match dE E.T t with
 |none=>.no
 |some b=>match a with
  |.ptr cs=>fin b (nO b.size cs)
  |.ref k off=>(match og k with
   |.cells _ cs=>fin b (nO b.size (lT off cs))
   |.fcells cs=>fin b (nO b.size (lT off cs))
   |_=>.no)
  |.eref k g i sz off=>(match og k with
   |.row d c _ xs=>bif Au g d&&Au sz c then .elem xs i λx=>fin b (nO b.size (lT off x.cells))else .no
   |_=>.no)
  |_=>.no
def aNz:az->aa
 |[c]=>c
 |_=>.undef
def aOY(x:aa)(cs:az):aa:=
 match x with
 |.agg _=>.agg cs
 |_=>aNz cs
def XG(E:Env)(og:Nat->ab)(t:Nat)(a v:aa):OR:=
 match dE E.T t with
 |none=>.no
 |some c=>
  bif rC v.cells&&Au (TW v.cells) c.size then
   match a with
   |.ref k off=>(match og k with
    |.cells T cs=>(match oX off v.cells cs with
     |some cs=>.upd k (.cells T cs) .undef
     |none=>.no)
    |_=>.no)
   |.eref k g i sz off=>(match og k with
    |.row d b e xs=>
     bif ((Au g d&&Au sz b)&&Fv 1 sz)&&rC (ai og 4 v).cells then
            (bif Au off 0&&Au c.size sz then .need (i<Z xs) (.upd k (.row g sz e (xs.set i (ai og 4 v))) .undef)
            else .elem xs i λx=>match oX off (ai og 4 v).cells x.cells with
             |some cs=>.upd k (.row g sz e (xs.set i (aOY x cs))) .undef
             |none=>.no)
     else .no
    |_=>.no)
   |_=>.no
  else .no
def XR(E:Env)(s:Nat)(a:aa)(f:Nat):OR:=
 match dE E.T s with
 |X {kind:=.strct fs,..}=>(match nth fs f with
  |none=>.no
  |some (off,sz,ag)=>match a with
   |.agg cs=>(match nO sz (lT off cs)with
    |none=>.no
    |some l=>bif ag then .val (.agg l)else match l with
     |[c]=>.val c
     |_=>.no)
   |_=>.no)
 |_=>.no
def xL(E:Env)(s:Nat)(a:aa)(f:Nat):OR:=
 match dE E.T s with
 |X {kind:=.strct fs,..}=>(match nth fs f with
  |none=>.no
  |some (off,sz,_)=>
   bif Au sz 0 then .no else
   match a with
   |.ptr cs=>.val (.ptr (lT off cs))
   |.ref k x=>.val (.ref k (x+off))
   |.eref k g i z x=>.val (.eref k g i z (x+off))
   |_=>.no)
 |_=>.no
def xK(E:Env)(og:Nat->ab)(t:Nat)(a i:aa):OR:=
 match dE E.T t,i with
 |some ti,.int _ n=>(match ti.kind with
  |.slc _ b _=>(match a with
   |.slice sz xs _=>bif Au sz b then .idx n λi=>.elem xs i λx=>.val (.ptr x.cells)else .no
   |.row k g=>(match og k with
    |.row c sz _ xs=>bif Au g c&&Au sz b then .idx n λi=>.need (i<Z xs) (.val (.eref k g i sz 0))else .no
    |.frow c sz xs=>bif Au g c&&Au sz b then .idx n λi=>.elem xs i λx=>.val (.ptr x.cells)else .no
    |_=>.no)
   |.sub k g lo len sz=>(match og k with
    |.row c d _ _=>bif (Au g c&&Au sz d)&&Au sz b then .idx n λi=>.need (i<len) (.val (.eref k g (lo+i) sz 0))else .no
    |_=>.no)
   |_=>.no)
  |.arr len b _=>(match a with
   |.ref k off=>.need (0<=n/\n.toNat<len) (.val (.ref k (off+n.toNat*b)))
   |.ptr cs=>.need (0<=n/\n.toNat<len) (.val (.ptr (lT (n.toNat*b) cs)))
   |_=>.no)
  |_=>.no)
 |_,_=>.no
def XQ(E:Env)(t:Nat)(a i:aa):OR:=
 match a,i with
 |.str l,.int _ n=>(match dE E.T t with
  |X {kind:=.str,..}=>.idx n λi=>.byte l i
  |_=>.no)
 |.agg cs,.int _ n=>(match dE E.T t with
  |X {kind:=.arr len esz ag,..}=>(match nO esz (lT (n.toNat*esz) cs)with
   |some l=>bif ag then .need (0<=n/\n<len) (.val (.agg l))else(match l with | [c]=>.need (0<=n/\n<len) (.val c)|_=>.no)
   |none=>.no)
  |_=>.no)
 |_,_=>.no
def GY(place:Nat->Option (Nat×Nat)):az->au->Option az
 |cs,[]=>X cs
 |cs,(i,v)::r=>match place i with
  |none=>U
  |some (off,sz)=>bif FP v&&Au (TW v.cells) sz then(match oX off v.cells cs with|some cs=>GY place cs r|none=>U)else U
def XT(E:Env)(t:Nat)(a:au):OR:=
 match dE E.T t with
 |some b=>(match b.kind,b.zero with
  |.strct fs,.agg z=>(match GY (λi=>(nth fs i).map λf=>(f.1,f.2.1)) z a with
   |some cs=>.val (.agg cs)
   |none=>.no)
  |.arr _ esz _,.agg z=>(match GY (λi=>X (i*esz,esz)) z a with
   |some cs=>.val (.agg cs)
   |none=>.no)
  |_,_=>.no)
 |_=>.no
def rT(hint base sz:Nat)(e:TypeId)(xs:az):OR:=
 match hint with
 |2=>.born (.row 0 sz e xs) (.row base 0)
 |_=>.born (.tail 0 sz e) (.slice sz xs (.own base 0))
def GZ(og:Nat->ab)(a:Nat):Nat->au->Option az
 |_,[]=>X []
 |n,(i,v)::r=>(λv=>bif Au i n&&Au (TW v.cells) a&&rC v.cells then(match GZ og a (n+1) r with|some l=>X (v::l)|none=>U)else U) (ai og 4 v)
def aF2:au->Nat
 |[]=>0
 |_::r=>aF2 r+1
def oK(E:Env)(hint base:Nat)(og:Nat->ab)(t len:Nat)(a:au):OR:=
 match dE E.T t with
 |X {kind:=.slc e esz _,..}=>
  bif Au (aF2 a) len&&Fv (len*esz) 1000&&Fv 1 esz then
   match GZ og esz 0 a with
   |some xs=>(match hint with|0=>.val (.slice esz xs .full)|h=>rT h base esz e xs)
   |none=>.no
  else .no
 |_=>.no
def evL(ρ:Operand->aa):List (Nat×Operand)->au
 |[]=>[]
 |(i,x)::r=>(i,ρ x)::evL ρ r
def evO(ρ:Operand->aa):List Operand->az
 |[]=>[]
 |x::r=>ρ x::evO ρ r
def bnd:Option aa->(Option Nat->OR)->OR
 |none,k=>k U
 |some (.int _ n),k=>.idx n λi=>k (X i)
 |some _,_=>.no
def XH(E:Env)(og:Nat->ab)(t:Nat)(a:aa)(lo b d:Option aa):OR:=
 match dE E.T t with
 |none=>.no
 |some f=>match a with
  |.str l=>(match f.kind,d with
   |.str,none=>bnd lo λlo=>bnd b λb=>match lo,b with
    |none,none=>.val (.str l)
    |some x,none=>.need (x<=Z l) (.val (.str (l.drop x)))
    |none,some y=>.need (y<=Z l) (.val (.str (l.take y)))
    |some x,some y=>.need (x<=y/\y<=Z l) (.val (.str ((l.take y).drop x)))
   |_,_=>.no)
  |.slice sz xs _=>(match f.kind with
   |.slc _ c _=>bif Au sz c then
     (bnd lo λlo=>bnd b λb=>bnd d λd=>match d with
     |none=>(match lo,b with
            |none,none=>.val (.slice sz xs .no)
            |some x,none=>.need (x<=Z xs) (.val (.slice sz (xs.drop x) .no))
            |none,some y=>.need (y<=Z xs) (.val (.slice sz (xs.take y) .no))
            |some x,some y=>.need (x<=y/\y<=Z xs) (.val (.slice sz ((xs.take y).drop x) .no)))
     |some m=>(match lo,b with
            |none,some y=>.need (y<=Z xs/\m=y) (.val (.slice sz (xs.take y) .full))
            |_,_=>.no))
    else .no
   |_=>.no)
  |.row k g=>(match f.kind,d,og k with
   |.slc _ c _,none,.row g' sz _ xs=>bif Au g g'&&Au sz c then
     (bnd lo λlo=>bnd b λb=>match lo,b with
     |none,none=>.val (.row k g)
     |some x,none=>.need (x<=Z xs) (.val (.sub k g x (Z xs-x) sz))
     |none,some y=>.need (y<=Z xs) (.val (.sub k g 0 y sz))
     |some x,some y=>.need (x<=y/\y<=Z xs) (.val (.sub k g x (y-x) sz)))
    else .no
   |_,_,_=>.no)
  |.sub k g e len sz=>(match f.kind,d,og k with
   |.slc _ c _,none,.row g' sz' _ xs=>bif (Au g g'&&Au sz sz')&&Au sz c then
     (bnd lo λlo=>bnd b λb=>match lo,b with
     |none,none=>.val (.sub k g e len sz)
     |some x,none=>.need (x<=len) (.val (.sub k g (e+x) (len-x) sz))
     |none,some y=>.need (e+y<=Z xs) (.val (.sub k g e y sz))
     |some x,some y=>.need (x<=y/\e+y<=Z xs) (.val (.sub k g (e+x) (y-x) sz)))
    else .no
   |_,_,_=>.no)
  |.ref k off=>(match f.kind,lo,b,d with
   |.arr len c _,none,none,none=>.need ((len:Int)<=9223372036854775807) (.val (.csl k off len c))
   |_,_,_,_=>.no)
  |.ptr cs=>(match f.kind,lo,b,d with
   |.arr len 1 false,none,none,none=>(match nO len cs with
    |some l=>bif rC l then .need ((len:Int)<=9223372036854775807) (.val (.slice 1 l .full))else .no
    |none=>.no)
   |_,_,_,_=>.no)
  |_=>.no
def ub(c:UInt8):aa:=.int .u8 c.toNat
def aJH(og:Nat->ab):aa->Option (Nat×az)
 |.slice sz xs _=>X (sz,xs)
 |.row k g=>(match og k with
  |.row a sz _ xs=>bif Au g a then X (sz,xs)else U
  |.frow a sz xs=>bif Au g a then X (sz,xs)else U
  |_=>U)
 |.sub k g lo len sz=>(match og k with
  |.row a b _ xs=>bif Au g a&&Au sz b then X (sz,(xs.drop lo).take len)else U
  |_=>U)
 |_=>U
def aEz(E:Env)(og:Nat->ab)(a b:Nat)(x:aa):Option az:=
 match x with
 |.str l=>(match dE E.T b with|X {kind:=.str,..}=>bif Au a 1 then X (l.map ub)else U|_=>U)
 |.nilslice=>(match dE E.T b with|X {kind:=.slc _ _ _,..}=>X []|_=>U)
 |x=>match dE E.T b,aJH og x with
  |X {kind:=.slc _ _ _,..},X (sz,xs)=>bif Au sz a then X xs else U
  |_,_=>U
def aH0(E:Env)(og:Nat->ab)(s d:Nat)(a:aa):OR:=
 match dE E.T s,dE E.T d with
 |some ts,some td=>(match td.kind,a with
  |.int k,.int _ n=>.alt (inR k n) (.int k n) (.int k (k.wrap n))
  |.str,.str l=>(match ts.kind with | .str=>.val (.str l)|_=>.no)
  |.slc e 1 _,.str l=>(match ts.kind,dE E.T e with
   |.str,X {kind:=.int .u8,..}=>.val (.slice 1 (l.map ub) .no)
   |_,_=>.no)
  |.str,a=>(match ts.kind,aJH og a with
   |.slc e 1 _,some (1,xs)=>(match dE E.T e with
    |X {kind:=.int .u8,..}=>.text xs
    |_=>.no)
   |_,_=>.no)
  |_,_=>.no)
 |_,_=>.no
def aQe(E:Env)(og:Nat->ab)(t:Nat)(a:aa):OR:=
 match dE E.T t with
 |none=>.no
 |some c=>match c.kind,a with
  |.str,.str l=>.val (.int .i64 (Z l))
  |.slc _ _ _,.slice _ xs _=>.val (.int .i64 (Z xs))
  |.slc _ _ _,.nilslice=>.val (.int .i64 0)
  |.slc _ _ _,.csl _ _ len _=>.val (.int .i64 len)
  |.slc _ _ _,.hsl _ n _=>.need ((n:Int)<=9223372036854775807) (.val (.int .i64 n))
  |.slc _ _ _,.row k g=>(match og k with
   |.row b _ _ xs=>bif Au g b then .val (.int .i64 (Z xs))else .no
   |.frow b _ xs=>bif Au g b then .val (.int .i64 (Z xs))else .no
   |_=>.no)
  |.slc _ _ _,.sub _ _ _ len _=>.val (.int .i64 len)
  |.arr n _ _,_=>.need ((n:Int)<=9223372036854775807) (.val (.int .i64 n))
  |_,_=>.no
def A8(n a:Nat):Prop:=n<=maxLen/\n*a<=140737488355328
def vU(E:Env)(hint base:Nat)(og:Nat->ab)(t d:Nat)(s x:aa):OR:=
 match dE E.T t with
 |X {kind:=.slc e esz eb,..}=>
  bif Fv 1 esz then
   match aEz E og esz d x with
   |none=>.no
   |some ys=>(match s with
    |.slice sz xs tk=>(match tk with
     |.own k g=>(match og k with
      |.tail b a c=>bif ((Au g b&&Au sz a)&&Au sz esz)&&Au e c then .need (A8 (Z xs+Z ys) eb) (.upd k (.tail (g+1) esz e) (.slice esz (xs++ys) (.own k (g+1))))else .no
      |_=>.no)
     |.nil=>bif Au sz esz then .need (A8 (Z ys) eb) (rT hint base esz e ys)else .no
     |.full=>bif Au sz esz then .need (A8 (Z xs+Z ys) eb) (match hint with|0=>.val (.slice esz (xs++ys) .no)|3=>.need (ys=[]) (.val (.slice esz xs .full))|h=>.need (ys≠[]) (rT h base esz e (xs++ys)))else .no
     |.no=>.no)
    |.nilslice=>.need (A8 (Z ys) eb) (rT hint base esz e ys)
    |.row k g=>(match og k with
     |.row b sz c xs=>bif (Au g b&&Au sz esz)&&Au e c then .need (A8 (Z xs+Z ys) eb) (.upd k (.row (g+1) sz e (xs++ys)) (.row k (g+1)))else .no
     |_=>.no)
    |.sub k g lo len sz=>(match og k with
     |.row b a c xs=>bif ((Au g b&&Au sz a)&&Au sz esz)&&Au e c then
       .need (lo+len+Z ys<=Z xs) (.upd k (.row g sz e (xs.take (lo+len)++ys++xs.drop (lo+len+Z ys))) (.sub k g lo (len+Z ys) sz))else .no
     |_=>.no)
    |_=>.no)
  else .no
 |_=>.no
def aHZ(E:Env)(og:Nat->ab)(t f:Nat)(d x:aa):OR:=
 match dE E.T t with
 |X {kind:=.slc e esz _,..}=>
  bif Fv 1 esz then
   match aEz E og esz f x with
   |none=>.no
   |some ys=>(match d with
    |.row k g=>(match og k with
     |.row b sz a xs=>bif Au g b&&Au sz esz then .upd k (.row g sz a (ys.take (Z xs)++xs.drop (Z ys))) (.int .i64 (min (Z ys) (Z xs):Nat))else .no
     |_=>.no)
    |.sub k g lo len sz=>(match og k with
     |.row b c a xs=>bif (Au g b&&Au sz c)&&Au sz esz then
       .upd k (.row g sz a (xs.take lo++ys.take len++xs.drop (lo+min (Z ys) len))) (.int .i64 (min (Z ys) len:Nat))else .no
     |_=>.no)
    |_=>.no)
  else .no
 |_=>.no
def XS(E:Env)(og:Nat->ab)(t:Nat)(d:aa):OR:=
 match dE E.T t with
 |X {kind:=.slc e esz _,..}=>(match dE E.T e with
  |some b=>bif Fv 1 esz&&FP (ai (λ_=>.dead) 4 b.zero)then(match d with
   |.sub k g lo len sz=>(match og k with
    |.row c a f xs=>bif (Au g c&&Au sz a)&&Au sz esz then
            .upd k (.row g sz f (xs.take lo++Ak len (ai (λ_=>.dead) 4 b.zero)++xs.drop (lo+len))) (.tup [])else .no
    |_=>.no)
   |_=>.no)else .no
  |none=>.no)
 |_=>.no
def aBh(E:Env)(hint base:Nat)(t:Nat)(n c:aa):OR:=
 match dE E.T t,n,c with
 |X {kind:=.slc e esz f,..},.int _ a,.int _ b=>(match dE E.T e with
  |some d=>bif Fv 1 esz&&FP (ai (λ_=>.dead) 4 d.zero)then
    .idx a λi=>.need (a=b/\(f:Int)*b<=281474976710656/\i<=maxLen) (.born (.row 0 esz e (Ak i (ai (λ_=>.dead) 4 d.zero))) (.row base 0))
   else .no
  |none=>.no)
 |_,_,_=>.no
def SA:az->Option ax
 |[]=>X []
 |.int .i64 n::r=>(match SA r with|some l=>X (n::l)|none=>U)
 |_=>U
def J2(E:Env)(k:Nat)(a:Bool)(v:aa):Option ax:=
 match a with
 |false=>(match dE E.T k with
  |X {kind:=.int .i64,..}=>(match v with | .int .i64 n=>X [n]|_=>U)
  |_=>U)
 |true=>(match dE E.T k with
  |some _=>(match v with
   |.agg cs=>(match SA cs with
    |some l=>bif Fl 0 (C1 E.fl k)&&Au (TW cs) (C1 E.fl k)then X l else U
    |none=>U)
   |_=>U)
  |none=>U)
def bZ:List (ax×aa)->ax->Option aa
 |[],_=>U
 |(k,v)::r,x=>if k=x then X v else bZ r x
def mZ:List (ax×aa)->ax->aa->List (ax×aa)
 |[],x,y=>[(x,y)]
 |(k,v)::r,x,y=>if k=x then(x,y)::r else(k,v)::mZ r x y
def H6:List (ax×aa)->ax->List (ax×aa)
 |[],_=>[]
 |(k,v)::r,x=>if k=x then r else(k,v)::H6 r x
def DR(a:Bool)(es:List (ax×aa))(key:ax)(r:OR):OR:=
 match a with
 |false=>r
 |true=>.need (∀p∈es,Z p.1=Z key) r
def N5(E:Env)(og:Nat->ab)(t:Nat)(m k:aa)(ok:Bool):OR:=
 match dE E.T t,m with
 |X {kind:=.mp kt e,..},.mref j=>(match dE E.T e,og j with
  |some te,.mp ag es=>(match J2 E kt ag k with
   |some key=>DR ag es key (.find es key λo=>match o with
    |some v=>.val (bif ok then .tup [v,.bool O]else v)
    |none=>.val (bif ok then .tup [te.zero,.bool S]else te.zero))
   |none=>.no)
  |_,_=>.no)
 |_,_=>.no
def XP(E:Env)(og:Nat->ab)(t:Nat)(m k v:aa):OR:=
 match dE E.T t,m with
 |X {kind:=.mp kt _,..},.mref j=>(match og j with
  |.mp a es=>(match J2 E kt a k with
   |some key=>(λv=>bif FP v then DR a es key (.upd j (.mp a (mZ es key v)) .undef)else .no) (ai og 4 v)
   |none=>.no)
  |_=>.no)
 |_,_=>.no
def N4(E:Env)(og:Nat->ab)(t:Nat)(m k:aa):OR:=
 match dE E.T t,m with
 |X {kind:=.mp kt _,..},.mref j=>(match og j with
  |.mp a es=>(match J2 E kt a k with
   |some key=>DR a es key (.upd j (.mp a (H6 es key)) (.tup []))
   |none=>.no)
  |_=>.no)
 |_,_=>.no
def EJ(E:Env)(ty:Nat):aa->aa
 |.nilslice=>(match dE E.T ty with|X {kind:=.slc _ esz _,..}=>.slice esz [] .nil|_=>.nilslice)
 |v=>v
def nM(E:Env)(hint base:Nat)(og:Nat->ab)(ρ:Operand->aa)(op:Op)(ty:TypeId):OR:=
 match op with
 |.move x=>.val (ρ x)
 |.assign x=>(match hint with
  |0=>.val (EJ E ty (ρ x))
  |h=>match EJ E ty (ρ x)with
   |.slice p xs t=>(match t with
    |.nil=>(match xs with
          |[]=>(match dE E.T ty with|X {kind:=.slc e esz' _,..}=>bif Au p esz'&&Fv 1 p then rT h base p e []else .no|_=>.no)
          |_::_=>.no)
    |t=>.val (.slice p xs t))
   |v=>.val v)
 |.pick c a b=>(match ρ c with
  |.bool true=>.val (ρ a)
  |.bool false=>.val (ρ b)
  |_=>.no)
 |.alloc t=>(match dE E.T t with
  |some j=>bif rC j.zero.cells then .born (.cells t j.zero.cells) (.ref base 0)else .no
  |none=>.no)
 |.box t x=>(λv=>bif rC v.cells then .born (.cells t v.cells) (.ref base 0)else .no) (ρ x)
 |.build t w=>XT E t (evL ρ w.toList)
 |.buildSlice t n w=>oK E hint base og t n (evL ρ w.toList)
 |.load t a=>(aBj E og t (ρ a)).bind λv=>.val (EJ E t v)
 |.store t a x=>XG E og t (ρ a) (EJ E t (ρ x))
 |.nilCheck x=>(match ρ x with
  |.ref k off=>.val (.ref k off)
  |.eref k g i sz off=>.val (.eref k g i sz off)
  |.ptr cs=>.val (.ptr cs)
  |.func (.func f) o cs=>.val (.func (.func f) o cs)
  |.func (.yield f) o cs=>.val (.func (.yield f) o cs)
  |.iface t v=>.val (.iface t v)
  |_=>.no)
 |.binOp op t x y _=>aQj E og (isC x||isC y) op t (ρ x) (ρ y)
 |.unOp op _ x=>(match op,ρ x with
  |.not,.bool b=>.val (.bool (!b))
  |.neg,.int k n=>G4 k (0-n)
  |.xor,.int k n=>.val (.int k (dB .xor k (if k.signed then -1 else k.max) n))
  |_,_=>.no)
 |.convert s d x=>aH0 E og s d (ρ x)
 |.makeSlice t n c=>aBh E hint base t (ρ n) (ρ c)
 |.makeInterface t x=>(match dE E.T t with
  |some j=>(match j.kind with | .iface=>.no|_=>.val (.iface t (ρ x)))
  |none=>.no)
 |.makeFunc fn o cs=>.mkf fn (evO ρ o.toList) (evO ρ cs.toList)
 |.slice t x lo z A=>XH E og t (ρ x) (lo.map ρ) (z.map ρ) (A.map ρ)
 |.fieldAddr t x f=>xL E t (ρ x) f
 |.field t x f=>(XR E t (ρ x) f).bind λv=>.val (EJ E ty v)
 |.indexAddr t x i=>xK E og t (ρ x) (ρ i)
 |.index t x i=>XQ E t (ρ x) (ρ i)
 |.extract x i=>(match ρ x with
  |.tup vs=>(match nth vs i with|some v=>.val v|none=>.no)
  |_=>.no)
 |.panic x=>(match ρ x with
  |.iface t v=>(λv=>bif FP v then .pan (.iface t v)else .no) (ai og 3 v)
  |_=>.no)
 |.typeAssert x _ t ok=>(match dE E.T t,ρ x with
  |some j,.iface u v=>(match j.kind with
   |.iface=>.no
   |_=>bif Au u t then .val (bif ok then .tup [v,.bool O]else v)else(bif ok then .val (.tup [j.zero,.bool S])else .no))
  |some j,.nilif=>(match j.kind with
   |.iface=>.no
   |_=>bif ok then .val (.tup [j.zero,.bool S])else .no)
  |_,_=>.no)
 |.makeMap t none=>(match dE E.T t with
  |X {kind:=.mp k _,..}=>(match dE E.T k with
   |some tk=>.born (.mp tk.agg []) (.mref base)
   |none=>.no)
  |_=>.no)
 |.lookup t m k ok=>N5 E og t (ρ m) (ρ k) ok
 |.mapUpdate t m k v=>XP E og t (ρ m) (ρ k) (ρ v)
 |.call c=>(match c.callee with
  |.value f=>(match ρ f with
   |.func (.func g) o cs=>.call (.func g) (aDJ (aDJ o (evO ρ c.args.toList)) cs)
   |.func (.yield l) o _=>.call (.yield l) (aDJ o (evO ρ c.args.toList))
   |_=>.no)
  |.invoke r q=>(match ρ r with
   |.iface t v=>(match aGC E.mt t q with
    |some g=>.call (.func g) (v::evO ρ c.args.toList)
    |none=>.no)
   |_=>.no)
  |.builtin b=>(match b,c.args.toList,c.argTypes.toList with
   |.len,[x],[t]=>aQe E og t (ρ x)
   |.min,[x,y],_=>(match ρ x,ρ y with | .int k a,.int k' b=>bif aGW k k' then .val (.int k (min a b))else .no|_,_=>.no)
   |.max,[x,y],_=>(match ρ x,ρ y with | .int k a,.int k' b=>bif aGW k k' then .val (.int k (max a b))else .no|_,_=>.no)
   |.append,[x,y],[t,t2]=>vU E hint base og t t2 (ρ x) (ρ y)
   |.copy,[x,y],[t,t2]=>aHZ E og t t2 (ρ x) (ρ y)
   |.clear,[x],[t]=>XS E og t (ρ x)
   |.delete,[m,k],[t,_]=>N4 E og t (ρ m) (ρ k)
   |_,_,_=>.no))
 |_=>.no
def nrm:aa->aa
 |.rowc k g _=>.row k g
 |.pre k g n _ sz=>.sub k g 0 n sz
 |v=>v
def aQh(E:Env)(hint:Nat)(og:Nat->ab)(t k g c:Nat)(h:aa):OR:=
 match dE E.T t,og k,h with
 |X {kind:=.slc _ esz _,..},.row g' sz e xs,.int _ n=>bif (Au g g'&&Au sz esz)&&Fv 1 sz then
   .idx n λy=>(match hint with
    |0=>.need (y<=Z xs/\0<c) (.val (.pre k g y c sz))
    |_=>.need (Z xs<=y/\y<=c) (.upd k (.row (g+1) sz e (xs++Ak (y-Z xs) (.agg (Ak sz .undef)))) (.row k (g+1))))
  else .no
 |_,_,_=>.no
def aHY(E:Env)(og:Nat->ab)(t k g:Nat)(l h m:aa):OR:=
 match dE E.T t,og k,l,h,m with
 |X {kind:=.slc _ esz _,..},.row g' sz _ xs,.int _ a,.int _ b,.int _ c=>bif Au g g'&&Au sz esz then
   .idx a λx=>.idx b λy=>.idx c λz=>.need ((x<=y/\y<=z)/\z<=Z xs) (.val .undef)
  else .no
 |_,_,_,_,_=>.no
def aBe(E:Env)(base:Nat)(og:Nat->ab)(t k g n c sz:Nat)(m:aa):OR:=
 match dE E.T t,og k,m with
 |X {kind:=.slc e esz eb,..},.row g' sz' e' xs,.int .i64 a=>(match dE E.T e with
  |some b=>bif ((Au g g'&&Au sz sz')&&(Au sz esz&&Au e e'))&&(Fv 1 esz&&FP (ai (λ_=>.dead) 4 b.zero))then
    .idx a λy=>.need (c<n+y/\A8 (n+y) eb) (.born (.row 0 esz e (xs.take n++Ak y (ai (λ_=>.dead) 4 b.zero))) (.row base 0))
   else .no
  |none=>.no)
 |_,_,_=>.no
def mG(E:Env)(hint base:Nat)(og:Nat->ab)(ρ:Operand->aa)(op:Op):Option OR:=
 match op with
 |.move x=>X (.val (ρ x))
 |.assign x=>(match ρ x with
  |.rowc k g c=>X (.val (.rowc k g c))
  |_=>U)
 |.slice t x none (some h) none=>(match ρ x with
  |.rowc k g c=>X (aQh E hint og t k g c (ρ h))
  |_=>U)
 |.slice t x (some l) (some h) (some m)=>(match ρ x with
  |.row k g=>X (aHY E og t k g (ρ l) (ρ h) (ρ m))
  |_=>U)
 |.call c=>(match c.callee with
  |.builtin .cap=>(match c.args.toList,c.argTypes.toList with
   |[x],[t]=>(match ρ x,dE E.T t with
    |.rowc _ _ n,X {kind:=.slc _ _ _,..}=>X (.val (.int .i64 n))
    |_,_=>U)
   |_,_=>U)
  |.builtin .append=>(match c.args.toList,c.argTypes.toList with
   |[x,y],[t,t2]=>(match ρ x,dE E.T t2 with
    |.pre k g n c sz,X {kind:=.int _,..}=>X (aBe E base og t k g n c sz (ρ y))
    |_,_=>U)
   |_,_=>U)
  |_=>U)
 |_=>U
def eop(E:Env)(hint base:Nat)(og:Nat->ab)(ρ:Operand->aa)(op:Op)(ty:TypeId):OR:=
 match mG E hint base og ρ op with
 |some r=>r
 |none=>nM E hint base og (λx=>nrm (ρ x)) op ty
def KDL(f:aa->(aa->Prop)->Prop):az->(az->Prop)->Prop
 |[],k=>k []
 |c::r,k=>f c λc=>KDL f r λr=>k (c::r)
def KD:Nat->aa->(aa->Prop)->Prop
 |0,v,k=>k v
 |n+1,v,k=>match v with
  |.undef=>k .undef
  |.bool b=>k (.bool b)
  |.int i n=>k (.int i n)
  |.str l=>k (.str l)
  |.slice sz xs t=>(match t with | .no=>k (.slice sz xs .no) | .nil=>k (.slice sz xs .nil) | .full=>k (.slice sz xs .full) | .own a b=>k (.slice sz xs (.own a b)))
  |.agg cs=>KDL (KD n) cs λcs=>k (.agg cs)
  |.tup cs=>KDL (KD n) cs λcs=>k (.tup cs)
  |.ptr cs=>k (.ptr cs)
  |.ref a b=>k (.ref a b)
  |.eref a b c d e=>k (.eref a b c d e)
  |.csl a b c d=>k (.csl a b c d)
  |.row a b=>k (.row a b)
  |.sub a b c d e=>k (.sub a b c d e)
  |.rowc a b c=>k (.rowc a b c)
  |.pre a b c d e=>k (.pre a b c d e)
  |.mref a=>k (.mref a)
  |.nilptr=>k .nilptr
  |.nilslice=>k .nilslice
  |.nilmap=>k .nilmap
  |.nilfunc=>k .nilfunc
  |.nilif=>k .nilif
  |.hsl a n c=>k (.hsl a n c)
  |.func fn f cs=>k (.func fn f cs)
  |.iface t v=>KD n v λv=>k (.iface t v)
def OT{f:aa->(aa->Prop)->Prop}(b:∀v k,f v k=k v)(l:az):∀(k:az->Prop),KDL f l k=k l:=by
 induction l with
 |nil=>intro k;rfl
 |cons c r a=>intro k;simp only[KDL,b,a]
theorem sF(n:Nat):∀(v:aa) (k:aa->Prop),KD n v k=k v:=by
 induction n with
 |zero=>intro v k;rfl
 |succ n a=>
  intro v k;cases v<;>simp only[KD,OT a,a]
  grind
def OD(x:ab)(k:ab->Prop):Prop:=
 match x with
 |.dead=>k .dead
 |.cells T cs=>KDL (KD 3) cs λcs=>k (.cells T cs)
 |.fcells cs=>KDL (KD 3) cs λcs=>k (.fcells cs)
 |.row g sz e xs=>k (.row g sz e xs)
 |.frow g sz xs=>k (.frow g sz xs)
 |.tail g sz e=>k (.tail g sz e)
 |.mp a es=>k (.mp a es)
 |.bun g I=>k (.bun g I)
def aI0(x:ab)(k:ab->Prop):OD x k=k x:=by cases x<;>simp only[OD,OT (sF 3)]
def ODL:aw->(aw->Prop)->Prop
 |[],k=>k []
 |c::r,k=>OD c λc=>ODL r λr=>k (c::r)
def xR(l:aw):∀(k:aw->Prop),ODL l k=k l:=by
 induction l with
 |nil=>intro k;rfl
 |cons c r a=>intro k;simp only[ODL,aI0,a]
def AV:au->Nat->aa->(au->Prop)->Prop
 |[],n,x,k=>k [(n,x)]
 |(i,v)::r,n,x,k=>bif Au i n then k ((n,x)::r)else AV r n x λr=>k ((i,v)::r)
def mA(l:au)(n:Nat)(x:aa):∀(k:au->Prop),AV l n x k=k (iI l n x):=by
 induction l with
 |nil=>intro k;rfl
 |cons c r a=>intro k;obtain⟨i,v⟩:=c;simp only[AV,iI,a];grind
def pos(k:Nat):Nat->a6->Option Nat
 |_,[]=>U
 |j,x::r=>bif Au x k then X j else pos k (j+1) r
def iE:ab->Nat
 |.row g _ _ _=>g
 |.tail g _ _=>g
 |.bun g _=>g
 |_=>0
def gm(n0 j a g:Nat):Option Nat:=
 bif Au g a then X (bif Fl j n0 then(bif Au a 0 then 0 else 1)else 0)else(bif Fl j n0&&Au g 0 then X 0 else U)
def cvtV(n0:Nat)(ks:a6)(og:Nat->ab):Nat->aa->aa
 |0,_=>.undef
 |n+1,v=>match v with
  |.slice sz xs t=>(match t with
   |.full=>.slice sz xs .full
   |.nil=>(match ks with | []=>.slice sz xs .no|_::_=>.slice sz xs .nil)
   |.own k g=>(match pos k 0 ks with
    |some j=>(match gm n0 j (iE (og k)) g with|some g=>.slice sz xs (.own j g)|none=>.slice sz xs .no)
    |none=>.slice sz xs .no)
   |_=>.slice sz xs .no)
  |.agg cs=>.agg (eF (cvtV n0 ks og n) cs)
  |.tup cs=>.tup (eF (cvtV n0 ks og n) cs)
  |.func fn a cs=>.func fn (eF (cvtV n0 ks og n) a) (eF (cvtV n0 ks og n) cs)
  |.iface t v=>.iface t (cvtV n0 ks og n v)
  |.ref k off=>(match pos k 0 ks with
   |some j=>(match gm n0 j (iE (og k)) 0 with|some _=>.ref j off|none=>.undef)
   |none=>ai og 1 (.ref k off))
  |.csl k off len sz=>(match pos k 0 ks with
   |some j=>(match gm n0 j (iE (og k)) 0 with|some _=>.csl j off len sz|none=>.undef)
   |none=>ai og 1 (.csl k off len sz))
  |.row k g=>(match pos k 0 ks with
   |some j=>(match gm n0 j (iE (og k)) g with|some g=>.row j g|none=>.undef)
   |none=>ai og 1 (.row k g))
  |.sub k g lo len sz=>(match pos k 0 ks with
   |some j=>(match gm n0 j (iE (og k)) g with|some g=>.sub j g lo len sz|none=>.undef)
   |none=>ai og 1 (.sub k g lo len sz))
  |.mref k=>(match pos k 0 ks with|some j=>(match gm n0 j (iE (og k)) 0 with|some _=>.mref j|none=>.undef)|none=>.undef)
  |.eref _ _ _ _ _=>.undef
  |.rowc _ _ _=>.undef
  |.pre _ _ _ _ _=>.undef
  |v=>v
def IE(n0:Nat)(ks:a6)(ac:aw)(j:Nat):ab->ab
 |.cells T cs=>.cells T (eF (cvtV n0 ks (aC ac) 4) cs)
 |.row g sz e xs=>.row (match gm n0 j g g with|some g=>g|none=>0) sz e xs
 |.tail g sz e=>.tail (match gm n0 j g g with|some g=>g|none=>0) sz e
 |.bun g I=>.bun (match gm n0 j g g with|some g=>g|none=>0) I
 |o=>o
def sW(n0:Nat)(ks:a6)(ac:aw):Nat->a6->aw
 |_,[]=>[]
 |j,k::r=>IE n0 ks ac j (aC ac k)::sW n0 ks ac (j+1) r
def gT(n0:Nat)(ks:a6)(ac:aw):aw:=sW n0 ks ac 0 ks
def jS:a6->aw->Bool
 |[],_=>O
 |k::r,ac=>(aC ac k).owns&& !wC k r&&jS r ac
def upto:Nat->Nat->a6
 |_,0=>[]
 |j,n+1=>j::upto (j+1) n
def jP:Nat->Nat->a6->Bool
 |0,_,_=>O
 |n+1,j,k::r=>Au k j&&jP n (j+1) r
 |_+1,_,[]=>S
def fI(ks:a6)(base j:Nat):Nat:=match nth ks j with|some k=>k|none=>base+(j-(olenN ks))
 where olenN:a6->Nat
 |[]=>0
 |_::r=>olenN r+1
def jT(ks:a6)(ac:aw)(j g:Nat):Nat:=match nth ks j with|some k=>iE (aC ac k)+g|none=>g
def embV(ks:a6)(base:Nat)(ac:aw):Nat->aa->aa
 |0,_=>.undef
 |n+1,v=>match v with
  |.slice sz xs t=>(match t with
   |.own j g=>.slice sz xs (.own (fI ks base j) (jT ks ac j g))
   |t=>.slice sz xs t)
  |.agg cs=>.agg (eF (embV ks base ac n) cs)
  |.tup cs=>.tup (eF (embV ks base ac n) cs)
  |.func fn a cs=>.func fn (eF (embV ks base ac n) a) (eF (embV ks base ac n) cs)
  |.iface t v=>.iface t (embV ks base ac n v)
  |.ref j off=>.ref (fI ks base j) off
  |.csl j off len sz=>.csl (fI ks base j) off len sz
  |.row j g=>.row (fI ks base j) (jT ks ac j g)
  |.sub j g lo len sz=>.sub (fI ks base j) (jT ks ac j g) lo len sz
  |.mref j=>.mref (fI ks base j)
  |.eref _ _ _ _ _=>.undef
  |.rowc _ _ _=>.undef
  |.pre _ _ _ _ _=>.undef
  |v=>v
def uD(ks:a6)(base:Nat)(ac:aw)(j:Nat):ab->ab
 |.cells T cs=>.cells T (eF (embV ks base ac 4) cs)
 |.row g sz e xs=>.row (jT ks ac j g) sz e xs
 |.frow g sz xs=>.frow (jT ks ac j g) sz xs
 |.tail g sz e=>.tail (jT ks ac j g) sz e
 |.bun g I=>.bun (jT ks ac j g) I
 |o=>o
def iD(ks:a6)(base:Nat)(ac:aw):Nat->aw->aw->aw
 |_,[],l=>l
 |j,o::r,l=>iD ks base ac (j+1) r (bQ l (fI ks base j) (uD ks base ac j o))
inductive Res where
 |ret (a:aa)
 |pan (a:aa)
def uN(M:Imm)(ob:Hs):Ending->Res->Prop
 |.returned v,.ret a=>Rep M ob v a
 |.panicked ch,.pan a=>∃v,ch=[{v,recovered:=S}]/\Rep M ob v a
 |_,_=>False
def cL(M:Imm)(ob:Hs)(vs:bb)(as:az):Prop:=
 Z vs=Z as/\∀(i:Nat) v a,vs[i]? =X v->as[i]? =X a->Rep M ob v a
def jR(P:Program)(f:FuncId)(a:Array Value)(w:World)(R:Ending->World->Prop):Prop:=
 ((callFunc f a).run P w= .ok (.enter f a) w/\Calls P f a w R)\/∃u w',(callFunc f a).run P w= .ok (.value u) w'/\R (.returned u) w'
def aDQ(P:Program)(l:Nat)(b:Array Value)(w:World)(R:Ending->World->Prop):Prop:=
 ∃f tmps as a,(Instr.yield l b).run P w= .ok (.round l f tmps as a) w/\RoundIn Fence.wide 0 P l f tmps as a w R
def HG:Fn->Array Value->Sem Next
 |.func f,va=>callFunc f va
 |.yield l,va=>Instr.yield l va
 |_,va=>callFunc 0 va
@[reducible] def cP(P:Program)(f:Fn)(va:Array Value)(w:World)(R:Ending->World->Prop):Prop:=
 match f with
 |.func f=>jR P f va w R
 |.yield l=>aDQ P l va w R
 |_=>False
def bN(P:Program)(f:Fn)(args:az)(ac:aw)(r:Res)(ap:aw):Prop:=
 ∀M ob w a,Mem M ob ac w->cL M ob a args->
  cP P f a.toArray w λe w'=>∃M' ob',Ext M ob ac w M' ob' ap w'/\Mem M' ob' ap w'/\uN M' ob' e r
abbrev aA(P:Program)(f:FuncId)(args:az)(ac:aw)(r:Res)(ap:aw):Prop:=bN P (.func f) args ac r ap
inductive CallG(P:Program)(f:Fn)(args:az)(ac:aw)(K:aa->aw->Prop)(Kp:aa->aw->Prop):Prop
 |pure (r:aa) (new:aw) (h:bN P f (eF (cvtV 0 [] (aC (frzL ac args)) 5) args) [] (.ret r) new) (k:K (embV [] (aS ac) (frzL ac args) 5 r) (iD [] (aS ac) (frzL ac args) 0 new (frzL ac args)))
 |eff (fz ks:a6) (r:aa) (ap:aw) (hk:jS ks (ak fz ac)=O) (h:bN P f (eF (cvtV 0 ks (aC (ak fz ac)) 5) args) (gT 0 ks (ak fz ac)) (.ret r) ap)
   (k:K (embV ks (aS (ak fz ac)) (ak fz ac) 5 r) (iD ks (aS (ak fz ac)) (ak fz ac) 0 ap (ak fz ac)))
 |effp (fz ks:a6) (r:aa) (ap:aw) (hk:jS ks (ak fz ac)=O) (h:bN P f (eF (cvtV 0 ks (aC (ak fz ac)) 5) args) (gT 0 ks (ak fz ac)) (.pan r) ap)
   (k:Kp (embV ks (aS (ak fz ac)) (ak fz ac) 5 r) (iD ks (aS (ak fz ac)) (ak fz ac) 0 ap (ak fz ac)))
 |pan (r:aa) (h:bN P f (eF (cvtV 0 [] (aC (frzL ac args)) 5) args) [] (.pan r) []) (k:Kp r (frzL ac args))
inductive CallD(P:Program)(f:Fn)(args:az)(so:Bool)(seen:aw)(base:Nat)(ac:aw)(K:aa->aw->Prop)(Kp:aa->aw->Prop):Prop
 |pure (r:aa) (new:aw) (h:bN P f (eF (cvtV 0 [] (aC seen) 5) args) [] (.ret r) new) (k:K (embV [] base seen 5 r) (iD [] base seen 0 new ac)):CallD P f args so seen base ac K Kp
 |sole (h:so=O) (h:CallG P f args ac K Kp):CallD P f args so seen base ac K Kp
 |look (ks:a6) (r:aa) (ap:aw) (hk:jS ks seen=O) (hl:Z ap=Z ks) (h:bN P f (eF (cvtV 0 ks (aC seen) 5) args) (gT 0 ks seen) (.ret r) ap) (hi:∀b,iD ks b seen 0 ap seen=seen) (hz:∀b,embV ks b seen 5 r=r) (k:K r ac):CallD P f args so seen base ac K Kp
def orF(P:Program)(ac:aw)(K:aa->aw->Prop)(Kp:aa->aw->Prop):OR->Prop
 |.no=>False
 |.val v=>K v ac
 |.mkf fn d cs=>K (.func fn d cs) ac
 |.need p r=>p/\orF P ac K Kp r
 |.alt p v w=>(p/\K v ac)\/K w ac
 |.idx n f=>∃i:Nat,n=(i:Int)/\orF P ac K Kp (f i)
 |.elem xs i f=>∃x,xs[i]? =X x/\orF P ac K Kp (f x)
 |.byte l i=>∃c,l[i]? =X c/\K (.int .u8 (c.toNat:Int)) ac
 |.text xs=>∃l:ay,xs=l.map ub/\(Z l:Int)<=9223372036854775807/\K (.str l) ac
 |.find es key f=>∃o,bZ es key=o/\orF P ac K Kp (f o)
 |.born x v=>K v (bQ ac (aS ac) x)
 |.upd k x v=>K v (bQ ac k x)
 |.nilq xs a=>∀b:Bool,(b=O->xs=[])->K (.bool (if a then !b else b)) ac
 |.call f args=>CallG P f args ac K Kp
 |.pan v=>Kp v ac
def nd:ab->Bool
 |.dead=>S
 |_=>O
def orD(P:Program)(d e bl:Bool)(a ac:aw)(base:Nat)(K:aa->aw->Prop)(Kp:aa->aw->Prop):OR->Prop
 |.val v=>K v ac
 |.mkf fn h cs=>K (.func fn h cs) ac
 |.need p r=>p/\orD P d e bl a ac base K Kp r
 |.alt p v w=>(p/\K v ac)\/K w ac
 |.idx n f=>∃i:Nat,n=(i:Int)/\orD P d e bl a ac base K Kp (f i)
 |.elem xs i f=>∃x,xs[i]? =X x/\orD P d e bl a ac base K Kp (f x)
 |.byte l i=>∃c,l[i]? =X c/\K (.int .u8 (c.toNat:Int)) ac
 |.text xs=>∃l:ay,xs=l.map ub/\(Z l:Int)<=9223372036854775807/\K (.str l) ac
 |.find es key f=>∃o,bZ es key=o/\orD P d e bl a ac base K Kp (f o)
 |.born x v=>(match bl with|true=>False|false=>K v (bQ ac base x))
 |.upd k x v=>(match (d||(e&&nd (aC a k)))with|true=>K v (bQ ac k x)|false=>False)
 |.nilq xs g=>(match d with|true=>∀b:Bool,(b=O->xs=[])->K (.bool (if g then !b else b)) ac|false=>False)
 |.call f args=>(match bl with|true=>False|false=>CallD P f args d a base ac K Kp)
 |.pan v=>(match d with|true=>Kp v ac|false=>False)
 |.no=>False
def cF(all:bf)(ρ:Operand->aa)(g:Option (Nat×Bool)):Option Bool:=
 match g with
 |none=>X O
 |some (j,want)=>match nth all j with
  |some p=>match p.dst with
   |some d=>match ρ (.tmp d)with
    |.bool b=>X (b==want)
    |.tup []=>X S
    |_=>U
   |none=>U
  |none=>U
def rK(n:Nat):bf->Bool
 |[]=>S
 |o::r=>(match o.guard with|some (j,_)=>Au j n|none=>S)||rK n r
def gK(E:Env):Option Nat->Nat
 |none=>0
 |some d=>bif wC d E.own then(bif wC d E.rws then 3 else 1)else bif wC d E.rws then 2 else 0
def lC(fr:au):Option Nat->aa->au
 |none,_=>fr
 |some d,v=>iI fr d v
def wrP(rest:bf)(n:Nat)(d:Option Nat)(fr:au)(v:aa)(k:au->Prop):Prop:=
 match d with
 |none=>k fr
 |some d=>bif rK n rest then(match v with
   |.bool b=>(b=O->k (iI fr d (.bool O)))/\(b=S->k (iI fr d (.bool S)))
   |_=>False)
  else k (iI fr d v)
def fL(E:Env)(all:bf)(K:au->aw->Prop)(Kp:(Nat->aa)->aa->aw->Prop):Nat->bf->au->aw->Prop
 |_,[],fr,ac=>K fr ac
 |n,p::rest,fr,ac=>match cF all (ev fr) p.guard with
  |none=>False
  |some false=>fL E all K Kp (n+1) rest (lC fr p.dst (.tup [])) ac
  |some true=>orF E.P ac (λv ac=>wrP rest n p.dst fr v λfr=>fL E all K Kp (n+1) rest fr ac) (Kp (aX fr))
    (eop E (gK E p.dst) (aS ac) (aC ac) (ev fr) p.op p.type)
def iR(p:Oper):a6:=(p.after.toList.filter (Go.Region.binds .any)).map (·.on)
def cY(m i:Nat):Bool:=Au (Nat.land (Nat.shiftRight m i) 1) 1
def dF:a6->Nat->Nat
 |[],_=>0
 |x::_,0=>x
 |_::r,n+1=>dF r n
def jY(tab:a6):a6->Nat
 |[]=>0
 |i::r=>Nf (Nf (Nat.shiftLeft 1 i) (dF tab i)) (jY tab r)
def jU:a6->bf->a6
 |tab,[]=>tab
 |tab,p::r=>jU (tab++[jY tab (iR p)]) r
def aRx(n:Nat)(k:Nat->Prop):Prop:=match n with|0=>k 0|m+1=>k (m+1)
def aK1(n:Nat)(k:Nat->Prop):aRx n k=k n:=by cases n<;>rfl
def ZU:a6->Nat->(a6->Prop)->Prop
 |[],m,k=>k [m]
 |x::r,m,k=>ZU r m λr=>k (x::r)
def aEB(l:a6)(m:Nat):∀(k:a6->Prop),ZU l m k=k (l++[m]):=by
 induction l with
 |nil=>intro k;rfl
 |cons x r a=>intro k;simp only[ZU,a,List.cons_append]
def aBz:a6->bf->(a6->Prop)->Prop
 |tab,[],k=>k tab
 |tab,p::r,k=>aRx (jY tab (iR p)) λm=>ZU tab m λtab=>aBz tab r k
def aIJ(l:bf):∀(tab:a6) (k:a6->Prop),aBz tab l k=k (jU tab l):=by
 induction l with
 |nil=>intro tab k;rfl
 |cons p r a=>intro tab k;simp only[aBz,jU,aK1,aEB,a]
def loose(tab:a6)(i j:Nat):Bool:=!Au i j&& !cY (dF tab j) i&& !cY (dF tab i) j
def SF(tab:a6)(j t:Nat):Nat->bf->Bool
 |_,[]=>S
 |i,p::r=>(match p.dst with|some d=>Au d t&&loose tab i j|none=>S)||SF tab j t (i+1) r
def evH(tab:a6)(all:bf)(j:Nat)(fr:au):Operand->aa
 |.tmp t=>bif SF tab j t 0 all then .undef else aX fr t
 |x=>ev fr x
def sK:a6->aw->aw
 |[],ac=>ac
 |k::r,ac=>sK r (bQ ac k .dead)
def H9(tab:a6)(j:Nat):List (Nat×Nat)->a6
 |[]=>[]
 |(i,k)::r=>bif cY (dF tab j) i then H9 tab j r else k::H9 tab j r
def sole(tab:a6)(j:Nat):Nat->bf->Bool
 |_,[]=>O
 |i,_::r=>!loose tab i j&&sole tab j (i+1) r
def blD(E:Env):Option Nat->Bool
 |none=>S
 |some d=>wC d E.bl
def I0(E:Env)(tab:a6)(j:Nat):Nat->bf->Bool
 |_,[]=>O
 |i,p::r=>(!loose tab i j||blD E p.dst)&&I0 E tab j (i+1) r
def soN(E:Env)(tab:a6)(all:bf)(n:Nat)(d:Option Nat):Bool:=sole tab n 0 all&& !blD E d
def uoN(E:Env)(tab:a6)(all:bf)(n:Nat)(d:Option Nat):Bool:=I0 E tab n 0 all&& !blD E d
def rX(E:Env)(tab:a6)(n:Nat)(br:List (Nat×Nat))(ac:aw)(d:Option Nat):aw:=bif blD E d then[]else sK (H9 tab n br) ac
def born(j base:Nat):aw->List (Nat×Nat)->List (Nat×Nat)
 |[],br=>br
 |_::r,br=>(j,base)::born j (base+1) r br
def iT:Nat->aw->aw
 |0,l=>l
 |_+1,[]=>[]
 |n+1,_::l=>iT n l
def jM(E:Env)(all:bf)(tab:a6)(K:au->aw->Prop)(Kp:(Nat->aa)->aa->aw->Prop):Nat->bf->List (Nat×Nat)->au->aw->Prop
 |_,[],_,fr,ac=>K fr ac
 |n,p::rest,br,fr,ac=>
  match cF all (evH tab all n fr) p.guard with
  |none=>False
  |some false=>jM E all tab K Kp (n+1) rest br (lC fr p.dst (.tup [])) ac
  |some true=>orD E.P (soN E tab all n p.dst) (uoN E tab all n p.dst) (blD E p.dst) (rX E tab n br ac p.dst) ac (aS ac) (λv ap=>wrP rest n p.dst fr v λfr=>jM E all tab K Kp (n+1) rest (born n (aS ac) (iT (aS ac) ap) br) fr ap) (Kp (aX fr))
     (eop E (gK E p.dst) (aS ac) (aC (rX E tab n br ac p.dst)) (evH tab all n fr) p.op p.type)
inductive KI where
 |code (c:Code)|inB (id:Nat)|inL (c:Code)|beginR
abbrev _root_.bg:=List KI
def GU(id:Nat):bg->Option bg
 |[]=>U
 |.inB i::r=>bif Au i id then X r else GU id r
 |_::r=>GU id r
inductive Goal where
 |pure (r:Res)
 |full (n0:Nat) (r:Res) (ap:aw)
 |keep (n0:Nat) (r:Res) (ap:aw)
def aOW(E:Env)(ac:aw)(fr:au):ResultVar->Option aa
 |.tmp t=>X (aX fr t)
 |.cell t ty=>match dE E.T ty,aX fr t with
  |some ti,.ref k off=>match aC ac k with
   |.cells _ cs=>match nO ti.size (lT off cs)with|some l=>mk ti l|none=>U
   |_=>U
  |_,_=>U
def aFr(E:Env)(ac:aw)(fr:au):List ResultVar->Option az
 |[]=>X []
 |r::rs=>match aOW E ac fr r,aFr E ac fr rs with
  |some v,some vs=>X (v::vs)
  |_,_=>U
def aFs(E:Env)(ac:aw)(a:List ResultVar)(fr:au):Option aa:=
 match aFr E ac fr a with
 |some [v]=>X v
 |some vs=>X (.tup vs)
 |none=>U
def aSE(n:Nat):Tk->Bool
 |.own k _=>Fl k n
 |_=>O
def HJ(f:aa->Bool):az->Bool
 |[]=>O
 |c::r=>f c&&HJ f r
def bel(n:Nat):Nat->aa->Bool
 |0,_=>S
 |m+1,a=>match a with
  |.slice _ _ t=>aSE n t
  |.agg cs=>HJ (bel n m) cs
  |.tup cs=>HJ (bel n m) cs
  |.ref k _=>Fl k n
  |.eref k _ _ _ _=>Fl k n
  |.csl k _ _ _=>Fl k n
  |.row k _=>Fl k n
  |.sub k _ _ _ _=>Fl k n
  |.rowc k _ _=>Fl k n
  |.pre k _ _ _ _=>Fl k n
  |.mref k=>Fl k n
  |.func _ b cs=>HJ (bel n m) b&&HJ (bel n m) cs
  |.iface _ v=>bel n m v
  |_=>O
def II(n:Nat):aw->Bool
 |[]=>O
 |.cells _ cs::r=>HJ (bel n 5) cs&&II n r
 |_::r=>II n r
def aIH(n:Nat):au->Bool
 |[]=>O
 |(_,v)::r=>bel n 5 v&&aIH n r
def pW:Nat->aw->aw
 |0,_=>[]
 |_+1,[]=>[]
 |n+1,x::r=>x::pW n r
def S8(g:Goal)(a:aa->Res)(v:aa)(ac:aw):Prop:=
 match g with
 |.pure r=>a (cvtV 0 [] (aC (frzL ac [v])) 5 v)=r
 |.full n0 r ap=>∃b ks,(jS ks (ak b ac)=O/\jP n0 0 ks=O)/\a (cvtV n0 ks (aC (ak b ac)) 5 v)=r/\gT n0 ks (ak b ac)=ap
 |.keep n0 r ap=>(bel n0 5 v=O/\II n0 (pW n0 ac)=O)/\a v=r/\pW n0 ac=ap
def Goal.n0:Goal->Nat
 |.pure _=>0
 |.full n _ _=>n
 |.keep n _ _=>n
def dS(fn:Func):Code:=fn.body.getD .skip
def ET:Nat->Code->bg->bg ⊕ Nat
 |n,.seq a b,ks=>match ET n a (.code b::ks)with | .inl r=>.inl r | .inr n=>ET n b ks
 |n,.cond _ a b,ks=>match ET n a ks with | .inl r=>.inl r | .inr n=>ET n b ks
 |n,.block id b,ks=>ET n b (.inB id::ks)
 |0,.loop b,ks=>.inl (.code b:: .inL b::ks)
 |n+1,.loop b,ks=>ET n b (.inL b::ks)
 |n,_,_=>.inr n
def stk(fn:Func)(n:Nat):bg:=match ET n (dS fn) []with | .inl r=>r | .inr _=>[]
def frA:Nat->az->au
 |_,[]=>[]
 |n,a::r=>(n,a)::frA (n+1) r
def mW:a6->au->au
 |[],_=>[]
 |t::r,fr=>(t,aX fr t)::mW r fr
structure RI where
 all:bf
 dr:Bool
 tab:a6
 ks:bg
inductive St where
 |code (ks:bg) (fr:au) (ac:aw)
 |head (ks:bg) (fr:au) (ac:aw)
 |mid (R:RI) (n:Nat) (rest:bf) (br:List (Nat×Nat)) (fr:au) (ac:aw)
 |pend (R:RI) (n:Nat) (d:Option Nat) (rest:bf) (br:List (Nat×Nat)) (fr:au) (ac:aw) (r:OR)
 |got (R:RI) (n:Nat) (d:Option Nat) (rest:bf) (br:List (Nat×Nat)) (fr:au) (len:Nat) (ac:aw) (v:aa)
 |leave (p:Option aa) (fr:au) (ac:aw)
def aHS(g:Goal)(a:aa->Res)(v:aa)(ac:aw):Prop:=
 match g with
 |.pure r=>KD 5 (cvtV 0 [] (aC (frzL ac [v])) 5 v) λy=>a y=r
 |.full n0 r ap=>∃b ks,(jS ks (ak b ac)=O/\jP n0 0 ks=O)/\KD 5 (cvtV n0 ks (aC (ak b ac)) 5 v) λy=>ODL (gT n0 ks (ak b ac)) λos=>a y=r/\os=ap
 |.keep n0 r ap=>(bel n0 5 v=O/\II n0 (pW n0 ac)=O)/\ODL (pW n0 ac) λos=>a v=r/\os=ap
theorem N2(g:Goal)(a:aa->Res)(v:aa)(ac:aw):aHS g a v ac=S8 g a v ac:=by cases g<;>simp only[aHS,S8,sF,xR]
def aPd(E:Env)(g:Goal)(J:St->Prop)(fr:au)(v:aa)(ac:aw):Prop:=match E.rd with
 |some _=>False
 |none=>match E.df with
  |[]=>S8 g .pan v ac
  |_::_=>J (.leave (X v) fr ac)
def aKk(E:Env)(fn:Func)(g:Goal)(J:St->Prop)(b:Bool)(fr:au)(ac:aw):Prop:=match E.rd with
 |some _=>aHS g .ret (.bool b) ac
 |none=>match E.df with
  |[]=>(match aFs E ac fn.results.toList fr with|some v=>KD 5 v λv=>aHS g .ret v ac|none=>False)
  |_::_=>J (.leave U fr ac)
def aRG:bf->Bool
 |[p]=>(match p.op with | .defer _=>O|_=>S)
 |_=>S
def cA(E:Env)(fn:Func)(g:Goal)(J:St->Prop):Nat->St->Prop
 |0,s=>J s
 |n+1,.head ks fr ac=>cA E fn g J n (.code ks fr ac)
 |_+1,.leave p fr ac=>J (.leave p fr ac)
 |_+1,.code [] fr ac=>aKk E fn g J O fr ac
 |n+1,.code (k::ks) fr ac=>(match k with
  |.inB _=>cA E fn g J n (.code ks fr ac)
  |.inL b=>J (.head (.code b:: .inL b::ks) fr ac)
  |.beginR=>J (.code (.beginR::ks) fr ac)
  |.code q=>match q with
   |.skip=>cA E fn g J n (.code ks fr ac)
   |.seq a b=>cA E fn g J n (.code (.code a:: .code b::ks) fr ac)
   |.block id b=>cA E fn g J n (.code (.code b:: .inB id::ks) fr ac)
   |.loop b=>J (.head (.code b:: .inL b::ks) fr ac)
   |.exit id=>(match GU id ks with
    |some ks=>cA E fn g J n (.code ks fr ac)
    |none=>False)
   |.ret=>aKk E fn g J S fr ac
   |.rangeFunc x u as t=>J (.code (.code (.rangeFunc x u as t)::ks) fr ac)
   |.cond x a b=>(match ev fr x with
    |.bool p=>(p=O->J (.code (.code a::ks) fr ac))/\(p=S->J (.code (.code b::ks) fr ac))
    |_=>False)
   |.region id ops dr=>(match aRG ops.toList with
    |true=>J (.code (.code (.region id ops dr)::ks) fr ac)
    |false=>(match dr with
     |false=>cA E fn g J n (.mid ⟨ops.toList,S,[],ks⟩ 0 ops.toList [] fr ac)
     |true=>aBz [] ops.toList λtab=>cA E fn g J n (.mid ⟨ops.toList,O,tab,ks⟩ 0 ops.toList [] fr ac)))
   |_=>False)
 |n+1,.mid R _ [] _ fr ac=>cA E fn g J n (.code R.ks fr ac)
 |n+1,.mid R i (p::rest) br fr ac=>(match R.dr with
  |false=>(match cF R.all (ev fr) p.guard with
   |none=>False
   |some false=>(match p.dst with|none=>cA E fn g J n (.mid R (i+1) rest br fr ac)|some d=>AV fr d (.tup []) λfr=>cA E fn g J n (.mid R (i+1) rest br fr ac))
   |some true=>cA E fn g J n (.pend R i p.dst rest br fr ac (eop E (gK E p.dst) (aS ac) (aC ac) (ev fr) p.op p.type)))
  |true=>(match cF R.all (evH R.tab R.all i fr) p.guard with
   |none=>False
   |some false=>(match p.dst with|none=>cA E fn g J n (.mid R (i+1) rest br fr ac)|some d=>AV fr d (.tup []) λfr=>cA E fn g J n (.mid R (i+1) rest br fr ac))
   |some true=>ODL (rX E R.tab i br ac p.dst) λe=>cA E fn g J n (.pend R i p.dst rest br fr ac (eop E (gK E p.dst) (aS ac) (aC e) (evH R.tab R.all i fr) p.op p.type))))
 |n+1,.pend R i d rest br fr ac r=>(match r with
  |.no=>False
  |.val v=>KD 4 v λv=>cA E fn g J n (.got R i d rest br fr (aS ac) ac v)
  |.mkf f h cs=>KDL (KD 3) h λh=>KDL (KD 3) cs λcs=>cA E fn g J n (.got R i d rest br fr (aS ac) ac (.func f h cs))
  |.need p r=>p/\J (.pend R i d rest br fr ac r)
  |.alt p v w=>(p/\J (.got R i d rest br fr (aS ac) ac v))\/J (.got R i d rest br fr (aS ac) ac w)
  |.idx m f=>∃x:Nat,m=(x:Int)/\J (.pend R i d rest br fr ac (f x))
  |.elem xs m f=>∃x,xs[m]? =X x/\J (.pend R i d rest br fr ac (f x))
  |.byte l m=>∃c,l[m]? =X c/\J (.got R i d rest br fr (aS ac) ac (.int .u8 (c.toNat:Int)))
  |.text xs=>∃l:ay,xs=l.map ub/\(Z l:Int)<=9223372036854775807/\J (.got R i d rest br fr (aS ac) ac (.str l))
  |.find es key f=>∃o,bZ es key=o/\J (.pend R i d rest br fr ac (f o))
  |.born x v=>(match (R.dr&&blD E d)with
   |true=>False
   |false=>OD x λx=>ODL (bQ ac (aS ac) x) λap=>KD 4 v λv=>cA E fn g J n (.got R i d rest br fr (aS ac) ap v))
  |.upd k x v=>(match (!R.dr||(soN E R.tab R.all i d||(uoN E R.tab R.all i d&&nd (aC (rX E R.tab i br ac d) k))))with
   |true=>OD x λx=>ODL (bQ ac k x) λap=>KD 4 v λv=>cA E fn g J n (.got R i d rest br fr (aS ac) ap v)
   |false=>False)
  |.nilq xs j=>(match (!R.dr||soN E R.tab R.all i d)with
   |true=>∀b:Bool,(b=O->xs=[])->J (.got R i d rest br fr (aS ac) ac (.bool (if j then !b else b)))
   |false=>False)
  |.call f args=>KDL (KD 5) args λargs=>(match R.dr with
   |false=>CallG E.P f args ac (λv ap=>J (.got R i d rest br fr (aS ac) ap v)) (aPd E g J fr)
   |true=>match blD E d with
    |true=>False
    |false=>ODL (rX E R.tab i br ac d) λe=>CallD E.P f args (soN E R.tab R.all i d) e (aS ac) ac (λv ap=>J (.got R i d rest br fr (aS ac) ap v)) (aPd E g J fr))
  |.pan v=>(match (!R.dr||soN E R.tab R.all i d)with
   |true=>KD 5 v λv=>(match E.rd with|some _=>False|none=>match E.df with | []=>aHS g .pan v ac|_::_=>J (.leave (X v) fr ac))
   |false=>False))
 |n+1,.got R i d rest br fr len ac v=>KD 4 v λv=>ODL ac λac=>(match d with
  |none=>cA E fn g J n (.mid R (i+1) rest (bif R.dr then born i len (iT len ac) br else br) fr ac)
  |some d=>bif rK i rest then(match v with
    |.bool b=>(b=O->AV fr d (.bool O) λfr=>J (.mid R (i+1) rest (bif R.dr then born i len (iT len ac) br else br) fr ac))/\
      (b=S->AV fr d (.bool S) λfr=>J (.mid R (i+1) rest (bif R.dr then born i len (iT len ac) br else br) fr ac))
    |_=>False)
   else AV fr d v λfr=>cA E fn g J n (.mid R (i+1) rest (bif R.dr then born i len (iT len ac) br else br) fr ac))
theorem HH{i n:Nat}(h:¬ i=n):Au i n=false:=by
 cases a:Au i n with
 |false=>rfl
 |true=>simp_all
theorem aE{i n:Nat}(h:Au i n=O):i=n:=Nat.eq_of_beq_eq_true h
def aZ{a b:Bool}(h:(a&&b)=O):a=O/\b=true:=by grind
theorem bX(l:aw):aS l=Z l:=by
 induction l with
 |nil=>rfl
 |cons x r a=>simp[aS,a]
theorem pY{l:aw}:∀{n:Nat},n<Z l->l[n]? =X (aC l n):=by
 induction l with
 |nil=>simp
 |cons x r a=>intro n h;cases n with
  |zero=>rfl
  |succ n=>simpa[aC]using a (n:=n) (by grind)
theorem bK{l:aw}:∀{n:Nat} {x:ab},aC l n=x->x≠ .dead->l[n]? =X x:=by
 induction l with
 |nil=>intro n x h a;exact bv h.symm (by simpa[aC]using a)
 |cons y r b=>intro n x h a;cases n with
  |zero=>simpa[aC]using h
  |succ n=>simpa using b (n:=n) h a
theorem gX{l:aw}:∀{n:Nat} {x:ab},l[n]? =X x->aC l n=x:=by
 induction l with
 |nil=>simp
 |cons y r a=>intro n x h;cases n with
  |zero=>simpa[aC]using h
  |succ n=>exact a (n:=n) (by simp_all)
theorem gJ{l:aw}:∀{n:Nat} (x:ab),n<Z l->bQ l n x=l.set n x:=by
 induction l with
 |nil=>simp
 |cons y r a=>intro n x h;cases n with
  |zero=>rfl
  |succ n=>simp only[bQ,List.set_cons_succ];grind
theorem Q9(l:aw)(x:ab):bQ l (Z l) x=l++[x]:=by
 induction l with
 |nil=>rfl
 |cons y r a=>simp[bQ,a]
theorem nQ(n:Nat):∀(l:az),lT n l=l.drop n:=by
 induction n with
 |zero=>intro l;rfl
 |succ n a=>intro l;cases l with
  |nil=>rfl
  |cons c r=>simpa[lT]using a r
def kH{n:Nat}:∀{l r:az},nO n l=X r->Z r=n/\∀(i:Nat) c,r[i]? =X c->l[i]? =X c:=by
 induction n with
 |zero=>intro l r h;cases h;simp
 |succ n a=>
  intro l r h;cases l with
  |nil=>cases h
  |cons c l=>
   simp only[nO]at h
   grind
def aDt:∀{new l r:az},YC new l=X r->Z new<=Z l/\Z r=Z l/\∀(i:Nat),r[i]? =if i<Z new then new[i]? else l[i]?:=by
 intro new;induction new with
 |nil=>intro l r h;cases h;simp
 |cons c new a=>
  intro l r h;cases l with
  |nil=>cases h
  |cons d l=>
   simp only[YC]at h
   grind
def lI{off:Nat}:∀{new l r:az},oX off new l=X r->off+Z new<=Z l/\Z r=Z l/\∀(i:Nat),r[i]? =if off<=i/\i<off+Z new then new[i-off]? else l[i]?:=by
 induction off with
 |zero=>
  intro new l r h;obtain⟨h1,b,h3⟩:=aDt (show YC new l=X r by cases l<;>exact h)
  grind
 |succ n a=>
  intro new l r h;cases l with
  |nil=>cases h
  |cons c l=>
   simp only[oX]at h
   grind
theorem AE(l:az):TW l=Z l:=by
 induction l with
 |nil=>rfl
 |cons c r a=>simp[TW,a]
theorem oU{α:Type}(l:List α):∀(n:Nat),nth l n=l[n]?:=by
 induction l with
 |nil=>intro n;rfl
 |cons x r a=>intro n;cases n with
  |zero=>rfl
  |succ n=>simpa[nth]using a n
def lD{α:Type}{l:List α}{n:Nat}{x:α}(h:nth l n=X x):l[n]? =X x:=by rw[<-oU];exact h
def OM(a b:az):aDJ a b=a++b:=by
 induction a with
 |nil=>rfl
 |cons c r d=>simp[aDJ,d]
theorem zA(f:aa->aa)(l:az):eF f l=l.map f:=by
 induction l with
 |nil=>rfl
 |cons c r a=>simp[eF,a]
def nA{n:Nat}:∀{l:a6},wC n l=O↔n∈l
 |[]=>by simp[wC]
 |x::r=>by
  simp only[wC,Bool.or_eq_true,nA (l:=r),List.mem_cons];constructor
  all_goals
   rintro(h|h)
   .simp_all
   grind
def vO(fr:au)(n m:Nat)(x:aa):aX (iI fr n x) m=if m=n then x else aX fr m:=by
 induction fr with
 |nil=>
  simp only[iI,aX];by_cases h:m=n
  .simp_all
  .rw [HH (λe=>h e.symm),bt h];rfl
 |cons p r a=>
  obtain⟨i,v⟩:=p;simp only[iI];cases b:Au i n with
  |true=>
   have:=aE b;subst this;simp only[cond_true,aX];by_cases h:m=i
   .grind
   .rw [HH (λe=>h e.symm),bt h];rfl
  |false=>
   simp only[cond_false,aX,a]
   grind
theorem bI(b o j:Nat):(⟨b,o,U⟩:Addr).add j=⟨b,o+j,U⟩:=by unfold Addr.add;simp
def fK{α:Type}{b:Bool}{x:Option α}{r:α}(h:(bif b then x else U)=X r):b=O/\x=X r:=by grind
section
variable {M:Imm} {ob:Hs} {ac:aw} {w:World}
def Rep.int_inv{v:Value}{k:IntKind}{n:Int}(h:Rep M ob v (.int k n)):v= .int k n/\inR k n:=by cases h with|int _ _ h=>grind
def Rep.bool_inv{v:Value}{b:Bool}(h:Rep M ob v (.bool b)):v= .bool b:=by cases h;rfl
def Rep.str_inv{v:Value}{l:ay}(h:Rep M ob v (.str l)):v= .string ⟨l.toArray⟩/\(Z l:Int)<=9223372036854775807:=by cases h with|str _ h=>grind
def Rep.agg_inv{v:Value}{as:az}(h:Rep M ob v (.agg as)):∃vs:bb,v= .agg vs.toArray/\Z vs=Z as/\∀(i:Nat) u a,vs[i]? =X u->as[i]? =X a->Rep M ob u a:=by cases h with|agg vs as hl h=>grind
def Rep.tup_inv{v:Value}{as:az}(h:Rep M ob v (.tup as)):∃vs:bb,v= .tuple vs.toArray/\Z vs=Z as/\∀(i:Nat) u a,vs[i]? =X u->as[i]? =X a->Rep M ob u a:=by cases h with|tup vs as hl h=>grind
def Rep.ptr_inv{v:Value}{cs:az}(h:Rep M ob v (.ptr cs)):∃b o,v= .pointer (X ⟨b,o,U⟩)/\∀(j:Nat) c,cs[j]? =X c->M b (o+j) c:=by cases h with|ptr b o cs h=>grind
def Rep.ref_inv{v:Value}{k off:Nat}(h:Rep M ob v (.ref k off)):∃b,v= .pointer (X ⟨b,off,U⟩)/\at' ob k 0=X (.pointer (X ⟨b,0,U⟩)):=by cases h with|ref k off b h=>grind
def Rep.iface_inv{v:Value}{t:TypeId}{a:aa}(h:Rep M ob v (.iface t a)):∃u,v= .iface t u/\Rep M ob u a:=by cases h with|iface _ v _ h=>grind
def Rep.row_inv{v:Value}{k g:Nat}(h:Rep M ob v (.row k g)):∃a n c,v= .slice a n c/\at' ob k g=X (.slice a n c):=by cases h with|row _ _ a n c h=>grind
def Rep.untok{v:Value}{sz:Nat}{xs:az}{t:Tk}(h:Rep M ob v (.slice sz xs t)):Rep M ob v (.slice sz xs .no)/\wI ob v t:=by
 cases h with
 |slnil sz t c=>exact⟨.slnil sz .no trivial,c⟩
 |slemp sz t a cap c=>exact⟨.slemp sz .no a cap trivial,c⟩
 |sl sz b o n cap xs t d e hm hz h c=>exact⟨.sl sz b o n cap xs .no d e hm hz h trivial,c⟩
def Rep.tok{v:Value}{sz:Nat}{xs:az}{t:Tk}(h:Rep M ob v (.slice sz xs .no))(c:wI ob v t):Rep M ob v (.slice sz xs t):=by
 cases h with
 |slnil sz _=>exact .slnil sz t c
 |slemp sz _ a cap _=>exact .slemp sz t a cap c
 |sl sz b o n cap xs _ d e hm hz h _=>exact .sl sz b o n cap xs t d e hm hz h c
def Rep.slice_pure{v:Value}{sz:Nat}{xs:az}(h:Rep M ob v (.slice sz xs .no)):Rep M [] v (.slice sz xs .no):=by
 cases h with
 |slnil sz _=>exact .slnil sz .no trivial
 |slemp sz _ a cap _=>exact .slemp sz .no a cap trivial
 |sl sz b o n cap xs _ c d hm hz h _=>exact .sl sz b o n cap xs .no c d hm hz h trivial
def Rep.slice_inv{v:Value}{sz:Nat}{xs:az}{t:Tk}(h:Rep M ob v (.slice sz xs t)):∃a c,v= .slice a (Z xs) c/\(a=U->xs=[]/\c=0)/\(xs≠[]->Z xs<=c)/\(Z xs:Int)<=9223372036854775807:=by
 cases h with
 |slnil sz t d=>grind
 |slemp sz t a cap d=>grind
 |sl sz b o n cap xs t e f hm hz h d=>grind
def Rep.sl_inv{v:Value}{sz:Nat}{xs:az}{t:Tk}(h:Rep M ob v (.slice sz xs t)):(v= .slice U 0 0/\xs=[])\/(∃a cap,v= .slice (X a) 0 cap/\xs=[])\/
  ∃b o cap,v= .slice (X ⟨b,o,U⟩) (Z xs) cap/\Z xs<=cap/\(Z xs:Int)<=9223372036854775807/\(∀x∈xs,Z x.cells=sz)/\∀(i j:Nat) x c,xs[i]? =X x->x.cells[j]? =X c->M b (o+i*sz+j) c:=by
 cases h with
 |slnil sz t d=>simp
 |slemp sz t a cap d=>exact .inr (.inl ⟨a,cap,rfl,rfl⟩)
 |sl sz b o n cap xs t e f hm hz h d=>grind
def Rep.cells{v:Value}{a:aa}(h:Rep M ob v a)(m:a≠ .undef):Z v.cells.toList=Z a.cells/\∀(i:Nat) u c,v.cells.toList[i]? =X u->a.cells[i]? =X c->Rep M ob u c:=by
 have d:∀{v:Value} {a:aa},Rep M ob v a->v.cells= #[v]->a.cells=[a]->Z v.cells.toList=Z a.cells/\∀(i:Nat) u c,v.cells.toList[i]? =X u->a.cells[i]? =X c->Rep M ob u c:=by grind
 cases h with
 |undef v=>exact bv rfl m
 |agg vs as hl h=>exact⟨by simpa[Value.cells,aa.cells]using hl,λi u c m e=>h i u c (by simpa[Value.cells]using m) (by simpa[aa.cells]using e)⟩
 |row k g a n c h=>exact d (.row k g a n c h) rfl rfl
 |bool b=>exact d (.bool b) rfl rfl
 |int k n p=>exact d (.int k n p) rfl rfl
 |str l hl=>exact d (.str l hl) rfl rfl
 |tup vs as hl h=>exact d (.tup vs as hl h) rfl rfl
 |ptr b o cs h=>exact d (.ptr b o cs h) rfl rfl
 |ref k off b h=>exact d (.ref k off b h) rfl rfl
 |eref k g i sz off b n c h=>exact d (.eref k g i sz off b n c h) rfl rfl
 |csl k off len sz b h hm=>exact d (.csl k off len sz b h hm) rfl rfl
 |sub k g lo len sz b n c h hl f e hm=>exact d (.sub k g lo len sz b n c h hl f e hm) rfl rfl
 |sub0 k g lo sz a s n c h hl e=>exact d (.sub0 k g lo sz a s n c h hl e) rfl rfl
 |rowc k g c a n h hm=>exact d (.rowc k g c a n h hm) rfl rfl
 |pre k g n c sz b len h e f hl hm=>exact d (.pre k g n c sz b len h e f hl hm) rfl rfl
 |mref k b h=>exact d (.mref k b h) rfl rfl
 |nilptr=>exact d .nilptr rfl rfl
 |nilslice=>exact d .nilslice rfl rfl
 |nilmap=>exact d .nilmap rfl rfl
 |nilfunc=>exact d .nilfunc rfl rfl
 |nilif=>exact d .nilif rfl rfl
 |hsl a n c=>exact d (.hsl a n c) rfl rfl
 |slnil sz t j=>exact d (.slnil sz t j) rfl rfl
 |slemp sz t a cap j=>exact d (.slemp sz t a cap j) rfl rfl
 |sl sz b o n cap xs t f e hm hz h j=>exact d (.sl sz b o n cap xs t f e hm hz h j) rfl rfl
 |func fn q cs x r w e h1 y=>exact d (.func fn q cs x r w e h1 y) rfl rfl
 |iface t v a h=>exact d (.iface t v a h) rfl rfl
def Rep.one{v:Value}{a:aa}(h:Rep M ob v a)(h1:one a=O):v.oneCell'=true:=by cases h<;>first|rfl|(simp[AW.one]at h1)
theorem mY{l:az}(h:rC l=O):∀(i:Nat) c,l[i]? =X c->one c=true:=by
 induction l with
 |nil=>simp
 |cons d r a=>
  simp only[rC,Af]at h
  grind
theorem pX{c:aa}(h:AW.one c=O):c.cells=[c]:=by cases c<;>first|rfl|cases h
def Rep.cells_one{v:Value}{a:aa}(h:Rep M ob v a)(h1:rC a.cells=O):Z v.cells.toList=Z a.cells/\(∀u∈v.cells.toList,u.oneCell'=O)/\∀(i:Nat) u c,v.cells.toList[i]? =X u->a.cells[i]? =X c->Rep M ob u c:=by
 have g:a≠ .undef:=λe=>by subst e;simp[aa.cells,rC,AW.one]at h1
 obtain⟨d,h3⟩:=h.cells g;refine⟨d,λu hm=>?_,h3⟩;obtain⟨i,f⟩:=Cu hm;have b:i<Z a.cells:=by grind
 exact(h3 i u _ f (Ab b)).one (mY h1 i _ (Ab b))
end
theorem cW{ob:Hs}{ac:aw}{k:Nat}{x:ab}{hs:bb}(h1:ac[k]? =X x)(a:ob[k]? =X hs){b:Nat}:aK ob ac k b↔x.owns=O/\b∈blk hs:=by
 constructor
 .rintro ⟨c,hs',g,h,e,f⟩
  grind
 .rintro ⟨h3,d⟩;exact⟨x,hs,h1,h3,a,d⟩
def Mem.turn{M M':Imm}{ob:Hs}{ac:aw}{w w':World}(h:Mem M ob ac w){k:Nat}{x x':ab}{hs hs':bb}(Q:ac[k]? =X x)(R:ob[k]? =X hs)(hp:hs<+:hs')(hd:x= .dead->hs=[])
  (T:∀b o y,M b o y->M' b o y) (B:∀b o y,M' b o y->M b o y\/(x.owns=O/\b∈blk hs)\/w.heap.size<=b)
  (C:∀b o y,M' b o y->∃v,w'.cell? ⟨b,o,U⟩=X v/\v.oneCell'=O/\Rep M' [] v y)
  (heap:∀b,b<w.heap.size->¬ (x.owns=O/\b∈blk hs)->w'.heap[b]? =w.heap[b]?)
  (G:w'.os=w.os) (s:w'.tape=w.tape) (z:w'.output=w.output) (g:w.heap.size<=w'.heap.size)
  (hok:dH ob (ob.set k hs')->iM M' (ob.set k hs') w' hs' x') (hb:x'.owns=O->∀b,b∈blk hs'->((x.owns=O/\b∈blk hs)\/w.heap.size<=b)/\b<w'.heap.size) (hxd:x'≠ .dead:=by intro h;cases h):
  Mem M' (ob.set k hs') (ac.set k x') w'/\Ext M ob ac w M' (ob.set k hs') (ac.set k x') w'/\cS ob ac (ob.set k hs') (ac.set k x'):=by
 have N:k<Z ac:=(Ad.1 Q).1;have J:k<Z ob:=(Ad.1 R).1;have D:dH ob (ob.set k hs'):=λi l hl=>by grind[Ay,Bf,Cp]
 have p:∀{i:Nat},i≠k->(ac.set k x')[i]? =ac[i]?/\(ob.set k hs')[i]? =ob[i]?:=λ{i} m=>
  ⟨Bf (λe=>m e.symm),Bf (λe=>m e.symm)⟩
 have u:(ac.set k x')[k]? =X x':=Ay N;have r:(ob.set k hs')[k]? =X hs':=Ay J;have d:∀{i b:Nat},aK (ob.set k hs') (ac.set k x') i b->(i≠k/\aK ob ac i b)\/(i=k/\((x.owns=O/\b∈blk hs)\/w.heap.size<=b)/\b<w'.heap.size):=λ{i b} a=>by
  by_cases m:i=k
  .subst m;have:=(cW u r).1 a;exact .inr ⟨rfl,hb this.1 b this.2⟩
  .obtain ⟨c,l,F,L,At,Be⟩:=a;rw[(p m).1]at F;rw[(p m).2]at At;exact .inl ⟨m,c,l,F,L,At,Be⟩
 have n:∀{b:Nat},x.owns=O/\b∈blk hs->aK ob ac k b:=λa=>(cW Q R).2 a;refine⟨⟨C,by simp[h.len],λi c As=>?_,λi b a=>?_,λi j b a t=>?_⟩,⟨T,λb o y P=>?_,D,G,s,z,g,λb t W=>heap b t λa=>W k (n a),λi b a=>?_⟩,λi l h1 A=>⟨λh3=>?_,λh3 h4=>?_⟩⟩
 .by_cases m:i=k
  .grind
  .rw [(p m).1]at As;obtain⟨l,hl,Am⟩:=h.obj i c As;have H:∀b,c.owns=O->b∈blk l->¬ (x.owns=O/\b∈blk hs)/\b<w.heap.size:=λb h1 A=>by have a:aK ob ac i b:=(cW As hl).2 ⟨h1,A⟩;exact⟨λAn=>m (h.inj i k b a (n An)),h.lt i b a⟩
   refine⟨l,by rw[(p m).2];exact hl,Am.mono T D (λb h1 A o I y P=>?_) (λb c' h1 A Y=>?_)⟩
   .obtain ⟨V,g2⟩:=H b h1 A;rcases B b o y P with q|q|q
    .exact I y q
    .exact V q
    .omega
   grind
 .rcases d a with⟨_,a⟩|⟨_,_,K⟩
  .exact Ep (h.lt i b a) g
  .exact K
 .rcases d a with⟨_,a⟩|⟨F,a,_⟩<;>rcases d t with⟨_,f⟩|⟨L,f,_⟩
  .exact h.inj i j b a f
  .rcases f with f|f
   .rw [L];exact h.inj i k b a (n f)
   .have:=h.lt i b a;omega
  .rcases a with a|a
   .rw [F];exact h.inj k j b (n a) f
   .have:=h.lt j b f;omega
  omega
 .grind
 .grind
 .grind
 grind
def Mem.more{M M':Imm}{ob:Hs}{ac:aw}{w w':World}(h:Mem M ob ac w)(r:∀b o y,M b o y->M' b o y)(f:∀b o y,M' b o y->M b o y\/w.heap.size<=b)
  (g:∀b o y,M' b o y->∃v,w'.cell? ⟨b,o,U⟩=X v/\v.oneCell'=O/\Rep M' [] v y) (heap:∀b,b<w.heap.size->w'.heap[b]? =w.heap[b]?)
  (j:w'.os=w.os) (d:w'.tape=w.tape) (e:w'.output=w.output) (a:w.heap.size<=w'.heap.size):Mem M' ob ac w'/\Ext M ob ac w M' ob ac w':=by
 refine⟨⟨g,h.len,λi c s=>?_,λi b m=>Ep (h.lt i b m) a,h.inj⟩,⟨r,λb o y n=>?_,dH.refl _,j,d,e,a,λb x _=>heap b x,λi b m=>.inl ⟨i,m⟩⟩⟩
 .obtain ⟨l,hl,t⟩:=h.obj i c s;refine⟨l,hl,t.mono r (dH.refl _) (λb h1 p o k y n=>?_) (λb z h1 p u=>?_)⟩
  .have:=h.lt i b ((cW s hl).2 ⟨h1,p⟩);rcases f b o y n with q|q
   .exact k y q
   .omega
  grind[cW]
 grind
def Mem.extend{M:Imm}{ob:Hs}{ac:aw}{w:World}(h:Mem M ob ac w)(n:Nat):
  Mem M (ob++Ak n []) (ac++Ak n .dead) w/\Ext M ob ac w M (ob++Ak n []) (ac++Ak n .dead) w/\cS ob ac (ob++Ak n []) (ac++Ak n .dead):=by
 have part:∀{i:Nat} {c:ab},(ac++Ak n .dead)[i]? =X c->(i<Z ac/\ac[i]? =X c)\/(Z ac<=i/\c= .dead/\i-Z ac<n):=λ{i c} g=>by grind[Ai,Ar]
 have left:∀{i:Nat},i<Z ac->(ob++Ak n ([]:bb))[i]? =ob[i]?:=λ{i} d=>Ai (by rw[h.len];exact d)
 have f:dH ob (ob++Ak n []):=λi l hl=>⟨l,by grind[Ai,Ad],Cp _⟩
 have a:∀{i b:Nat},aK (ob++Ak n []) (ac++Ak n .dead) i b->aK ob ac i b:=λ{i b} ⟨c,l,m,e2,e3,e4⟩=>by
  rcases part m with⟨d,m⟩|⟨_,rfl,_⟩
  .rw [left d]at e3;exact⟨c,l,m,e2,e3,e4⟩
  .cases e2
 refine⟨⟨h.imm,by simp[h.len],λi c g=>?_,λi b e=>h.lt i b (a e),λi j b e p=>h.inj i j b (a e) (a p)⟩,⟨λ_ _ _ h=>h,λ_ _ _ h=>.inl h,f,rfl,rfl,rfl,Bc _,λ_ _ _=>rfl,λi b e=>.inl ⟨i,a e⟩⟩,λi l h1 q=>?_⟩
 .rcases part g with⟨d,g⟩|⟨d,rfl,k⟩
  .obtain ⟨l,hl,o⟩:=h.obj i c g;exact⟨l,by rw[left d];exact hl,o.mono (λ_ _ _ h=>h) f (λ_ _ _ _ h=>h) (λ_ _ _ _ h=>h)⟩
  .refine ⟨[],?_,trivial⟩;rw[Ar (by rw[h.len];exact d),List.getElem?_replicate,bu (by rw[h.len];exact k)]
 grind[Ad,Ai]
def LM{sz:Nat}{xs:az}{i j:Nat}{x c:aa}(d:xs[i]? =X x)(e:x.cells[j]? =X c)(hz:Z x.cells=sz):aM sz xs (i*sz+j)=X c:=by
 have a:j<sz:=by grind
 have h1:(i*sz+j)/sz=i:=by rw[Cz,Iy o_,Nat.div_eq_of_lt a,Fj]
 have b:(i*sz+j)%sz=j:=by rw[Cz,Nat.mul_add_mod,Nat.mod_eq_of_lt a]
 simp[aM,h1,b,d,e]
theorem gM{sz:Nat}{xs:az}{o:Nat}{c:aa}(h:aM sz xs o=X c):∃x,xs[o/sz]? =X x/\x.cells[o%sz]? =X c:=by
 unfold aM at h
 grind
theorem hZ{sz:Nat}{xs:az}{q:Nat}{c:aa}(hs:0<sz)(h:aM sz xs q=X c):q<Z xs*sz:=by grind[gM,Dc,Ad]
def BO{sz:Nat}{xs:az}{q:Nat}(hs:0<sz)(hz:∀x∈xs,Z x.cells=sz)(h:q<Z xs*sz):∃c,aM sz xs q=X c:=by
 have a:q/sz<Z xs:=(Dc hs).2 h;have d:xs[q/sz]? =X xs[q/sz]:=Ab a;have b:q%sz<Z (xs[q/sz]).cells:=by rw[hz _ (Av a)];exact Ef _ hs
 exact⟨_,by unfold aM;rw[d];exact Ab b⟩
theorem cU{sz:Nat}{xs ys:az}{o:Nat}(hs:0<sz)(h:o<Z xs*sz):aM sz (xs++ys) o=aM sz xs o:=by have a:o/sz<Z xs:=(Dc hs).2 h;simp[aM,Ai a]
theorem cO{sz:Nat}{xs ys:az}{o:Nat}(hs:0<sz)(h:Z xs*sz<=o):aM sz (xs++ys) o=aM sz ys (o-Z xs*sz):=by
 have b:Z xs<=o/sz:=(Nat.le_div_iff_mul_le hs).2 h;obtain⟨q,rfl⟩:=Nat.exists_eq_add_of_le h;have h1:(Z xs*sz+q)/sz=Z xs+q/sz:=by rw[Cz,Iy hs]
 have a:(Z xs*sz+q)%sz=q%sz:=by simp
 simp only[aM,h1,a,Nat.add_sub_cancel_left];rw[Ar o_];simp
theorem oM{sz n:Nat}{xs:az}{q:Nat}(hs:0<sz)(h:q<n*sz):aM sz (xs.take n) q=aM sz xs q:=by have a:q/sz<n:=(Dc hs).2 h;simp[aM,Bj a]
theorem CL{sz n:Nat}{xs:az}{q:Nat}(hs:0<sz):aM sz (xs.drop n) q=aM sz xs (n*sz+q):=by
 have h1:(n*sz+q)/sz=n+q/sz:=by rw[Cz,Iy hs]
 have a:(n*sz+q)%sz=q%sz:=by simp
 simp[aM,h1,a,Dd]
def IF{sz i:Nat}{xs ys:az}(hs:0<sz)(d:i+Z ys<=Z xs){q:Nat}{c:aa}(h:aM sz (xs.take i++ys++xs.drop (i+Z ys)) q=X c):
  (i*sz<=q/\q<i*sz+Z ys*sz/\aM sz ys (q-i*sz)=X c)\/((q<i*sz\/i*sz+Z ys*sz<=q)/\aM sz xs q=X c):=by
 have hl:Z (xs.take i)=i:=by simp;omega
 have a:Z (xs.take i++ys)=i+Z ys:=by simp;omega
 by_cases h1:q<i*sz
 .grind [List.append_assoc,cU,oM]
 .by_cases b:q<i*sz+Z ys*sz
  .grind [cU,Cg,cO]
  .right;refine⟨.inr o_,?_⟩;rw[cO hs (by rw[a,Cg];omega),CL hs,a]at h
   grind[Cg]
def fS{α:Type}(cv vs:List α)(off:Nat)(h:off+Z vs<=Z cv):Z (cv.take off++vs++cv.drop (off+Z vs))=Z cv/\
  ∀(i:Nat),(cv.take off++vs++cv.drop (off+Z vs))[i]? =if off<=i/\i<off+Z vs then vs[i-off]? else cv[i]?:=by
 refine⟨by simp;omega,λi=>?_⟩;by_cases h1:i<off
 .grind
 grind
section
variable {M:Imm} {ob:Hs} {ac:aw} {w:World}
theorem eT{hs:bb}{g:Nat}{v:Value}(hl:Z hs=g+1)(a:hs[g]? =X v):blk hs=OK v:=by unfold blk;rw[Lk,hl,Hx,a]
def oO{hs:bb}{v:Value}{b:Nat}(h:blk hs=v.ownBlock.toList)(e:v.ownBlock=X b):b∈blk hs:=by grind
def yW{hs:bb}{v:Value}{b:Nat}(h:blk hs=v.ownBlock.toList)(e:b∈blk hs):v.ownBlock=X b:=by grind
def fM{w:World}{e:TypeId}{sz n:Nat}{v:Value}{cv:bb}(h:w.ownsRow 0 e sz v n cv):OK v=v.ownBlock.toList:=by rcases h.2 with⟨rfl,_⟩|⟨g,cap,a,rfl,_⟩<;>rfl
theorem cG{k g:Nat}{hs:bb}(h:ob[k]? =X hs):at' ob k g=hs[g]?:=by simp[at',h]
def Mem.rowOf(h:Mem M ob ac w){k g sz:Nat}{e:TypeId}{xs:az}(d:ac[k]? =X (.row g sz e xs)):∃hs v,ob[k]? =X hs/\Z hs=g+1/\hs[g]? =X v/\at' ob k g=X v/\dY M w v sz e xs/\blk hs=v.ownBlock.toList:=by obtain⟨hs,h1,a,v,h3,b⟩:=h.obj k _ d;refine⟨hs,v,h1,a,h3,(cG h1).trans h3,b,(eT a h3).trans ?_⟩;obtain⟨cv,c,_⟩:=b;exact fM c
def Mem.rowTurn(h:Mem M ob ac w){k g sz:Nat}{e:TypeId}{xs:az}(D:ac[k]? =X (.row g sz e xs)){hs:bb}{v:Value}(F:ob[k]? =X hs)(L:hs[g]? =X v)
  {w':World} {l:Nat} {hs':bb} {x:Value} {xs':az} (hp:hs<+:hs') (n:Z hs'=l+1) (s:hs'[l]? =X x) (C:dY M w' x sz e xs')
  (heap:∀b,b<w.heap.size->v.ownBlock≠X b->w'.heap[b]? =w.heap[b]?) (z:w'.os=w.os) (j:w'.tape=w.tape) (m:w'.output=w.output) (i:w.heap.size<=w'.heap.size)
  (P:∀b,x.ownBlock=X b->v.ownBlock=X b\/w.heap.size<=b):
  Mem M (ob.set k hs') (ac.set k (.row l sz e xs')) w'/\Ext M ob ac w M (ob.set k hs') (ac.set k (.row l sz e xs')) w'/\cS ob ac (ob.set k hs') (ac.set k (.row l sz e xs')):=by
 obtain⟨As,Q,J,R,I,_,r,f⟩:=h.rowOf D;rw[F]at J;cases J;rw[L]at I;cases I;obtain⟨cv,G,_,_,_,A,_⟩:=r;obtain⟨cv',c,_⟩:=id C;have p:∀b o y,M b o y->v.ownBlock≠X b:=λb o y t e=>A b e o y t;refine h.turn D F hp (λe=>by cases e) (λ_ _ _ h=>h) (λ_ _ _ h=>.inl h) (λb o y t=>?_) (λb B K=>heap b B λe=>K ⟨rfl,oO f e⟩) z j m i (λ_=>?_) (λ_ b d=>?_)
 .obtain ⟨u,H,h1,N⟩:=h.imm b o y t;exact⟨u,(Cs (w:=w) (a:=⟨b,o,U⟩) (heap b (Ct w _ H) (p b o y t))).trans H,h1,N⟩
 .exact ⟨n,x,s,C⟩
 .have d:=yW ((eT n s).trans (fM c)) d;refine⟨?_,(c.lt b d).2⟩;rcases P b d with q|q
  .exact .inl ⟨rfl,oO f q⟩
  omega
theorem gF{α:Type}{l:List α}{k:Nat}{x:α}(h:l[k]? =X x):l.set k x=l:=by
 apply List.ext_getElem?
 grind[Ay,Ad,Bf]
def dY.write{v:Value}{sz:Nat}{e:TypeId}{xs xs':az}(h:dY M w v sz e xs){b n cap:Nat}(G:v= .slice (X ⟨b,0,U⟩) n cap)(hs:0<sz){p:Nat}{news:bb}(hp:p+Z news<=Z xs*sz)
  (h1:∀u∈news,u.oneCell'=O) (hl:Z xs'=Z xs) (hz:∀x∈xs',Z x.cells=sz)
  (Q:∀q c,aM sz xs' q=X c->(p<=q/\q<p+Z news/\∃u,news[q-p]? =X u/\Rep M [] u c)\/((q<p\/p+Z news<=q)/\aM sz xs q=X c)):
  ∃a,w.heap[b]? =X (.cells a e (0,0))/\p+Z news<=a.size/\dY M (w.setRow b (a.toList.take p++news++a.toList.drop (p+Z news)).toArray) v sz e xs':=by
 subst G;obtain⟨cv,⟨K,D⟩,h3,As,L,H,F⟩:=h;rcases D with⟨k,_⟩|⟨g,l,a,k,_,i,y,z,r,I⟩
 .cases k
 cases k;have A:Z xs*sz<=a.size:=by rw[r];exact Br _ y
 have f:p+Z news<=Z a.toList:=by simp;omega
 obtain⟨t,P⟩:=fS a.toList news p f;have B:∀q,q<Z xs*sz->cv[q]? =a.toList[q]?:=λq j=>by rw[<-I,Bj j]
 refine⟨a,i,by omega,(a.toList.take p++news++a.toList.drop (p+Z news)).take (Z xs*sz),⟨by grind[Dr,Ir],.inr ⟨b,cap,_,by rw[hl],Bn _,setRow_heap w b a _ e _ i,by omega,z,?_,by rw[hl]⟩⟩,λu m=>?_,hz,λq c j=>?_,H,λN C s T J d u m=>?_⟩
 .rw [Gg,t,Ir,r]
 .obtain ⟨q,j⟩:=Cu m
  grind[Ax]
 .grind
 .cases C;rw[setRow_heap w b a _ e _ i]at d;cases d;have o:∀u∈a.toList,u.oneCell'=true:=F b rfl _ _ _ i
  grind[Cw,Ff]
def Mem.rowWrite{P:Program}(h:Mem M ob ac w){k g sz:Nat}{e:TypeId}{xs xs':az}(l:ac[k]? =X (.row g sz e xs)){b n cap:Nat}(y:at' ob k g=X (.slice (X ⟨b,0,U⟩) n cap))(hs:0<sz)
  {p:Nat} {news:bb} (hp:p+Z news<=Z xs*sz) (h1:∀u∈news,u.oneCell'=O) (hl:Z xs'=Z xs) (hz:∀x∈xs',Z x.cells=sz)
  (C:∀q c,aM sz xs' q=X c->(p<=q/\q<p+Z news/\∃u,news[q-p]? =X u/\Rep M [] u c)\/((q<p\/p+Z news<=q)/\aM sz xs q=X c)):
  ∃w',(storeCells ⟨b,p,U⟩ news).run P w= .ok () w'/\Mem M ob (ac.set k (.row g sz e xs')) w'/\Ext M ob ac w M ob (ac.set k (.row g sz e xs')) w'/\cS ob ac ob (ac.set k (.row g sz e xs')):=by
 obtain⟨d,v,s,z,r,j,a,m⟩:=h.rowOf l;rw[y]at j;cases j;obtain⟨i,A,D,B⟩:=a.write rfl hs hp h1 hl hz C;have hst:=run_storeCells_at P b p e news 0 i w A o_ h1;simp only[Fj]at hst;refine⟨_,hst,?_⟩;have:=h.rowTurn (hs':=d) l s r (Cp _) z r B (λo _ t=>setRow_other w b o _ (λe=>t (by simp[Ge,e]))) rfl rfl rfl s_ (λo f=>.inl f);rw[gF s]at this;exact this
end
theorem xP(w:World)(o:Obj):(w.alloc o).heap.size=w.heap.size+1:=by simp
structure Grown(M:Imm)(w w':World)(sz:Nat)(e:TypeId)(v:Value)(xs:az):Prop where
 own:∃cv,w'.ownsRow 0 e sz v (Z xs) cv/\(∀u∈cv,u.oneCell'=O)/\∀(q:Nat) c,aM sz xs q=X c->∃u,cv[q]? =X u/\Rep M [] u c
 pos:0<sz
 hz:∀x∈xs,Z x.cells=sz
 blk:∀b,v.ownBlock=X b->w.heap.size<=b
 heap:∀b,b<w.heap.size->w'.heap[b]? =w.heap[b]?
 os:w'.os=w.os
 tape:w'.tape=w.tape
 output:w'.output=w.output
 size:w.heap.size<=w'.heap.size
 oneb:YW w' v
section
variable {M:Imm} {ob:Hs} {ac:aw} {w w':World} {sz:Nat} {e:TypeId} {v:Value} {xs:az}
theorem fU{w:World}{n:Nat}{cv:bb}(h:w.ownsRow 0 e sz v n cv){b:Nat}(c:v.ownBlock=X b){q:Nat}{u:Value}(a:cv[q]? =X u):w.cell? ⟨b,q,U⟩=X u:=by have:=h.cells (g:=b) c q u a;rwa [bI,Bv]at this
theorem dW{w:World}{n:Nat}{cv:bb}(h:w.ownsRow 0 e sz v n cv):(v= .slice U 0 0/\n=0)\/∃b cap,v= .slice (X ⟨b,0,U⟩) n cap/\v.ownBlock=X b/\n<=cap/\cap<=maxLen:=by
 rcases h.2 with h|⟨g,cap,f,a,_,_,c,d,_⟩
 .exact .inl h
 .exact .inr ⟨g,cap,a,by rw[a];rfl,c,d⟩
def iN(M:Imm)(v:Value)(sz:Nat)(xs:az):Imm:=λb o x=>M b o x\/(v.ownBlock=X b/\aM sz xs o=X x)
def kY{w:World}{cv:bb}(h:w.ownsRow 0 e sz v (Z xs) cv)(hz:∀x∈xs,Z x.cells=sz){t:Tk}(d:wI ob v t):Rep (iN M v sz xs) ob v (.slice sz xs t):=by
 rcases dW h with⟨rfl,g⟩|⟨b,cap,n,l,k,f⟩
 .have:xs=[]:=Bb g;subst this;exact .slnil sz t d
 .subst n;refine .sl sz b 0 (Z xs) cap xs t rfl k (by simp only[maxLen]at f;omega) hz (λi j x c a m=>.inr ⟨l,?_⟩) d;rw[Bv];exact LM a m (hz x (Ax a))
def Grown.imm(g:Grown M w w' sz e v xs)(h:Mem M ob ac w):∀b o y,iN M v sz xs b o y->∃u,w'.cell? ⟨b,o,U⟩=X u/\u.oneCell'=O/\Rep (iN M v sz xs) [] u y:=by
 obtain⟨cv,h1,j,h3⟩:=g.own;intro b o y c;rcases c with c|⟨k,c⟩
 .obtain ⟨u,d,l,i⟩:=h.imm b o y c;exact⟨u,(Cs (w:=w) (a:=⟨b,o,U⟩) (g.heap b (Ct w _ d))).trans d,l,i.monoM λ_ _ _ h=>.inl h⟩
 .obtain ⟨u,d,f⟩:=h3 o y c;exact⟨u,fU h1 k d,j u (Ax d),f.monoM λ_ _ _ h=>.inl h⟩
def Grown.more(g:Grown M w w' sz e v xs)(h:Mem M ob ac w):Mem (iN M v sz xs) ob ac w'/\Ext M ob ac w (iN M v sz xs) ob ac w':=
 h.more (λ_ _ _ h=>.inl h) (λb o y a=>by
  rcases a with a|⟨c,_⟩
  .grind
  .exact .inr (g.blk b c)) (g.imm h) g.heap g.os g.tape g.output g.size
def Grown.row(g:Grown M w w' sz e v xs)(h:Mem M ob ac w){k:Nat}(h1:ac[k]? =X .dead)(p:ob[k]? =X []):
  Mem M (ob.set k [v]) (ac.set k (.row 0 sz e xs)) w'/\Ext M ob ac w M (ob.set k [v]) (ac.set k (.row 0 sz e xs)) w'/\cS ob ac (ob.set k [v]) (ac.set k (.row 0 sz e xs)):=by
 obtain⟨cv,f,m,n⟩:=g.own;refine h.turn h1 p ⟨[v],rfl⟩ (λ_=>rfl) (λ_ _ _ h=>h) (λ_ _ _ h=>.inl h) (λb o y j=>?_) (λb d _=>g.heap b d) g.os g.tape g.output g.size (λ_=>⟨rfl,v,rfl,cv,f,m,g.hz,n,λb d o=>h.noImm (g.blk b d) o,g.oneb⟩) (λ_ b d=>?_)
 .obtain ⟨u,i,q,l⟩:=h.imm b o y j;exact⟨u,(Cs (w:=w) (a:=⟨b,o,U⟩) (g.heap b (Ct w _ i))).trans i,q,l⟩
 .have c:v.ownBlock=X b:=yW (hs:=[v]) (fM f) d;exact⟨.inr (g.blk b c),(f.lt b c).2⟩
def Grown.tail(g:Grown M w w' sz e v xs)(h:Mem M ob ac w){k:Nat}(h1:ac[k]? =X .dead)(j:ob[k]? =X []):
  Mem (iN M v sz xs) (ob.set k [v]) (ac.set k (.tail 0 sz e)) w'/\Ext M ob ac w (iN M v sz xs) (ob.set k [v]) (ac.set k (.tail 0 sz e)) w'/\cS ob ac (ob.set k [v]) (ac.set k (.tail 0 sz e))/\
   Rep (iN M v sz xs) (ob.set k [v]) v (.slice sz xs (.own k 0)):=by
 obtain⟨cv,i,n,p⟩:=g.own;have l:k<Z ob:=(Ad.1 j).1
 have a:=h.turn (M':=iN M v sz xs) (w':=w') (x':=.tail 0 sz e) (hs':=[v]) h1 j ⟨[v],rfl⟩ (λ_=>rfl) (λ_ _ _ h=>.inl h) (λb o y c=>by
  rcases c with c|⟨d,_⟩
  .grind
  .exact .inr (.inr (g.blk b d))) (g.imm h) (λb d _=>g.heap b d) g.os g.tape g.output g.size
  (λ_=>⟨rfl,v,rfl,_,cv,i,λb d o m y c=>by
   rcases c with c|⟨_,c⟩
   .exact h.noImm (g.blk b d) o y c
   .have:=hZ g.pos c;omega⟩)
  (λ_ b d=>by
   have f:v.ownBlock=X b:=yW (hs:=[v]) (fM i) d
   exact⟨.inr (g.blk b f),(i.lt b f).2⟩)
 refine⟨a.1,a.2.1,a.2.2,kY i g.hz ?_⟩;show at' _ k 0=X v;rw[cG (Ay l)];rfl
end
def FL(w:World):YW w (.slice U 0 0):=λb a=>by cases a
theorem kL{z:Array Value}{n:Nat}(hz:z.toList.all (·.oneCell')=O):∀u∈(Cf z n).toList,u.oneCell'=true:=by
 intro u a;simp only[Cf,Array.toList_map,Co]at a
 grind[Nat.pos_of_ne_zero,Ef]
def rD{w:World}{cs:bb}{n c:Nat}{T:TypeId}(h:∀u∈cs,u.oneCell'=O):YW (w.alloc (.cells cs.toArray T)) (.slice (X ⟨w.heap.size,0,U⟩) n c):=by
 intro b a d g f e u i;cases a;rw[heap_alloc_new w _]at e
 grind
def jD{P:Program}(w:World)(t I ty e:TypeId)(i:TypeInfo)(z:Value)(As:P.underlying t=X (.slice e))(M:P.info? e=X i)(hz:i.zero=X z)(hz1:z.cells.toList.all (·.oneCell')=O)
  (Q:z.cells.size=i.size) (v:Value) (n:Nat) (a:bb) (d:w.ownsRow 0 e i.size v n a) (At:∀u∈a,u.oneCell'=O) (x:Value) (m:Nat) (news:bb) (hs:Src P i.size I x m news w)
  (J:n+m<=maxLen) (s:(n+m)*i.bytes<=140737488355328):
  ∃L w',(Cr #[t,I] ty #[v,x]).run P w= .ok L w'/\w'.ownsRow 0 e i.size L (n+m) (a++news)/\w'.os=w.os/\w'.tape=w.tape/\w'.output=w.output/\w.heap.size<=w'.heap.size/\
   ((L.ownBlock=v.ownBlock/\∀b,v.ownBlock≠X b->w'.heap[b]? =w.heap[b]?)\/(L.ownBlock=X w.heap.size/\∀b,b<w.heap.size->w'.heap[b]? =w.heap[b]?))/\(YW w v->YW w' L):=by
 have r:Z (a++news)=(n+m)*i.size:=by rw[Ah,d.1,hs.newsLen,Cg]
 have h63':n+m<=4611686018427387904\/True:=.inr trivial
 have y:∀(f:Nat),f<n+m->
   (w.drew.alloc (.cells ((a++news).toArray++Cf z.cells (grownCap w (n+m) f e-(n+m))) e)).ownsRow 0 e i.size
    (.slice (X ⟨w.heap.size,0,U⟩) (n+m) (grownCap w (n+m) f e)) (n+m) (a++news):=by
  intro f ho;have Be:=grownCap_ge w (n+m) f e;have B:grownCap w (n+m) f e<=maxLen:=grownCap_le_maxLen w (n+m) f e J;refine⟨r,.inr ⟨w.heap.size,_,_,rfl,Bn _,heap_alloc_new w.drew _,Be,B,?_,?_⟩⟩
  .simp only[Array.size_append,Gg,size_zeroCells,Q,r,<-Cg];simp_all
  grind[Mx,Hq]
 have q:∀(k n' Y:Nat),YW (w.drew.alloc (.cells ((a++news).toArray++Cf z.cells k) e)) (.slice (X ⟨w.heap.size,0,U⟩) n' Y):=by
  intro k n' Y;have:(a++news).toArray++Cf z.cells k=((a++news)++(Cf z.cells k).toList).toArray:=by simp
  rw[this];refine rD (w:=w.drew) λu c=>?_;rcases Bx.1 c with c|c
  .rcases Bx.1 c with c|c
   .exact At u c
   .exact hs.one u c
  .exact kL hz1 u c
 have G:∀o,w.heap.size<=(w.drew.alloc o).heap.size:=λo=>by simp
 have K:((n+m:Nat):Int)<=9223372036854775807:=by simp only[maxLen]at J;omega
 rcases d.2 with⟨rfl,rfl⟩|⟨g,cap,p,rfl,_,N,hnc,B,An,C⟩
 .have hx:a=[]:=Bb (by simpa using d.1);subst hx;by_cases hm:m=0
  .subst hm;have hn:news=[]:=Bb (by simpa using hs.newsLen);subst hn;refine⟨.slice U 0 0,w,?_,Hh w 0 e i.size,rfl,rfl,rfl,Bc _,.inl ⟨rfl,λ_ _=>rfl⟩,λh=>h⟩;rcases hs.kind with⟨e',H⟩|H<;>simp[Cr,run_underlying As,run_underlying H,sizeOf,typeInfo,M,hs.len,hs.cells]
  .have F:=run_append_grow_src (P:=P) w t I ty e i z As M hz U 0 0 [] (by rfl) x m news hs o_ K (growslice_fits o_ s);exact⟨_,_,F,y 0 o_,rfl,rfl,rfl,G _,.inr ⟨rfl,λb D=>heap_alloc_old w.drew _ D⟩,λ_=>q _ _ _⟩
 .by_cases l:n+m<=cap
  .have Am:n*i.size+Z news<=p.size:=by rw[hs.newsLen,An,<-Cg];exact Br _ l
   have hst:=run_storeCells_at P g (n*i.size) e news 0 p w N o_ hs.one;simp only[Fj]at hst;have W:(⟨g,0,U⟩:Addr).add (n*i.size)=⟨g,n*i.size,U⟩:=by rw[bI,Bv]
   have F:(Cr #[t,I] ty #[.slice (X ⟨g,0,U⟩) n cap,x]).run P w= .ok (.slice (X ⟨g,0,U⟩) (n+m) cap) (w.setRow g (p.toList.take (n*i.size)++news++p.toList.drop (n*i.size+Z news)).toArray):=by rcases hs.kind with⟨e',H⟩|H<;>simp[Cr,run_underlying As,run_underlying H,sizeOf,typeInfo,M,hs.len,l,hs.cells,W,hst]
   refine⟨_,_,F,⟨r,.inr ⟨g,cap,_,rfl,Bn _,setRow_heap w g p _ e _ N,l,B,?_,?_⟩⟩,rfl,rfl,rfl,by simp,.inl ⟨rfl,λb D=>setRow_other w g b _ (λe=>D (by simp[Ge,e]))⟩,λR b D cur' T' fz hc u c=>?_⟩
   .grind [Gg,Ah,Dr,Dq,Ir]
   .rw [C,<-r];exact Hq
   .cases D;rw[setRow_heap w g p _ e _ N]at hc;cases hc;have A:∀u∈p.toList,u.oneCell'=true:=R g rfl _ _ _ N;simp only[Bx]at c;rcases c with(c|c)|c
    .exact A u (Cw c)
    .exact hs.one u c
    .exact A u (Ff c)
  .have T:∀(j:Nat) u,a[j]? =X u->w.cell? ((⟨g,0,U⟩:Addr).add j)=X u:=d.cells (g:=g) rfl;have V:(Ci i.size n (.slice (X ⟨g,0,U⟩) n cap)).run P w.drew= .ok a.toArray w.drew:=run_firstCells_some w.drew i.size n ⟨g,0,U⟩ n cap a d.1 q_;have F:=run_append_grow_src (P:=P) w t I ty e i z As M hz (X ⟨g,0,U⟩) n cap a V x m news hs o_ K (growslice_fits o_ s);exact⟨_,_,F,y cap o_,rfl,rfl,rfl,G _,.inr ⟨rfl,λb D=>heap_alloc_old w.drew _ D⟩,λ_=>q _ _ _⟩
section
variable {M:Imm} {ob:Hs} {ac:aw} {w:World}
structure SrcA(P:Program)(M:Imm)(w:World)(sz:Nat)(tx:TypeId)(x:Value)(ys:az):Prop where
 src:∃news,Src P sz tx x (Z ys) news w/\∀(q:Nat) c,aM sz ys q=X c->∃u,news[q]? =X u/\Rep M [] u c
 hz:∀y∈ys,Z y.cells=sz
 pre:∀m,m<=Z ys->∃news:bb,(Ci sz m x).run P w= .ok news.toArray w/\Z news=m*sz/\(∀u∈news,u.oneCell'=O)/\∀(q:Nat) c,q<m*sz->aM sz ys q=X c->∃u,news[q]? =X u/\Rep M [] u c
def Mem.appendRow{P:Program}(h:Mem M ob ac w){t J ty e:TypeId}{i:TypeInfo}{z:Value}(ht:P.underlying t=X (.slice e))(hi:P.info? e=X i)(hz:i.zero=X z)(hz1:z.cells.toList.all (·.oneCell')=O)
  (G:z.cells.size=i.size) (F:0<i.size) {k g:Nat} {xs ys:az} (R:ac[k]? =X (.row g i.size e xs)) {v x:Value} (hv:at' ob k g=X v) (hs:SrcA P M w i.size J x ys)
  (K:Z xs+Z ys<=maxLen) (l:(Z xs+Z ys)*i.bytes<=140737488355328):
  ∃a w' ob',(Cr #[t,J] ty #[v,x]).run P w= .ok a w'/\Mem M ob' (ac.set k (.row (g+1) i.size e (xs++ys))) w'/\Ext M ob ac w M ob' (ac.set k (.row (g+1) i.size e (xs++ys))) w'/\
   cS ob ac ob' (ac.set k (.row (g+1) i.size e (xs++ys)))/\Rep M ob' a (.row k (g+1)):=by
 obtain⟨j,v0,Y,W,e3,Q,D,At⟩:=h.rowOf R;rw[hv]at Q;cases Q;obtain⟨cv,L,Be,o3,o4,o5,o6⟩:=D;obtain⟨⟨news,T,s2⟩,s3⟩:=hs;obtain⟨a,w',Am,n,I,p,C,m,H,s⟩:=jD (P:=P) w t J ty e i z ht hi hz hz1 G v (Z xs) cv L Be x (Z ys) news T K l;have d:∀b,a.ownBlock=X b->v.ownBlock=X b\/w.heap.size<=b:=λb V=>by grind
 have r:dY M w' a i.size e (xs++ys):=by
  refine⟨cv++news,by simp;omega,λu A=>?_,λy hy=>?_,λq c An=>?_,λb V o=>?_,s o6⟩
  .rcases Bx.1 A with A|A
   .exact Be u A
   .exact T.one u A
  .grind
  .by_cases N:q<Z xs*i.size
   .grind [cU,Ai]
   .rw [cO F o_]at An;rw[Ar (by rw[L.1];omega),L.1];exact s2 _ c An
  .rcases d b V with q|q
   .exact o5 b q o
   .exact h.noImm q o
 have As:Z (j++[a])=g+1+1:=by simp[W]
 have B:(j++[a])[g+1]? =X a:=by rw[<-W];simp
 have:=h.rowTurn (hs':=j++[a]) R Y e3 ⟨[a],rfl⟩ As B r (λb N hn=>by grind) I p C m d
 refine⟨a,w',_,Am,this.1,this.2.1,this.2.2,?_⟩;have hk:k<Z ob:=(Ad.1 Y).1;have f:at' (ob.set k (j++[a])) k (g+1)=X a:=by rw[cG (Ay hk)];exact B
 rcases dW n with⟨q,_⟩|⟨b,cap,q,_⟩
 all_goals (rw[q]at f⊢;exact .row _ _ _ _ _ f)
def B4{v:Value}{sz:Nat}{xs:az}{e:TypeId}{n:Nat}{cv:bb}(b:Rep M ob v (.slice sz xs .no))(d:w.ownsRow 0 e sz v n cv):n=Z xs:=by
 obtain⟨a,c,rfl,h1,_⟩:=b.slice_inv
 grind[dW]
def Mem.appendTail{P:Program}(h:Mem M ob ac w){t tx ty e:TypeId}{i:TypeInfo}{z:Value}(ht:P.underlying t=X (.slice e))(hi:P.info? e=X i)(hz:i.zero=X z)(hz1:z.cells.toList.all (·.oneCell')=O)
  (hzs:z.cells.size=i.size) (C:0<i.size) {k g:Nat} {xs ys:az} (Q:ac[k]? =X (.tail g i.size e)) {v x:Value} (hv:Rep M ob v (.slice i.size xs (.own k g))) (hs:SrcA P M w i.size tx x ys)
  (h63:Z xs+Z ys<=maxLen) (I:(Z xs+Z ys)*i.bytes<=140737488355328):
  ∃p w' M' ob',(Cr #[t,tx] ty #[v,x]).run P w= .ok p w'/\Mem M' ob' (ac.set k (.tail (g+1) i.size e)) w'/\Ext M ob ac w M' ob' (ac.set k (.tail (g+1) i.size e)) w'/\
   cS ob ac ob' (ac.set k (.tail (g+1) i.size e))/\Rep M' ob' p (.slice i.size (xs++ys) (.own k (g+1))):=by
 obtain⟨R,hvt⟩:=hv.untok;have Y:at' ob k g=X v:=hvt;obtain⟨H,e1,e2,v0,e3,n,cv,D,o5⟩:=h.obj k _ Q;have e4:H[g]? =X v:=by rw[<-cG e1];exact Y
 rw[e4]at e3;cases e3;have hn:=B4 R D;subst hn;obtain⟨⟨news,s1,s2⟩,s3⟩:=hs
 have T:(∀x∈xs,Z x.cells=i.size)/\(∀u∈cv,u.oneCell'=O)/\(∀(q:Nat) c,aM i.size xs q=X c->∃u,cv[q]? =X u/\Rep M [] u c)/\∀b,v.ownBlock=X b->b<w.heap.size/\∀(q:Nat) u,cv[q]? =X u->w.cell? ⟨b,q,U⟩=X u:=by
  have l:∀b,v.ownBlock=X b->∀(q:Nat) u,cv[q]? =X u->w.cell? ⟨b,q,U⟩=X u:=λb d q u r=>fU D d r;cases R with
  |slnil sz t' An=>
   have:cv=[]:=Bb (by simpa using D.1);subst this;exact⟨λx Q=>by simp at Q,λu r=>by simp at r,λq c B=>by simp[aM]at B,λb d=>⟨(D.lt b d).2,l b d⟩⟩
  |slemp sz t' a cap An=>
   have:cv=[]:=Bb (by simpa using D.1);subst this;exact⟨λx Q=>by simp at Q,λu r=>by simp at r,λq c B=>by simp[aM]at B,λb d=>⟨(D.lt b d).2,l b d⟩⟩
  |sl sz b o n cap xs t' hn hc hm L hM An=>
   have ho:o=0:=by grind[dW]
   subst ho;have j:∀q,q<Z xs*i.size->∃u c,cv[q]? =X u/\aM i.size xs q=X c/\u.oneCell'=O/\Rep M [] u c:=λq B=>by
    obtain⟨c,hc⟩:=BO C L B;obtain⟨y,f,hyc⟩:=gM hc;have W:=hM _ _ y c f hyc;have hqq:0+q/i.size*i.size+q%i.size=q:=by rw[Bv,Cz];exact Fy q _
    rw[hqq]at W;obtain⟨u,r,h1,J⟩:=h.imm b q c W;have A:q<Z cv:=by rw[D.1];exact B
    have:=l b rfl q _ (Ab A)
    grind[Ab]
   refine⟨L,λu r=>?_,λq c B=>?_,λb d=>⟨(D.lt b d).2,l b d⟩⟩
   .obtain ⟨q,B⟩:=Cu r;obtain⟨u',c,h1,_,J,_⟩:=j q (by have:=(Ad.1 B).1;rw[D.1]at this;exact this);rw[B]at h1;cases h1;exact J
   .obtain ⟨u,c',h1,J,_,h3⟩:=j q (hZ C B);rw[B]at J;cases J;exact⟨u,h1,h3⟩
 obtain⟨L,o2,o4,o6⟩:=T;obtain⟨p,w',hr,m,hos,As,At,N,hcase,honeb⟩:=jD (P:=P) w t tx ty e i z ht hi hz hz1 hzs v (Z xs) cv D o2 x (Z ys) news s1 h63 I;have s:∀b,p.ownBlock=X b->v.ownBlock=X b\/w.heap.size<=b:=λb d=>by grind
 have F:∀b,b<w.heap.size->v.ownBlock≠X b\/p.ownBlock≠X b->w'.heap[b]? =w.heap[b]?:=λb d hne=>by grind
 have hzz:∀y∈xs++ys,Z y.cells=i.size:=λy f=>by grind
 have K:∀(q:Nat) c,aM i.size (xs++ys) q=X c->∃u,(cv++news)[q]? =X u/\u.oneCell'=O/\Rep M [] u c:=λq c B=>by
  by_cases A:q<Z xs*i.size
  .grind [cU,Ai,Ax]
  .rw [cO C o_]at B;obtain⟨u,r,hr⟩:=s2 _ c B;exact⟨u,by rw[Ar (by rw[D.1];omega),D.1];exact r,s1.one u (Ax r),hr⟩
 have G:blk H=v.ownBlock.toList:=(eT e2 e4).trans (fM D);have Be:Z (H++[p])=g+1+1:=by simp[e2]
 have V:(H++[p])[g+1]? =X p:=by rw[<-e2];simp
 have hMo:∀b o y,p.ownBlock=X b->M b o y->v.ownBlock=X b/\o<Z xs*i.size:=λb o y d f=>by
  rcases s b d with q|q
  .refine ⟨q,?_⟩;rcases Nat.lt_or_ge o (Z xs*i.size)with A|hge
   .exact A
   .exact bv f (o5 b q o hge y)
  .exact bv f (h.noImm q o y)
 have j:=h.turn (M':=iN M p i.size (xs++ys)) (w':=w') (x':=.tail (g+1) i.size e) (hs':=H++[p]) Q e1 ⟨[p],rfl⟩ (λe=>by cases e) (λ_ _ _ h=>.inl h) (λb o y f=>by
   rcases f with f|⟨d,_⟩
   .exact .inl f
   .rcases s b d with q|q
    .exact .inr (.inl ⟨rfl,oO G q⟩)
    omega) (λb o y f=>by
   rcases f with f|⟨d,f⟩
   .obtain ⟨u,r,h1,J⟩:=h.imm b o y f;refine⟨u,?_,h1,J.monoM λ_ _ _ h=>.inl h⟩;by_cases d:p.ownBlock=X b
    .obtain ⟨q1,q2⟩:=hMo b o y d f;have A:o<Z cv:=by rw[D.1];exact q2
     grind[Ab,fU,Ai]
    .exact (Cs (w:=w) (a:=⟨b,o,U⟩) (F b (Ct w _ r) (.inr d))).trans r
   .obtain ⟨u,r,h1,J⟩:=K o y f
    exact⟨u,fU m d r,h1,J.monoM λ_ _ _ h=>.inl h⟩)
  (λb A hn=>F b A (.inl λe=>hn ⟨rfl,oO G e⟩)) hos As At N
  (λ_=>⟨Be,p,V,_,cv++news,m,λb d o ho y f=>by
   rcases f with f|⟨_,f⟩
   .grind [Cg]
   .have:=hZ C f
    rw[Ah]at this;omega⟩)
  (λ_ b d=>by
   have Am:p.ownBlock=X b:=yW ((eT Be V).trans (fM m)) d;refine⟨?_,(m.lt b Am).2⟩;rcases s b Am with q|q
   .exact .inl ⟨rfl,oO G q⟩
   omega)
 refine⟨p,w',_,_,hr,j.1,j.2.1,j.2.2,kY q_ hzz ?_⟩;show at' _ k (g+1)=X p
 grind[cG,Ay,Ad]
def append_nil{P:Program}(h:Mem M ob ac w){t r ty e:TypeId}{i:TypeInfo}{z:Value}(A:P.underlying t=X (.slice e))(v:P.info? e=X i)(hz:i.zero=X z)(hz1:z.cells.toList.all (·.oneCell')=O)
  (o:z.cells.size=i.size) (l:0<i.size) {ys:az} {x:Value} (hs:SrcA P M w i.size r x ys) (y:Z ys<=maxLen) (n:Z ys*i.bytes<=140737488355328):
  ∃m w',(Cr #[t,r] ty #[.slice U 0 0,x]).run P w= .ok m w'/\Grown M w w' i.size e m ys:=by
 obtain⟨⟨news,s,C⟩,B⟩:=hs;obtain⟨m,w',u,c,p,f,k,d,a,g⟩:=jD (P:=P) w t r ty e i z A v hz hz1 o _ 0 [] (Hh w 0 e i.size) s_ x (Z ys) news s o_ q_;rw[Bv,List.nil_append]at c;refine⟨m,w',u,⟨news,c,s.one,C⟩,l,B,λb j=>?_,λb j=>?_,p,f,k,d,g (FL w)⟩
 .rcases a with⟨q,_⟩|⟨q,_⟩
  .rw [q]at j;cases j
  .rw [q]at j;cases j;omega
 .rcases a with⟨_,q⟩|⟨_,q⟩
  .exact q b (by simp[Ge])
  .exact q b j
end
section
variable {M:Imm} {ob:Hs} {ac:aw} {w:World}
def Mem.sliceCells(h:Mem M ob ac w){sz b o:Nat}{xs:az}(hs:0<sz)(hz:∀x∈xs,Z x.cells=sz)
  (hm:∀(i j:Nat) x c,xs[i]? =X x->x.cells[j]? =X c->M b (o+i*sz+j) c):
  ∃vs:bb,Z vs=Z xs*sz/\(∀(j:Nat) u,vs[j]? =X u->w.cell? ⟨b,o+j,U⟩=X u)/\(∀u∈vs,u.oneCell'=O)/\
   ∀(q:Nat) c,aM sz xs q=X c->∃u,vs[q]? =X u/\Rep M [] u c:=by
 have key:∀q,q<Z xs*sz->∃u,w.cell? ⟨b,o+q,U⟩=X u/\u.oneCell'=O/\∀c,aM sz xs q=X c->Rep M [] u c:=by
  intro q d;obtain⟨c,k⟩:=BO hs hz d;obtain⟨x,e,a⟩:=gM k;have n:o+q/sz*sz+q%sz=o+q:=by grind[Fy,Cz]
  obtain⟨v,m,h1,l⟩:=h.imm _ _ _ (hm _ _ _ _ e a)
  grind
 refine⟨(Df (Z xs*sz)).map λq=>(w.cell? ⟨b,o+q,U⟩).getD undef,by simp,λj u f=>?_,λu f=>?_,λq c d=>?_⟩
 .grind [Ew,Bk]
 .grind
 .have g:=hZ hs d
  grind[Ew]
def FB{P:Program}{sz c m:Nat}{n:Nat}(hm:m<=0){ys:az}:∃news:bb,(Ci sz m (.slice U n c)).run P w= .ok news.toArray w/\Z news=m*sz/\(∀u∈news,u.oneCell'=O)/\∀(q:Nat) c,q<m*sz->aM sz ys q=X c->∃u,news[q]? =X u/\Rep M [] u c:=by have:m=0:=o_;subst this;exact⟨[],rfl,by simp,λu b=>by simp at b,λq c a=>by simp at a⟩
def QY{P:Program}{sz n c m:Nat}{a:Addr}{ys:az}{vs:bb}(hm:m*sz<=Z vs)(d:∀(j:Nat) u,vs[j]? =X u->w.cell? (a.add j)=X u)(h1:∀u∈vs,u.oneCell'=O)
  (b:∀(q:Nat) c,aM sz ys q=X c->∃u,vs[q]? =X u/\Rep M [] u c):
  ∃news:bb,(Ci sz m (.slice (X a) n c)).run P w= .ok news.toArray w/\Z news=m*sz/\(∀u∈news,u.oneCell'=O)/\∀(q:Nat) c,q<m*sz->aM sz ys q=X c->∃u,news[q]? =X u/\Rep M [] u c:=by
 have hl:Z (vs.take (m*sz))=m*sz:=by simp;omega
 have e:Ci sz m (.slice (X a) n c)=loadCells a (m*sz):=rfl
 grind[run_loadCells_list,Cw,Bj]
def QX{P:Program}{sz c m n:Nat}{a:Addr}(hm:m<=0){ys:az}:∃news:bb,(Ci sz m (.slice (X a) n c)).run P w= .ok news.toArray w/\Z news=m*sz/\(∀u∈news,u.oneCell'=O)/\∀(q:Nat) c,q<m*sz->aM sz ys q=X c->∃u,news[q]? =X u/\Rep M [] u c:=by have:m=0:=o_;subst this;have e:Ci sz 0 (.slice (X a) n c)=loadCells a (0*sz):=rfl;have:=run_loadCells_list (P:=P) w a [] (λj v b=>by simp at b);simp_all
def SrcA.ofSlice{P:Program}(h:Mem M ob ac w){sz:Nat}(hs:0<sz){i z:TypeId}(f:P.underlying i=X (.slice z)){x:Value}{ys:az}{t:Tk}(v:Rep M ob x (.slice sz ys t)):SrcA P M w sz i x ys:=by
 cases v with
 |slnil sz t p=>exact⟨⟨[],Src.ofNil w f 0,λq c g=>by simp[aM]at g⟩,λy e=>by simp at e,λm hm=>FB hm⟩
 |slemp sz t a cap p=>exact⟨⟨[],Src.ofSlice w f a 0 cap [] s_ (λj u d=>by simp at d) (λu B=>by simp at B),λq c g=>by simp[aM]at g⟩,λy e=>by simp at e,λm hm=>QX hm⟩
 |sl sz b o n cap xs t A D hm hz C p=>
  subst A;obtain⟨vs,s,r,k,l⟩:=h.sliceCells hs hz C;exact⟨⟨vs,Src.ofSlice w f ⟨b,o,U⟩ _ cap vs s (λj u d=>by rw[bI];exact r j u d) k,l⟩,hz,λm hm=>QY (vs:=vs) (by rw[s];exact Br _ hm) (λj u d=>by rw[bI];exact r j u d) k l⟩
def SrcA.ofRow{P:Program}(h:Mem M ob ac w){k g sz:Nat}{e:TypeId}{xs:az}(hs:0<sz)(K:ac[k]? =X (.row g sz e xs)){r L:TypeId}(o:P.underlying r=X (.slice L)){v:Value}(As:at' ob k g=X v)
  {lo len:Nat} (hl:lo+len<=Z xs) {x:Value} (t:∀b n c,v= .slice (X ⟨b,0,U⟩) n c->len≠0->∃f,x= .slice (X ⟨b,lo*sz,U⟩) len f) (z:len=0->∃a f,x= .slice a 0 f):SrcA P M w sz r x ((xs.drop lo).take len):=by
 obtain⟨R,Be,_,_,_,B,l,_⟩:=h.rowOf K;rw[As]at B;cases B;obtain⟨cv,s,N,Q,W,T⟩:=l;have hz:∀y∈(xs.drop lo).take len,Z y.cells=sz:=λy J=>Q y (Ff (Cw J));have i:Z ((xs.drop lo).take len)=len:=by simp;omega
 suffices hsuf:(∃news,Src P sz r x len news w/\∀(q:Nat) c,aM sz ((xs.drop lo).take len) q=X c->∃u,news[q]? =X u/\Rep M [] u c)/\
   ∀m,m<=len->∃news:bb,(Ci sz m x).run P w= .ok news.toArray w/\Z news=m*sz/\(∀u∈news,u.oneCell'=O)/\∀(q:Nat) c,q<m*sz->aM sz ((xs.drop lo).take len) q=X c->∃u,news[q]? =X u/\Rep M [] u c by
  exact⟨by rw[i];exact hsuf.1,hz,λm hm=>hsuf.2 m o_⟩
 by_cases H:len=0
 .subst H;obtain⟨a,f,rfl⟩:=z rfl;cases a with
  |none=>exact⟨⟨[],Src.ofNil w o f,λq c A=>by simp[aM]at A⟩,λm hm=>FB hm⟩
  |some a=>exact⟨⟨[],Src.ofSlice w o a 0 f [] s_ (λj u d=>by simp at d) (λu p=>by simp at p),λq c A=>by simp[aM]at A⟩,λm hm=>QX hm⟩
 .rcases dW s with⟨q,V⟩|⟨b,cap,q,At,_⟩
  .omega
  .obtain ⟨f,rfl⟩:=t b _ cap q H;have I:(lo+len)*sz<=Z cv:=by rw[s.1];exact Br _ hl
   have F:Z ((cv.drop (lo*sz)).take (len*sz))=len*sz:=by grind[Dr,Dq,Cg]
   have G:∀(j:Nat) u,((cv.drop (lo*sz)).take (len*sz))[j]? =X u->w.cell? ((⟨b,lo*sz,U⟩:Addr).add j)=X u:=λj u d=>by
    rw[List.getElem?_take]at d;split at d
    .rw [Dd]at d;rw[bI];exact fU s At d
    .cases d
   have C:∀u∈(cv.drop (lo*sz)).take (len*sz),u.oneCell'=true:=λu p=>N u (Ff (Cw p));have D:∀(j:Nat) c,aM sz ((xs.drop lo).take len) j=X c->∃u,((cv.drop (lo*sz)).take (len*sz))[j]? =X u/\Rep M [] u c:=λj c d=>by grind[hZ,oM,CL,Bj]
   exact⟨⟨_,Src.ofSlice w o _ _ _ _ F G C,D⟩,λm hm=>QY (by rw[F];exact Br _ hm) G C D⟩
theorem vG(l:ay):(⟨l.toArray⟩:ByteArray).size=Z l:=by rfl
def yS(c:UInt8):Rep M ob (.int .u8 c.toNat) (ub c):=.int _ _ ⟨by simp only[bV];omega,by simp only[aW];have:=c.toNat_lt;omega⟩
def ZD(l:ay):∀y∈l.map ub,Z y.cells=1:=λy a=>by obtain⟨c,_,rfl⟩:=Co.1 a;rfl
theorem BN(l:ay)(q:Nat):aM 1 (l.map ub) q=(l[q]?).map ub:=by unfold aM;rw[Nat.div_one,Nat.mod_one,Bw];cases l[q]?<;>rfl
def SrcA.ofStr{P:Program}{g:TypeId}(j:P.underlying g=X .string)(l:ay):SrcA P M w 1 g (.string ⟨l.toArray⟩) (l.map ub):=by
 have d:∀(q:Nat) c,aM 1 (l.map ub) q=X c->∃b,l[q]? =X b/\c=ub b:=λq c a=>by grind[BN,Cd]
 refine⟨⟨byteCells ⟨l.toArray⟩,?_,λq c a=>?_⟩,ZD l,λm hm=>⟨(l.take m).map λb=>Em .u8 b.toNat,?_,by grind,λu h=>by obtain⟨_,_,rfl⟩:=Co.1 h;rfl,λq c a i=>?_⟩⟩
 .grind [Src.ofString,vG]
 .rw [BN]at a;obtain⟨b,f,rfl⟩:=Cd.1 a;exact⟨.int .u8 b.toNat,by simp[byteCells,f],yS b⟩
 .have e:(Ci 1 m (.string ⟨l.toArray⟩)).run P w= .ok (((⟨l.toArray⟩:ByteArray).extract 0 m).data.map λb=>Em .u8 b.toNat) w:=rfl;rw[e];simp
 .obtain ⟨b,f,rfl⟩:=d q c i;rw[Nat.mul_one]at a;exact⟨.int .u8 b.toNat,by rw[Bw,Bj a,f];rfl,yS b⟩
def UI{P:Program}(h:Mem M ob ac w){t I ty e:TypeId}{i:TypeInfo}{z:Value}(C:P.underlying t=X (.slice e))(Q:P.info? e=X i)(hz:i.zero=X z)(hz1:z.cells.toList.all (·.oneCell')=O)
  (N:z.cells.size=i.size) (p:0<i.size) {xs ys:az} {v x:Value} (hv:Rep M ob v (.slice i.size xs .full)) (hs:SrcA P M w i.size I x ys)
  (G:Z xs+Z ys<=maxLen) (g:(Z xs+Z ys)*i.bytes<=140737488355328):
  ∃Be w',(Cr #[t,I] ty #[v,x]).run P w= .ok Be w'/\((ys=[]/\Be=v/\w'=w)\/(ys≠[]/\Grown M w w' i.size e Be (xs++ys))):=by
 obtain⟨r,⟨a,n,W⟩⟩:=hv.untok;obtain⟨⟨news,B,s2⟩,s3⟩:=hs;obtain⟨a',c,An,h0,h1,_⟩:=r.slice_inv;subst W;cases An;have At:((Z xs+Z ys:Nat):Int)<=9223372036854775807:=by simp only[maxLen]at G;omega
 by_cases H:ys=[]
 .subst H;refine⟨_,w,?_,.inl ⟨rfl,rfl,rfl⟩⟩;have Am:news=[]:=Bb (by simpa using B.newsLen);subst Am;have D:Src P i.size I x 0 [] w:=B;cases a with
  |none=>rcases D.kind with⟨e',F⟩|F<;>simp[Cr,run_underlying C,run_underlying F,sizeOf,typeInfo,Q,D.len,D.cells]
  |some a=>rcases D.kind with⟨e',F⟩|F<;>simp[Cr,run_underlying C,run_underlying F,sizeOf,typeInfo,Q,D.len,D.cells,storeCells]
 .have T:0<Z ys:=List.length_pos_iff.2 H
  have pre:(∀x∈xs,Z x.cells=i.size)/\∃d:bb,Z d=Z xs*i.size/\(Ci i.size (Z xs) (.slice a (Z xs) (Z xs))).run P w.drew= .ok d.toArray w.drew/\(∀u∈d,u.oneCell'=O)/\
    ∀(q:Nat) c,aM i.size xs q=X c->∃u,d[q]? =X u/\Rep M [] u c:=by
   have l:xs=[]->(∀x∈xs,Z x.cells=i.size)/\∃d:bb,Z d=Z xs*i.size/\(Ci i.size (Z xs) (.slice a (Z xs) (Z xs))).run P w.drew= .ok d.toArray w.drew/\(∀u∈d,u.oneCell'=O)/\
     ∀(q:Nat) c,aM i.size xs q=X c->∃u,d[q]? =X u/\Rep M [] u c:=by
    intro L;subst L;refine⟨λx L=>by simp at L,[],by simp,?_,λu f=>by simp at f,λq c hq=>by simp[aM]at hq⟩;cases a<;>simp[Ci,loadCells,loadCellsFrom]
   generalize A:Gt a (Z xs) (Z xs)=v at r;cases r with
   |slnil sz t C=>have q:=l rfl;rw[A]at q;exact q
   |slemp sz t a cap C=>have q:=l rfl;rw[A]at q;exact q
   |sl sz b o n cap xs t Am hc hm s hM C=>
    injection A with v1 v2 v3
    subst v1;obtain⟨d,J,R,K,Y⟩:=h.sliceCells p s hM;exact⟨s,d,J,run_firstCells_some w.drew i.size _ ⟨b,o,U⟩ _ _ d J (λj u hj=>by rw[bI];simpa using R j u hj),K,Y⟩
  obtain⟨s,d,J,R,K,Y⟩:=pre;have hr:=run_append_grow_src (P:=P) w t I ty e i z C Q hz a (Z xs) (Z xs) d R x (Z ys) news B o_ At (growslice_fits o_ g);have hge:=grownCap_ge w (Z xs+Z ys) (Z xs) e;have As:grownCap w (Z xs+Z ys) (Z xs) e<=maxLen:=grownCap_le_maxLen w (Z xs+Z ys) (Z xs) e G;have m:Z (d++news)=(Z xs+Z ys)*i.size:=by rw[Ah,J,B.newsLen,Cg]
  refine⟨_,_,hr,.inr ⟨H,⟨d++news,⟨by rw[m,Ah],.inr ⟨w.heap.size,_,_,by simp,Bn _,heap_alloc_new w.drew _,by simp;omega,As,?_,?_⟩⟩,λu f=>?_,λq c hq=>?_⟩,p,λy H=>?_,λb V=>?_,λb V=>heap_alloc_old w.drew _ V,rfl,rfl,rfl,by simp,?_⟩⟩
  .simp only[Array.size_append,Gg,size_zeroCells,N,m,<-Cg];congr 1;omega
  .grind [Ah,Mx,Hq]
  .rcases Bx.1 f with f|f
   .exact K u f
   .exact B.one u f
  .grind [cU,Ai,cO,Ar]
  .grind
  .simp only[Ge,Fa]at V;omega
  .have:∀k,(d++news).toArray++Cf z.cells k=((d++news)++(Cf z.cells k).toList).toArray:=λk=>by simp
   rw[this];refine rD (w:=w.drew) λu f=>?_;rcases Bx.1 f with f|f
   .rcases Bx.1 f with f|f
    .exact K u f
    .exact B.one u f
   .exact kL hz1 u f
def Grown.ofAlloc{sz:Nat}{e:TypeId}{xs:az}{cv:bb}(a:0<sz)(d:Z cv=Z xs*sz)(h1:∀u∈cv,u.oneCell'=O)(hz:∀x∈xs,Z x.cells=sz)(hm:Z xs<=maxLen)
  (g:∀(q:Nat) c,aM sz xs q=X c->∃u,cv[q]? =X u/\Rep M [] u c):Grown M w (w.alloc (.cells cv.toArray e)) sz e (.slice (X ⟨w.heap.size,0,U⟩) (Z xs) (Z xs)) xs:=by
 refine⟨⟨cv,⟨d,.inr ⟨w.heap.size,Z xs,cv.toArray,rfl,Bn _,heap_alloc_new w _,Bc _,hm,by omega,by grind⟩⟩,h1,g⟩,a,hz,λb f=>?_,λb f=>heap_alloc_old w _ f,rfl,rfl,rfl,by simp,rD h1⟩;simp only[Ge,Fa]at f;omega
def Mem.bornCells(h:Mem M ob ac w){k:Nat}(h1:ac[k]? =X .dead)(g:ob[k]? =X []){cv:bb}{cs:az}(T:TypeId)(hl:Z cv=Z cs)(c:∀v∈cv,v.oneCell'=O)
  (j:∀(i:Nat) v a,cv[i]? =X v->cs[i]? =X a->Rep M ob v a):
  Mem M (ob.set k [.pointer (X ⟨w.heap.size,0,U⟩)]) (ac.set k (.cells T cs)) (w.alloc (.cells cv.toArray T))/\Ext M ob ac w M (ob.set k [.pointer (X ⟨w.heap.size,0,U⟩)]) (ac.set k (.cells T cs)) (w.alloc (.cells cv.toArray T))/\
   cS ob ac (ob.set k [.pointer (X ⟨w.heap.size,0,U⟩)]) (ac.set k (.cells T cs))/\Rep M (ob.set k [.pointer (X ⟨w.heap.size,0,U⟩)]) (.pointer (X ⟨w.heap.size,0,U⟩)) (.ref k 0):=by
 have n:k<Z ob:=(Ad.1 g).1
 have:=h.turn (M':=M) (w':=w.alloc (.cells cv.toArray T)) (x':=.cells T cs) (hs':=[.pointer (X ⟨w.heap.size,0,U⟩)]) h1 g ⟨_,rfl⟩ (λ_=>rfl) (λ_ _ _ h=>h) (λ_ _ _ h=>.inl h) (λb o y l=>by
   obtain⟨u,f,r,m⟩:=h.imm b o y l
   exact⟨u,(Cs (w:=w) (a:=⟨b,o,U⟩) (heap_alloc_old w _ (Ct w _ f))).trans f,r,m⟩)
  (λb d _=>heap_alloc_old w _ d) rfl rfl rfl s_ (λe=>⟨_,rfl,λo=>h.noImm (Bc _) o,cv,heap_alloc_new w _,hl,c,λi v a p q=>(j i v a p q).mono (λ_ _ _ h=>h) e⟩)
  (λ_ b d=>by
   have:w.heap.size=b:=eM.1 d
   simp;omega)
 refine⟨this.1,this.2.1,this.2.2,.ref k 0 _ ?_⟩;rw[cG (Ay n)];rfl
def Mem.bornMap(h:Mem M ob ac w){k:Nat}(h1:ac[k]? =X .dead)(g:ob[k]? =X [])(d:Bool):
  Mem M (ob.set k [.map (X w.heap.size)]) (ac.set k (.mp d [])) (w.alloc (.map #[] 0))/\Ext M ob ac w M (ob.set k [.map (X w.heap.size)]) (ac.set k (.mp d [])) (w.alloc (.map #[] 0))/\
   cS ob ac (ob.set k [.map (X w.heap.size)]) (ac.set k (.mp d []))/\Rep M (ob.set k [.map (X w.heap.size)]) (.map (X w.heap.size)) (.mref k):=by
 have n:k<Z ob:=(Ad.1 g).1
 have:=h.turn (M':=M) (w':=w.alloc (.map #[] 0)) (x':=.mp d []) (hs':=[.map (X w.heap.size)]) h1 g ⟨_,rfl⟩ (λ_=>rfl) (λ_ _ _ h=>h) (λ_ _ _ h=>.inl h) (λb o y l=>by
   obtain⟨u,f,q,m⟩:=h.imm b o y l
   exact⟨u,(Cs (w:=w) (a:=⟨b,o,U⟩) (heap_alloc_old w _ (Ct w _ f))).trans f,q,m⟩)
  (λb e _=>heap_alloc_old w _ e) rfl rfl rfl s_ (λp=>⟨_,rfl,λo=>h.noImm (Bc _) o,[],0,heap_alloc_new w _,rfl,λi x y c=>by simp at c,λi x c=>by simp at c,λi j x y c=>by simp at c⟩)
  (λ_ b e=>by
   have:w.heap.size=b:=eM.1 e
   simp_all)
 refine⟨this.1,this.2.1,this.2.2,.mref k _ ?_⟩;rw[cG (Ay n)];rfl
def Mem.cellsTurn(h:Mem M ob ac w){k:Nat}{T:TypeId}{cs cs':az}(q:ac[k]? =X (.cells T cs)){b:Nat}(s:at' ob k 0=X (.pointer (X ⟨b,0,U⟩))){cv':bb}(hl:Z cv'=Z cs')(h1:∀u∈cv',u.oneCell'=O)
  (t:∀(i:Nat) v a,cv'[i]? =X v->cs'[i]? =X a->Rep M ob v a):
  Mem M ob (ac.set k (.cells T cs')) (w.setRow b cv'.toArray)/\Ext M ob ac w M ob (ac.set k (.cells T cs')) (w.setRow b cv'.toArray)/\cS ob ac ob (ac.set k (.cells T cs')):=by
 obtain⟨hs,m,c,j,f,cv,r,_⟩:=h.obj k _ q;have:c=b:=by rw[cG m,j]at s;simpa using s
 subst this;have g:=gF (l:=ob) m
 have:=h.turn (M':=M) (w':=w.setRow c cv'.toArray) (x':=.cells T cs') (hs':=hs) q m (Cp _) (λe=>by cases e) (λ_ _ _ h=>h) (λ_ _ _ h=>.inl h) (λb o y p=>by
   obtain⟨u,D,F,C⟩:=h.imm b o y p;have x:b≠c:=λe=>by subst e;exact f o y p
   grind[Cs,setRow_other])
  (λb _ z=>setRow_other w c b _ λe=>z ⟨rfl,by subst e;rw[j];exact eM.2 rfl⟩) rfl rfl rfl s_ (λn=>⟨c,j,f,cv',setRow_heap w c _ _ T _ r,hl,h1,λi v a A B=>(t i v a A B).mono (λ_ _ _ h=>h) n⟩)
  (λ_ b d=>⟨.inl ⟨rfl,d⟩,by
   have:c=b:=by rw[j]at d;exact eM.1 d
   subst this;have:=gD r
   simp;omega⟩)
 rw[g]at this;exact this
end
section
variable {M:Imm} {ob:Hs} {ac:aw} {w:World}
def cI{M':Imm}{ob':Hs}{f:aa->aa}(b:∀v a,Rep M ob v a->Rep M' ob' v (f a)){as:az}{vs:bb}(hl:Z vs=Z as)(h:∀(i:Nat) v a,vs[i]? =X v->as[i]? =X a->Rep M ob v a):
  Z vs=Z (eF f as)/\∀(i:Nat) v a,vs[i]? =X v->(eF f as)[i]? =X a->Rep M' ob' v a:=by
 grind[zA,Cd]
def AG{k g:Nat}{v:Value}{hs:bb}(h1:ob[k]? =X hs)(a:at' ob k g=X v):hs[g]? =X v:=by rw[<-cG h1];exact a
def aOu{b o n sz:Nat}{xs:az}(g:Z xs=n)(hm:(n:Int)<=9223372036854775807)(hz:∀x∈xs,Z x.cells=sz)(h:∀(i j:Nat) x c,xs[i]? =X x->x.cells[j]? =X c->M b (o+i*sz+j) c)
  {lo len a:Nat} (hl:lo+len<=n) (f:len<=a) {t:Tk} (e:wI ob (.slice (X ⟨b,o+lo*sz,U⟩) len a) t):Rep M ob (.slice (X ⟨b,o+lo*sz,U⟩) len a) (.slice sz ((xs.drop lo).take len) t):=by
 refine .sl sz b _ len a _ t q_ f o_ (λx d=>hz x (Ff (Cw d))) (λi j x c d k=>?_) e
 grind[Nat.add_assoc]
def Mem.pureV(h:Mem M ob ac w):∀(n:Nat) (v:Value) (a:aa),Rep M ob v a->Rep M [] v (ai (aC ac) n a):=by
 intro n;induction n with
 |zero=>intro v a _;exact .undef v
 |succ n y=>
  intro v a d;cases d with
  |undef v=>exact .undef v
  |bool b=>exact .bool b
  |int k n d=>exact .int k n d
  |str l hl=>exact .str l hl
  |agg vs as hl d=>
   obtain⟨h1,e⟩:=cI (y) hl d;exact .agg vs _ h1 e
  |tup vs as hl d=>
   obtain⟨h1,e⟩:=cI (y) hl d;exact .tup vs _ h1 e
  |ptr b o cs d=>exact .ptr b o cs d
  |ref k off b f=>
   simp only[AW.ai];split
   .rename_i cs p;obtain⟨hs,h1,G,e,h3⟩:=h.obj k _ (bK p s_);have:=AG h1 f;rw[e]at this;simp at this;subst this;exact .ptr _ _ _ λj c m=>by rw[nQ,Dd]at m;simp_all
   .exact .undef _
  |eref k g i sz off b n c f=>exact .undef _
  |rowc k g c a n h hm=>exact .undef _
  |pre k g n c sz b len h m A hl hm=>exact .undef _
  |csl k off len sz b f hm=>
   simp only[AW.ai];split
   .rename_i cs p;cases z:Au sz 1 with
    |false=>exact .undef _
    |true=>
     simp only[cond_true];split
     .rename_i l hl;cases T:rC l with
      |false=>exact .undef _
      |true=>
       simp only[cond_true];obtain⟨hs,h1,G,e,h3⟩:=h.obj k _ (bK p s_);have:=AG h1 f;rw[e]at this;simp at this;subst this;obtain⟨R,V⟩:=kH hl;refine .sl 1 _ off len len l .full R (Bc _) hm (λx K=>?_) (λi j x c K m=>?_) ⟨_,_,rfl⟩
       .grind [Cu,pX,mY]
       grind[pX,mY,nQ]
     .exact .undef _
   .exact .undef _
  |row k g a n c f=>
   simp only[AW.ai];split
   .rename_i u sz xs p;cases z:Au g u with
    |false=>exact .undef _
    |true=>
     have:=aE z;subst this;simp only[cond_true];obtain⟨hs,h1,P,e,h3⟩:=h.obj k _ (bK p s_);have:=AG h1 f
     grind
   .exact .undef _
  |sub k g lo len sz b n c f hl A m hm=>
   simp only[AW.ai];split
   .rename_i u s xs p;cases z:(Au g u&&Au sz s)with
    |false=>exact .undef _
    |true=>
     obtain⟨r,B⟩:=aZ z;have:=aE r;have:=aE B
     subst_vars
     simp only[cond_true];obtain⟨hs,h1,P,e,h3⟩:=h.obj k _ (bK p s_);have:=AG h1 f;rw[e]at this;cases this;rcases h3.sl_inv with⟨q,_⟩|⟨a,cap,q,B⟩|⟨G,W,F,q,L,I,hz,Q⟩
     .cases q
     .grind
     .injection q with r B q3
      injection r with r
      injection r with r q4 _
      subst r q4;have:=aOu (ob:=[]) (t:=.no) B.symm hm hz Q A (show len<=c-lo by omega) trivial;rw[Bv]at this;exact this
   .exact .undef _
  |sub0 k g lo sz _ a n c f hl m=>
   simp only[AW.ai];split
   .rename_i u s xs p;cases z:(Au g u&&Au sz s)with
    |false=>exact .undef _
    |true=>
     simp only[cond_true,List.take_zero];cases a with
     |none=>exact .slnil _ _ trivial
     |some a=>exact .slemp _ _ _ _ trivial
   .exact .undef _
  |mref k b f=>exact .undef _
  |nilptr=>exact .nilptr
  |nilslice=>exact .nilslice
  |nilmap=>exact .nilmap
  |nilfunc=>exact .nilfunc
  |nilif=>exact .nilif
  |hsl a n c=>exact .hsl a n c
  |slnil sz t H=>exact .slnil sz .no trivial
  |slemp sz t a cap H=>exact .slemp sz .no a cap trivial
  |sl sz b o n cap xs t A m hm hz d H=>exact .sl sz b o n cap xs .no A m hm hz d trivial
  |func fn J cs Be At N m C D=>
   obtain⟨h1,e⟩:=cI (y) N C;obtain⟨h3,As⟩:=cI (y) m D;exact .func fn J cs _ _ h1 h3 e As
  |iface t v a d=>exact .iface t v _ (y v a d)
theorem aQ{k:Nat}{x y:ab}(h:ac[k]? =X x):bQ ac k y=ac.set k y:=gJ y (Ad.1 h).1
def qN(M:Imm)(ob:Hs)(ac:aw)(w:World)(ap:aw):Prop:=∃M',Mem M' ob ap w/\Ext M ob ac w M' ob ap w/\(∀k:Nat,ac[k]? =X .dead->ap[k]? =X .dead)/\Z ap=Z ac
def qN.refl(h:Mem M ob ac w):qN M ob ac w ac:=⟨M,h,Ext.refl _ _ _ _,λ_ h=>h,rfl⟩
def qN.trans{a b:aw}(h:qN M ob ac w a)(k:∀M',Mem M' ob a w->qN M' ob a w b):qN M ob ac w b:=by obtain⟨n,h1,e,h3,m⟩:=h;obtain⟨d,g,l,j,c⟩:=k n h1;exact⟨d,g,e.trans l,λi f=>j i (h3 i f),c.trans m⟩
def Mem.frzR(h:Mem M ob ac w)(k g:Nat):qN M ob ac w (AW.frzR ac k g):=by
 unfold AW.frzR;split
 .rename_i p sz e xs r;cases C:Au g p with
  |false=>exact .refl h
  |true=>
   have:=aE C;subst this;simp only[cond_true];have j:=bK r s_;rw[aQ j];obtain⟨hs,v,n,G,z,D,⟨cv,m,t,x,A,F⟩,d⟩:=h.rowOf j
   have a:=h.turn (M':=iN M v sz xs) (w':=w) (x':=.frow g sz xs) (hs':=hs) j n (Cp _) (λe=>by cases e) (λ_ _ _ h=>.inl h) (λb o y c=>by
     rcases c with c|⟨l,_⟩
     .grind
     .exact .inr (.inl ⟨rfl,oO d l⟩)) (λb o y c=>by
     rcases c with c|⟨l,c⟩
     .obtain ⟨u,f,h1,B⟩:=h.imm b o y c;exact⟨u,f,h1,B.monoM λ_ _ _ h=>.inl h⟩
     .obtain ⟨u,f,q⟩:=A o y c
      exact⟨u,fU m l f,t u (Ax f),q.monoM λ_ _ _ h=>.inl h⟩) (λ_ _ _=>rfl) rfl rfl rfl (Bc _)
    (λ_=>⟨v,z,kY m x trivial⟩) (λe=>by cases e)
   rw[gF n]at a;exact⟨_,a.1,a.2.1,λi s=>by rw[Bf (λe=>by grind)];exact s,by simp⟩
 .exact .refl h
def Mem.frz1(h:Mem M ob ac w)(k:Nat):qN M ob ac w (AW.frz1 ac k):=by
 unfold AW.frz1;split
 .rename_i cs x;have l:=bK x s_;rw[aQ l];obtain⟨hs,q,m,n,t,cv,C,r,s,D⟩:=h.obj k _ l;have p:Z cv=Z (eF (AW.ai (aC ac) 4) cs)/\∀(i:Nat) v a,cv[i]? =X v->(eF (AW.ai (aC ac) 4) cs)[i]? =X a->Rep M [] v a:=cI (h.pureV 4) r D
  let M':Imm:=λb o y=>M b o y\/(b=m/\(eF (AW.ai (aC ac) 4) cs)[o]? =X y)
  have d:=h.turn (M':=M') (w':=w) (x':=.fcells (eF (AW.ai (aC ac) 4) cs)) (hs':=hs) l q (Cp _) (λe=>by cases e) (λ_ _ _ h=>.inl h) (λb o y f=>by
    rcases f with f|⟨rfl,_⟩
    .exact .inl f
    .exact .inr (.inl ⟨rfl,by rw[n];exact eM.2 rfl⟩)) (λb o y f=>by
    rcases f with f|⟨rfl,f⟩
    .obtain ⟨u,A,h1,F⟩:=h.imm b o y f;exact⟨u,A,h1,F.monoM λ_ _ _ h=>.inl h⟩
    .have g:o<Z cv:=by rw[p.1];exact(Ad.1 f).1
     exact⟨cv[o],by rw[cell_of_row w b _ _ _ (0,0) C];simp[g],s _ (Av g),(p.2 o _ y (Ab g) f).monoM λ_ _ _ h=>.inl h⟩) (λ_ _ _=>rfl) rfl rfl rfl (Bc _)
   (λ_=>⟨m,n,λj c B=>.inr ⟨rfl,B⟩⟩) (λe=>by cases e)
  rw[gF q]at d;exact⟨_,d.1,d.2.1,λi z=>by rw[Bf (λe=>by simp_all)];exact z,by simp⟩
 .exact .refl h
def Mem.foldO{f:aw->aa->aw}(b:∀(M:Imm) (ac:aw) (a:aa),Mem M ob ac w->qN M ob ac w (f ac a)):∀(l:az) (M:Imm) (ac:aw),Mem M ob ac w->qN M ob ac w (foldO f ac l)
 |[],_,_,h=>.refl h
 |c::r,M,ac,h=>(b M ac c h).trans λM' d=>Mem.foldO b r M' _ d
def Mem.frzV:∀(n:Nat) (M:Imm) (ac:aw) (a:aa),Mem M ob ac w->qN M ob ac w (frzV n ac a):=by
 intro n;induction n with
 |zero=>intro M ac a h;exact .refl h
 |succ n d=>
  intro M ac a h;cases a
  case agg cs=>exact Mem.foldO d _ _ _ h
  case tup cs=>exact Mem.foldO d _ _ _ h
  case func fn fs cs=>exact(Mem.foldO d _ _ _ h).trans λM' e=>Mem.foldO d _ _ _ e
  case iface t v=>exact d _ _ _ h
  case ref k off=>
   simp only[AW.frzV];split
   .exact (Mem.foldO d _ _ _ h).trans λM' e=>e.frz1 k
   .exact .refl h
  case csl k a b c=>
   simp only[AW.frzV];split
   .exact (Mem.foldO d _ _ _ h).trans λM' e=>e.frz1 k
   .exact .refl h
  case row k g=>exact h.frzR k g
  case sub k g a b c=>exact h.frzR k g
  all_goals exact .refl h
def Mem.frzL(l:az)(h:Mem M ob ac w):qN M ob ac w (frzL ac l):=Mem.foldO (Mem.frzV 6) l M ac h
def Mem.frzs:∀(l:a6) (M:Imm) (ac:aw),Mem M ob ac w->qN M ob ac w (ak l ac)
 |[],_,_,h=>.refl h
 |k::r,M,ac,h=>by
  unfold AW.ak;split
  .exact (h.frzR _ _).trans λM' a=>Mem.frzs r M' _ a
  .exact (Mem.frzV 6 M ac _ h).trans λM' a=>Mem.frzs r M' _ a
  .exact Mem.frzs r M _ h
end
def QZ{k:Nat}:∀{ks:a6} {j i:Nat},pos k j ks=X i->j<=i/\ks[i-j]? =X k
 |[],j,i,h=>by cases h
 |x::r,j,i,h=>by
  simp only[pos]at h;cases a:Au x k with
  |true=>
   simp_all
  |false=>
   rw[a]at h;obtain⟨h1,b⟩:=QZ (ks:=r) h
   grind
def aAd{k i:Nat}{ks:a6}(h:pos k 0 ks=X i):ks[i]? =X k:=by simpa using(QZ h).2
def nD{ac:aw}:∀{ks:a6},jS ks ac=O->(∀(j k:Nat),ks[j]? =X k->(aC ac k).owns=O)/\ks.Nodup
 |[],_=>⟨λj k h=>by simp at h,List.nodup_nil⟩
 |x::r,h=>by
  simp only[jS,Af,Bool.not_eq_true']at h;obtain⟨⟨h1,a⟩,h3⟩:=h;obtain⟨b,c⟩:=nD h3;refine⟨λj k d=>?_,Ce.2 ⟨λhm=>?_,c⟩⟩
  .cases j with
   |zero=>grind
   |succ j=>exact b j k (by simp_all)
  .rw [nA.2 hm]at a;cases a
theorem JO{l:a6}(h:l.Nodup):∀{i j b:Nat},l[i]? =X b->l[j]? =X b->i=j:=by
 induction l with
 |nil=>simp
 |cons x r a=>
  grind[Ce,Ax]
def fG{ac:aw}{k:Nat}(h:(aC ac k).owns=O):ac[k]? =X (aC ac k):=by refine bK rfl λe=>?_;rw[e]at h;cases h
def jL(n0 j:Nat)(o:ab)(hs:bb):bb:=
 if 0<iE o then(if j<n0 then hs.take 1 else[])++hs.drop (iE o)else hs
def fJ(n0:Nat)(ob:Hs)(ac:aw):Nat->a6->Hs
 |_,[]=>[]
 |j,k::r=>jL n0 j (aC ac k) (ob.getD k [])::fJ n0 ob ac (j+1) r
def iK{n0:Nat}{ob:Hs}{ac:aw}:∀{ks:a6} {j i:Nat},(fJ n0 ob ac j ks)[i]? =(ks[i]?).map λk=>jL n0 (j+i) (aC ac k) (ob.getD k [])
 |[],j,i=>by simp[fJ]
 |k::r,j,i=>by
  cases i with
  |zero=>simp[fJ]
  |succ i=>simp only[fJ,Gf,iK (ks:=r)];grind
def qK{n0:Nat}{ob:Hs}{ac:aw}:∀{ks:a6} {j:Nat},Z (fJ n0 ob ac j ks)=Z ks
 |[],j=>rfl
 |k::r,j=>by simp[fJ,qK (ks:=r)]
def PH{n0:Nat}{a:a6}{ac:aw}:∀{ks:a6} {j i:Nat},(sW n0 a ac j ks)[i]? =(ks[i]?).map λk=>IE n0 a ac (j+i) (aC ac k)
 |[],j,i=>by simp[sW]
 |k::r,j,i=>by
  cases i with
  |zero=>simp[sW]
  |succ i=>simp only[sW,Gf,PH (ks:=r)];grind
def pE{n0:Nat}{a:a6}{ac:aw}:∀{ks:a6} {j:Nat},Z (sW n0 a ac j ks)=Z ks
 |[],j=>rfl
 |k::r,j=>by simp[sW,pE (ks:=r)]
def aAQ{n0 j c g d:Nat}(h:gm n0 j c g=X d):(g=c/\d=(if j<n0 then(if c=0 then 0 else 1)else 0))\/(g≠c/\j<n0/\g=0/\d=0):=by
 unfold gm at h;have i:∀a b:Nat,Au a b=decide (a=b):=λa b=>by
  by_cases e:a=b
  .simp_all
  .rw [HH e];simp[e]
 have hl:∀a b:Nat,Fl a b=decide (a<b):=λa b=>by
  by_cases e:a<b
  .simp_all
  .have:Fl a b=false:=by
    cases f:Fl a b with
    |false=>rfl
    |true=>simp_all;omega
   grind
 grind
def oH(n0 j g:Nat):gm n0 j g g=X (if j<n0 then(if g=0 then 0 else 1)else 0):=by
 unfold gm;simp only[Nat.beq_eq_true_eq,Nat.beq_refl,cond_true,Fa];by_cases a:j<n0
 .simp_all
 .have:Fl j n0=false:=by
   cases b:Fl j n0 with
   |false=>rfl
   |true=>simp_all;omega
  grind
section
variable {M:Imm} {ob:Hs} {ac:aw} {w:World}
def Mem.histLen(h:Mem M ob ac w){k:Nat}{hs:bb}(d:(aC ac k).owns=O)(f:ob[k]? =X hs):Z hs=iE (aC ac k)+1:=by
 obtain⟨hs',e,a⟩:=h.obj k _ (fG d);rw[f]at e;cases e;cases c:aC ac k with
 |dead=>rw[c]at d;cases d
 |fcells cs=>rw[c]at d;cases d
 |frow g sz xs=>rw[c]at d;cases d
 |cells T cs=>rw[c]at a;obtain⟨b,rfl,_⟩:=a;rfl
 |row g sz e xs=>rw[c]at a;exact a.1
 |tail g sz e=>rw[c]at a;exact a.1
 |mp i es=>rw[c]at a;obtain⟨b,rfl,_⟩:=a;rfl
 |bun g I=>rw[c]at a;exact a.1
def AB{n0 j g a:Nat}{o:ab}{hs:bb}(hl:Z hs=iE o+1)(b:gm n0 j (iE o) g=X a):(jL n0 j o hs)[a]? =hs[g]?:=by
 unfold jL;rcases aAQ b with⟨rfl,rfl⟩|⟨h1,c,rfl,rfl⟩
 .grind
 .have d:0<iE o:=o_;simp_all
theorem BI{n0 j:Nat}{o:ab}{hs:bb}(hl:Z hs=iE o+1):(jL n0 j o hs).getLast? =hs.getLast?:=by
 unfold jL
 grind
def uH{n0 j:Nat}{o:ab}{hs:bb}(hl:Z hs=iE o+1):Z (jL n0 j o hs)=(if j<n0 then(if iE o=0 then 0 else 1)else 0)+1:=by
 unfold jL
 grind
def Mem.cutAt(h:Mem M ob ac w){n0:Nat}{ks:a6}(i:jS ks ac=O){k j g d:Nat}{v:Value}(hp:pos k 0 ks=X j)(l:gm n0 j (iE (aC ac k)) g=X d)(m:at' ob k g=X v):
  at' (fJ n0 ob ac 0 ks) j d=X v:=by
 have c:=aAd hp;have f:=(nD i).1 j k c;have a:k<Z ob:=by rw[h.len];exact(Ad.1 (fG f)).1
 have b:ob[k]? =X ob[k]:=Ab a;have hl:=h.histLen f b;have e:(fJ n0 ob ac 0 ks)[j]? =X (jL n0 j (aC ac k) ob[k]):=by rw[iK,c];simp[b]
 rw[cG e,AB hl l];exact AG b m
def Mem.cvtV(h:Mem M ob ac w){n0:Nat}{ks:a6}(r:jS ks ac=O):∀(n:Nat) (v:Value) (a:aa),Rep M ob v a->Rep M (fJ n0 ob ac 0 ks) v (cvtV n0 ks (aC ac) n a):=by
 intro n;induction n with
 |zero=>intro v a _;exact .undef v
 |succ n y=>
  intro v a m;have B:∀{n0 j c x:Nat},gm n0 j c 0=X x->x=0:=λ{n0 j c x} d=>by
   rcases aAQ d with⟨e,rfl⟩|⟨_,_,_,rfl⟩
   .grind
   .rfl
  have tok:∀{v:Value} {sz:Nat} {xs:az} {t:Tk},Rep M ob v (.slice sz xs t)->Rep M (fJ n0 ob ac 0 ks) v (AW.cvtV n0 ks (aC ac) (n+1) (.slice sz xs t)):=by
   intro v sz xs t m;obtain⟨I,C⟩:=m.untok;have p:Rep M (fJ n0 ob ac 0 ks) v (.slice sz xs .no):=I.slice_pure.pure;cases t with
   |no=>exact p
   |nil=>
    cases ks with
    |nil=>exact p
    |cons k ks=>exact p.tok C
   |full=>exact p.tok C
   |own k g=>
    simp only[AW.cvtV];split
    .rename_i j hp;split
     .rename_i s d;exact p.tok (show at' _ _ _=_ from h.cutAt r hp d C)
     .exact p
    .exact p
  cases m with
  |undef v=>exact .undef v
  |bool b=>exact .bool b
  |int k n m=>exact .int k n m
  |str l hl=>exact .str l hl
  |agg vs as hl m=>
   obtain⟨h1,z⟩:=cI (y) hl m;exact .agg vs _ h1 z
  |tup vs as hl m=>
   obtain⟨h1,z⟩:=cI (y) hl m;exact .tup vs _ h1 z
  |ptr b o cs m=>exact .ptr b o cs m
  |ref k off b f=>
   simp only[AW.cvtV];split
   .rename_i j hp;split
    .rename_i x d;have:=B d;subst this;exact .ref j off b (h.cutAt r hp d f)
    .exact .undef _
   .exact (h.pureV 1 _ _ (.ref k off b f)).pure
  |eref k g i sz off b n c f=>exact .undef _
  |rowc k g c a n h hm=>exact .undef _
  |pre k g n c sz b len h q u hl hm=>exact .undef _
  |csl k off len sz b f hm=>
   simp only[AW.cvtV];split
   .rename_i j hp;split
    .rename_i x d;have:=B d;subst this;exact .csl j off len sz b (h.cutAt r hp d f) hm
    .exact .undef _
   .exact (h.pureV 1 _ _ (.csl k off len sz b f hm)).pure
  |row k g a n c f=>
   simp only[AW.cvtV];split
   .rename_i j hp;split
    .rename_i s d;exact .row j s a n c (h.cutAt r hp d f)
    .exact .undef _
   .exact (h.pureV 1 _ _ (.row k g a n c f)).pure
  |sub k g lo len sz b n c f hl u q hm=>
   simp only[AW.cvtV];split
   .rename_i j hp;split
    .rename_i s d;exact .sub j s lo len sz b n c (h.cutAt r hp d f) hl u q hm
    .exact .undef _
   .exact (h.pureV 1 _ _ (.sub k g lo len sz b n c f hl u q hm)).pure
  |sub0 k g lo sz a G n c f hl q=>
   simp only[AW.cvtV];split
   .rename_i j hp;split
    .rename_i s d;exact .sub0 j s lo sz a G n c (h.cutAt r hp d f) hl q
    .exact .undef _
   .exact (h.pureV 1 _ _ (.sub0 k g lo sz a G n c f hl q)).pure
  |mref k b f=>
   simp only[AW.cvtV];split
   .rename_i j hp;split
    .rename_i x d;have:=B d;subst this;exact .mref j b (h.cutAt r hp d f)
    .exact .undef _
   .exact .undef _
  |nilptr=>exact .nilptr
  |nilslice=>exact .nilslice
  |nilmap=>exact .nilmap
  |nilfunc=>exact .nilfunc
  |nilif=>exact .nilif
  |hsl a n c=>exact .hsl a n c
  |slnil sz t A=>exact tok (.slnil sz t A)
  |slemp sz t a cap A=>exact tok (.slemp sz t a cap A)
  |sl sz b o n cap xs t u q hm hz m A=>exact tok (.sl sz b o n cap xs t u q hm hz m A)
  |func fn H cs N L J q D F=>
   obtain⟨h1,z⟩:=cI (y) J D;obtain⟨h3,K⟩:=cI (y) q F;exact .func fn H cs _ _ h1 h3 z K
  |iface t v a m=>exact .iface t v _ (y v a m)
def Mem.cvt(h:Mem M ob ac w){n0:Nat}{ks:a6}(J:jS ks ac=O):
  Mem M (fJ n0 ob ac 0 ks) (gT n0 ks ac) w/\(∀j b,aK (fJ n0 ob ac 0 ks) (gT n0 ks ac) j b->∃k,ks[j]? =X k/\aK ob ac k b)/\
   (∀j k b,ks[j]? =X k->aK ob ac k b->aK (fJ n0 ob ac 0 ks) (gT n0 ks ac) j b):=by
 obtain⟨x,Q⟩:=nD J;have hist:∀{j k:Nat},ks[j]? =X k->∃hs,ob[k]? =X hs/\Z hs=iE (aC ac k)+1/\(fJ n0 ob ac 0 ks)[j]? =X (jL n0 j (aC ac k) hs)/\(gT n0 ks ac)[j]? =X (IE n0 ks ac j (aC ac k))/\iM M ob w hs (aC ac k):=by
  intro j k a;have K:=x j k a;obtain⟨hs,C,F⟩:=h.obj k _ (fG K);refine⟨hs,C,h.histLen K C,?_,?_,F⟩
  .rw [iK,a];simp[C]
  .unfold gT;rw[PH,a];simp
 have l:∀j o,(IE n0 ks ac j o).owns=o.owns:=λj o=>by cases o<;>rfl
 have n:∀j b,aK (fJ n0 ob ac 0 ks) (gT n0 ks ac) j b->∃k,ks[j]? =X k/\aK ob ac k b:=by
  rintro j b ⟨c,hs,G,R,L,H⟩;have a:∃k,ks[j]? =X k:=by
   have:j<Z ks:=by have:=(Ad.1 G).1;unfold gT at this;rwa [pE]at this
   exact⟨_,Ab this⟩
  obtain⟨k,a⟩:=a;obtain⟨hs',z,t,y,u,_⟩:=hist a;rw[u]at G;rw[y]at L;cases G;cases L;refine⟨k,a,(cW (fG (x j k a)) z).2 ⟨by rw[<-l j];exact R,?_⟩⟩;unfold blk at H⊢;rwa [BI t]at H
 have B:∀j k b,ks[j]? =X k->aK ob ac k b->aK (fJ n0 ob ac 0 ks) (gT n0 ks ac) j b:=by intro j k b a p;obtain⟨hs',z,t,y,u,_⟩:=hist a;have:=(cW (fG (x j k a)) z).1 p;refine(cW u y).2 ⟨by rw[l];exact this.1,?_⟩;unfold blk;rw[BI t];exact this.2
 refine⟨⟨h.imm,by unfold gT;rw[qK,pE],λj c f=>?_,λj b p=>?_,λi j b p D=>?_⟩,n,B⟩
 .have a:∃k,ks[j]? =X k:=by
   have:j<Z ks:=by have:=(Ad.1 f).1;unfold gT at this;rwa [pE]at this
   exact⟨_,Ab this⟩
  obtain⟨k,a⟩:=a;obtain⟨hs,z,t,y,u,m⟩:=hist a;rw[u]at f;cases f;refine⟨_,y,?_⟩;have hl:=uH (n0:=n0) (j:=j) t;have q:=oH n0 j (iE (aC ac k));have d:=AB t q;cases f:aC ac k with
  |dead=>exact trivial
  |fcells cs=>have:=x j k a;rw[f]at this;cases this
  |frow g sz xs=>have:=x j k a;rw[f]at this;cases this
  |cells T cs=>
   rw[f]at m;obtain⟨b,rfl,A,cv,s,r,At,As⟩:=m;obtain⟨N,Be⟩:=cI (h.cvtV (n0:=n0) J 4) r As;exact⟨b,rfl,A,cv,s,N,At,Be⟩
  |row g sz e xs=>
   rw[f]at m hl d;obtain⟨A,v,s,r⟩:=m;simp only[IE,oH];exact⟨hl,v,d.trans s,r⟩
  |tail g sz e=>
   rw[f]at m hl d;obtain⟨A,v,s,r⟩:=m;simp only[IE,oH];exact⟨hl,v,d.trans s,r⟩
  |mp W es=>
   rw[f]at m;exact m
  |bun g I=>
   rw[f]at m hl d;obtain⟨A,v,s,r⟩:=m;simp only[IE,oH];exact⟨hl,v,d.trans s,r⟩
 .obtain ⟨k,_,p⟩:=n j b p;exact h.lt k b p
 .obtain ⟨k,P,p⟩:=n i b p;obtain⟨V,a,D⟩:=n j b D;have:=h.inj k V b p D;subst this;exact JO Q P a
end
def aGh(ks:a6):fI.olenN ks=Z ks:=by
 induction ks with
 |nil=>rfl
 |cons k r a=>simp[fI.olenN,a]
theorem jK{ks:a6}{base j k:Nat}(h:ks[j]? =X k):fI ks base j=k:=by simp[fI,oU,h]
theorem mH{ks:a6}{base j:Nat}(h:Z ks<=j):fI ks base j=base+(j-Z ks):=by simp[fI,oU,Bk h,aGh]
theorem aHU{ks:a6}{base:Nat}(d:ks.Nodup)(f:∀(j k:Nat),ks[j]? =X k->k<base){i j:Nat}(h:fI ks base i=fI ks base j):i=j:=by
 by_cases a:i<Z ks<;>by_cases b:j<Z ks
 .have c:=Ab a
  grind[Ab,jK,JO]
 .have c:=Ab a
  grind[jK,mH]
 .have e:=Ab b
  grind[jK,mH]
 grind[mH]
def aDj{ks:a6}{base:Nat}{ac:aw}(v:ks.Nodup)(y:∀(j k:Nat),ks[j]? =X k->k<base):∀(l:aw) (j:Nat) (a:aw),Z a=base+(j-Z ks)->
  Z (iD ks base ac j l a)=base+(j+Z l-Z ks)/\(∀(t:Nat) o,l[t]? =X o->(iD ks base ac j l a)[fI ks base (j+t)]? =X (uD ks base ac (j+t) o))/\
   ∀i,(∀t,t<Z l->fI ks base (j+t)≠i)->i<Z a->(iD ks base ac j l a)[i]? =a[i]?:=by
 intro l;induction l with
 |nil=>intro j a hl;exact⟨by simpa[iD]using hl,λt o h=>by simp at h,λi _ _=>rfl⟩
 |cons o r n=>
  intro j a hl;simp only[iD]
  have c:Z (bQ a (fI ks base j) (uD ks base ac j o))=base+(j+1-Z ks)/\(bQ a (fI ks base j) (uD ks base ac j o))[fI ks base j]? =X (uD ks base ac j o)/\
    ∀i,fI ks base j≠i->i<Z a->(bQ a (fI ks base j) (uD ks base ac j o))[i]? =a[i]?:=by
   by_cases g:j<Z ks
   .have w:=Ab g
    grind[jK,gJ,Ay,Bf]
   grind[mH,Q9,Ai]
  obtain⟨s,u,q⟩:=c;obtain⟨e,x,f⟩:=n (j+1) _ s;have m:fI ks base j<Z (bQ a (fI ks base j) (uD ks base ac j o)):=(Ad.1 u).1;refine⟨by rw[e];simp;omega,λt z p=>?_,λi d b=>?_⟩
  .cases t with
   |zero=>
    grind[aHU]
   |succ t=>
    grind
  .rw [f i (λt p=>?_) (by grind),q i (d 0 s_) b]
   have:=d (t+1) q_;rwa [show j+(t+1)=j+1+t from by omega]at this
def kF(ks:a6)(ob a:Hs):Hs:=
 (Df (Z ob)).map (λk=>match pos k 0 ks with|some j=>ob.getD k []++(a.getD j []).drop 1|none=>ob.getD k [])++a.drop (Z ks)
def aFX{ks:a6}(a:ks.Nodup){j k:Nat}(h:ks[j]? =X k):pos k 0 ks=X j:=by
 have b:∀(ks:a6) (j i:Nat),ks.Nodup->ks[j]? =X k->pos k i ks=X (i+j):=by
  intro ks;induction ks with
  |nil=>simp
  |cons x r d=>
   intro j i a h;rw[Ce]at a;simp only[pos];cases j with
   |zero=>simp at h;subst h;simp
   |succ j=>
    have c:r[j]? =X k:=by simpa using h
    have:¬ x=k:=λe=>a.1 (e▸Ax c);rw[HH this]
    grind
 simpa using b ks j 0 a h
section
variable {M M':Imm} {ob obK':Hs} {ac ap:aw} {w w':World}
def Mem.embAt(h:Mem M ob ac w){ks:a6}(q:jS ks ac=O)(l:dH (fJ 0 ob ac 0 ks) obK'){j g:Nat}{v:Value}(u:at' obK' j g=X v):
  at' (kF ks ob obK') (fI ks (Z ac) j) (jT ks ac j g)=X v:=by
 obtain⟨x,r⟩:=nD q;have d:∃hs,obK'[j]? =X hs/\hs[g]? =X v:=by
  unfold at' at u
  grind
 obtain⟨hs,f,s⟩:=d;by_cases i:j<Z ks
 .have a:=Ab i;have m:=x j _ a;have c:ks[j]<Z ob:=by rw[h.len];exact(Ad.1 (fG m)).1
  have e:ob[ks[j]]? =X ob[ks[j]]:=Ab c;have hl:=h.histLen m e;have b:(fJ 0 ob ac 0 ks)[j]? =X (jL 0 j (aC ac ks[j]) ob[ks[j]]):=by rw[iK,a];simp[e]
  obtain⟨hs',n,t,z⟩:=l j _ b;rw[f]at n;cases n;have o:Z (jL 0 j (aC ac ks[j]) ob[ks[j]])=1:=by rw[uH hl];simp
  have p:(jL 0 j (aC ac ks[j]) ob[ks[j]])[0]? =ob[ks[j]][iE (aC ac ks[j])]?:=AB hl (by rw[oH];simp);have k:(kF ks ob obK')[ks[j]]? =X (ob[ks[j]]++hs.drop 1):=by unfold kF;rw[Ai q_,Bw,Ew c];simp[aFX r a,e,f]
  rw[jK a,cG k];have y:jT ks ac j g=iE (aC ac ks[j])+g:=by simp[jT,oU,a]
  grind
 .have k:(kF ks ob obK')[Z ac+(j-Z ks)]? =X hs:=by unfold kF;rw[Ar (by simp;rw[h.len];omega),Dd,<-f];congr 1;simp[h.len];omega
  rw[mH o_,cG k];simpa[jT,oU,Bk (show Z ks<=j by omega)]using s
def S9{M':Imm}{obK' f:Hs}{ks:a6}{base:Nat}{ac:aw}(p:∀{j g:Nat} {v:Value},at' obK' j g=X v->at' f (fI ks base j) (jT ks ac j g)=X v)
  (x:∀{j:Nat} {v:Value},at' obK' j 0=X v->(∃b,v= .pointer (X ⟨b,0,U⟩))\/(∃b,v= .map (X b))->at' f (fI ks base j) 0=X v):
  ∀(n:Nat) (v:Value) (a:aa),Rep M' obK' v a->Rep M' f v (embV ks base ac n a):=by
 intro n;induction n with
 |zero=>intro v a _;exact .undef v
 |succ n r=>
  intro v a d;have tok:∀{v:Value} {sz:Nat} {xs:az} {t:Tk},Rep M' obK' v (.slice sz xs t)->Rep M' f v (AW.embV ks base ac (n+1) (.slice sz xs t)):=by
   intro v sz xs t d;obtain⟨C,y⟩:=d.untok;have m:Rep M' f v (.slice sz xs .no):=C.slice_pure.pure;cases t with
   |no=>exact m
   |nil=>exact m.tok y
   |full=>exact m.tok y
   |own k g=>exact m.tok (show at' _ _ _=_ from p y)
  cases d with
  |undef v=>exact .undef v
  |bool b=>exact .bool b
  |int k n d=>exact .int k n d
  |str l hl=>exact .str l hl
  |agg vs as hl d=>
   obtain⟨h1,s⟩:=cI (r) hl d;exact .agg vs _ h1 s
  |tup vs as hl d=>
   obtain⟨h1,s⟩:=cI (r) hl d;exact .tup vs _ h1 s
  |ptr b o cs d=>exact .ptr b o cs d
  |ref k off b e=>exact .ref _ off b (x e (.inl ⟨b,rfl⟩))
  |eref k g i sz off b n c e=>exact .undef _
  |rowc k g c a n h hm=>exact .undef _
  |pre k g n c sz b len h q w hl hm=>exact .undef _
  |csl k off len sz b e hm=>exact .csl _ off len sz b (x e (.inl ⟨b,rfl⟩)) hm
  |row k g a n c e=>exact .row _ _ a n c (p e)
  |sub k g lo len sz b n c e hl w q hm=>exact .sub _ _ lo len sz b n c (p e) hl w q hm
  |sub0 k g lo sz a D n c e hl q=>exact .sub0 _ _ lo sz a D n c (p e) hl q
  |mref k b e=>exact .mref _ b (x e (.inr ⟨b,rfl⟩))
  |nilptr=>exact .nilptr
  |nilslice=>exact .nilslice
  |nilmap=>exact .nilmap
  |nilfunc=>exact .nilfunc
  |nilif=>exact .nilif
  |hsl a n c=>exact .hsl a n c
  |slnil sz t u=>exact tok (.slnil sz t u)
  |slemp sz t a cap u=>exact tok (.slemp sz t a cap u)
  |sl sz b o n cap xs t w q hm hz d u=>exact tok (.sl sz b o n cap xs t w q hm hz d u)
  |func fn B cs I H F q z A=>
   obtain⟨h1,s⟩:=cI (r) F z;obtain⟨h3,G⟩:=cI (r) q A;exact .func fn B cs _ _ h1 h3 s G
  |iface t v a d=>exact .iface t v _ (r v a d)
def Mem.embV(h:Mem M ob ac w){ks:a6}(q:jS ks ac=O)(m:dH (fJ 0 ob ac 0 ks) obK')(C:Z (fJ 0 ob ac 0 ks)=Z ks):∀(n:Nat) (v:Value) (a:aa),Rep M' obK' v a->
  Rep M' (kF ks ob obK') v (embV ks (Z ac) ac n a):=by
 have F:∀{j:Nat} {v:Value},at' obK' j 0=X v->(∃b,v= .pointer (X ⟨b,0,U⟩))\/(∃b,v= .map (X b))->at' (kF ks ob obK') (fI ks (Z ac) j) 0=X v:=by
  intro j v s hs;have:=h.embAt q m s;by_cases t:j<Z ks
  .have r:=Ab t;have o:iE (aC ac ks[j])=0:=by
    have A:=(nD q).1 j _ r;obtain⟨hs',z,d⟩:=h.obj _ _ (fG A);have f:(fJ 0 ob ac 0 ks)[j]? =X (jL 0 j (aC ac ks[j]) hs'):=by rw[iK,r];simp[z]
    have hl:=h.histLen A z;have p:(jL 0 j (aC ac ks[j]) hs')[0]? =hs'[iE (aC ac ks[j])]?:=AB hl (by rw[oH];simp);have c:at' (fJ 0 ob ac 0 ks) j 0=X v:=by
     have D:Z (jL 0 j (aC ac ks[j]) hs')=1:=by rw[uH hl];simp
     have B:=Ab (l:=jL 0 j (aC ac ks[j]) hs') (i:=0) o_;generalize (jL 0 j (aC ac ks[j]) hs')[0]=u at B;have:=m.at (ob:=fJ 0 ob ac 0 ks) (k:=j) (g:=0) (v:=u) (by rw[cG f];exact B)
     grind[cG]
    rw[cG f,p]at c;cases o:aC ac ks[j]with
    |row g sz e xs=>
     rw[o]at d c;obtain⟨_,G,y,cv,H,_⟩:=d
     grind[dW]
    |tail g sz e=>
     rw[o]at d c;obtain⟨_,G,y,J,cv,H,_⟩:=d
     grind[dW]
    |bun g I=>
     rw[o]at d c;obtain⟨_,bs,y,_⟩:=d;simp only[iE]at c;rw[y]at c;cases c;rcases hs with⟨b,hs⟩|⟨b,hs⟩<;>cases hs
    |_=>rfl
   have x:jT ks ac j 0=0:=by simp[jT,oU,r,o]
   grind
  .have x:jT ks ac j 0=0:=by simp[jT,oU,Bk (show Z ks<=j by omega)]
   grind
 exact S9 (λs=>h.embAt q m s) F
def Mem.emb(h:Mem M ob ac w){ks:a6}(hk:jS ks ac=O)(s:Ext M (fJ 0 ob ac 0 ks) (gT 0 ks ac) w M' obK' ap w')(h':Mem M' obK' ap w'):
  Mem M' (kF ks ob obK') (iD ks (Z ac) ac 0 ap ac) w'/\Ext M ob ac w M' (kF ks ob obK') (iD ks (Z ac) ac 0 ap ac) w'/\∀(i:Nat) hs,ac[i]? =X .dead->ob[i]? =X hs->(iD ks (Z ac) ac 0 ap ac)[i]? =X .dead/\(kF ks ob obK')[i]? =X hs:=by
 obtain⟨k1,k2⟩:=nD hk;obtain⟨c1,c2,c3⟩:=h.cvt (n0:=0) hk;have hks:∀(j k:Nat),ks[j]? =X k->k<Z ac:=λj k B=>(Ad.1 (fG (k1 j k B))).1;have hcl:Z (fJ 0 ob ac 0 ks)=Z ks:=qK;have hm:Z ks<=Z ap:=by
  rcases Nat.eq_zero_or_pos (Z ks)with h0|h0
  .omega
  .have:(fJ 0 ob ac 0 ks)[Z ks-1]? =X (fJ 0 ob ac 0 ks)[Z ks-1]:=Ab o_;obtain⟨hs',e,_⟩:=s.hs _ _ this;have:=(Ad.1 e).1;rw[h'.len]at this;omega
 obtain⟨s1,s2,s3⟩:=aDj (base:=Z ac) (ac:=ac) k2 hks ap 0 ac s_;simp only[Bv]at s1 s2 s3;have hEl:Z (kF ks ob obK')=Z ac+(Z ap-Z ks):=by unfold kF;simp[h.len,h'.len]
 have cls:∀{i:Nat},i<Z (iD ks (Z ac) ac 0 ap ac)->(∃j,j<Z ap/\i=fI ks (Z ac) j)\/(i<Z ac/\(∀j,j<Z ap->fI ks (Z ac) j≠i)):=by
  intro i P;rw[s1]at P;by_cases At:i<Z ac
  .grind
  .refine .inl ⟨Z ks+(i-Z ac),by omega,?_⟩;rw[mH o_];omega
 have V:∀{i:Nat},i<Z ac->(∀j,j<Z ap->fI ks (Z ac) j≠i)->(iD ks (Z ac) ac 0 ap ac)[i]? =ac[i]?/\(kF ks ob obK')[i]? =ob[i]?:=by
  intro i P a;refine⟨s3 i a P,?_⟩;have hib:i<Z ob:=by rw[h.len];exact P
  have hp:pos i 0 ks=none:=by
   cases hq:pos i 0 ks with
   |none=>rfl
   |some j=>
    have:=aAd hq;exact bv (jK this) (a j (by have:=(Ad.1 this).1;omega))
  unfold kF
  grind[Ai,Ew,Ab]
 have W:∀{j:Nat} {o:ab},ap[j]? =X o->∃hs hs',obK'[j]? =X hs/\iM M' obK' w' hs o/\(iD ks (Z ac) ac 0 ap ac)[fI ks (Z ac) j]? =X (uD ks (Z ac) ac j o)/\(kF ks ob obK')[fI ks (Z ac) j]? =X hs'/\
   Z hs'=(match ks[j]? with|some k=>iE (aC ac k)|none=>0)+Z hs/\(o.owns=O->blk hs'=blk hs)/\(∀(g:Nat) v,hs[g]? =X v->hs'[jT ks ac j g]? =X v):=by
  intro j o B;obtain⟨hs,F,m⟩:=h'.obj j o B;have hat:∀(g:Nat) v,hs[g]? =X v->at' (kF ks ob obK') (fI ks (Z ac) j) (jT ks ac j g)=X v:=λg v Am=>h.embAt hk s.hs (by rw[cG F];exact Am);by_cases At:j<Z ks
  .have Be:=Ab At;have An:=k1 j _ Be;have hko:ks[j]<Z ob:=by rw[h.len];exact(Ad.1 (fG An)).1
   have Y:ob[ks[j]]? =X ob[ks[j]]:=Ab hko;have hl:=h.histLen An Y;have K:(fJ 0 ob ac 0 ks)[j]? =X (jL 0 j (aC ac ks[j]) ob[ks[j]]):=by rw[iK,Be];simp[Y]
   obtain⟨D,L,t,e2⟩:=s.hs j _ K;rw[F]at L;cases L;have hc1:Z (jL 0 j (aC ac ks[j]) ob[ks[j]])=1:=by rw[uH hl];simp
   have hpos:1<=Z hs:=by rw[<-e2];simp;omega
   have eE:(kF ks ob obK')[ks[j]]? =X (ob[ks[j]]++hs.drop 1):=by unfold kF;rw[Ai q_,Bw,Ew hko];simp[aFX k2 Be,Y,F]
   refine⟨hs,_,F,m,s2 j o B,by rw[jK Be];exact eE,by rw[Be];simp;omega,λ_=>?_,λg v Am=>?_⟩
   .unfold blk;rw[List.getLast?_append];by_cases h2:1<Z hs
    .grind
    .have:hs.drop 1=[]:=List.drop_eq_nil_of_le o_;rw[this];simp only[List.getLast?_nil,Option.none_or];have h1l:Z hs=1:=o_;have ht:t=[]:=by grind
     grind[BI]
   grind[jK,cG]
  .have hjl:j<Z obK':=(Ad.1 F).1;have eE:(kF ks ob obK')[Z ac+(j-Z ks)]? =X hs:=by unfold kF;rw[Ar (by simp;rw[h.len];omega),Dd,<-F];congr 1;simp[h.len];omega
   refine⟨hs,hs,F,m,s2 j o B,by rw[mH o_];exact eE,by rw[Bk o_];simp,λ_=>rfl,λg v Am=>?_⟩;simpa[jT,oU,Bk (show Z ks<=j by omega)]using Am
 have ownsE:∀j o,(uD ks (Z ac) ac j o).owns=o.owns:=λj o=>by cases o<;>rfl
 have l:∀{i b:Nat},aK (kF ks ob obK') (iD ks (Z ac) ac 0 ap ac) i b->(∃j,i=fI ks (Z ac) j/\aK obK' ap j b)\/((∀j,j<Z ap->fI ks (Z ac) j≠i)/\aK ob ac i b):=by
  rintro i b ⟨c,hs,L,e2,e3,e4⟩;rcases cls (Ad.1 L).1 with⟨j,B,rfl⟩|⟨P,a⟩
  .obtain ⟨J,D,g1,u,g3,g4,_,g5,_⟩:=W (Ab B)
   grind[cW,Ab]
  .obtain ⟨o1,o2⟩:=V P a;rw[o1]at L;rw[o2]at e3;exact .inr ⟨a,c,hs,L,e2,e3,e4⟩
 have hle:dH ob (kF ks ob obK'):=by
  intro i hs P;have hib:=(Ad.1 P).1;cases hq:pos i 0 ks with
  |none=>
   refine⟨hs,?_,Cp _⟩;unfold kF
   grind[Ai,Ew]
  |some j=>
   refine⟨hs++(obK'.getD j []).drop 1,?_,⟨_,rfl⟩⟩;unfold kF
   grind[Ai,Ew]
 have d:∀{i b:Nat},(∀j,j<Z ap->fI ks (Z ac) j≠i)->aK ob ac i b->(∀j,¬ aK (fJ 0 ob ac 0 ks) (gT 0 ks ac) j b)/\b<w.heap.size:=by intro i b a n;refine⟨λj B=>?_,h.lt i b n⟩;obtain⟨k,hk',ha'⟩:=c2 j b B;have:=h.inj i k b n ha';subst this;exact a j (by have:=(Ad.1 hk').1;omega) (jK hk')
 refine⟨⟨h'.imm,by rw[hEl,s1],λi c r=>?_,λi b n=>?_,λi i' b n hb=>?_⟩,⟨s.imm,λb o y hy=>?_,hle,s.os,s.tape,s.output,s.size,λb hb hn=>s.keep b hb λj B=>?_,λi b n=>?_⟩,λi hs hd F=>?_⟩
 .rcases cls (Ad.1 r).1 with⟨j,B,rfl⟩|⟨P,a⟩
  .obtain ⟨J,D,g1,u,g3,g4,g5,g6,g7⟩:=W (Ab B);rw[g3]at r;cases r;refine⟨D,g4,?_⟩;have one0:∀{p:Value},J=[p]->Z J=1->(match ks[j]? with|some k=>iE (aC ac k)|none=>0)=0\/True:=λ_ _=>.inr trivial;have single:∀{b:Nat} {p:Value},J=[p]->((∃q,p= .pointer (X ⟨q,0,U⟩))\/(∃q,p= .map (X q)))->D=[p]:=by
    intro b p e hp;have hcur:(match ks[j]? with|some k=>iE (aC ac k)|none=>0)=0:=by
     cases hq:ks[j]? with
     |none=>rfl
     |some k=>
      have C:=g7 0 p (by rw[e];rfl);have An:=k1 j k hq;obtain⟨H,hhk,m⟩:=h.obj k _ (fG An);have hl:=h.histLen An hhk;have K:(fJ 0 ob ac 0 ks)[j]? =X (jL 0 j (aC ac k) H):=by rw[iK,hq];simp[hhk]
      obtain⟨hs3,L,t,e2⟩:=s.hs j _ K;rw[g1]at L;cases L;have hc1:Z (jL 0 j (aC ac k) H)=1:=by rw[uH hl];simp
      have hc0:(jL 0 j (aC ac k) H)[0]? =H[iE (aC ac k)]?:=AB hl (by rw[oH];simp);have f:H[iE (aC ac k)]? =X p:=by grind[Ai]
      show iE (aC ac k)=0;cases r:aC ac k with
      |row g sz e xs=>
       rw[r]at m f;obtain⟨_,v',A,cv,R,_⟩:=m
       grind[dW]
      |tail g sz e=>
       rw[r]at m f;obtain⟨_,v',A,n',cv,R,_⟩:=m
       grind[dW]
      |bun g I=>
       rw[r]at m f;obtain⟨_,bs,A,_⟩:=m;simp only[iE]at f;rw[A]at f;cases f;rcases hp with⟨b,hp⟩|⟨b,hp⟩<;>cases hp
      |_=>rfl
    rw[hcur,e]at g5;have C:=g7 0 p (by rw[e];rfl);have hG:jT ks ac j 0=0:=by unfold jT;rw[oU];omega
    rw[hG]at C
    match D,g5,C with
    |[x],_,C=>simp at C;rw[C]
   have z:∀g,Z J=g+1->Z D=jT ks ac j g+1:=λg Am=>by
    rw[g5,Am];unfold jT
    grind[oU]
   cases r:ap[j]with
   |dead=>exact trivial
   |cells T cs=>
    rw[r]at u;obtain⟨b,rfl,G,cv,A,R,a4,a5⟩:=u;obtain⟨m1,m2⟩:=cI (h.embV (M':=M') hk s.hs hcl 4) R a5;exact⟨b,single (b:=b) rfl (.inl ⟨b,rfl⟩),G,cv,A,m1,a4,m2⟩
   |fcells cs=>
    rw[r]at u;obtain⟨b,rfl,G⟩:=u;exact⟨b,single (b:=b) rfl (.inl ⟨b,rfl⟩),G⟩
   |row g sz e xs=>
    rw[r]at u;obtain⟨G,v,A,R⟩:=u;exact⟨z g G,v,g7 g v A,R⟩
   |frow g sz xs=>
    rw[r]at u;obtain⟨v,A,R⟩:=u;exact⟨v,g7 g v A,R⟩
   |tail g sz e=>
    rw[r]at u;obtain⟨G,v,A,R⟩:=u;exact⟨z g G,v,g7 g v A,R⟩
   |mp ag es=>
    rw[r]at u;obtain⟨b,rfl,G,A⟩:=u;exact⟨b,single (b:=b) rfl (.inr ⟨b,rfl⟩),G,A⟩
   |bun g I=>
    rw[r]at u;obtain⟨G,v,A,R⟩:=u;exact⟨z g G,v,g7 g _ A,R⟩
  .obtain ⟨o1,o2⟩:=V P a;rw[o1]at r;obtain⟨hs,F,m⟩:=h.obj i c r;refine⟨hs,by rw[o2];exact F,m.mono s.imm hle (λb p1 p2 o hno y hy=>?_) (λb c' p1 p2 hc'=>?_)⟩
   .obtain ⟨n1,n2⟩:=d a ((cW r F).2 ⟨p1,p2⟩);rcases s.new b o y hy with q|q|⟨j,q⟩
    .exact hno y q
    .omega
    .exact n1 j q
   .obtain ⟨n1,n2⟩:=d a ((cW r F).2 ⟨p1,p2⟩);rw[s.keep b n2 n1];exact hc'
 .rcases l n with⟨j,_,n⟩|⟨_,n⟩
  .exact h'.lt j b n
  .exact Ep (h.lt i b n) s.size
 .have Q:∀{i j:Nat},(∀j,j<Z ap->fI ks (Z ac) j≠i)->aK ob ac i b->aK obK' ap j b->False:=by
   intro i j a n hb;obtain⟨n1,n2⟩:=d a n;rcases s.fresh j b hb with⟨j',q⟩|q
   .exact n1 j' q
   .omega
  rcases l n with⟨j,L,N⟩|⟨a,N⟩<;>rcases l hb with⟨j',e2,As⟩|⟨hne',As⟩
  .rw [L,e2,h'.inj j j' b N As]
  .exact (Q hne' As N).elim
  .exact (Q a N As).elim
  .exact h.inj i i' b N As
 .rcases s.new b o y hy with q|q|⟨j,q⟩
  .exact .inl q
  .omega
  grind
 .obtain ⟨k,_,n⟩:=c2 j b B;exact hn k n
 .rcases l n with⟨j,_,n⟩|⟨_,n⟩
  .rcases s.fresh j b n with⟨j',q⟩|q
   .grind
   omega
  .exact .inl ⟨i,n⟩
 .have P:=(Ad.1 hd).1;have a:∀j,j<Z ap->fI ks (Z ac) j≠i:=by
   intro j B e;by_cases At:j<Z ks
   .have Be:=Ab At;rw[jK Be]at e;have An:=k1 j _ Be;rw[e,gX hd]at An;cases An
   .rw [mH o_]at e;omega
  grind
end
section
variable {M M':Imm} {ob ob':Hs} {ac obs1 obs1' ap:aw} {w w':World}
def YT(obs1 ac:aw):Prop:=Z obs1=Z ac/\∀(k:Nat),obs1[k]? =ac[k]?\/obs1[k]? =X .dead
def YT.alive(h:YT obs1 ac){k b:Nat}(g:aK ob obs1 k b):aK ob ac k b:=by
 obtain⟨c,hs,a,d,e,f⟩:=g;rcases h.2 k with q|q
 .rw [q]at a;exact⟨c,hs,a,d,e,f⟩
 .rw [q]at a;cases a;cases d
def Mem.weak(h:Mem M ob ac w)(a:YT obs1 ac):Mem M ob obs1 w:=by
 refine⟨h.imm,h.len.trans a.1.symm,λk c d=>?_,λk b f=>h.lt k b (a.alive f),λi j b f g=>h.inj i j b (a.alive f) (a.alive g)⟩;rcases a.2 k with q|q
 .rw [q]at d;exact h.obj k c d
 .rw [q]at d;cases d;have e:k<Z ob:=by rw[h.len,<-a.1];grind
  exact⟨ob[k],Ab e,trivial⟩
def Mem.revive(h:Mem M ob ac w)(v:YT obs1 ac)(d:Ext M ob obs1 w M' ob' obs1' w')(hs:cS ob obs1 ob' obs1')(x:Mem M' ob' obs1' w')(hl:Z ap=Z obs1')
  (F:∀(k:Nat) c,ap[k]? =X c->obs1'[k]? =X c\/(obs1[k]? =X .dead/\(∃hs,ob[k]? =X hs/\hs≠[])/\ac[k]? =X c)):
  Mem M' ob' ap w'/\Ext M ob ac w M' ob' ap w'/\cS ob ac ob' ap:=by
 have a:∀{k b:Nat},aK ob' ap k b->aK ob' obs1' k b\/(obs1[k]? =X .dead/\aK ob ac k b):=by
  rintro k b ⟨c,hs',u,C,As,N⟩;rcases F k c u with q|⟨m,⟨f,n,A⟩,z⟩
  .exact .inl ⟨c,hs',q,C,As,N⟩
  .have:=((hs k f m n).1 A).2;rw[As]at this;cases this;exact .inr ⟨m,c,hs',z,C,n,N⟩
 have l:∀{k b:Nat},obs1[k]? =X .dead->aK ob ac k b->∀j,¬ aK ob obs1 j b:=by intro k b At e j B;have:=h.inj k j b e (v.alive B);subst this;obtain⟨c,_,u,C,_⟩:=B;rw[At]at u;cases u;cases C
 refine⟨⟨x.imm,x.len.trans hl.symm,λk c W=>?_,λk b e=>?_,λi j b e I=>?_⟩,⟨d.imm,λb o y D=>?_,d.hs,d.os,d.tape,d.output,d.size,λb I R=>d.keep b I λj B=>R j (v.alive B),λk b e=>?_⟩,λk hs' h1 P=>⟨λh3=>?_,λh3 Be=>?_⟩⟩
 .rcases F k c W with q|⟨m,⟨f,n,A⟩,z⟩
  .exact x.obj k c q
  .obtain ⟨Q,u,K⟩:=h.obj k c z;rw[n]at u;cases u;refine⟨f,((hs k f m n).1 A).2,K.mono d.imm d.hs (λb J L o G y D=>?_) (λb Am J L H=>?_)⟩
   .have e:aK ob ac k b:=(cW z n).2 ⟨J,L⟩;rcases d.new b o y D with q|q|⟨j,q⟩
    .exact G y q
    .have:=h.lt k b e;omega
    .exact l m e j q
   .have e:aK ob ac k b:=(cW z n).2 ⟨J,L⟩;rw[d.keep b (h.lt k b e) (l m e)];exact H
 .rcases a e with q|⟨_,q⟩
  .exact x.lt k b q
  .exact Ep (h.lt k b q) d.size
 .have g:∀{i j:Nat},aK ob' obs1' i b->obs1[j]? =X .dead->aK ob ac j b->False:=λ{i j} p q r=>by
   rcases d.fresh i b p with⟨V,t⟩|t
   .exact l q r V t
   .have:=h.lt j b r;omega
  rcases a e with q|⟨m,q⟩<;>rcases a I with r|⟨T,r⟩
  .exact x.inj i j b q r
  .exact (g q T r).elim
  .exact (g r m q).elim
  .exact h.inj i j b q r
 .rcases d.new b o y D with q|q|⟨j,q⟩
  .exact .inl q
  .omega
  .exact .inr (.inr ⟨j,v.alive q⟩)
 .rcases a e with q|⟨_,q⟩
  .rcases d.fresh k b q with⟨j,t⟩|t
   .exact .inl ⟨j,v.alive t⟩
   omega
  .exact .inl ⟨k,q⟩
 .have s:obs1[k]? =X .dead:=by
   rcases v.2 k with q|q
   .grind
   .exact q
  obtain⟨An,Y⟩:=(hs k hs' s P).1 h3
  grind[Ad,Ab]
 .have s:obs1[k]? =X .dead:=by
   rcases v.2 k with q|q
   .grind
   .exact q
  rcases F k _ Be with q|⟨_,⟨f,n,A⟩,_⟩
  .exact (hs k hs' s P).2 h3 q
  grind
end
def aR(P:Program)(t:TypeId):Bool:=match P.underlying t with|X (.struct _)|some (.array _ _)=>O|_=>S
def qO(P:Program):List Field->List (Nat×Nat×Bool)->Prop
 |[],[]=>True
 |f::fs,(off,sz,ag)::r=>f.offset=off/\(P.info? f.type).map (·.size)=X sz/\(P.underlying f.type).isSome=O/\aR P f.type=ag/\qO P fs r
 |_,_=>False
def xS(P:Program)(t:Nat)(a:Bool)(size:Nat):TK->Prop
 |.int k=>P.underlying t=X (.int k)/\a=S/\size=1
 |.bool=>P.underlying t=X .bool/\a=S/\size=1
 |.str=>P.underlying t=X .string/\a=S/\size=1
 |.strct j=>(∃c,P.underlying t=X (.struct c)/\qO P c.toList j)/\a=O
 |.arr n b g=>(∃e,P.underlying t=X (.array n e)/\(P.info? e).map (·.size)=X b/\(P.underlying e).isSome=O/\aR P e=g)/\a=O
 |.slc e b h=>(P.underlying t=X (.slice e)/\∃i z,P.info? e=X i/\i.size=b/\i.bytes=h/\i.zero=X z/\z.cells.size=b/\z.cells.toList.all (·.oneCell')=O)/\a=S/\size=1
 |.ptr e=>P.underlying t=X (.pointer e)/\a=S/\size=1
 |.iface=>(∃f,P.underlying t=X (.interface f))/\a=S/\size=1
 |.mp k e=>P.underlying t=X (.map k e)/\a=S/\size=1
 |.other=>(∃d,P.underlying t=X d/\(∀f,d≠ .interface f))/\aR P t=a
structure TIOK(P:Program)(t:Nat)(ti:TI):Prop where
 info:∃i z,P.info? t=X i/\i.size=ti.size/\i.zero=X z/\z.cells.size=ti.size/\Rep (λ_ _ _=>False) [] z ti.zero/\z.cells.toList.all (·.oneCell')=O/\ti.zero≠ .undef
 kind:xS P t ti.agg ti.size ti.kind
def aQR(P:Program)(t n:Nat):Prop:=∀(w:World) (x y:Operand) (xs ys:az) (vs us:bb) (c:Bool),ceq xs ys=X c->Z xs=n->
 cL (λ_ _ _=>False) [] vs xs->cL (λ_ _ _=>False) [] us ys->
 (∀op,(eqGuard op t x y (.agg vs.toArray) (.agg us.toArray)).run P w= .ok () w)/\(Op.equal t (.agg vs.toArray) (.agg us.toArray)).run P w= .ok c w
def OU(P:Program)(t n:Nat):Prop:=∀(w:World) (a b:ax),Z a=n->Z b=n->(Op.equal t (hC O a) (hC O b)).run P w= .ok (decide (a=b)) w/\∀c,(Go.Instr.checkKey c 10000 t (hC O a)).run P w= .ok () w
def YX(P:Program)(t n:Nat):Prop:=aQR P t n/\OU P t n
structure ae(E:Env):Prop where
 mix:E.P.follows .mixedOrders=O
 tab:∀t ti,dE E.T t=X ti->TIOK E.P t ti
 mth:∀t name g,aGC E.mt t name=X g->∀v w,(method (E.P.types.size+Made.depth) t v name).run E.P w= .ok (g,v) w
 fl:∀t,0<C1 E.fl t->YX E.P t (C1 E.fl t)
def xS.isAgg{P:Program}{t:Nat}{g:Bool}{size:Nat}{k:TK}(h:xS P t g size k):(P.underlying t).isSome=O/\aR P t=g:=by
 cases k with
 |strct j=>obtain⟨⟨f,h1,_⟩,c⟩:=h;simp[aR,h1,c]
 |arr n i m=>obtain⟨⟨f,h1,_⟩,c⟩:=h;simp[aR,h1,c]
 |slc e a b=>obtain⟨⟨h1,_⟩,c,_⟩:=h;simp[aR,h1,c]
 |iface=>obtain⟨⟨l,h1⟩,c,_⟩:=h;simp[aR,h1,c]
 |other=>obtain⟨⟨d,h1,_⟩,c⟩:=h;grind
 |_=>obtain⟨h1,c,_⟩:=h;simp[aR,h1,c]
def AM{P:Program}{t:Nat}(h:(P.underlying t).isSome=O)(w:World):(isAgg t).run P w= .ok (aR P t) w:=by obtain⟨d,a⟩:=Option.isSome_iff_exists.1 h;unfold isAgg;simp only[Bd,run_underlying a,Aq,aR,a];cases d<;>rfl
def af{P:Program}{t:Nat}{s:Nat}(h:(P.info? t).map (·.size)=X s)(w:World):(sizeOf t).run P w= .ok s w:=by obtain⟨i,a,rfl⟩:=Cd.1 h;simp[sizeOf,typeInfo,a]
def TIOK.size?{P:Program}{t:Nat}{a:TI}(h:TIOK P t a):(P.info? t).map (·.size)=X a.size:=by
 obtain⟨i,z,c,b,_⟩:=h.info
 grind
def qO.get{P:Program}:∀{a:List Field} {b:List (Nat×Nat×Bool)},qO P a b->∀{i:Nat} {off sz:Nat} {c:Bool},nth b i=X (off,sz,c)->
  ∃f,a[i]? =X f/\f.offset=off/\(P.info? f.type).map (·.size)=X sz/\(P.underlying f.type).isSome=O/\aR P f.type=c
 |[],[],_,i,_,_,_,hn=>by cases i<;>cases hn
 |[],_::_,h,_,_,_,_,_=>h.elim
 |_::_,[],h,_,_,_,_,_=>h.elim
 |f::a,(off',sz',ag')::b,h,i,off,sz,c,hn=>by
  obtain⟨h1,d,h3,j,e⟩:=h;cases i with
  |zero=>cases hn;exact⟨f,rfl,h1,d,h3,j⟩
  |succ i=>
   obtain⟨g,k,r⟩:=e.get (show nth b i=_ from hn);exact⟨g,by simp;omega,r⟩
def kT{M:Imm}{ob:Hs}{z:Value}{a:aa}(h:Rep (λ_ _ _=>False) [] z a):Rep M ob z a:=h.mono (λ_ _ _ h=>h.elim) (GD ob)
def Sd(VS:aa->aw->Prop)(CS:Fn->az->Prop)(PS:aa->Prop)(ac:aw)(base:Nat):OR->Prop
 |.no=>True
 |.val v=>VS v ac
 |.mkf fn d cs=>VS (.func fn d cs) ac
 |.need p r=>p->Sd VS CS PS ac base r
 |.alt p v w=>(p->VS v ac)/\VS w ac
 |.idx n f=>∀i:Nat,n=(i:Int)->Sd VS CS PS ac base (f i)
 |.elem xs i f=>∀x,xs[i]? =X x->Sd VS CS PS ac base (f x)
 |.byte l i=>∀c,l[i]? =X c->VS (.int .u8 (c.toNat:Int)) ac
 |.text xs=>∀l:ay,xs=l.map ub->(Z l:Int)<=9223372036854775807->VS (.str l) ac
 |.find es key f=>Sd VS CS PS ac base (f (bZ es key))
 |.born x v=>VS v (bQ ac base x)
 |.upd k x v=>VS v (bQ ac k x)
 |.nilq xs a=>∃b:Bool,(b=O->xs=[])/\VS (.bool (if a then !b else b)) ac
 |.call f args=>CS f args
 |.pan v=>PS v
def Sd.mono{VS d:aa->aw->Prop}{CS g:Fn->az->Prop}{PS e:aa->Prop}{ac:aw}{base:Nat}(h1:∀v o,VS v o->d v o)(j:∀f a,CS f a->g f a)(h3:∀v,PS v->e v):
  ∀{r:OR},Sd VS CS PS ac base r->Sd d g e ac base r
 |.no,_=>trivial
 |.val v,h=>h1 _ _ h
 |.mkf fn fs cs,h=>h1 _ _ h
 |.need p r,h=>λhp=>Sd.mono h1 j h3 (h hp)
 |.alt p v w,h=>⟨λhp=>h1 _ _ (h.1 hp),h1 _ _ h.2⟩
 |.idx n f,h=>λi s=>Sd.mono h1 j h3 (h i s)
 |.elem xs i f,h=>λx q=>Sd.mono h1 j h3 (h x q)
 |.byte l i,h=>λc t=>h1 _ _ (h c t)
 |.text xs,h=>λl hl m=>h1 _ _ (h l hl m)
 |.find es key f,h=>Sd.mono (r:=f (bZ es key)) h1 j h3 h
 |.born x v,h=>h1 _ _ h
 |.upd k x v,h=>h1 _ _ h
 |.nilq xs neg,⟨b,m,h⟩=>⟨b,m,h1 _ _ h⟩
 |.call f args,h=>j _ _ h
 |.pan v,h=>h3 _ h
def PV(P:Program)(M:Imm)(ob:Hs)(w:World)(s:Sem Value)(ac:aw)(v:aa)(o:aw):Prop:=o=ac/\∃u,s.run P w= .ok u w/\Rep M ob u v
abbrev PS0(P:Program)(M:Imm)(ob:Hs)(w:World)(s:Sem Value)(ac:aw)(base:Nat)(r:OR):Prop:=Sd (PV P M ob w s ac) (λ_ _=>False) (λ_=>False) ac base r
def PS0.bind{P:Program}{M:Imm}{ob:Hs}{w:World}{s:Sem Value}{ac:aw}{base:Nat}{f:aa->aa}(a:∀v u,Rep M ob u v->Rep M ob u (f v)):∀{r:OR},PS0 P M ob w s ac base r->PS0 P M ob w s ac base (r.bind λv=>.val (f v))
 |.no,_=>trivial
 |.val v,⟨h1,u,h2,h3⟩=>⟨h1,u,h2,a _ _ h3⟩
 |.mkf fn fs cs,_=>trivial
 |.need p r,h=>λhp=>PS0.bind a (r:=r) (h hp)
 |.alt p v w,_=>trivial
 |.idx n f',h=>λi b=>PS0.bind a (r:=f' i) (h i b)
 |.elem xs i f',h=>λx c=>PS0.bind a (r:=f' x) (h x c)
 |.byte l i,_=>trivial
 |.text xs,_=>trivial
 |.find es key f',_=>trivial
 |.born x v,_=>trivial
 |.upd k x v,_=>trivial
 |.nilq xs neg,_=>trivial
 |.call f' args,_=>trivial
 |.pan v,_=>trivial
structure VS1(P:Program)(ρv:Operand->Value)(op:Op)(ty:TypeId)(M:Imm)(ob:Hs)(ac:aw)(w:World)(v:aa)(ap:aw)(u:Value)(w':World)(M':Imm)(ob':Hs):Prop where
 run:∀d pos after g,(execOp ρv ⟨d,op,ty,pos,after,g⟩).run P w= .ok (.value u) w'\/((execOp ρv ⟨d,op,ty,pos,after,g⟩).run P w= .ok .skip w'/\u=undef)
 ext:Ext M ob ac w M' ob' ap w'
 mem:Mem M' ob' ap w'
 still:cS ob ac ob' ap
 rep:Rep M' ob' u v
def VS(P:Program)(ρv:Operand->Value)(op:Op)(ty:TypeId)(M:Imm)(ob:Hs)(ac:aw)(w:World)(v:aa)(ap:aw):Prop:=∃u w' M' ob',VS1 P ρv op ty M ob ac w v ap u w' M' ob'
def CS(P:Program)(ρv:Operand->Value)(op:Op)(ty:TypeId)(M:Imm)(ob:Hs)(w:World)(f:Fn)(args:az):Prop:=
 ∃b:bb,cL M ob b args/\∀d pos a g,(execOp ρv ⟨d,op,ty,pos,a,g⟩).run P w=(HG f b.toArray).run P w
def PS(P:Program)(ρv:Operand->Value)(op:Op)(ty:TypeId)(M:Imm)(w:World)(v:aa):Prop:=
 ∃u,(∀d pos a g,(execOp ρv ⟨d,op,ty,pos,a,g⟩).run P w= .halt (.panic u) w)/\Rep M [] u v
abbrev cM(P:Program)(ρv:Operand->Value)(op:Op)(ty:TypeId)(M:Imm)(ob:Hs)(ac:aw)(w:World)(base:Nat)(r:OR):Prop:=
 Sd (VS P ρv op ty M ob ac w) (CS P ρv op ty M ob w) (PS P ρv op ty M w) ac base r
def cM.pv{P:Program}{ρv:Operand->Value}{op:Op}{ty:TypeId}{M:Imm}{ob:Hs}{ac:aw}{w:World}{base:Nat}{r:OR}{s:Sem Value}(hm:Mem M ob ac w)
  (b:∀d pos a g,execOp ρv ⟨d,op,ty,pos,a,g⟩=(s >>= λv=>Pure.pure (.value v))) (h:PS0 P M ob w s ac base r):cM P ρv op ty M ob ac w base r:=
 Sd.mono (λv o ⟨h1,u,c,h3⟩=>⟨u,w,M,ob,λd pos a g=>.inl (by simp_all),h1▸Ext.refl _ _ _ _,h1▸hm,h1▸cS.refl _ _,h3⟩) (λ_ _ h=>h.elim) (λ_ h=>h.elim) h
def aCV{k:IntKind}{n:Int}(h:aLA k n=O):inR k n:=by
 unfold aLA at h;split at h
 .rename_i m;have:=Cj h;rw[show Int.ofNat m=(m:Int)from rfl];constructor
  .cases k<;>simp only[bV]<;>omega
  .cases k<;>simp only[aNB,aW]at* <;>omega
 .rename_i m;have:m<aGT k:=by simp_all
  constructor
  .cases k<;>simp only[aGT,bV]at* <;>omega
  .cases k<;>simp only[aW]<;>omega
def aLi(l:ay):aGK l=Z l:=by
 induction l with
 |nil=>rfl
 |cons c r a=>simp[aGK,a]
theorem kU{k:IntKind}{n:Int}(h:inR k n):k.wrap n=n:=by unfold inR bV aW at h;unfold IntKind.wrap;cases k<;>simp only[IntKind.bits,IntKind.signed]at* <;>simp at* <;>omega
def lE(k:IntKind)(n:Int):inR k (k.wrap n):=by unfold inR bV aW IntKind.wrap;cases k<;>simp only[IntKind.bits,IntKind.signed]<;>simp<;>(try split)<;>omega
def aG0{k:IntKind}{x y:Int}(h:inR k x):inR k (x.tmod y):=by
 obtain⟨h1,g⟩:=h;have f:bV k<=0:=by cases k<;>decide
 have d:0<=aW k:=by cases k<;>decide
 by_cases c:0<=x
 .have a:=Int.tmod_nonneg y c;have b:x.tmod y<=x:=by have:=Int.natAbs_tmod x y;have:=Lf x.natAbs y.natAbs;omega
  exact⟨by omega,by omega⟩
 .have e:x.tmod y= -((-x).tmod y):=by simp
  have a:=Int.tmod_nonneg y (show 0<= -x by omega);have b:(-x).tmod y<= -x:=by have:=Int.natAbs_tmod (-x) y;have:=Lf (-x).natAbs y.natAbs;omega
  exact⟨by omega,by omega⟩
def aG1{k:IntKind}{x:Int}(p:Nat)(h:inR k x):inR k (x.fdiv (2^p)):=by
 obtain⟨h1,d⟩:=h;have c:bV k<=0:=by cases k<;>decide
 have b:0<=aW k:=by cases k<;>decide
 have hp:(0:Int)<2^p:=Int.pow_pos d_;have a:(1:Int)<=2^p:=o_;rw[Int.fdiv_eq_ediv_of_nonneg _ o_];generalize (2:Int)^p=q at hp a;constructor
 .refine Int.le_ediv_of_mul_le hp ?_;have:bV k*q<=bV k*1:=Int.mul_le_mul_of_nonpos_left c a;omega
 .refine Int.ediv_le_of_le_mul hp ?_;have:aW k*1<=aW k*q:=Int.mul_le_mul_of_nonneg_left a b;omega
def zH{k a:IntKind}(h:aGW k a=O):k=a:=by cases k<;>cases a<;>first|rfl|cases h
def sdc{VS:aa->aw->Prop}{CS:Fn->az->Prop}{PS:aa->Prop}{ac:aw}{base:Nat}{b:Bool}{r:OR}(h:b=O->Sd VS CS PS ac base r):Sd VS CS PS ac base (bif b then r else .no):=by
 cases b with
 |true=>exact h rfl
 |false=>exact trivial
section
variable {P:Program} {E:Env} {M:Imm} {ob:Hs} {ac:aw} {w:World} {base:Nat}
def uG(v:Value):Rep M ob v (aMM v):=by
 unfold aMM;split
 .exact .bool _
 .rename_i k n;cases h:aLA k n with
  |true=>exact .int _ _ (aCV h)
  |false=>exact .undef _
 .rename_i s;cases h:Fv (aGK s.data.toList) 1000000 with
  |true=>
   have:=Cj h;rw[aLi]at this;obtain⟨⟨l⟩⟩:=s;exact .str l (by grind)
  |false=>exact .undef _
 .exact .nilslice
 .exact .nilptr
 .exact .nilmap
 .exact .nilfunc
 .exact .nilif
 .exact .undef _
def G3{op:BinOp}{t:TypeId}{k:IntKind}{x y n:Int}(a:(binOp op t (.int k x) (.int k y)).run P w= .ok (.int k (k.wrap n)) w):
  PS0 P M ob w (binOp op t (.int k x) (.int k y)) ac base (G4 k n):=
 ⟨λhp=>⟨rfl,_,by rw[a,kU hp],.int _ _ hp⟩,rfl,_,a,.int _ _ (lE _ _)⟩
def aQf{op:BinOp}{t:TypeId}{k:IntKind}{x y:Int}(h:inR k x):PS0 P M ob w (binOp op t (.int k x) (.int k y)) ac base (aSl op k x y):=by
 have c:∀{op:BinOp} {n:Int},(binOp op t (.int k x) (.int k y)).run P w= .ok (.int k n) w->inR k n->PS0 P M ob w (binOp op t (.int k x) (.int k y)) ac base (.val (.int k n)):=λh1 g=>⟨rfl,_,h1,.int _ _ g⟩
 have a:∀{op:BinOp} {b:Bool},(binOp op t (.int k x) (.int k y)).run P w= .ok (.bool b) w->PS0 P M ob w (binOp op t (.int k x) (.int k y)) ac base (.val (.bool b)):=λh1=>⟨rfl,_,h1,.bool _⟩
 have d:∀op,inR k (dB op k x y):=λop=>by unfold dB;cases op<;>exact lE _ _
 cases op with
 |add=>exact G3 (by rw[binOp_add];rfl)
 |sub=>exact G3 (by rw[binOp_sub];rfl)
 |mul=>exact G3 (by rw[binOp_mul];rfl)
 |quo=>
  intro f;have e:(binOp .quo t (.int k x) (.int k y)).run P w= .ok (.int k (k.wrap (x.tdiv y))) w:=by rw[binOp_quo];simp only[Op.intDiv,bt f];rfl
  exact⟨λhp=>⟨rfl,_,by rw[e,kU hp],.int _ _ hp⟩,rfl,_,e,.int _ _ (lE _ _)⟩
 |rem=>
  intro f;exact c (by rw[binOp_rem];simp only[Op.intDiv,bt f];rfl) (aG0 h)
 |and=>exact c (by rw[binOp_and];rfl) (d .and)
 |or=>exact c (by rw[binOp_or];rfl) (d .or)
 |xor=>exact c (by rw[binOp_xor];rfl) (d .xor)
 |andNot=>exact c (by rw[binOp_andNot];rfl) (d .andNot)
 |shl=>exact trivial
 |shr=>exact trivial
 |eql=>exact a (by rw[binOp_eql];rfl)
 |neq=>exact a (by rw[binOp_neq];rfl)
 |lss=>exact a (by rw[binOp_lss];rfl)
 |leq=>exact a (by rw[binOp_leq];rfl)
 |gtr=>exact a (by rw[binOp_gtr];rfl)
 |geq=>exact a (by rw[binOp_geq];rfl)
def eG(l:ay):(⟨l.toArray⟩:ByteArray).toList=l:=by simp
def WR(l:ay)(i j:Nat):(⟨l.toArray⟩:ByteArray).extract i j=⟨((l.take j).drop i).toArray⟩:=by
 have h:=Lib.extract_data ⟨l.toArray⟩ i j;have:((⟨l.toArray⟩:ByteArray).extract i j).data=((l.take j).drop i).toArray:=by rw[<-Array.toList_inj,h];simp[List.drop_take]
 cases a:(⟨l.toArray⟩:ByteArray).extract i j with
 |mk d=>grind
def AF{M':Imm}{ob':Hs}:∀{xs ys:az} {c:Bool},ceq xs ys=X c->∀{vs:bb},cL M ob vs xs->cL M' ob' vs xs:=by
 intro xs;induction xs with
 |nil=>intro ys c _ vs h;exact⟨h.1,λi v a _ l=>by simp at l⟩
 |cons x xs g=>
  intro ys c h vs d;cases ys with
  |nil=>cases x<;>cases h
  |cons y ys=>
   cases x with
   |int k a=>
    cases y with
    |int p b=>
     simp only[ceq]at h;obtain⟨_,o⟩:=fK h;cases m:ceq xs ys with
     |none=>grind
     |some n=>
      match vs,d with
      |[],d=>exact bv d.1 s_
      |v::vs,d=>
       have j:=g m (vs:=vs) ⟨by simpa using d.1,λi u b e f=>d.2 (i+1) u b (by grind) q_⟩;refine⟨by simpa using d.1,λi u b e f=>?_⟩;cases i with
       |zero=>
        simp at e f;subst e f;have:=(d.2 0 v _ rfl rfl).int_inv;rw[this.1];exact .int _ _ this.2
       |succ i=>exact j.2 i u b (by simpa using e) (by simpa using f)
    |_=>cases h
   |_=>cases h
def T3:∀{xs ys:az} {c:Bool},ceq xs ys=X c->∃f,ceq ys xs=X f:=by
 intro xs;induction xs with
 |nil=>intro ys c h;cases ys with
  |nil=>grind
  |cons y ys=>cases h
 |cons x xs g=>
  intro ys c h;cases ys with
  |nil=>cases x<;>cases h
  |cons y ys=>
   cases x with
   |int k a=>
    cases y with
    |int m b=>
     simp only[ceq]at h;obtain⟨e,l⟩:=fK h;have:=zH e;subst this;cases j:ceq xs ys with
     |none=>grind
     |some f=>
      obtain⟨d,i⟩:=g j;exact⟨(b==a)&&d,by simp only[ceq,e,cond_true,i]⟩
    |_=>cases h
   |_=>cases h
def AN{P:Program}{w:World}{t e:TypeId}{a:Addr}{j:TypeInfo}(d:Nat)(h:P.underlying t=X (.pointer e))(b:P.info? e=X j):(Op.equalIn (d+1) t (.pointer (X a)) (.pointer (X a))).run P w= .ok O w:=by by_cases hz:j.size=0<;>simp[Op.equalIn,run_underlying h,sizeOf,typeInfo,b,hz,run_sameAddr_same]
def aPG{P:Program}{t e:TypeId}(h:P.underlying t=X (.pointer e)):P.underlying t=X (.pointer (P.pointee t)):=by simp[Program.pointee,h]
abbrev OE(op:BinOp)(t:TypeId)(x y:Operand)(vx vy:Value):Sem Value:=eqGuard op t x y vx vy >>= λ_=>binOp op t vx vy
def aNy{s s':Sem Value}(h:∀{r},s'.run P w=r->s.run P w=r){r:OR}(k:PS0 P M ob w s' ac base r):PS0 P M ob w s ac base r:=
 Sd.mono (λ_ _ ⟨h1,u,a,h3⟩=>⟨h1,u,h a,h3⟩) (λ_ _ h=>h) (λ_ h=>h) k
def aGa{op:BinOp}{t:TypeId}{x y:Operand}{a b:Value}{c:Bool}(h1:∀op,eqGuard op t x y a b=Pure.pure ())(d:∀op,op= .eql\/op= .neq->binOp op t a b=(Op.equal t a b >>= λr=>Pure.pure (.bool (if op= .eql then r else !r))))
  (h3:(Op.equal t a b).run P w= .ok c w):PS0 P M ob w (OE op t x y a b) ac base (yX op c):=by
 unfold yX;split
 .refine ⟨rfl,.bool c,?_,.bool c⟩;simp only[OE,h1,d _ (.inl rfl)];simp only[Bd,Bu,Aq,h3,if_true]
 .refine ⟨rfl,.bool (!c),?_,.bool _⟩;simp only[OE,h1,d _ (.inr rfl)]
  grind[Bd,Bu,Aq]
 .exact trivial
def aPf{op:BinOp}{t:TypeId}{x y:Operand}{a b:Value}{c:Bool}{xs:az}(h1:∀op,eqGuard op t x y a b=Pure.pure ())(e:∀op,op= .eql\/op= .neq->binOp op t a b=(Op.equal t a b >>= λr=>Pure.pure (.bool (if op= .eql then r else !r))))
  (h3:(Op.equal t a b).run P w= .ok c w) (d:c=O->xs=[]):PS0 P M ob w (OE op t x y a b) ac base (aPg op xs):=by
 have:=aGa (M:=M) (ob:=ob) (ac:=ac) (base:=base) (op:=op) h1 e h3;unfold aPg;unfold yX at this;split
 .exact ⟨c,d,this⟩
 .exact ⟨c,d,this⟩
 .exact trivial
def tD{P:Program}(w:World)(d:Nat)(t u:TypeId)(x:Value)(h:P.underlying t=X (.interface (P.methodsAt t))):(Op.equalIn (d+1) t .nilIface (.iface u x)).run P w= .ok S w:=by simp[Op.equalIn,run_underlying h]
def aQi(hE:ae E){og:Nat->ab}{op:BinOp}{t:TypeId}{x y:Operand}{u v:Value}{a b:aa}(m:Rep M ob u a)(l:Rep M ob v b):PS0 E.P M ob w (OE op t x y u v) ac base (aQj E og (isC x||isC y) op t a b):=by
 unfold aQj;split
 .rename_i k x' Q F;obtain⟨rfl,N⟩:=m.int_inv;obtain⟨rfl,ry⟩:=l.int_inv;have z:∀op,(eqGuard op t x y (.int k x') (.int Q F))=Pure.pure ():=λop=>by cases op<;>rfl
  refine aNy (s':=binOp op t (.int k x') (.int Q F)) (λh=>by grind) ?_;split
  .intro Be;have e:(binOp .shl t (.int k x') (.int Q F)).run E.P w= .ok (.int k (k.wrap (x'*2^min F.toNat k.bits))) w:=by rw[binOp_shl];simp only[Op.shift];simp;omega
   refine⟨λ⟨L,V⟩=>⟨rfl,_,?_,.int _ _ V⟩,rfl,_,e,.int _ _ (lE _ _)⟩;rw[e,Gl L,kU V]
  .rintro ⟨Be,L⟩;refine⟨rfl,_,?_,.int _ _ (aG1 _ N)⟩;rw[binOp_shr];simp only[Op.shift];rw[bt o_,Gl L];rfl
  .refine sdc λf=>?_;have:=zH f;subst this;exact aQf N
 .rename_i K J;obtain⟨rfl,N⟩:=m.str_inv;obtain⟨rfl,ry⟩:=l.str_inv;have z:∀op,(eqGuard op t x y (.string ⟨K.toArray⟩) (.string ⟨J.toArray⟩))=Pure.pure ():=λop=>by cases op<;>rfl
  refine aNy (s':=binOp op t (.string ⟨K.toArray⟩) (.string ⟨J.toArray⟩)) (λh=>by grind) ?_;split
  .intro Be;refine⟨rfl,.string ⟨(K++J).toArray⟩,?_,.str _ (by grind)⟩
   grind[binOp_string_add,run_string_add_sum,vG,ByteArray.mk_append_mk]
  .exact ⟨rfl,_,by rw[binOp_string_eql,eG,eG];rfl,.bool _⟩
  .exact ⟨rfl,_,by rw[binOp_string_neq,eG,eG];rfl,.bool _⟩
  .exact ⟨rfl,_,by rw[binOp_string_lss,eG,eG];rfl,.bool _⟩
  .exact ⟨rfl,_,by rw[binOp_string_leq,eG,eG];rfl,.bool _⟩
  .exact ⟨rfl,_,by rw[binOp_string_gtr,eG,eG];rfl,.bool _⟩
  .exact ⟨rfl,_,by rw[binOp_string_geq,eG,eG];rfl,.bool _⟩
  .exact trivial
 .rename_i xs ys;refine sdc λz=>?_;obtain⟨Y,I⟩:=aZ z;have At:0<C1 E.fl t:=by simp_all
  have s:=aE I;rw[AE]at s;obtain⟨vs,rfl,hl,R⟩:=m.agg_inv;obtain⟨us,rfl,B,D⟩:=l.agg_inv;split
  .rename_i c i;obtain⟨W,q⟩:=T3 i;obtain⟨G,H⟩:=(hE.fl t At).1 w x y _ _ vs us c i s (AF i ⟨hl,R⟩) (AF q ⟨B,D⟩);refine⟨rfl,.bool c,?_,.bool c⟩;simp only[OE,Bd,G,Aq,binOp,H,Bu]
  .rename_i c i;obtain⟨W,q⟩:=T3 i;obtain⟨G,H⟩:=(hE.fl t At).1 w x y _ _ vs us c i s (AF i ⟨hl,R⟩) (AF q ⟨B,D⟩);refine⟨rfl,.bool (!c),?_,.bool _⟩;simp only[OE,Bd,G,Aq,binOp,H,Bu]
  .exact trivial
 .split
  .exact trivial
  .rename_i n hT;have d:=(hE.tab t n hT).kind
   have two:∀{u v:Value},(∀op,eqGuard op t x y u v=Pure.pure ())->(∀op,op= .eql\/op= .neq->binOp op t u v=(Op.equal t u v >>= λr=>Pure.pure (.bool (if op= .eql then r else !r))))->
     ∀{c:Bool},(Op.equal t u v).run E.P w= .ok c w->PS0 E.P M ob w (OE op t x y u v) ac base (yX op c):=λh1 A _ h3=>aGa h1 A h3
   split
   .have f:=‹n.kind=TK.bool›;rw[f]at d;obtain rfl:=m.bool_inv;obtain rfl:=l.bool_inv;exact two (λop=>by cases op<;>rfl) (λop g=>by rcases g with rfl|rfl<;>rfl) (run_equal_bool w t _ _ d.1)
   .have f:=‹n.kind=TK.slc _ _ _›;rw[f]at d;have:=m.untok.2;obtain rfl:u= .slice U 0 0:=this;cases l;exact two (λop=>by cases op<;>rfl) (λop g=>by rcases g with rfl|rfl<;>rfl) (run_equal_slice_nil w t _ U 0 0 d.1.1)
   .have f:=‹n.kind=TK.slc _ _ _›;rw[f]at d;cases m;cases l;exact two (λop=>by cases op<;>rfl) (λop g=>by rcases g with rfl|rfl<;>rfl) (run_equal_slice_nil w t _ U 0 0 d.1.1)
   .have f:=‹n.kind=TK.slc _ _ _›;rw[f]at d;obtain⟨a,c,rfl,h0,_⟩:=m.slice_inv;cases l;exact aPf (λop=>by cases op<;>rfl) (λop g=>by rcases g with rfl|rfl<;>rfl) (run_equal_slice_nil w t _ a _ c d.1.1) (λe=>(h0 (by cases a<;>first|rfl|cases e)).1)
   .have f:=‹n.kind=TK.ptr _›;rw[f]at d;cases m;cases l;exact two (λop=>by cases op<;>rfl) (λop g=>by rcases g with rfl|rfl<;>rfl) (run_equal_pointer_nil w t _ (aPG d.1))
   .have f:=‹n.kind=TK.ptr _›;rw[f]at d;obtain⟨b,rfl,_⟩:=m.ref_inv;cases l;exact two (λop=>by cases op<;>rfl) (λop g=>by rcases g with rfl|rfl<;>rfl) (run_equal_pointer_nil w t _ (aPG d.1))
   .have f:=‹n.kind=TK.ptr _›;rw[f]at d;obtain⟨b,o,rfl,_⟩:=m.ptr_inv;cases l;exact two (λop=>by cases op<;>rfl) (λop g=>by rcases g with rfl|rfl<;>rfl) (run_equal_pointer_nil w t _ (aPG d.1))
   .have f:=‹n.kind=TK.ptr _›;rw[f]at d;split
    .rename_i An As;refine sdc λz=>?_;obtain⟨h1,A⟩:=aZ z;have h1:=aE h1;have A:=aE A;subst h1 A;obtain⟨b,rfl,hb⟩:=m.ref_inv;obtain⟨b',rfl,C⟩:=l.ref_inv;rw[hb]at C;cases C;obtain⟨j,Am,_⟩:=Cd.1 (hE.tab _ An As).size?;refine two (λop=>by cases op<;>rfl) (λop g=>by rcases g with rfl|rfl<;>rfl) (c:=O) ?_;exact AN 9999 d.1 Am
    .exact trivial
   .have f:=‹n.kind=TK.iface›;rw[f]at d;obtain⟨T,p⟩:=d.1;cases m;cases l;refine sdc λhl=>two (λop=>?_) (λop g=>by rcases g with rfl|rfl<;>rfl) (run_equal_nil_nil w t (by simp only[Program.methodsAt,p]));cases op<;>first|rfl|(cases x<;>first|rfl|(cases y<;>first|rfl|cases hl))
   .have f:=‹n.kind=TK.iface›;rw[f]at d;obtain⟨T,p⟩:=d.1;cases m;cases l;exact two (λop=>by cases op<;>rfl) (λop g=>by rcases g with rfl|rfl<;>rfl) (run_equal_held_nil w t _ _ (by simp only[Program.methodsAt,p]))
   .have f:=‹n.kind=TK.iface›;rw[f]at d;obtain⟨T,p⟩:=d.1;cases m;cases l;exact two (λop=>by cases op<;>rfl) (λop g=>by rcases g with rfl|rfl<;>rfl) (tD w 9999 t _ _ (by simp only[Program.methodsAt,p]))
   .exact trivial
end
end Go.AW
