/- Part 1 of what the statement rests on. -/
import Derived.WalkKit
import Derived.WalkLawsBesides
import Derived.RangeFuncLeaves
import Derived.OrdersIn
import Derived.TacticsIn
import Derived.Deep.AppendSrc
import Derived.Lib.Strings
import Derived.LaidEql
set_option linter.all false
open Array renaming getElem?_eq_some_iff->Ep,length_toList->Im,toList_append->Mu,toList_map->Jr
open Bool renaming and_eq_true->Ad,not_eq_true'->Cw,or_eq_true->Ew
open Go.Builtin renaming append_->Cm,firstCells->Ch,zeroCells->Ce
open Go.Instr renaming checkKey->Hk
open Go.Region renaming binds->Jk
open Go.Result renaming andThen_ok->Ap
open Go.Sem renaming run_bind->Bi,run_pure->Bu
open Go.Value renaming int->Dz,ownBlock->Gd,slice->Gn
open Go.World renaming block_lt_of_cell?->Cp,cell?_of_block->Co,ownsRow_nil->Gy
open Int renaming fdiv_eq_ediv_of_nonneg->Dy,mul_le_mul_of_nonneg_left->Kj
open List renaming append_assoc->Ae,append_nil->Au,cons_append->Ca,drop_eq_nil_of_le->Ai,eq_nil_of_length_eq_zero->Ay,ext_getElem?->Ea,getElem?_append_left->Af,getElem?_append_right->Ak,getElem?_cons_succ->Fo,getElem?_drop->Bo,getElem?_eq_getElem->Aa,getElem?_eq_none->Bg,getElem?_eq_some_iff->Ac,getElem?_map->Bh,getElem?_of_mem->Cq,getElem?_range->Dj,getElem?_replicate->Ei,getElem?_set_ne->Ax,getElem?_set_self->Aq,getElem?_take->Fz,getElem?_take_of_lt->Bj,getElem_mem->Bd,getLast?_append->Mr,getLast?_eq_getElem?->Le,getLast?_eq_some_getLast->Ki,length->Lh,length_append->Ah,length_drop->Eg,length_pos_iff->Dw,length_take->Dl,map_cons->Bl,mem_append->Az,mem_cons->Bc,mem_map->Bq,mem_of_getElem?->Av,mem_of_mem_drop->Es,mem_of_mem_take->Cu,mem_range->Jg,nil_append->Bm,nodup_cons->Bx,nodup_nil->Hj,prefix_refl->Cl,range->Dr,replicate->Aj,size_toArray->Ge,take_left->Hg,take_zero->Ih
open Nat renaming add_assoc->Ka,add_mul->Bv,add_sub_cancel->Hn,add_sub_cancel_left->Hi,add_zero->Ff,beq->Aw,beq_refl->Nd,ble->Fp,blt->Ey,div_add_mod->Ft,div_lt_iff_lt_mul->Di,div_one->Ig,eq_zero_or_pos->Fi,le_div_iff_mul_le->Hu,le_of_ble_eq_true->Ci,le_refl->Bf,le_trans->Cx,lor->Nc,lt_of_lt_of_le->Em,lt_or_ge->Mz,min_eq_left->Gh,mod_eq_of_lt->Hd,mod_le->Lz,mod_lt->Ez,mod_one->Ix,mul_add_div->Km,mul_comm->Da,mul_le_mul_right->Bs,zero_add->Bw,zero_le->Bt
open Option renaming getD_some->Js,isSome_iff_exists->Cy,map_eq_some_iff->Cb,map_some->Mj
open Option.some renaming injEq->Dp
namespace Go.AW
open Go.RowKit
abbrev _root_.aw:=List Int
abbrev _root_.ay:=List UInt8
abbrev _root_.az:=List Nat
abbrev _root_.ba:=List Value
abbrev _root_.bc:=List Oper
def _root_.o_{P:Prop}(h:P:=by omega):P:=h
def _root_.d_{P:Prop}(h:P:=by decide):P:=h
def _root_.s_{P:Prop}(h:P:=by simp):P:=h
def _root_.q_{P:Prop}(h:P:=by simp;omega):P:=h
def bW:IntKind->Int
 | .i8=> -128 | .i16=> -32768 | .i32=> -2147483648 | .i64=> -9223372036854775808 | _=>0
def aW:IntKind->Int
 | .i8=>127 | .i16=>32767 | .i32=>2147483647 | .i64=>9223372036854775807
 | .u8=>255 | .u16=>65535 | .u32=>4294967295 | .u64=>18446744073709551615
def inR(k:IntKind)(n:Int):Prop:=bW k<=n/\n<=aW k
inductive Tk where
 | no | nil | full | own (k g:Nat)
inductive aa where
 | undef
 | bool (b:Bool)
 | int (k:IntKind) (n:Int)
 | str (l:ay)
 | slice (sz:Nat) (xs:List aa) (t:Tk)
 | agg (cs:List aa)
 | tup (vs:List aa)
 | ptr (cs:List aa)
 | ref (k off:Nat)
 | eref (k g i sz off:Nat)
 | csl (k off len sz:Nat)
 | row (k g:Nat)
 | sub (k g lo len sz:Nat)
 | rowc (k g c:Nat)
 | pre (k g n c sz:Nat)
 | mref (k:Nat)
 | nilptr | nilslice | nilmap | nilfunc | nilif
 | hsl (a:Option Addr) (n c:Nat)
 | func (fn:Fn) (first caps:List aa)
 | iface (t:TypeId) (v:aa)
abbrev _root_.ax:=List aa
abbrev _root_.ar:=List (Nat×aa)
def aa.cells:aa->ax
 | .agg cs=>cs
 | v=>[v]
abbrev Imm:=Nat->Nat->aa->Prop
def NoM(M:Imm)(b o:Nat):Prop:=∀ x,¬ M b o x
abbrev Hs:=List ba
def at'(ob:Hs)(k g:Nat):Option Value:=(ob[k]?).bind λ hs=>hs[g]?
def cV(ob ob':Hs):Prop:=∀ (k:Nat) hs,ob[k]? =some hs->∃ hs',ob'[k]? =some hs'/\hs<+:hs'
def cV.refl(ob:Hs):cV ob ob:=λ_ hs h=>⟨hs,h,Cl _⟩
def cV.trans{a b c:Hs}(h:cV a b)(k:cV b c):cV a c:=λ i hs g=>by obtain ⟨h1,j,l⟩:=h i hs g;obtain ⟨f,d,e⟩:=k i h1 j;exact ⟨f,d,l.trans e⟩
def cV.at{ob ob':Hs}(h:cV ob ob'){k g:Nat}{v:Value}(a:at' ob k g=some v):at' ob' k g=some v:=by
 unfold at' at *
 cases b:ob[k]? with
 | none=>grind
 | some hs=>
  rw [b] at a;obtain ⟨hs',e,p⟩:=h k hs b;rw [e];simp only [Option.bind_some] at a⊢;obtain ⟨t,rfl⟩:=p;rw [Af (Ac.1 a).1];exact a
def tG(ob:Hs)(v:Value):Tk->Prop
 | .no=>True
 | .nil=>v= .slice none 0 0
 | .full=>∃ a n,v= .slice a n n
 | .own k g=>at' ob k g=some v
def tG.mono{ob ob':Hs}(a:cV ob ob'){v:Value}{t:Tk}(h:tG ob v t):tG ob' v t:=by
 cases t with
 | own k g=>exact a.at h
 | _=>exact h
inductive Rep(M:Imm)(ob:Hs):Value->aa->Prop
 | undef (v):Rep M ob v .undef
 | bool (b):Rep M ob (.bool b) (.bool b)
 | int (k n) (h:inR k n):Rep M ob (.int k n) (.int k n)
 | str (l:ay) (h:(l.length:Int)<=9223372036854775807):Rep M ob (.string ⟨l.toArray⟩) (.str l)
 | agg (vs:ba) (as:ax) (hl:vs.length=as.length) (h:∀ (i:Nat) v a,vs[i]? =some v->as[i]? =some a->Rep M ob v a):Rep M ob (.agg vs.toArray) (.agg as)
 | tup (vs:ba) (as:ax) (hl:vs.length=as.length) (h:∀ (i:Nat) v a,vs[i]? =some v->as[i]? =some a->Rep M ob v a):Rep M ob (.tuple vs.toArray) (.tup as)
 | ptr (b o:Nat) (cs:ax) (h:∀ (j:Nat) c,cs[j]? =some c->M b (o+j) c):Rep M ob (.pointer (some ⟨b,o,none⟩)) (.ptr cs)
 | ref (k off b:Nat) (h:at' ob k 0=some (.pointer (some ⟨b,0,none⟩))):Rep M ob (.pointer (some ⟨b,off,none⟩)) (.ref k off)
 | eref (k g i sz off b n c:Nat) (h:at' ob k g=some (.slice (some ⟨b,0,none⟩) n c)):Rep M ob (.pointer (some ⟨b,i*sz+off,none⟩)) (.eref k g i sz off)
 | csl (k off len sz b:Nat) (h:at' ob k 0=some (.pointer (some ⟨b,0,none⟩))) (hm:(len:Int)<=9223372036854775807):Rep M ob (.slice (some ⟨b,off,none⟩) len len) (.csl k off len sz)
 | row (k g:Nat) (a:Option Addr) (n c:Nat) (h:at' ob k g=some (.slice a n c)):Rep M ob (.slice a n c) (.row k g)
 | sub (k g lo len sz b n c:Nat) (h:at' ob k g=some (.slice (some ⟨b,0,none⟩) n c)) (hl:lo<c) (hn:lo+len<=n) (hc:n<=c) (hm:(n:Int)<=9223372036854775807):Rep M ob (.slice (some ⟨b,lo*sz,none⟩) len (c-lo)) (.sub k g lo len sz)
 | sub0 (k g lo sz:Nat) (a a':Option Addr) (n c:Nat) (h:at' ob k g=some (.slice a n c)) (hl:lo=n) (hc:n=c):Rep M ob (.slice a' 0 0) (.sub k g lo 0 sz)
 | rowc (k g c:Nat) (a:Option Addr) (n:Nat) (h:at' ob k g=some (.slice a n c)) (hm:(c:Int)<=9223372036854775807):Rep M ob (.slice a n c) (.rowc k g c)
 | pre (k g n c sz b len:Nat) (h:at' ob k g=some (.slice (some ⟨b,0,none⟩) len c)) (hc:0<c) (hn:n<=len) (hl:len<=c) (hm:(c:Int)<=9223372036854775807):Rep M ob (.slice (some ⟨b,0,none⟩) n c) (.pre k g n c sz)
 | mref (k b:Nat) (h:at' ob k 0=some (.map (some b))):Rep M ob (.map (some b)) (.mref k)
 | nilptr:Rep M ob (.pointer none) .nilptr
 | nilslice:Rep M ob (.slice none 0 0) .nilslice
 | nilmap:Rep M ob (.map none) .nilmap
 | nilfunc:Rep M ob .nilFunc .nilfunc
 | nilif:Rep M ob .nilIface .nilif
 | hsl (a:Option Addr) (n c:Nat):Rep M ob (.slice a n c) (.hsl a n c)
 | slnil (sz:Nat) (t:Tk) (ht:tG ob (.slice none 0 0) t):Rep M ob (.slice none 0 0) (.slice sz [] t)
 | slemp (sz:Nat) (t:Tk) (a:Addr) (cap:Nat) (ht:tG ob (.slice (some a) 0 cap) t):Rep M ob (.slice (some a) 0 cap) (.slice sz [] t)
 | sl (sz b o n cap:Nat) (xs:ax) (t:Tk) (hn:xs.length=n) (hc:n<=cap) (hm:(n:Int)<=9223372036854775807) (hz:∀ x∈xs,x.cells.length=sz)
   (h:∀ (i j:Nat) x c,xs[i]? =some x->x.cells[j]? =some c->M b (o+i*sz+j) c) (ht:tG ob (.slice (some ⟨b,o,none⟩) n cap) t):Rep M ob (.slice (some ⟨b,o,none⟩) n cap) (.slice sz xs t)
 | func (fn:Fn) (fs cs:ba) (fa ca:ax) (hf:fs.length=fa.length) (hc:cs.length=ca.length)
   (h1:∀ (i:Nat) v a,fs[i]? =some v->fa[i]? =some a->Rep M ob v a) (h2:∀ (i:Nat) v a,cs[i]? =some v->ca[i]? =some a->Rep M ob v a):
   Rep M ob (.func fn fs.toArray cs.toArray) (.func fn fa ca)
 | iface (t:TypeId) (v:Value) (a:aa) (h:Rep M ob v a):Rep M ob (.iface t v) (.iface t a)
def Rep.mono{M M':Imm}{ob ob':Hs}(s:∀ b o x,M b o x->M' b o x)(d:cV ob ob'){v:Value}{a:aa}(h:Rep M ob v a):Rep M' ob' v a:=by
 induction h with
 | undef v=>exact .undef v
 | bool b=>exact .bool b
 | int k n h=>exact .int k n h
 | str l h=>exact .str l h
 | agg vs as hl _ m=>exact .agg vs as hl m
 | tup vs as hl _ m=>exact .tup vs as hl m
 | ptr b o cs h=>exact .ptr b o cs λ j c e=>s _ _ _ (h j c e)
 | ref k off b h=>exact .ref k off b (d.at h)
 | eref k g i sz off b n c h=>exact .eref k g i sz off b n c (d.at h)
 | csl k off len sz b h hm=>exact .csl k off len sz b (d.at h) hm
 | row k g a n c h=>exact .row k g a n c (d.at h)
 | sub k g lo len sz b n c h hl f e hm=>exact .sub k g lo len sz b n c (d.at h) hl f e hm
 | sub0 k g lo sz a A n c h hl e=>exact .sub0 k g lo sz a A n c (d.at h) hl e
 | rowc k g c a n h hm=>exact .rowc k g c a n (d.at h) hm
 | pre k g n c sz b len h e f hl hm=>exact .pre k g n c sz b len (d.at h) e f hl hm
 | mref k b h=>exact .mref k b (d.at h)
 | nilptr=>exact .nilptr
 | nilslice=>exact .nilslice
 | nilmap=>exact .nilmap
 | nilfunc=>exact .nilfunc
 | nilif=>exact .nilif
 | hsl a n c=>exact .hsl a n c
 | slnil sz t p=>exact .slnil sz t (p.mono d)
 | slemp sz t a cap p=>exact .slemp sz t a cap (p.mono d)
 | sl sz b o n cap xs t f e hm hz h p=>exact .sl sz b o n cap xs t f e hm hz (λ i j x c w C=>s _ _ _ (h i j x c w C)) (p.mono d)
 | func fn y cs u z B e _ _ r q=>exact .func fn y cs u z B e r q
 | iface t v a _ m=>exact .iface t v a m
def DN(ob:Hs):cV [] ob:=λ k hs h=>by simp at h
def Rep.pure{M:Imm}{ob:Hs}{v:Value}{a:aa}(h:Rep M [] v a):Rep M ob v a:=h.mono (λ_ _ _ h=>h) (DN ob)
def Rep.monoM{M M':Imm}{ob:Hs}{v:Value}{a:aa}(h:Rep M ob v a)(c:∀ b o x,M b o x->M' b o x):Rep M' ob v a:=h.mono c (cV.refl _)
structure BInv where
 inv:Imm->az->World->Prop
 mono:∀ {M M':Imm} {bs:az} {w w':World},(∀ b o x,M b o x->M' b o x)->(∀ b,b∈bs->∀ o,NoM M b o->NoM M' b o)->(∀ b c,b∈bs->w.heap[b]? =some c->w'.heap[b]? =some c)->inv M bs w->inv M' bs w'
def DI:Obj->Bool
 | .deferred _=>true
 | _=>false
def dX(bs:az):Value:=.tuple (bs.map λ b=>Value.map (some b)).toArray
inductive ab where
 | dead
 | cells (T:TypeId) (cs:ax)
 | fcells (cs:ax)
 | row (g sz:Nat) (e:TypeId) (xs:ax)
 | frow (g sz:Nat) (xs:ax)
 | tail (g sz:Nat) (e:TypeId)
 | mp (ag:Bool) (es:List (aw×aa))
 | bun (g:Nat) (I:BInv)
abbrev _root_.au:=List ab
def aKF:Value->Option Nat
 | .map (some b)=>some b
 | _=>none
def KH:Value->az
 | .pointer (some a)=>[a.block]
 | .slice (some a) _ _=>[a.block]
 | .map (some b)=>[b]
 | .tuple vs=>vs.toList.filterMap aKF
 | _=>[]
def blk(hs:ba):az:=match hs.getLast? with | some v=>KH v | none=>[]
def BF{hs:ba}{bs:az}(h:hs.getLast? =some (dX bs)):blk hs=bs:=by
 unfold blk;rw [h];show (bs.map λ b=>Value.map (some b)).filterMap aKF=bs;clear h;induction bs with
 | nil=>rfl
 | cons b r a=>simp only [Bl,List.filterMap_cons,aKF,a]
def dS{b c:Nat}:b∈([c]:az)↔c=b:=by grind
def ab.owns:ab->Bool
 | .dead | .fcells _ | .frow _ _ _=>false
 | _=>true
def cellAt(sz:Nat)(xs:ax)(q:Nat):Option aa:=(xs[q / sz]?).bind λ x=>x.cells[q % sz]?
def S3(w:World)(v:Value):Prop:=∀ b,v.ownBlock=some b->∀ a T c,w.heap[b]? =some (.cells a T c)->∀ u∈a.toList,u.oneCell'=true
def dM(M:Imm)(w:World)(v:Value)(sz:Nat)(e:TypeId)(xs:ax):Prop:=
 ∃ cv,w.ownsRow 0 e sz v xs.length cv/\(∀ u∈cv,u.oneCell'=true)/\(∀ x∈xs,x.cells.length=sz)/\
  (∀ (q:Nat) c,cellAt sz xs q=some c->∃ u,cv[q]? =some u/\Rep M [] u c)/\(∀ b,v.ownBlock=some b->∀ o,NoM M b o)/\S3 w v
def fQ(a:Bool)(l:aw):Value:=if a then .agg (l.map (Dz .i64)).toArray else .int .i64 (l.headD 0)
def aAc(M:Imm)(w:World)(b:Nat)(d:Bool)(es:List (aw×aa)):Prop:=
 ∃ (c:List MapEntry) (a:Nat),w.heap[b]? =some (.map c.toArray a)/\c.length=es.length/\(∀ (i:Nat) x y,c[i]? =some x->es[i]? =some y->x.key=fQ d y.1/\(d=false->y.1.length=1)/\Rep M [] x.val y.2)/\
  (∀ (i:Nat) x,c[i]? =some x->x.born<a)/\∀ (i j:Nat) x y,c[i]? =some x->c[j]? =some y->x.born=y.born->i=j
def gX(M:Imm)(ob:Hs)(w:World)(hs:ba):ab->Prop
 | .dead=>True
 | .cells T cs=>∃ b,hs=[.pointer (some ⟨b,0,none⟩)]/\(∀ o,NoM M b o)/\∃ (cv:ba),w.heap[b]? =some (.cells cv.toArray T (0,0))/\cv.length=cs.length/\(∀ v∈cv,v.oneCell'=true)/\
   ∀ (i:Nat) v a,cv[i]? =some v->cs[i]? =some a->Rep M ob v a
 | .fcells cs=>∃ b,hs=[.pointer (some ⟨b,0,none⟩)]/\∀ (j:Nat) c,cs[j]? =some c->M b j c
 | .row g sz e xs=>hs.length=g+1/\∃ v,hs[g]? =some v/\dM M w v sz e xs
 | .frow g sz xs=>∃ v,hs[g]? =some v/\Rep M [] v (.slice sz xs .no)
 | .tail g sz e=>hs.length=g+1/\∃ v,hs[g]? =some v/\∃ n cv,w.ownsRow 0 e sz v n cv/\∀ b,v.ownBlock=some b->∀ o,n*sz<=o->NoM M b o
 | .mp d es=>∃ b,hs=[.map (some b)]/\(∀ o,NoM M b o)/\aAc M w b d es
 | .bun g I=>hs.length=g+1/\∃ bs,hs[g]? =some (dX bs)/\(∀ b,b∈bs->∃ o,w.heap[b]? =some o/\DI o=false)/\I.inv M bs w
def aG(ob:Hs)(ac:au)(k b:Nat):Prop:=∃ c hs,ac[k]? =some c/\c.owns=true/\ob[k]? =some hs/\b∈blk hs
structure Mem(M:Imm)(ob:Hs)(ac:au)(w:World):Prop where
 imm:∀ b o x,M b o x->∃ v,w.cell? ⟨b,o,none⟩=some v/\v.oneCell'=true/\Rep M [] v x
 len:ob.length=ac.length
 obj:∀ (k:Nat) c,ac[k]? =some c->∃ hs,ob[k]? =some hs/\gX M ob w hs c
 lt:∀ k b,aG ob ac k b->b<w.heap.size
 inj:∀ k k' b,aG ob ac k b->aG ob ac k' b->k=k'
structure Ext(M:Imm)(ob:Hs)(ac:au)(w:World)(M':Imm)(ob':Hs)(ao:au)(w':World):Prop where
 imm:∀ b o x,M b o x->M' b o x
 new:∀ b o x,M' b o x->M b o x\/w.heap.size<=b\/∃ k,aG ob ac k b
 hs:cV ob ob'
 os:w'.os=w.os
 tape:w'.tape=w.tape
 output:w'.output=w.output
 size:w.heap.size<=w'.heap.size
 keep:∀ b,b<w.heap.size->(∀ k,¬ aG ob ac k b)->w'.heap[b]? =w.heap[b]?
 fresh:∀ k b,aG ob' ao k b->(∃ k',aG ob ac k' b)\/w.heap.size<=b
def Ext.refl(M:Imm)(ob:Hs)(ac:au)(w:World):Ext M ob ac w M ob ac w where
 imm _ _ _ h:=h
 new _ _ _ h:=.inl h
 hs:=cV.refl _
 os:=rfl
 tape:=rfl
 output:=rfl
 size:=Bf _
 keep _ _ _:=rfl
 fresh k _ h:=.inl ⟨k,h⟩
def Ext.trans{M M1 M2:Imm}{ob ob1 ob2:Hs}{ac obs1 obs2:au}{w w1 w2:World}(h:Ext M ob ac w M1 ob1 obs1 w1)(k:Ext M1 ob1 obs1 w1 M2 ob2 obs2 w2):
  Ext M ob ac w M2 ob2 obs2 w2 where
 imm b o x hx:=k.imm _ _ _ (h.imm _ _ _ hx)
 new b o x hx:=by
  rcases k.new b o x hx with h1 | h1 | ⟨i,hi⟩
  .exact h.new b o x h1
  .exact .inr (.inl (Cx h.size h1))
  .rcases h.fresh i b hi with h2 | h2
   .grind
   omega
 hs:=h.hs.trans k.hs
 os:=k.os.trans h.os
 tape:=k.tape.trans h.tape
 output:=k.output.trans h.output
 size:=Cx h.size k.size
 keep b hb ho:=by
  rw [<-h.keep b hb ho];refine k.keep b (Em hb h.size) λ i hi=>?_;rcases h.fresh i b hi with ⟨j,hj⟩ | h2
  .grind
  .omega
 fresh i b hi:=by
  rcases k.fresh i b hi with ⟨j,hj⟩ | h1
  .exact h.fresh j b hj
  .exact .inr (Cx h.size h1)
def cI(ob:Hs)(ac:au)(ob':Hs)(ao:au):Prop:=∀ (k:Nat) hs,ac[k]? =some .dead->ob[k]? =some hs->
 (hs≠[]->ao[k]? =some .dead/\ob'[k]? =some hs)/\(hs=[]->ao[k]? =some .dead->ob'[k]? =some [])
def cI.refl(ob:Hs)(ac:au):cI ob ac ob ac:=λ_ _ h1 a=>⟨λ_=>⟨h1,a⟩,λ e _=>e▸a⟩
def fA{w:World}{b:Nat}{x:Obj}(a:w.heap[b]? =some x):b<w.heap.size:=(Ep.1 a).1
def dM.mono{M M':Imm}{w w':World}{v:Value}{sz:Nat}{e:TypeId}{xs:ax}(h:dM M w v sz e xs)(y:∀ b o x,M b o x->M' b o x)
  (p:∀ b,v.ownBlock=some b->(∀ o,NoM M b o)->∀ o,NoM M' b o) (l:∀ b c,v.ownBlock=some b->w.heap[b]? =some c->w'.heap[b]? =some c):dM M' w' v sz e xs:=by
 obtain ⟨cv,⟨h1,f⟩,h3,s,B,t,m⟩:=h;refine ⟨cv,⟨h1,?_⟩,h3,s,λ q c j=>?_,λ b e=>p b e (t b e),λ b e d T C j=>?_⟩
 .rcases f with f | ⟨g,cap,d,a,A,i,r⟩
  .exact .inl f
  .exact .inr ⟨g,cap,d,a,A,l g _ (by rw [a];rfl) i,r⟩
 .obtain ⟨u,z,n⟩:=B q c j;exact ⟨u,z,n.monoM y⟩
 .rcases f with ⟨rfl,_⟩ | ⟨g,cap,k,a,_,i,_⟩
  .cases e
  .rw [a] at e;cases e;have:=l g _ (by rw [a];rfl) i;rw [j] at this;cases this;exact m g (by rw [a];rfl) _ _ _ i
def gX.mono{M M':Imm}{ob ob':Hs}{w w':World}{hs:ba}{x:ab}(h:gX M ob w hs x)(q:∀ b o x,M b o x->M' b o x)(D:cV ob ob')
  (u:∀ b,x.owns=true->b∈blk hs->∀ o,NoM M b o->NoM M' b o) (s:∀ b c,x.owns=true->b∈blk hs->w.heap[b]? =some c->w'.heap[b]? =some c):gX M' ob' w' hs x:=by
 have f:∀ {g:Nat} {v:Value},hs.length=g+1->hs[g]? =some v->blk hs=KH v:=λ{g v} hl z=>by unfold blk;rw [Le,hl,Hn,z]
 have t:∀ {v:Value} {b:Nat},v.ownBlock=some b->b∈KH v:=λ{v b} h=>by
  unfold Gd at h;split at h
  .cases h;simp [KH]
  .cases h
 have k:∀ {v:Value} {b:Nat},blk hs=KH v->v.ownBlock=some b->b∈blk hs:=λ{v b} h1 d=>by rw [h1];exact t d
 cases x with
 | dead=>trivial
 | cells T cs=>
  obtain ⟨b,rfl,h1,cv,d,h3,m,p⟩:=h;exact ⟨b,rfl,λ o=>u b rfl (dS.2 rfl) o (h1 o),cv,s b _ rfl (dS.2 rfl) d,h3,m,λ i v a z O=>(p i v a z O).mono q D⟩
 | fcells cs=>
  obtain ⟨b,rfl,h1⟩:=h;exact ⟨b,rfl,λ j c K=>q _ _ _ (h1 j c K)⟩
 | row g sz e xs=>
  obtain ⟨h1,v,d,h3⟩:=h;exact ⟨h1,v,d,h3.mono q (λ b e F o=>u b rfl (k (f h1 d) e) o (F o)) (λ b c e=>s b c rfl (k (f h1 d) e))⟩
 | frow g sz xs=>
  obtain ⟨v,h1,d⟩:=h;exact ⟨v,h1,d.monoM q⟩
 | tail g sz e=>
  obtain ⟨h1,v,d,n,cv,⟨h3,m⟩,p⟩:=h;refine ⟨h1,v,d,n,cv,⟨h3,?_⟩,λ b e o D=>u b rfl (k (f h1 d) e) o (p b e o D)⟩;rcases m with m | ⟨G,cap,A,H,P,N,r⟩
  .exact .inl m
  .exact .inr ⟨G,cap,A,H,P,s G _ rfl (k (f h1 d) (by rw [H];rfl)) N,r⟩
 | mp Q es=>
  obtain ⟨b,rfl,h1,J,cl,d,h3,m,p⟩:=h;exact ⟨b,rfl,λ o=>u b rfl (dS.2 rfl) o (h1 o),J,cl,s b _ rfl (dS.2 rfl) d,h3,λ i x y C B=>⟨(m i x y C B).1,(m i x y C B).2.1,(m i x y C B).2.2.monoM q⟩,p⟩
 | bun g I=>
  obtain ⟨h1,bs,d,h3,m⟩:=h;have e:blk hs=bs:=by rw [<-BF (hs:=[dX bs]) rfl];exact f h1 d
  refine ⟨h1,bs,d,λ b l=>?_,I.mono q (λ b l=>u b rfl (by rw [e];exact l)) (λ b c l=>s b c rfl (by rw [e];exact l)) m⟩;obtain ⟨o,p,L⟩:=h3 b l;exact ⟨o,s b _ rfl (by rw [e];exact l) p,L⟩
def Mem.same{M:Imm}{ob:Hs}{ac:au}{w w':World}(h:Mem M ob ac w)(hs:w.heap.size<=w'.heap.size)
  (j:∀ b,b<w.heap.size->w'.heap[b]? =w.heap[b]?):Mem M ob ac w':=by
 refine ⟨λ b o x m=>?_,h.len,λ k c d=>?_,λ k b e=>Em (h.lt k b e) hs,h.inj⟩
 .obtain ⟨v,i,l⟩:=h.imm b o x m;exact ⟨v,(Co (w:=w) (a:=⟨b,o,none⟩) (j b (Cp w _ i))).trans i,l⟩
 .obtain ⟨hs',f,g⟩:=h.obj k c d;exact ⟨hs',f,g.mono (λ_ _ _ h=>h) (cV.refl _) (λ_ _ _ _ h=>h) (λ b c _ _ d=>(j b (fA d)).trans d)⟩
def Mem.noImm{M:Imm}{ob:Hs}{ac:au}{w:World}(h:Mem M ob ac w){b:Nat}(d:w.heap.size<=b)(o:Nat):NoM M b o:=by
 intro x a;obtain ⟨v,c,_⟩:=h.imm b o x a;have:=Cp w _ c
 grind
inductive TK where
 | int (k:IntKind) | bool | str | strct (fs:List (Nat×Nat×Bool)) | arr (n esz:Nat) (eagg:Bool) | slc (e esz ebytes:Nat) | ptr (e:Nat) | iface | mp (k e:Nat) | other
structure TI where
 kind:TK
 size:Nat
 agg:Bool
 zero:aa
abbrev Tab:=List (Nat×TI)
def cU:Tab->Nat->Option TI
 | [],_=>none
 | (i,x)::r,n=>bif Aw i n then some x else cU r n
abbrev aEN:=List (Nat×String×Nat)
def aCp:aEN->Nat->String->Option Nat
 | [],_,_=>none
 | (i,s,f)::r,n,m=>bif (Aw i n&&s==m) then some f else aCp r n m
structure Env where
 P:Program
 T:Tab
 mt:aEN
 fl:List (Nat×Nat)
 own:az
 rws:az
 bl:az
 df:List (Nat×ax)
 rd:Option Nat:=none
def tF(n:Nat):az->Bool
 | []=>false
 | x::r=>Aw x n||tF n r
def aU:ar->Nat->aa
 | [],_=>.undef
 | (i,v)::r,n=>bif Aw i n then v else aU r n
def gR:ar->Nat->aa->ar
 | [],n,x=>[(n,x)]
 | (i,v)::r,n,x=>bif Aw i n then (n,x)::r else (i,v)::gR r n x
def aB:au->Nat->ab
 | [],_=>.dead
 | x::_,0=>x
 | _::r,n+1=>aB r n
def bJ:au->Nat->ab->au
 | [],0,y=>[y]
 | [],n+1,y=>.dead::bJ [] n y
 | _::r,0,y=>y::r
 | x::r,n+1,y=>x::bJ r n y
def aM:au->Nat
 | []=>0
 | _::r=>aM r+1
def kP:Nat->ax->ax
 | 0,l=>l
 | _+1,[]=>[]
 | n+1,_::l=>kP n l
def lW:Nat->ax->Option ax
 | 0,_=>some []
 | _+1,[]=>none
 | n+1,c::l=>match lW n l with | some r=>some (c::r) | none=>none
def SH:ax->ax->Option ax
 | [],l=>some l
 | _::_,[]=>none
 | c::r,_::l=>match SH r l with | some x=>some (c::x) | none=>none
def nM:Nat->ax->ax->Option ax
 | 0,new,l=>SH new l
 | _+1,_,[]=>none
 | n+1,new,c::l=>match nM n new l with | some x=>some (c::x) | none=>none
def OX:ax->Nat
 | []=>0
 | _::r=>OX r+1
def nth{α:Type}:List α->Nat->Option α
 | [],_=>none
 | x::_,0=>some x
 | _::r,n+1=>nth r n
def Z4:ax->ax->ax
 | [],l=>l
 | c::r,l=>c::Z4 r l
def dO(f:aa->aa):ax->ax
 | []=>[]
 | c::r=>f c::dO f r
def aI5:IntKind->Nat
 | .i8=>127 | .i16=>32767 | .i32=>2147483647 | .i64=>9223372036854775807
 | .u8=>255 | .u16=>65535 | .u32=>4294967295 | .u64=>18446744073709551615
def aCI:IntKind->Nat
 | .i8=>128 | .i16=>32768 | .i32=>2147483648 | .i64=>9223372036854775808 | _=>0
def aHd(k:IntKind):Int->Bool
 | .ofNat m=>Fp m (aI5 k)
 | .negSucc m=>Ey m (aCI k)
def aCz:ay->Nat
 | []=>0
 | _::r=>aCz r+1
def aIm:Value->aa
 | .bool b=>.bool b
 | .int k n=>bif aHd k n then .int k n else .undef
 | .string s=>bif Fp (aCz s.data.toList) 1000000 then .str s.data.toList else .undef
 | .slice none 0 0=>.nilslice
 | .pointer none=>.nilptr
 | .map none=>.nilmap
 | .nilFunc=>.nilfunc
 | .nilIface=>.nilif
 | _=>.undef
def ev(fr:ar):Operand->aa
 | .tmp t=>aU fr t
 | .const v=>aIm v
 | .func f=>.func (.func f) [] []
 | .global _=>.undef
def one:aa->Bool
 | .undef | .agg _ | .tup _=>false
 | _=>true
def pG:ax->Bool
 | []=>true
 | c::r=>one c&&pG r
def CY:aa->Bool
 | .undef=>false
 | _=>true
def ah(og:Nat->ab):Nat->aa->aa
 | 0,_=>.undef
 | n+1,v=>match v with
  | .slice sz xs _=>.slice sz xs .no
  | .agg cs=>.agg (dO (ah og n) cs)
  | .tup cs=>.tup (dO (ah og n) cs)
  | .func fn a cs=>.func fn (dO (ah og n) a) (dO (ah og n) cs)
  | .iface t v=>.iface t (ah og n v)
  | .ref k off=>(match og k with | .fcells cs=>.ptr (kP off cs) | _=>.undef)
  | .csl k off len sz=>(match og k with | .fcells cs=>bif Aw sz 1 then (match lW len (kP off cs) with | some l=>bif pG l then .slice 1 l .full else .undef | none=>.undef) else .undef | _=>.undef)
  | .row k g=>(match og k with | .frow g' sz xs=>bif Aw g g' then .slice sz xs .no else .undef | _=>.undef)
  | .sub k g lo len sz=>(match og k with | .frow g' sz' xs=>bif Aw g g'&&Aw sz sz' then .slice sz ((xs.drop lo).take len) .no else .undef | _=>.undef)
  | .eref _ _ _ _ _=>.undef
  | .rowc _ _ _=>.undef
  | .pre _ _ _ _ _=>.undef
  | .mref _=>.undef
  | v=>v
def foldO(f:au->aa->au):au->ax->au
 | ac,[]=>ac
 | ac,c::r=>foldO f (f ac c) r
def frz1(ac:au)(k:Nat):au:=match aB ac k with
 | .cells _ cs=>bJ ac k (.fcells (dO (ah (aB ac) 4) cs))
 | _=>ac
def frzR(ac:au)(k g:Nat):au:=match aB ac k with
 | .row a sz _ xs=>bif Aw g a then bJ ac k (.frow g sz xs) else ac
 | _=>ac
def frzV:Nat->au->aa->au
 | 0,ac,_=>ac
 | n+1,ac,v=>match v with
  | .agg cs=>foldO (frzV n) ac cs
  | .tup cs=>foldO (frzV n) ac cs
  | .func _ a cs=>foldO (frzV n) (foldO (frzV n) ac a) cs
  | .iface _ v=>frzV n ac v
  | .ref k _=>(match aB ac k with | .cells _ cs=>frz1 (foldO (frzV n) ac cs) k | _=>ac)
  | .csl k _ _ _=>(match aB ac k with | .cells _ cs=>frz1 (foldO (frzV n) ac cs) k | _=>ac)
  | .row k g=>frzR ac k g
  | .sub k g _ _ _=>frzR ac k g
  | _=>ac
def frzL(ac:au)(l:ax):au:=foldO (frzV 6) ac l
def aj:az->au->au
 | [],ac=>ac
 | k::r,ac=>aj r (match aB ac k with
  | .row g _ _ _=>frzR ac k g
  | .cells _ _=>frzV 6 ac (.ref k 0)
  | _=>ac)
inductive OR where
 | no
 | val (v:aa)
 | mkf (fn:Fn) (fs cs:ax)
 | need (p:Prop) (r:OR)
 | alt (p:Prop) (v w:aa)
 | idx (n:Int) (k:Nat->OR)
 | elem (xs:ax) (i:Nat) (k:aa->OR)
 | byte (l:ay) (i:Nat)
 | text (xs:ax)
 | find (es:List (aw×aa)) (key:aw) (k:Option aa->OR)
 | born (x:ab) (v:aa)
 | upd (k:Nat) (x:ab) (v:aa)
 | nilq (xs:ax) (neg:Bool)
 | call (f:Fn) (args:ax)
 | pan (v:aa)
def OR.bind:OR->(aa->OR)->OR
 | .val v,k=>k v
 | .need p r,k=>.need p (r.bind k)
 | .elem xs i f,k=>.elem xs i λ x=>(f x).bind k
 | .idx n f,k=>.idx n λ i=>(f i).bind k
 | _,_=>.no
def dK:BinOp->IntKind->Int->Int->Int
 | op,k,x,y=>
  let a:=BitVec.ofInt k.bits x
  let b:=BitVec.ofInt k.bits y
  match op with
  | .and=>k.wrap (a &&& b).toNat
  | .or=>k.wrap (a ||| b).toNat
  | .xor=>k.wrap (a ^^^ b).toNat
  | _=>k.wrap (a &&& ~~~b).toNat
def D5(k:IntKind)(n:Int):OR:=.alt (inR k n) (.int k n) (.int k (k.wrap n))
def aCL:IntKind->IntKind->Bool
 | .i8,.i8 | .i16,.i16 | .i32,.i32 | .i64,.i64 | .u8,.u8 | .u16,.u16 | .u32,.u32 | .u64,.u64=>true
 | _,_=>false
def aNl(op:BinOp)(k:IntKind)(x y:Int):OR:=
 match op with
 | .add=>D5 k (x+y)
 | .sub=>D5 k (x-y)
 | .mul=>D5 k (x*y)
 | .quo=>.need (y≠0) (.alt (inR k (x.tdiv y)) (.int k (x.tdiv y)) (.int k (k.wrap (x.tdiv y))))
 | .rem=>.need (y≠0) (.val (.int k (x.tmod y)))
 | .and=>.val (.int k (dK .and k x y))
 | .or=>.val (.int k (dK .or k x y))
 | .xor=>.val (.int k (dK .xor k x y))
 | .andNot=>.val (.int k (dK .andNot k x y))
 | .eql=>.val (.bool (x==y))
 | .neq=>.val (.bool (x !=y))
 | .lss=>.val (.bool (decide (x<y)))
 | .leq=>.val (.bool (decide (x<=y)))
 | .gtr=>.val (.bool (decide (y<x)))
 | .geq=>.val (.bool (decide (y<=x)))
 | _=>.no
def ceq:ax->ax->Option Bool
 | [],[]=>some true
 | .int k a::r,.int k' b::s=>bif aCL k k' then (match ceq r s with | some c=>some ((a==b)&&c) | none=>none) else none
 | _,_=>none
def AP:List (Nat×Nat)->Nat->Nat
 | [],_=>0
 | (i,n)::r,t=>bif Aw i t then n else AP r t
def vZ(op:BinOp)(c:Bool):OR:=
 match op with
 | .eql=>.val (.bool c)
 | .neq=>.val (.bool (!c))
 | _=>.no
def aKu(op:BinOp)(xs:ax):OR:=
 match op with
 | .eql=>.nilq xs false
 | .neq=>.nilq xs true
 | _=>.no
def isC:Operand->Bool
 | .const _=>true
 | _=>false
def aLo(E:Env)(og:Nat->ab)(d:Bool)(op:BinOp)(t:Nat)(a b:aa):OR:=
 match a,b with
 | .int k x,.int k' y=>
  (match op with
  | .shl=>.need (0<=y) (.alt (y.toNat<=k.bits/\inR k (x*2 ^ y.toNat)) (.int k (x*2 ^ y.toNat)) (.int k (k.wrap (x*2 ^ (min y.toNat k.bits)))))
  | .shr=>.need (0<=y/\y.toNat<=k.bits) (.val (.int k (x.fdiv (2 ^ y.toNat))))
  | op=>bif aCL k k' then aNl op k x y else .no)
 | .str x,.str y=>
  (match op with
  | .add=>.need (((x.length+y.length:Nat):Int)<=9223372036854775807) (.val (.str (x++y)))
  | .eql=>.val (.bool (x==y))
  | .neq=>.val (.bool (!(x==y)))
  | .lss=>.val (.bool (Op.bytesLess x y))
  | .leq=>.val (.bool (Op.bytesLess x y||x==y))
  | .gtr=>.val (.bool (!(Op.bytesLess x y||x==y)))
  | .geq=>.val (.bool (!Op.bytesLess x y))
  | _=>.no)
 | .agg xs,.agg ys=>
  bif Ey 0 (AP E.fl t)&&Aw (OX xs) (AP E.fl t) then
   (match op,ceq xs ys with
   | .eql,some c=>.val (.bool c)
   | .neq,some c=>.val (.bool (!c))
   | _,_=>.no)
  else .no
 | a,b=>match cU E.T t with
  | none=>.no
  | some f=>match f.kind,a,b with
   | .bool,.bool x,.bool y=>vZ op (x==y)
   | .slc _ _ _,.slice _ _ .nil,.nilslice=>vZ op true
   | .slc _ _ _,.nilslice,.nilslice=>vZ op true
   | .slc _ _ _,.slice _ xs _,.nilslice=>aKu op xs
   | .ptr _,.nilptr,.nilptr=>vZ op true
   | .ptr _,.ref _ _,.nilptr=>vZ op false
   | .ptr _,.ptr _,.nilptr=>vZ op false
   | .ptr e,.ref k o,.ref k' o'=>(match cU E.T e with
    | some _=>bif Aw k k'&&Aw o o' then vZ op true else .no
    | none=>.no)
   | .iface,.nilif,.nilif=>bif d then vZ op true else .no
   | .iface,.iface _ _,.nilif=>vZ op false
   | .iface,.nilif,.iface _ _=>vZ op false
   | _,_,_=>.no
def mk(a:TI)(l:ax):Option aa:=
 bif a.agg then some (.agg l) else match l with
  | [c]=>some c
  | _=>none
def fin(a:TI)(l:Option ax):OR:=
 match l with
 | none=>.no
 | some l=>match mk a l with
  | none=>.no
  | some v=>.val v
def WI(E:Env)(og:Nat->ab)(t:Nat)(a:aa):OR:=
 match cU E.T t with
 | none=>.no
 | some b=>match a with
  | .ptr cs=>fin b (lW b.size cs)
  | .ref k off=>(match og k with
   | .cells _ cs=>fin b (lW b.size (kP off cs))
   | .fcells cs=>fin b (lW b.size (kP off cs))
   | _=>.no)
  | .eref k g i sz off=>(match og k with
   | .row d c _ xs=>bif Aw g d&&Aw sz c then .elem xs i λ x=>fin b (lW b.size (kP off x.cells)) else .no
   | _=>.no)
  | _=>.no
def aI2:ax->aa
 | [c]=>c
 | _=>.undef
def aKa(x:aa)(cs:ax):aa:=
 match x with
 | .agg _=>.agg cs
 | _=>aI2 cs
def RL(E:Env)(og:Nat->ab)(t:Nat)(a v:aa):OR:=
 match cU E.T t with
 | none=>.no
 | some c=>
  bif pG v.cells&&Aw (OX v.cells) c.size then
   match a with
   | .ref k off=>(match og k with
    | .cells T cs=>(match nM off v.cells cs with
     | some cs=>.upd k (.cells T cs) .undef
     | none=>.no)
    | _=>.no)
   | .eref k g i sz off=>(match og k with
    | .row d b e xs=>
     bif ((Aw g d&&Aw sz b)&&Fp 1 sz)&&pG (ah og 4 v).cells then
            (bif Aw off 0&&Aw c.size sz then .need (i<xs.length) (.upd k (.row g sz e (xs.set i (ah og 4 v))) .undef)
            else .elem xs i λ x=>match nM off (ah og 4 v).cells x.cells with
             | some cs=>.upd k (.row g sz e (xs.set i (aKa x cs))) .undef
             | none=>.no)
     else .no
    | _=>.no)
   | _=>.no
  else .no
def RX(E:Env)(s:Nat)(a:aa)(f:Nat):OR:=
 match cU E.T s with
 | some {kind:=.strct fs,..}=>(match nth fs f with
  | none=>.no
  | some (off,sz,ag)=>match a with
   | .agg cs=>(match lW sz (kP off cs) with
    | none=>.no
    | some l=>bif ag then .val (.agg l) else match l with
     | [c]=>.val c
     | _=>.no)
   | _=>.no)
 | _=>.no
def uO(E:Env)(s:Nat)(a:aa)(f:Nat):OR:=
 match cU E.T s with
 | some {kind:=.strct fs,..}=>(match nth fs f with
  | none=>.no
  | some (off,sz,_)=>
   bif Aw sz 0 then .no else
   match a with
   | .ptr cs=>.val (.ptr (kP off cs))
   | .ref k x=>.val (.ref k (x+off))
   | .eref k g i z x=>.val (.eref k g i z (x+off))
   | _=>.no)
 | _=>.no
def uN(E:Env)(og:Nat->ab)(t:Nat)(a i:aa):OR:=
 match cU E.T t,i with
 | some ti,.int _ n=>(match ti.kind with
  | .slc _ b _=>(match a with
   | .slice sz xs _=>bif Aw sz b then .idx n λ i=>.elem xs i λ x=>.val (.ptr x.cells) else .no
   | .row k g=>(match og k with
    | .row c sz _ xs=>bif Aw g c&&Aw sz b then .idx n λ i=>.need (i<xs.length) (.val (.eref k g i sz 0)) else .no
    | .frow c sz xs=>bif Aw g c&&Aw sz b then .idx n λ i=>.elem xs i λ x=>.val (.ptr x.cells) else .no
    | _=>.no)
   | .sub k g lo len sz=>(match og k with
    | .row c d _ _=>bif (Aw g c&&Aw sz d)&&Aw sz b then .idx n λ i=>.need (i<len) (.val (.eref k g (lo+i) sz 0)) else .no
    | _=>.no)
   | _=>.no)
  | .arr len b _=>(match a with
   | .ref k off=>.need (0<=n/\n.toNat<len) (.val (.ref k (off+n.toNat*b)))
   | .ptr cs=>.need (0<=n/\n.toNat<len) (.val (.ptr (kP (n.toNat*b) cs)))
   | _=>.no)
  | _=>.no)
 | _,_=>.no
def RW(E:Env)(t:Nat)(a i:aa):OR:=
 match a,i with
 | .str l,.int _ n=>(match cU E.T t with
  | some {kind:=.str,..}=>.idx n λ i=>.byte l i
  | _=>.no)
 | .agg cs,.int _ n=>(match cU E.T t with
  | some {kind:=.arr len esz ag,..}=>(match lW esz (kP (n.toNat*esz) cs) with
   | some l=>bif ag then .need (0<=n/\n<len) (.val (.agg l)) else (match l with | [c]=>.need (0<=n/\n<len) (.val c) | _=>.no)
   | none=>.no)
  | _=>.no)
 | _,_=>.no
def D2(place:Nat->Option (Nat×Nat)):ax->ar->Option ax
 | cs,[]=>some cs
 | cs,(i,v)::r=>match place i with
  | none=>none
  | some (off,sz)=>bif CY v&&Aw (OX v.cells) sz then (match nM off v.cells cs with | some cs=>D2 place cs r | none=>none) else none
def RZ(E:Env)(t:Nat)(a:ar):OR:=
 match cU E.T t with
 | some b=>(match b.kind,b.zero with
  | .strct fs,.agg z=>(match D2 (λ i=>(nth fs i).map λ f=>(f.1,f.2.1)) z a with
   | some cs=>.val (.agg cs)
   | none=>.no)
  | .arr _ esz _,.agg z=>(match D2 (λ i=>some (i*esz,esz)) z a with
   | some cs=>.val (.agg cs)
   | none=>.no)
  | _,_=>.no)
 | _=>.no
def pX(hint base sz:Nat)(e:TypeId)(xs:ax):OR:=
 match hint with
 | 2=>.born (.row 0 sz e xs) (.row base 0)
 | _=>.born (.tail 0 sz e) (.slice sz xs (.own base 0))
def D3(og:Nat->ab)(a:Nat):Nat->ar->Option ax
 | _,[]=>some []
 | n,(i,v)::r=>(λ v=>bif Aw i n&&Aw (OX v.cells) a&&pG v.cells then (match D3 og a (n+1) r with | some l=>some (v::l) | none=>none) else none) (ah og 4 v)
def aBT:ar->Nat
 | []=>0
 | _::r=>aBT r+1
def mY(E:Env)(hint base:Nat)(og:Nat->ab)(t len:Nat)(a:ar):OR:=
 match cU E.T t with
 | some {kind:=.slc e esz _,..}=>
  bif Aw (aBT a) len&&Fp (len*esz) 1000&&Fp 1 esz then
   match D3 og esz 0 a with
   | some xs=>(match hint with | 0=>.val (.slice esz xs .full) | h=>pX h base esz e xs)
   | none=>.no
  else .no
 | _=>.no
def evL(ρ:Operand->aa):List (Nat×Operand)->ar
 | []=>[]
 | (i,x)::r=>(i,ρ x)::evL ρ r
def evO(ρ:Operand->aa):List Operand->ax
 | []=>[]
 | x::r=>ρ x::evO ρ r
def bnd:Option aa->(Option Nat->OR)->OR
 | none,k=>k none
 | some (.int _ n),k=>.idx n λ i=>k (some i)
 | some _,_=>.no
def RM(E:Env)(og:Nat->ab)(t:Nat)(a:aa)(lo b d:Option aa):OR:=
 match cU E.T t with
 | none=>.no
 | some e=>match a with
  | .str l=>(match e.kind,d with
   | .str,none=>bnd lo λ lo=>bnd b λ b=>match lo,b with
    | none,none=>.val (.str l)
    | some x,none=>.need (x<=l.length) (.val (.str (l.drop x)))
    | none,some y=>.need (y<=l.length) (.val (.str (l.take y)))
    | some x,some y=>.need (x<=y/\y<=l.length) (.val (.str ((l.take y).drop x)))
   | _,_=>.no)
  | .slice sz xs _=>(match e.kind with
   | .slc _ c _=>bif Aw sz c then
     (bnd lo λ lo=>bnd b λ b=>bnd d λ d=>match d with
     | none=>(match lo,b with
            | none,none=>.val (.slice sz xs .no)
            | some x,none=>.need (x<=xs.length) (.val (.slice sz (xs.drop x) .no))
            | none,some y=>.need (y<=xs.length) (.val (.slice sz (xs.take y) .no))
            | some x,some y=>.need (x<=y/\y<=xs.length) (.val (.slice sz ((xs.take y).drop x) .no)))
     | some m=>(match lo,b with
            | none,some y=>.need (y<=xs.length/\m=y) (.val (.slice sz (xs.take y) .full))
            | _,_=>.no))
    else .no
   | _=>.no)
  | .row k g=>(match e.kind,d,og k with
   | .slc _ c _,none,.row g' sz _ xs=>bif Aw g g'&&Aw sz c then
     (bnd lo λ lo=>bnd b λ b=>match lo,b with
     | none,none=>.val (.row k g)
     | some x,none=>.need (x<=xs.length) (.val (.sub k g x (xs.length-x) sz))
     | none,some y=>.need (y<=xs.length) (.val (.sub k g 0 y sz))
     | some x,some y=>.need (x<=y/\y<=xs.length) (.val (.sub k g x (y-x) sz)))
    else .no
   | _,_,_=>.no)
  | .sub k g f len sz=>(match e.kind,d,og k with
   | .slc _ c _,none,.row g' sz' _ xs=>bif (Aw g g'&&Aw sz sz')&&Aw sz c then
     (bnd lo λ lo=>bnd b λ b=>match lo,b with
     | none,none=>.val (.sub k g f len sz)
     | some x,none=>.need (x<=len) (.val (.sub k g (f+x) (len-x) sz))
     | none,some y=>.need (f+y<=xs.length) (.val (.sub k g f y sz))
     | some x,some y=>.need (x<=y/\f+y<=xs.length) (.val (.sub k g (f+x) (y-x) sz)))
    else .no
   | _,_,_=>.no)
  | .ref k off=>(match e.kind,lo,b,d with
   | .arr len c _,none,none,none=>.need ((len:Int)<=9223372036854775807) (.val (.csl k off len c))
   | _,_,_,_=>.no)
  | .ptr cs=>(match e.kind,lo,b,d with
   | .arr len 1 false,none,none,none=>(match lW len cs with
    | some l=>bif pG l then .need ((len:Int)<=9223372036854775807) (.val (.slice 1 l .full)) else .no
    | none=>.no)
   | _,_,_,_=>.no)
  | _=>.no
def ub(c:UInt8):aa:=.int .u8 c.toNat
def aFx(og:Nat->ab):aa->Option (Nat×ax)
 | .slice sz xs _=>some (sz,xs)
 | .row k g=>(match og k with
  | .row a sz _ xs=>bif Aw g a then some (sz,xs) else none
  | .frow a sz xs=>bif Aw g a then some (sz,xs) else none
  | _=>none)
 | .sub k g lo len sz=>(match og k with
  | .row a b _ xs=>bif Aw g a&&Aw sz b then some (sz,(xs.drop lo).take len) else none
  | _=>none)
 | _=>none
def aAZ(E:Env)(og:Nat->ab)(a b:Nat)(x:aa):Option ax:=
 match x with
 | .str l=>(match cU E.T b with | some {kind:=.str,..}=>bif Aw a 1 then some (l.map ub) else none | _=>none)
 | .nilslice=>(match cU E.T b with | some {kind:=.slc _ _ _,..}=>some [] | _=>none)
 | x=>match cU E.T b,aFx og x with
  | some {kind:=.slc _ _ _,..},some (sz,xs)=>bif Aw sz a then some xs else none
  | _,_=>none
def aDQ(E:Env)(og:Nat->ab)(s d:Nat)(a:aa):OR:=
 match cU E.T s,cU E.T d with
 | some ts,some td=>(match td.kind,a with
  | .int k,.int _ n=>.alt (inR k n) (.int k n) (.int k (k.wrap n))
  | .str,.str l=>(match ts.kind with | .str=>.val (.str l) | _=>.no)
  | .slc e 1 _,.str l=>(match ts.kind,cU E.T e with
   | .str,some {kind:=.int .u8,..}=>.val (.slice 1 (l.map ub) .no)
   | _,_=>.no)
  | .str,a=>(match ts.kind,aFx og a with
   | .slc e 1 _,some (1,xs)=>(match cU E.T e with
    | some {kind:=.int .u8,..}=>.text xs
    | _=>.no)
   | _,_=>.no)
  | _,_=>.no)
 | _,_=>.no
def aLj(E:Env)(og:Nat->ab)(t:Nat)(a:aa):OR:=
 match cU E.T t with
 | none=>.no
 | some c=>match c.kind,a with
  | .str,.str l=>.val (.int .i64 l.length)
  | .slc _ _ _,.slice _ xs _=>.val (.int .i64 xs.length)
  | .slc _ _ _,.nilslice=>.val (.int .i64 0)
  | .slc _ _ _,.csl _ _ len _=>.val (.int .i64 len)
  | .slc _ _ _,.hsl _ n _=>.need ((n:Int)<=9223372036854775807) (.val (.int .i64 n))
  | .slc _ _ _,.row k g=>(match og k with
   | .row b _ _ xs=>bif Aw g b then .val (.int .i64 xs.length) else .no
   | .frow b _ xs=>bif Aw g b then .val (.int .i64 xs.length) else .no
   | _=>.no)
  | .slc _ _ _,.sub _ _ _ len _=>.val (.int .i64 len)
  | .arr n _ _,_=>.need ((n:Int)<=9223372036854775807) (.val (.int .i64 n))
  | _,_=>.no
def AO(n a:Nat):Prop:=n<=maxLen/\n*a<=140737488355328
def sW(E:Env)(hint base:Nat)(og:Nat->ab)(t d:Nat)(s x:aa):OR:=
 match cU E.T t with
 | some {kind:=.slc e esz eb,..}=>
  bif Fp 1 esz then
   match aAZ E og esz d x with
   | none=>.no
   | some ys=>(match s with
    | .slice sz xs tk=>(match tk with
     | .own k g=>(match og k with
      | .tail b a c=>bif ((Aw g b&&Aw sz a)&&Aw sz esz)&&Aw e c then .need (AO (xs.length+ys.length) eb) (.upd k (.tail (g+1) esz e) (.slice esz (xs++ys) (.own k (g+1)))) else .no
      | _=>.no)
     | .nil=>bif Aw sz esz then .need (AO ys.length eb) (pX hint base esz e ys) else .no
     | .full=>bif Aw sz esz then .need (AO (xs.length+ys.length) eb) (match hint with | 0=>.val (.slice esz (xs++ys) .no) | 3=>.need (ys=[]) (.val (.slice esz xs .full)) | h=>.need (ys≠[]) (pX h base esz e (xs++ys))) else .no
     | .no=>.no)
    | .nilslice=>.need (AO ys.length eb) (pX hint base esz e ys)
    | .row k g=>(match og k with
     | .row b sz c xs=>bif (Aw g b&&Aw sz esz)&&Aw e c then .need (AO (xs.length+ys.length) eb) (.upd k (.row (g+1) sz e (xs++ys)) (.row k (g+1))) else .no
     | _=>.no)
    | .sub k g lo len sz=>(match og k with
     | .row b a c xs=>bif ((Aw g b&&Aw sz a)&&Aw sz esz)&&Aw e c then
       .need (lo+len+ys.length<=xs.length) (.upd k (.row g sz e (xs.take (lo+len)++ys++xs.drop (lo+len+ys.length))) (.sub k g lo (len+ys.length) sz)) else .no
     | _=>.no)
    | _=>.no)
  else .no
 | _=>.no
def aDP(E:Env)(og:Nat->ab)(t f:Nat)(d x:aa):OR:=
 match cU E.T t with
 | some {kind:=.slc e esz _,..}=>
  bif Fp 1 esz then
   match aAZ E og esz f x with
   | none=>.no
   | some ys=>(match d with
    | .row k g=>(match og k with
     | .row b sz c xs=>bif Aw g b&&Aw sz esz then .upd k (.row g sz c (ys.take xs.length++xs.drop ys.length)) (.int .i64 (min ys.length xs.length:Nat)) else .no
     | _=>.no)
    | .sub k g lo len sz=>(match og k with
     | .row b a c xs=>bif (Aw g b&&Aw sz a)&&Aw sz esz then
       .upd k (.row g sz c (xs.take lo++ys.take len++xs.drop (lo+min ys.length len))) (.int .i64 (min ys.length len:Nat)) else .no
     | _=>.no)
    | _=>.no)
  else .no
 | _=>.no
def RY(E:Env)(og:Nat->ab)(t:Nat)(d:aa):OR:=
 match cU E.T t with
 | some {kind:=.slc e esz _,..}=>(match cU E.T e with
  | some b=>bif Fp 1 esz&&CY (ah (λ_=>.dead) 4 b.zero) then (match d with
   | .sub k g lo len sz=>(match og k with
    | .row c a f xs=>bif (Aw g c&&Aw sz a)&&Aw sz esz then
            .upd k (.row g sz f (xs.take lo++Aj len (ah (λ_=>.dead) 4 b.zero)++xs.drop (lo+len))) (.tup []) else .no
    | _=>.no)
   | _=>.no) else .no
  | none=>.no)
 | _=>.no
def WG(E:Env)(hint base:Nat)(t:Nat)(n c:aa):OR:=
 match cU E.T t,n,c with
 | some {kind:=.slc e esz f,..},.int _ a,.int _ b=>(match cU E.T e with
  | some d=>bif Fp 1 esz&&CY (ah (λ_=>.dead) 4 d.zero) then
    .idx a λ i=>.need (a=b/\(f:Int)*b<=281474976710656/\i<=maxLen) (.born (.row 0 esz e (Aj i (ah (λ_=>.dead) 4 d.zero))) (.row base 0))
   else .no
  | none=>.no)
 | _,_,_=>.no
def NQ:ax->Option aw
 | []=>some []
 | .int .i64 n::r=>(match NQ r with | some l=>some (n::l) | none=>none)
 | _=>none
def GM(E:Env)(k:Nat)(a:Bool)(v:aa):Option aw:=
 match a with
 | false=>(match cU E.T k with
  | some {kind:=.int .i64,..}=>(match v with | .int .i64 n=>some [n] | _=>none)
  | _=>none)
 | true=>(match cU E.T k with
  | some _=>(match v with
   | .agg cs=>(match NQ cs with
    | some l=>bif Ey 0 (AP E.fl k)&&Aw (OX cs) (AP E.fl k) then some l else none
    | none=>none)
   | _=>none)
  | none=>none)
def bB:List (aw×aa)->aw->Option aa
 | [],_=>none
 | (k,v)::r,x=>if k=x then some v else bB r x
def kF:List (aw×aa)->aw->aa->List (aw×aa)
 | [],x,y=>[(x,y)]
 | (k,v)::r,x,y=>if k=x then (x,y)::r else (k,v)::kF r x y
def E2:List (aw×aa)->aw->List (aw×aa)
 | [],_=>[]
 | (k,v)::r,x=>if k=x then r else (k,v)::E2 r x
def A8(a:Bool)(es:List (aw×aa))(key:aw)(r:OR):OR:=
 match a with
 | false=>r
 | true=>.need (∀ p∈es,p.1.length=key.length) r
def J3(E:Env)(og:Nat->ab)(t:Nat)(m k:aa)(ok:Bool):OR:=
 match cU E.T t,m with
 | some {kind:=.mp kt e,..},.mref j=>(match cU E.T e,og j with
  | some te,.mp ag es=>(match GM E kt ag k with
   | some key=>A8 ag es key (.find es key λ o=>match o with
    | some v=>.val (bif ok then .tup [v,.bool true] else v)
    | none=>.val (bif ok then .tup [te.zero,.bool false] else te.zero))
   | none=>.no)
  | _,_=>.no)
 | _,_=>.no
def RV(E:Env)(og:Nat->ab)(t:Nat)(m k v:aa):OR:=
 match cU E.T t,m with
 | some {kind:=.mp kt _,..},.mref j=>(match og j with
  | .mp a es=>(match GM E kt a k with
   | some key=>(λ v=>bif CY v then A8 a es key (.upd j (.mp a (kF es key v)) .undef) else .no) (ah og 4 v)
   | none=>.no)
  | _=>.no)
 | _,_=>.no
def J2(E:Env)(og:Nat->ab)(t:Nat)(m k:aa):OR:=
 match cU E.T t,m with
 | some {kind:=.mp kt _,..},.mref j=>(match og j with
  | .mp a es=>(match GM E kt a k with
   | some key=>A8 a es key (.upd j (.mp a (E2 es key)) (.tup []))
   | none=>.no)
  | _=>.no)
 | _,_=>.no
def BU(E:Env)(ty:Nat):aa->aa
 | .nilslice=>(match cU E.T ty with | some {kind:=.slc _ esz _,..}=>.slice esz [] .nil | _=>.nilslice)
 | v=>v
def lV(E:Env)(hint base:Nat)(og:Nat->ab)(ρ:Operand->aa)(op:Op)(ty:TypeId):OR:=
 match op with
 | .move x=>.val (ρ x)
 | .assign x=>(match hint with
  | 0=>.val (BU E ty (ρ x))
  | h=>match BU E ty (ρ x) with
   | .slice p xs t=>(match t with
    | .nil=>(match xs with
          | []=>(match cU E.T ty with | some {kind:=.slc e esz' _,..}=>bif Aw p esz'&&Fp 1 p then pX h base p e [] else .no | _=>.no)
          | _::_=>.no)
    | t=>.val (.slice p xs t))
   | v=>.val v)
 | .pick c a b=>(match ρ c with
  | .bool true=>.val (ρ a)
  | .bool false=>.val (ρ b)
  | _=>.no)
 | .alloc t=>(match cU E.T t with
  | some j=>bif pG j.zero.cells then .born (.cells t j.zero.cells) (.ref base 0) else .no
  | none=>.no)
 | .box t x=>(λ v=>bif pG v.cells then .born (.cells t v.cells) (.ref base 0) else .no) (ρ x)
 | .build t w=>RZ E t (evL ρ w.toList)
 | .buildSlice t n w=>mY E hint base og t n (evL ρ w.toList)
 | .load t a=>(WI E og t (ρ a)).bind λ v=>.val (BU E t v)
 | .store t a x=>RL E og t (ρ a) (BU E t (ρ x))
 | .nilCheck x=>(match ρ x with
  | .ref k off=>.val (.ref k off)
  | .eref k g i sz off=>.val (.eref k g i sz off)
  | .ptr cs=>.val (.ptr cs)
  | .func (.func f) o cs=>.val (.func (.func f) o cs)
  | .func (.yield f) o cs=>.val (.func (.yield f) o cs)
  | .iface t v=>.val (.iface t v)
  | _=>.no)
 | .binOp op t x y _=>aLo E og (isC x||isC y) op t (ρ x) (ρ y)
 | .unOp op _ x=>(match op,ρ x with
  | .not,.bool b=>.val (.bool (!b))
  | .neg,.int k n=>D5 k (0-n)
  | .xor,.int k n=>.val (.int k (dK .xor k (if k.signed then -1 else k.max) n))
  | _,_=>.no)
 | .convert s d x=>aDQ E og s d (ρ x)
 | .makeSlice t n c=>WG E hint base t (ρ n) (ρ c)
 | .makeInterface t x=>(match cU E.T t with
  | some j=>(match j.kind with | .iface=>.no | _=>.val (.iface t (ρ x)))
  | none=>.no)
 | .makeFunc fn o cs=>.mkf fn (evO ρ o.toList) (evO ρ cs.toList)
 | .slice t x lo z A=>RM E og t (ρ x) (lo.map ρ) (z.map ρ) (A.map ρ)
 | .fieldAddr t x f=>uO E t (ρ x) f
 | .field t x f=>(RX E t (ρ x) f).bind λ v=>.val (BU E ty v)
 | .indexAddr t x i=>uN E og t (ρ x) (ρ i)
 | .index t x i=>RW E t (ρ x) (ρ i)
 | .extract x i=>(match ρ x with
  | .tup vs=>(match nth vs i with | some v=>.val v | none=>.no)
  | _=>.no)
 | .panic x=>(match ρ x with
  | .iface t v=>(λ v=>bif CY v then .pan (.iface t v) else .no) (ah og 3 v)
  | _=>.no)
 | .typeAssert x _ t ok=>(match cU E.T t,ρ x with
  | some j,.iface u v=>(match j.kind with
   | .iface=>.no
   | _=>bif Aw u t then .val (bif ok then .tup [v,.bool true] else v) else (bif ok then .val (.tup [j.zero,.bool false]) else .no))
  | some j,.nilif=>(match j.kind with
   | .iface=>.no
   | _=>bif ok then .val (.tup [j.zero,.bool false]) else .no)
  | _,_=>.no)
 | .makeMap t none=>(match cU E.T t with
  | some {kind:=.mp k _,..}=>(match cU E.T k with
   | some tk=>.born (.mp tk.agg []) (.mref base)
   | none=>.no)
  | _=>.no)
 | .lookup t m k ok=>J3 E og t (ρ m) (ρ k) ok
 | .mapUpdate t m k v=>RV E og t (ρ m) (ρ k) (ρ v)
 | .call c=>(match c.callee with
  | .value f=>(match ρ f with
   | .func (.func g) o cs=>.call (.func g) (Z4 (Z4 o (evO ρ c.args.toList)) cs)
   | .func (.yield l) o _=>.call (.yield l) (Z4 o (evO ρ c.args.toList))
   | _=>.no)
  | .invoke r q=>(match ρ r with
   | .iface t v=>(match aCp E.mt t q with
    | some g=>.call (.func g) (v::evO ρ c.args.toList)
    | none=>.no)
   | _=>.no)
  | .builtin b=>(match b,c.args.toList,c.argTypes.toList with
   | .len,[x],[t]=>aLj E og t (ρ x)
   | .min,[x,y],_=>(match ρ x,ρ y with | .int k a,.int k' b=>bif aCL k k' then .val (.int k (min a b)) else .no | _,_=>.no)
   | .max,[x,y],_=>(match ρ x,ρ y with | .int k a,.int k' b=>bif aCL k k' then .val (.int k (max a b)) else .no | _,_=>.no)
   | .append,[x,y],[t,t2]=>sW E hint base og t t2 (ρ x) (ρ y)
   | .copy,[x,y],[t,t2]=>aDP E og t t2 (ρ x) (ρ y)
   | .clear,[x],[t]=>RY E og t (ρ x)
   | .delete,[m,k],[t,_]=>J2 E og t (ρ m) (ρ k)
   | _,_,_=>.no))
 | _=>.no
def nrm:aa->aa
 | .rowc k g _=>.row k g
 | .pre k g n _ sz=>.sub k g 0 n sz
 | v=>v
def aLm(E:Env)(hint:Nat)(og:Nat->ab)(t k g c:Nat)(h:aa):OR:=
 match cU E.T t,og k,h with
 | some {kind:=.slc _ esz _,..},.row g' sz e xs,.int _ n=>bif (Aw g g'&&Aw sz esz)&&Fp 1 sz then
   .idx n λ y=>(match hint with
    | 0=>.need (y<=xs.length/\0<c) (.val (.pre k g y c sz))
    | _=>.need (xs.length<=y/\y<=c) (.upd k (.row (g+1) sz e (xs++Aj (y-xs.length) (.agg (Aj sz .undef)))) (.row k (g+1))))
  else .no
 | _,_,_=>.no
def aDO(E:Env)(og:Nat->ab)(t k g:Nat)(l h m:aa):OR:=
 match cU E.T t,og k,l,h,m with
 | some {kind:=.slc _ esz _,..},.row g' sz _ xs,.int _ a,.int _ b,.int _ c=>bif Aw g g'&&Aw sz esz then
   .idx a λ x=>.idx b λ y=>.idx c λ z=>.need ((x<=y/\y<=z)/\z<=xs.length) (.val .undef)
  else .no
 | _,_,_,_,_=>.no
def V7(E:Env)(base:Nat)(og:Nat->ab)(t k g n c sz:Nat)(m:aa):OR:=
 match cU E.T t,og k,m with
 | some {kind:=.slc e esz eb,..},.row g' sz' e' xs,.int .i64 a=>(match cU E.T e with
  | some b=>bif ((Aw g g'&&Aw sz sz')&&(Aw sz esz&&Aw e e'))&&(Fp 1 esz&&CY (ah (λ_=>.dead) 4 b.zero)) then
    .idx a λ y=>.need (c<n+y/\AO (n+y) eb) (.born (.row 0 esz e (xs.take n++Aj y (ah (λ_=>.dead) 4 b.zero))) (.row base 0))
   else .no
  | none=>.no)
 | _,_,_=>.no
def kT(E:Env)(hint base:Nat)(og:Nat->ab)(ρ:Operand->aa)(op:Op):Option OR:=
 match op with
 | .move x=>some (.val (ρ x))
 | .assign x=>(match ρ x with
  | .rowc k g c=>some (.val (.rowc k g c))
  | _=>none)
 | .slice t x none (some h) none=>(match ρ x with
  | .rowc k g c=>some (aLm E hint og t k g c (ρ h))
  | _=>none)
 | .slice t x (some l) (some h) (some m)=>(match ρ x with
  | .row k g=>some (aDO E og t k g (ρ l) (ρ h) (ρ m))
  | _=>none)
 | .call c=>(match c.callee with
  | .builtin .cap=>(match c.args.toList,c.argTypes.toList with
   | [x],[t]=>(match ρ x,cU E.T t with
    | .rowc _ _ n,some {kind:=.slc _ _ _,..}=>some (.val (.int .i64 n))
    | _,_=>none)
   | _,_=>none)
  | .builtin .append=>(match c.args.toList,c.argTypes.toList with
   | [x,y],[t,t2]=>(match ρ x,cU E.T t2 with
    | .pre k g n c sz,some {kind:=.int _,..}=>some (V7 E base og t k g n c sz (ρ y))
    | _,_=>none)
   | _,_=>none)
  | _=>none)
 | _=>none
def eop(E:Env)(hint base:Nat)(og:Nat->ab)(ρ:Operand->aa)(op:Op)(ty:TypeId):OR:=
 match kT E hint base og ρ op with
 | some r=>r
 | none=>lV E hint base og (λ x=>nrm (ρ x)) op ty
def KDL(f:aa->(aa->Prop)->Prop):ax->(ax->Prop)->Prop
 | [],k=>k []
 | c::r,k=>f c λ c=>KDL f r λ r=>k (c::r)
def KD:Nat->aa->(aa->Prop)->Prop
 | 0,v,k=>k v
 | n+1,v,k=>match v with
  | .undef=>k .undef
  | .bool b=>k (.bool b)
  | .int i n=>k (.int i n)
  | .str l=>k (.str l)
  | .slice sz xs t=>(match t with | .no=>k (.slice sz xs .no) | .nil=>k (.slice sz xs .nil) | .full=>k (.slice sz xs .full) | .own a b=>k (.slice sz xs (.own a b)))
  | .agg cs=>KDL (KD n) cs λ cs=>k (.agg cs)
  | .tup cs=>KDL (KD n) cs λ cs=>k (.tup cs)
  | .ptr cs=>k (.ptr cs)
  | .ref a b=>k (.ref a b)
  | .eref a b c d e=>k (.eref a b c d e)
  | .csl a b c d=>k (.csl a b c d)
  | .row a b=>k (.row a b)
  | .sub a b c d e=>k (.sub a b c d e)
  | .rowc a b c=>k (.rowc a b c)
  | .pre a b c d e=>k (.pre a b c d e)
  | .mref a=>k (.mref a)
  | .nilptr=>k .nilptr
  | .nilslice=>k .nilslice
  | .nilmap=>k .nilmap
  | .nilfunc=>k .nilfunc
  | .nilif=>k .nilif
  | .hsl a n c=>k (.hsl a n c)
  | .func fn f cs=>k (.func fn f cs)
  | .iface t v=>KD n v λ v=>k (.iface t v)
def KS{f:aa->(aa->Prop)->Prop}(a:∀ v k,f v k=k v)(l:ax):∀ (k:ax->Prop),KDL f l k=k l:=by
 induction l with
 | nil=>intro k;rfl
 | cons c r b=>intro k;simp only [KDL,a,b]
def qG(n:Nat):∀ (v:aa) (k:aa->Prop),KD n v k=k v:=by
 induction n with
 | zero=>intro v k;rfl
 | succ n a=>
  intro v k;cases v<;>simp only [KD,KS a,a]
  grind
def OD(x:ab)(k:ab->Prop):Prop:=
 match x with
 | .dead=>k .dead
 | .cells T cs=>KDL (KD 3) cs λ cs=>k (.cells T cs)
 | .fcells cs=>KDL (KD 3) cs λ cs=>k (.fcells cs)
 | .row g sz e xs=>k (.row g sz e xs)
 | .frow g sz xs=>k (.frow g sz xs)
 | .tail g sz e=>k (.tail g sz e)
 | .mp a es=>k (.mp a es)
 | .bun g I=>k (.bun g I)
def aEM(x:ab)(k:ab->Prop):OD x k=k x:=by cases x<;>simp only [OD,KS (qG 3)]
def ODL:au->(au->Prop)->Prop
 | [],k=>k []
 | c::r,k=>OD c λ c=>ODL r λ r=>k (c::r)
def uS(l:au):∀ (k:au->Prop),ODL l k=k l:=by
 induction l with
 | nil=>intro k;rfl
 | cons c r a=>intro k;simp only [ODL,aEM,a]
def xR:ar->Nat->aa->(ar->Prop)->Prop
 | [],n,x,k=>k [(n,x)]
 | (i,v)::r,n,x,k=>bif Aw i n then k ((n,x)::r) else xR r n x λ r=>k ((i,v)::r)
def kR(l:ar)(n:Nat)(x:aa):∀ (k:ar->Prop),xR l n x k=k (gR l n x):=by
 induction l with
 | nil=>intro k;rfl
 | cons c r a=>intro k;obtain ⟨i,v⟩:=c;simp only [xR,gR,a];grind
def pos(k:Nat):Nat->az->Option Nat
 | _,[]=>none
 | j,x::r=>bif Aw x k then some j else pos k (j+1) r
def eU:ab->Nat
 | .row g _ _ _=>g
 | .tail g _ _=>g
 | .bun g _=>g
 | _=>0
def gm(n0 j a g:Nat):Option Nat:=
 bif Aw g a then some (bif Ey j n0 then (bif Aw a 0 then 0 else 1) else 0) else (bif Ey j n0&&Aw g 0 then some 0 else none)
def cvtV(n0:Nat)(ks:az)(og:Nat->ab):Nat->aa->aa
 | 0,_=>.undef
 | n+1,v=>match v with
  | .slice sz xs t=>(match t with
   | .full=>.slice sz xs .full
   | .nil=>(match ks with | []=>.slice sz xs .no | _::_=>.slice sz xs .nil)
   | .own k g=>(match pos k 0 ks with
    | some j=>(match gm n0 j (eU (og k)) g with | some g=>.slice sz xs (.own j g) | none=>.slice sz xs .no)
    | none=>.slice sz xs .no)
   | _=>.slice sz xs .no)
  | .agg cs=>.agg (dO (cvtV n0 ks og n) cs)
  | .tup cs=>.tup (dO (cvtV n0 ks og n) cs)
  | .func fn a cs=>.func fn (dO (cvtV n0 ks og n) a) (dO (cvtV n0 ks og n) cs)
  | .iface t v=>.iface t (cvtV n0 ks og n v)
  | .ref k off=>(match pos k 0 ks with
   | some j=>(match gm n0 j (eU (og k)) 0 with | some _=>.ref j off | none=>.undef)
   | none=>ah og 1 (.ref k off))
  | .csl k off len sz=>(match pos k 0 ks with
   | some j=>(match gm n0 j (eU (og k)) 0 with | some _=>.csl j off len sz | none=>.undef)
   | none=>ah og 1 (.csl k off len sz))
  | .row k g=>(match pos k 0 ks with
   | some j=>(match gm n0 j (eU (og k)) g with | some g=>.row j g | none=>.undef)
   | none=>ah og 1 (.row k g))
  | .sub k g lo len sz=>(match pos k 0 ks with
   | some j=>(match gm n0 j (eU (og k)) g with | some g=>.sub j g lo len sz | none=>.undef)
   | none=>ah og 1 (.sub k g lo len sz))
  | .mref k=>(match pos k 0 ks with | some j=>(match gm n0 j (eU (og k)) 0 with | some _=>.mref j | none=>.undef) | none=>.undef)
  | .eref _ _ _ _ _=>.undef
  | .rowc _ _ _=>.undef
  | .pre _ _ _ _ _=>.undef
  | v=>v
def FA(n0:Nat)(ks:az)(ac:au)(j:Nat):ab->ab
 | .cells T cs=>.cells T (dO (cvtV n0 ks (aB ac) 4) cs)
 | .row g sz e xs=>.row (match gm n0 j g g with | some g=>g | none=>0) sz e xs
 | .tail g sz e=>.tail (match gm n0 j g g with | some g=>g | none=>0) sz e
 | .bun g I=>.bun (match gm n0 j g g with | some g=>g | none=>0) I
 | o=>o
def qU(n0:Nat)(ks:az)(ac:au):Nat->az->au
 | _,[]=>[]
 | j,k::r=>FA n0 ks ac j (aB ac k)::qU n0 ks ac (j+1) r
def gF(n0:Nat)(ks:az)(ac:au):au:=qU n0 ks ac 0 ks
def iR:az->au->Bool
 | [],_=>true
 | k::r,ac=>(aB ac k).owns&& !tF k r&&iR r ac
def upto:Nat->Nat->az
 | _,0=>[]
 | j,n+1=>j::upto (j+1) n
def iP:Nat->Nat->az->Bool
 | 0,_,_=>true
 | n+1,j,k::r=>Aw k j&&iP n (j+1) r
 | _+1,_,[]=>false
def dU(ks:az)(base j:Nat):Nat:=match nth ks j with | some k=>k | none=>base+(j-(olenN ks))
where olenN:az->Nat
 | []=>0
 | _::r=>olenN r+1
def iS(ks:az)(ac:au)(j g:Nat):Nat:=match nth ks j with | some k=>eU (aB ac k)+g | none=>g
def embV(ks:az)(base:Nat)(ac:au):Nat->aa->aa
 | 0,_=>.undef
 | n+1,v=>match v with
  | .slice sz xs t=>(match t with
   | .own j g=>.slice sz xs (.own (dU ks base j) (iS ks ac j g))
   | t=>.slice sz xs t)
  | .agg cs=>.agg (dO (embV ks base ac n) cs)
  | .tup cs=>.tup (dO (embV ks base ac n) cs)
  | .func fn a cs=>.func fn (dO (embV ks base ac n) a) (dO (embV ks base ac n) cs)
  | .iface t v=>.iface t (embV ks base ac n v)
  | .ref j off=>.ref (dU ks base j) off
  | .csl j off len sz=>.csl (dU ks base j) off len sz
  | .row j g=>.row (dU ks base j) (iS ks ac j g)
  | .sub j g lo len sz=>.sub (dU ks base j) (iS ks ac j g) lo len sz
  | .mref j=>.mref (dU ks base j)
  | .eref _ _ _ _ _=>.undef
  | .rowc _ _ _=>.undef
  | .pre _ _ _ _ _=>.undef
  | v=>v
def pR(ks:az)(base:Nat)(ac:au)(j:Nat):ab->ab
 | .cells T cs=>.cells T (dO (embV ks base ac 4) cs)
 | .row g sz e xs=>.row (iS ks ac j g) sz e xs
 | .frow g sz xs=>.frow (iS ks ac j g) sz xs
 | .tail g sz e=>.tail (iS ks ac j g) sz e
 | .bun g I=>.bun (iS ks ac j g) I
 | o=>o
def gH(ks:az)(base:Nat)(ac:au):Nat->au->au->au
 | _,[],l=>l
 | j,o::r,l=>gH ks base ac (j+1) r (bJ l (dU ks base j) (pR ks base ac j o))
inductive Res where
 | ret (a:aa)
 | pan (a:aa)
def sC(M:Imm)(ob:Hs):Ending->Res->Prop
 | .returned v,.ret a=>Rep M ob v a
 | .panicked ch,.pan a=>∃ v,ch=[{v,recovered:=false}]/\Rep M ob v a
 | _,_=>False
def bX(M:Imm)(ob:Hs)(vs:ba)(as:ax):Prop:=
 vs.length=as.length/\∀ (i:Nat) v a,vs[i]? =some v->as[i]? =some a->Rep M ob v a
def iQ(P:Program)(f:FuncId)(a:Array Value)(w:World)(R:Ending->World->Prop):Prop:=
 ((callFunc f a).run P w= .ok (.enter f a) w/\Calls P f a w R)\/∃ u w',(callFunc f a).run P w= .ok (.value u) w'/\R (.returned u) w'
def aAb(P:Program)(l:Nat)(b:Array Value)(w:World)(R:Ending->World->Prop):Prop:=
 ∃ f tmps as a,(Instr.yield l b).run P w= .ok (.round l f tmps as a) w/\RoundIn Fence.wide 0 P l f tmps as a w R
def EE:Fn->Array Value->Sem Next
 | .func f,va=>callFunc f va
 | .yield l,va=>Instr.yield l va
 | _,va=>callFunc 0 va
@[reducible] def cE(P:Program)(f:Fn)(va:Array Value)(w:World)(R:Ending->World->Prop):Prop:=
 match f with
 | .func f=>iQ P f va w R
 | .yield l=>aAb P l va w R
 | _=>False
def bF(P:Program)(f:Fn)(args:ax)(ac:au)(r:Res)(ao:au):Prop:=
 ∀ M ob w a,Mem M ob ac w->bX M ob a args->
  cE P f a.toArray w λ e w'=>∃ M' ob',Ext M ob ac w M' ob' ao w'/\Mem M' ob' ao w'/\sC M' ob' e r
abbrev aA(P:Program)(f:FuncId)(args:ax)(ac:au)(r:Res)(ao:au):Prop:=bF P (.func f) args ac r ao
inductive CallG(P:Program)(f:Fn)(args:ax)(ac:au)(K:aa->au->Prop)(Kp:aa->au->Prop):Prop
 | pure (r:aa) (new:au) (h:bF P f (dO (cvtV 0 [] (aB (frzL ac args)) 5) args) [] (.ret r) new) (k:K (embV [] (aM ac) (frzL ac args) 5 r) (gH [] (aM ac) (frzL ac args) 0 new (frzL ac args)))
 | eff (fz ks:az) (r:aa) (ao:au) (hk:iR ks (aj fz ac)=true) (h:bF P f (dO (cvtV 0 ks (aB (aj fz ac)) 5) args) (gF 0 ks (aj fz ac)) (.ret r) ao)
   (k:K (embV ks (aM (aj fz ac)) (aj fz ac) 5 r) (gH ks (aM (aj fz ac)) (aj fz ac) 0 ao (aj fz ac)))
 | effp (fz ks:az) (r:aa) (ao:au) (hk:iR ks (aj fz ac)=true) (h:bF P f (dO (cvtV 0 ks (aB (aj fz ac)) 5) args) (gF 0 ks (aj fz ac)) (.pan r) ao)
   (k:Kp (embV ks (aM (aj fz ac)) (aj fz ac) 5 r) (gH ks (aM (aj fz ac)) (aj fz ac) 0 ao (aj fz ac)))
 | pan (r:aa) (h:bF P f (dO (cvtV 0 [] (aB (frzL ac args)) 5) args) [] (.pan r) []) (k:Kp r (frzL ac args))
inductive CallD(P:Program)(f:Fn)(args:ax)(so:Bool)(seen:au)(base:Nat)(ac:au)(K:aa->au->Prop)(Kp:aa->au->Prop):Prop
 | pure (r:aa) (new:au) (h:bF P f (dO (cvtV 0 [] (aB seen) 5) args) [] (.ret r) new) (k:K (embV [] base seen 5 r) (gH [] base seen 0 new ac)):CallD P f args so seen base ac K Kp
 | sole (h:so=true) (h:CallG P f args ac K Kp):CallD P f args so seen base ac K Kp
 | look (ks:az) (r:aa) (ao:au) (hk:iR ks seen=true) (hl:ao.length=ks.length) (h:bF P f (dO (cvtV 0 ks (aB seen) 5) args) (gF 0 ks seen) (.ret r) ao) (hi:∀ b,gH ks b seen 0 ao seen=seen) (hz:∀ b,embV ks b seen 5 r=r) (k:K r ac):CallD P f args so seen base ac K Kp
def orF(P:Program)(ac:au)(K:aa->au->Prop)(Kp:aa->au->Prop):OR->Prop
 | .no=>False
 | .val v=>K v ac
 | .mkf fn d cs=>K (.func fn d cs) ac
 | .need p r=>p/\orF P ac K Kp r
 | .alt p v w=>(p/\K v ac)\/K w ac
 | .idx n f=>∃ i:Nat,n=(i:Int)/\orF P ac K Kp (f i)
 | .elem xs i f=>∃ x,xs[i]? =some x/\orF P ac K Kp (f x)
 | .byte l i=>∃ c,l[i]? =some c/\K (.int .u8 (c.toNat:Int)) ac
 | .text xs=>∃ l:ay,xs=l.map ub/\(l.length:Int)<=9223372036854775807/\K (.str l) ac
 | .find es key f=>∃ o,bB es key=o/\orF P ac K Kp (f o)
 | .born x v=>K v (bJ ac (aM ac) x)
 | .upd k x v=>K v (bJ ac k x)
 | .nilq xs a=>∀ b:Bool,(b=true->xs=[])->K (.bool (if a then !b else b)) ac
 | .call f args=>CallG P f args ac K Kp
 | .pan v=>Kp v ac
def nd:ab->Bool
 | .dead=>false
 | _=>true
def orD(P:Program)(d e bl:Bool)(a ac:au)(base:Nat)(K:aa->au->Prop)(Kp:aa->au->Prop):OR->Prop
 | .val v=>K v ac
 | .mkf fn h cs=>K (.func fn h cs) ac
 | .need p r=>p/\orD P d e bl a ac base K Kp r
 | .alt p v w=>(p/\K v ac)\/K w ac
 | .idx n f=>∃ i:Nat,n=(i:Int)/\orD P d e bl a ac base K Kp (f i)
 | .elem xs i f=>∃ x,xs[i]? =some x/\orD P d e bl a ac base K Kp (f x)
 | .byte l i=>∃ c,l[i]? =some c/\K (.int .u8 (c.toNat:Int)) ac
 | .text xs=>∃ l:ay,xs=l.map ub/\(l.length:Int)<=9223372036854775807/\K (.str l) ac
 | .find es key f=>∃ o,bB es key=o/\orD P d e bl a ac base K Kp (f o)
 | .born x v=>(match bl with | true=>False | false=>K v (bJ ac base x))
 | .upd k x v=>(match (d||(e&&nd (aB a k))) with | true=>K v (bJ ac k x) | false=>False)
 | .nilq xs g=>(match d with | true=>∀ b:Bool,(b=true->xs=[])->K (.bool (if g then !b else b)) ac | false=>False)
 | .call f args=>(match bl with | true=>False | false=>CallD P f args d a base ac K Kp)
 | .pan v=>(match d with | true=>Kp v ac | false=>False)
 | .no=>False
def bQ(all:bc)(ρ:Operand->aa)(g:Option (Nat×Bool)):Option Bool:=
 match g with
 | none=>some true
 | some (j,want)=>match nth all j with
  | some p=>match p.dst with
   | some d=>match ρ (.tmp d) with
    | .bool b=>some (b==want)
    | .tup []=>some false
    | _=>none
   | none=>none
  | none=>none
def pN(n:Nat):bc->Bool
 | []=>false
 | o::r=>(match o.guard with | some (j,_)=>Aw j n | none=>false)||pN n r
def fX(E:Env):Option Nat->Nat
 | none=>0
 | some d=>bif tF d E.own then (bif tF d E.rws then 3 else 1) else bif tF d E.rws then 2 else 0
def jW(fr:ar):Option Nat->aa->ar
 | none,_=>fr
 | some d,v=>gR fr d v
def wrP(rest:bc)(n:Nat)(d:Option Nat)(fr:ar)(v:aa)(k:ar->Prop):Prop:=
 match d with
 | none=>k fr
 | some d=>bif pN n rest then (match v with
   | .bool b=>(b=true->k (gR fr d (.bool true)))/\(b=false->k (gR fr d (.bool false)))
   | _=>False)
  else k (gR fr d v)
def dL(E:Env)(all:bc)(K:ar->au->Prop)(Kp:(Nat->aa)->aa->au->Prop):Nat->bc->ar->au->Prop
 | _,[],fr,ac=>K fr ac
 | n,p::rest,fr,ac=>match bQ all (ev fr) p.guard with
  | none=>False
  | some false=>dL E all K Kp (n+1) rest (jW fr p.dst (.tup [])) ac
  | some true=>orF E.P ac (λ v ac=>wrP rest n p.dst fr v λ fr=>dL E all K Kp (n+1) rest fr ac) (Kp (aU fr))
    (eop E (fX E p.dst) (aM ac) (aB ac) (ev fr) p.op p.type)
def hZ(p:Oper):az:=(p.after.toList.filter (Jk .any)).map (·.on)
def cR(m i:Nat):Bool:=Aw (Nat.land (Nat.shiftRight m i) 1) 1
def cY:az->Nat->Nat
 | [],_=>0
 | x::_,0=>x
 | _::r,n+1=>cY r n
def iX(tab:az):az->Nat
 | []=>0
 | i::r=>Nc (Nc (Nat.shiftLeft 1 i) (cY tab i)) (iX tab r)
def iU:az->bc->az
 | tab,[]=>tab
 | tab,p::r=>iU (tab++[iX tab (hZ p)]) r
def aMF(n:Nat)(k:Nat->Prop):Prop:=match n with | 0=>k 0 | m+1=>k (m+1)
def aGE(n:Nat)(k:Nat->Prop):aMF n k=k n:=by cases n<;>rfl
def T4:az->Nat->(az->Prop)->Prop
 | [],m,k=>k [m]
 | x::r,m,k=>T4 r m λ r=>k (x::r)
def aA1(l:az)(m:Nat):∀ (k:az->Prop),T4 l m k=k (l++[m]):=by
 induction l with
 | nil=>intro k;rfl
 | cons x r a=>intro k;simp only [T4,a,Ca]
def WW:az->bc->(az->Prop)->Prop
 | tab,[],k=>k tab
 | tab,p::r,k=>aMF (iX tab (hZ p)) λ m=>T4 tab m λ tab=>WW tab r k
def aEy(l:bc):∀ (tab:az) (k:az->Prop),WW tab l k=k (iU tab l):=by
 induction l with
 | nil=>intro tab k;rfl
 | cons p r a=>intro tab k;simp only [WW,iU,aGE,aA1,a]
def loose(tab:az)(i j:Nat):Bool:=!Aw i j&& !cR (cY tab j) i&& !cR (cY tab i) j
def NV(tab:az)(j t:Nat):Nat->bc->Bool
 | _,[]=>false
 | i,p::r=>(match p.dst with | some d=>Aw d t&&loose tab i j | none=>false)||NV tab j t (i+1) r
def evH(tab:az)(all:bc)(j:Nat)(fr:ar):Operand->aa
 | .tmp t=>bif NV tab j t 0 all then .undef else aU fr t
 | x=>ev fr x
def qJ:az->au->au
 | [],ac=>ac
 | k::r,ac=>qJ r (bJ ac k .dead)
def E5(tab:az)(j:Nat):List (Nat×Nat)->az
 | []=>[]
 | (i,k)::r=>bif cR (cY tab j) i then E5 tab j r else k::E5 tab j r
def sole(tab:az)(j:Nat):Nat->bc->Bool
 | _,[]=>true
 | i,_::r=>!loose tab i j&&sole tab j (i+1) r
def blD(E:Env):Option Nat->Bool
 | none=>false
 | some d=>tF d E.bl
def FV(E:Env)(tab:az)(j:Nat):Nat->bc->Bool
 | _,[]=>true
 | i,p::r=>(!loose tab i j||blD E p.dst)&&FV E tab j (i+1) r
def soN(E:Env)(tab:az)(all:bc)(n:Nat)(d:Option Nat):Bool:=sole tab n 0 all&& !blD E d
def uoN(E:Env)(tab:az)(all:bc)(n:Nat)(d:Option Nat):Bool:=FV E tab n 0 all&& !blD E d
def qB(E:Env)(tab:az)(n:Nat)(br:List (Nat×Nat))(ac:au)(d:Option Nat):au:=bif blD E d then [] else qJ (E5 tab n br) ac
def born(j base:Nat):au->List (Nat×Nat)->List (Nat×Nat)
 | [],br=>br
 | _::r,br=>(j,base)::born j (base+1) r br
def iA:Nat->au->au
 | 0,l=>l
 | _+1,[]=>[]
 | n+1,_::l=>iA n l
def iM(E:Env)(all:bc)(tab:az)(K:ar->au->Prop)(Kp:(Nat->aa)->aa->au->Prop):Nat->bc->List (Nat×Nat)->ar->au->Prop
 | _,[],_,fr,ac=>K fr ac
 | n,p::rest,br,fr,ac=>
  match bQ all (evH tab all n fr) p.guard with
  | none=>False
  | some false=>iM E all tab K Kp (n+1) rest br (jW fr p.dst (.tup [])) ac
  | some true=>orD E.P (soN E tab all n p.dst) (uoN E tab all n p.dst) (blD E p.dst) (qB E tab n br ac p.dst) ac (aM ac) (λ v ao=>wrP rest n p.dst fr v λ fr=>iM E all tab K Kp (n+1) rest (born n (aM ac) (iA (aM ac) ao) br) fr ao) (Kp (aU fr))
     (eop E (fX E p.dst) (aM ac) (aB (qB E tab n br ac p.dst)) (evH tab all n fr) p.op p.type)
inductive KI where
 | code (c:Code) | inB (id:Nat) | inL (c:Code) | beginR
abbrev _root_.bf:=List KI
def DZ(id:Nat):bf->Option bf
 | []=>none
 | .inB i::r=>bif Aw i id then some r else DZ id r
 | _::r=>DZ id r
inductive Goal where
 | pure (r:Res)
 | full (n0:Nat) (r:Res) (ao:au)
 | keep (n0:Nat) (r:Res) (ao:au)
def aJ8(E:Env)(ac:au)(fr:ar):ResultVar->Option aa
 | .tmp t=>some (aU fr t)
 | .cell t ty=>match cU E.T ty,aU fr t with
  | some ti,.ref k off=>match aB ac k with
   | .cells _ cs=>match lW ti.size (kP off cs) with | some l=>mk ti l | none=>none
   | _=>none
  | _,_=>none
def aBr(E:Env)(ac:au)(fr:ar):List ResultVar->Option ax
 | []=>some []
 | r::rs=>match aJ8 E ac fr r,aBr E ac fr rs with
  | some v,some vs=>some (v::vs)
  | _,_=>none
def aBs(E:Env)(ac:au)(a:List ResultVar)(fr:ar):Option aa:=
 match aBr E ac fr a with
 | some [v]=>some v
 | some vs=>some (.tup vs)
 | none=>none
def aNF(n:Nat):Tk->Bool
 | .own k _=>Ey k n
 | _=>true
def EI(f:aa->Bool):ax->Bool
 | []=>true
 | c::r=>f c&&EI f r
def bel(n:Nat):Nat->aa->Bool
 | 0,_=>false
 | m+1,a=>match a with
  | .slice _ _ t=>aNF n t
  | .agg cs=>EI (bel n m) cs
  | .tup cs=>EI (bel n m) cs
  | .ref k _=>Ey k n
  | .eref k _ _ _ _=>Ey k n
  | .csl k _ _ _=>Ey k n
  | .row k _=>Ey k n
  | .sub k _ _ _ _=>Ey k n
  | .rowc k _ _=>Ey k n
  | .pre k _ _ _ _=>Ey k n
  | .mref k=>Ey k n
  | .func _ b cs=>EI (bel n m) b&&EI (bel n m) cs
  | .iface _ v=>bel n m v
  | _=>true
def FC(n:Nat):au->Bool
 | []=>true
 | .cells _ cs::r=>EI (bel n 5) cs&&FC n r
 | _::r=>FC n r
def aEw(n:Nat):ar->Bool
 | []=>true
 | (_,v)::r=>bel n 5 v&&aEw n r
def nZ:Nat->au->au
 | 0,_=>[]
 | _+1,[]=>[]
 | n+1,x::r=>x::nZ n r
def OI(g:Goal)(a:aa->Res)(v:aa)(ac:au):Prop:=
 match g with
 | .pure r=>a (cvtV 0 [] (aB (frzL ac [v])) 5 v)=r
 | .full n0 r ao=>∃ b ks,(iR ks (aj b ac)=true/\iP n0 0 ks=true)/\a (cvtV n0 ks (aB (aj b ac)) 5 v)=r/\gF n0 ks (aj b ac)=ao
 | .keep n0 r ao=>(bel n0 5 v=true/\FC n0 (nZ n0 ac)=true)/\a v=r/\nZ n0 ac=ao
def Goal.n0:Goal->Nat
 | .pure _=>0
 | .full n _ _=>n
 | .keep n _ _=>n
def cH(fn:Func):Code:=fn.body.getD .skip
def B1:Nat->Code->bf->bf ⊕ Nat
 | n,.seq a b,ks=>match B1 n a (.code b::ks) with | .inl r=>.inl r | .inr n=>B1 n b ks
 | n,.cond _ a b,ks=>match B1 n a ks with | .inl r=>.inl r | .inr n=>B1 n b ks
 | n,.block id b,ks=>B1 n b (.inB id::ks)
 | 0,.loop b,ks=>.inl (.code b:: .inL b::ks)
 | n+1,.loop b,ks=>B1 n b (.inL b::ks)
 | n,_,_=>.inr n
def stk(fn:Func)(n:Nat):bf:=match B1 n (cH fn) [] with | .inl r=>r | .inr _=>[]
def frA:Nat->ax->ar
 | _,[]=>[]
 | n,a::r=>(n,a)::frA (n+1) r
def lJ:az->ar->ar
 | [],_=>[]
 | t::r,fr=>(t,aU fr t)::lJ r fr
structure RI where
 all:bc
 dr:Bool
 tab:az
 ks:bf
inductive St where
 | code (ks:bf) (fr:ar) (ac:au)
 | head (ks:bf) (fr:ar) (ac:au)
 | mid (R:RI) (n:Nat) (rest:bc) (br:List (Nat×Nat)) (fr:ar) (ac:au)
 | pend (R:RI) (n:Nat) (d:Option Nat) (rest:bc) (br:List (Nat×Nat)) (fr:ar) (ac:au) (r:OR)
 | got (R:RI) (n:Nat) (d:Option Nat) (rest:bc) (br:List (Nat×Nat)) (fr:ar) (len:Nat) (ac:au) (v:aa)
 | leave (p:Option aa) (fr:ar) (ac:au)
def aDH(g:Goal)(a:aa->Res)(v:aa)(ac:au):Prop:=
 match g with
 | .pure r=>KD 5 (cvtV 0 [] (aB (frzL ac [v])) 5 v) λ y=>a y=r
 | .full n0 r ao=>∃ b ks,(iR ks (aj b ac)=true/\iP n0 0 ks=true)/\KD 5 (cvtV n0 ks (aB (aj b ac)) 5 v) λ y=>ODL (gF n0 ks (aj b ac)) λ os=>a y=r/\os=ao
 | .keep n0 r ao=>(bel n0 5 v=true/\FC n0 (nZ n0 ac)=true)/\ODL (nZ n0 ac) λ os=>a v=r/\os=ao
def JY(g:Goal)(a:aa->Res)(v:aa)(ac:au):aDH g a v ac=OI g a v ac:=by cases g<;>simp only [aDH,OI,qG,uS]
def aKs(E:Env)(g:Goal)(J:St->Prop)(fr:ar)(v:aa)(ac:au):Prop:=match E.rd with
 | some _=>False
 | none=>match E.df with
  | []=>OI g .pan v ac
  | _::_=>J (.leave (some v) fr ac)
def aF1(E:Env)(fn:Func)(g:Goal)(J:St->Prop)(b:Bool)(fr:ar)(ac:au):Prop:=match E.rd with
 | some _=>aDH g .ret (.bool b) ac
 | none=>match E.df with
  | []=>(match aBs E ac fn.results.toList fr with | some v=>KD 5 v λ v=>aDH g .ret v ac | none=>False)
  | _::_=>J (.leave none fr ac)
def aMP:bc->Bool
 | [p]=>(match p.op with | .defer _=>true | _=>false)
 | _=>false
def bR(E:Env)(fn:Func)(g:Goal)(J:St->Prop):Nat->St->Prop
 | 0,s=>J s
 | n+1,.head ks fr ac=>bR E fn g J n (.code ks fr ac)
 | _+1,.leave p fr ac=>J (.leave p fr ac)
 | _+1,.code [] fr ac=>aF1 E fn g J true fr ac
 | n+1,.code (k::ks) fr ac=>(match k with
  | .inB _=>bR E fn g J n (.code ks fr ac)
  | .inL b=>J (.head (.code b:: .inL b::ks) fr ac)
  | .beginR=>J (.code (.beginR::ks) fr ac)
  | .code q=>match q with
   | .skip=>bR E fn g J n (.code ks fr ac)
   | .seq a b=>bR E fn g J n (.code (.code a:: .code b::ks) fr ac)
   | .block id b=>bR E fn g J n (.code (.code b:: .inB id::ks) fr ac)
   | .loop b=>J (.head (.code b:: .inL b::ks) fr ac)
   | .exit id=>(match DZ id ks with
    | some ks=>bR E fn g J n (.code ks fr ac)
    | none=>False)
   | .ret=>aF1 E fn g J false fr ac
   | .rangeFunc x u as t=>J (.code (.code (.rangeFunc x u as t)::ks) fr ac)
   | .cond x a b=>(match ev fr x with
    | .bool p=>(p=true->J (.code (.code a::ks) fr ac))/\(p=false->J (.code (.code b::ks) fr ac))
    | _=>False)
   | .region id ops dr=>(match aMP ops.toList with
    | true=>J (.code (.code (.region id ops dr)::ks) fr ac)
    | false=>(match dr with
     | false=>bR E fn g J n (.mid ⟨ops.toList,false,[],ks⟩ 0 ops.toList [] fr ac)
     | true=>WW [] ops.toList λ tab=>bR E fn g J n (.mid ⟨ops.toList,true,tab,ks⟩ 0 ops.toList [] fr ac)))
   | _=>False)
 | n+1,.mid R _ [] _ fr ac=>bR E fn g J n (.code R.ks fr ac)
 | n+1,.mid R i (p::rest) br fr ac=>(match R.dr with
  | false=>(match bQ R.all (ev fr) p.guard with
   | none=>False
   | some false=>(match p.dst with | none=>bR E fn g J n (.mid R (i+1) rest br fr ac) | some d=>xR fr d (.tup []) λ fr=>bR E fn g J n (.mid R (i+1) rest br fr ac))
   | some true=>bR E fn g J n (.pend R i p.dst rest br fr ac (eop E (fX E p.dst) (aM ac) (aB ac) (ev fr) p.op p.type)))
  | true=>(match bQ R.all (evH R.tab R.all i fr) p.guard with
   | none=>False
   | some false=>(match p.dst with | none=>bR E fn g J n (.mid R (i+1) rest br fr ac) | some d=>xR fr d (.tup []) λ fr=>bR E fn g J n (.mid R (i+1) rest br fr ac))
   | some true=>ODL (qB E R.tab i br ac p.dst) λ e=>bR E fn g J n (.pend R i p.dst rest br fr ac (eop E (fX E p.dst) (aM ac) (aB e) (evH R.tab R.all i fr) p.op p.type))))
 | n+1,.pend R i d rest br fr ac r=>(match r with
  | .no=>False
  | .val v=>KD 4 v λ v=>bR E fn g J n (.got R i d rest br fr (aM ac) ac v)
  | .mkf f j cs=>KDL (KD 3) j λ j=>KDL (KD 3) cs λ cs=>bR E fn g J n (.got R i d rest br fr (aM ac) ac (.func f j cs))
  | .need p r=>p/\J (.pend R i d rest br fr ac r)
  | .alt p v w=>(p/\J (.got R i d rest br fr (aM ac) ac v))\/J (.got R i d rest br fr (aM ac) ac w)
  | .idx m f=>∃ x:Nat,m=(x:Int)/\J (.pend R i d rest br fr ac (f x))
  | .elem xs m f=>∃ x,xs[m]? =some x/\J (.pend R i d rest br fr ac (f x))
  | .byte l m=>∃ c,l[m]? =some c/\J (.got R i d rest br fr (aM ac) ac (.int .u8 (c.toNat:Int)))
  | .text xs=>∃ l:ay,xs=l.map ub/\(l.length:Int)<=9223372036854775807/\J (.got R i d rest br fr (aM ac) ac (.str l))
  | .find es key f=>∃ o,bB es key=o/\J (.pend R i d rest br fr ac (f o))
  | .born x v=>(match (R.dr&&blD E d) with
   | true=>False
   | false=>OD x λ x=>ODL (bJ ac (aM ac) x) λ ao=>KD 4 v λ v=>bR E fn g J n (.got R i d rest br fr (aM ac) ao v))
  | .upd k x v=>(match (!R.dr||(soN E R.tab R.all i d||(uoN E R.tab R.all i d&&nd (aB (qB E R.tab i br ac d) k)))) with
   | true=>OD x λ x=>ODL (bJ ac k x) λ ao=>KD 4 v λ v=>bR E fn g J n (.got R i d rest br fr (aM ac) ao v)
   | false=>False)
  | .nilq xs h=>(match (!R.dr||soN E R.tab R.all i d) with
   | true=>∀ b:Bool,(b=true->xs=[])->J (.got R i d rest br fr (aM ac) ac (.bool (if h then !b else b)))
   | false=>False)
  | .call f args=>KDL (KD 5) args λ args=>(match R.dr with
   | false=>CallG E.P f args ac (λ v ao=>J (.got R i d rest br fr (aM ac) ao v)) (aKs E g J fr)
   | true=>match blD E d with
    | true=>False
    | false=>ODL (qB E R.tab i br ac d) λ e=>CallD E.P f args (soN E R.tab R.all i d) e (aM ac) ac (λ v ao=>J (.got R i d rest br fr (aM ac) ao v)) (aKs E g J fr))
  | .pan v=>(match (!R.dr||soN E R.tab R.all i d) with
   | true=>KD 5 v λ v=>(match E.rd with | some _=>False | none=>match E.df with | []=>aDH g .pan v ac | _::_=>J (.leave (some v) fr ac))
   | false=>False))
 | n+1,.got R i d rest br fr len ac v=>KD 4 v λ v=>ODL ac λ ac=>(match d with
  | none=>bR E fn g J n (.mid R (i+1) rest (bif R.dr then born i len (iA len ac) br else br) fr ac)
  | some d=>bif pN i rest then (match v with
    | .bool b=>(b=true->xR fr d (.bool true) λ fr=>J (.mid R (i+1) rest (bif R.dr then born i len (iA len ac) br else br) fr ac))/\
      (b=false->xR fr d (.bool false) λ fr=>J (.mid R (i+1) rest (bif R.dr then born i len (iA len ac) br else br) fr ac))
    | _=>False)
   else xR fr d v λ fr=>bR E fn g J n (.mid R (i+1) rest (bif R.dr then born i len (iA len ac) br else br) fr ac))
def EG{i n:Nat}(h:¬ i=n):Aw i n=false:=by
 cases a:Aw i n with
 | false=>rfl
 | true=>simp_all
def aC{i n:Nat}(h:Aw i n=true):i=n:=Nat.eq_of_beq_eq_true h
def aS{a b:Bool}(h:(a&&b)=true):a=true/\b=true:=by grind
def bG(l:au):aM l=l.length:=by
 induction l with
 | nil=>rfl
 | cons x r a=>simp [aM,a]
def oB{l:au}:∀ {n:Nat},n<l.length->l[n]? =some (aB l n):=by
 induction l with
 | nil=>simp
 | cons x r a=>intro n h;cases n with
  | zero=>rfl
  | succ n=>simpa [aB] using a (n:=n) (by grind)
def bD{l:au}:∀ {n:Nat} {x:ab},aB l n=x->x≠ .dead->l[n]? =some x:=by
 induction l with
 | nil=>intro n x h a;exact absurd h.symm (by simpa [aB] using a)
 | cons y r b=>intro n x h a;cases n with
  | zero=>simpa [aB] using h
  | succ n=>simpa using b (n:=n) h a
def fN{l:au}:∀ {n:Nat} {x:ab},l[n]? =some x->aB l n=x:=by
 induction l with
 | nil=>simp
 | cons y r a=>intro n x h;cases n with
  | zero=>simpa [aB] using h
  | succ n=>exact a (n:=n) (by simp_all)
def fW{l:au}:∀ {n:Nat} (x:ab),n<l.length->bJ l n x=l.set n x:=by
 induction l with
 | nil=>simp
 | cons y r a=>intro n x h;cases n with
  | zero=>rfl
  | succ n=>simp only [bJ,List.set_cons_succ];grind
def MN(l:au)(x:ab):bJ l l.length x=l++[x]:=by
 induction l with
 | nil=>rfl
 | cons y r a=>simp [bJ,a]
def lY(n:Nat):∀ (l:ax),kP n l=l.drop n:=by
 induction n with
 | zero=>intro l;rfl
 | succ n a=>intro l;cases l with
  | nil=>rfl
  | cons c r=>simpa [kP] using a r
def jE{n:Nat}:∀ {l r:ax},lW n l=some r->r.length=n/\∀ (i:Nat) c,r[i]? =some c->l[i]? =some c:=by
 induction n with
 | zero=>intro l r h;cases h;simp
 | succ n e=>
  intro l r h;cases l with
  | nil=>cases h
  | cons c l=>
   simp only [lW] at h;split at h
   .rename_i f b;cases h;obtain ⟨h1,a⟩:=e b;refine ⟨by simp [h1],λ i d hd=>?_⟩;cases i with
    | zero=>simpa using hd
    | succ i=>simpa using a i d (by simpa using hd)
   .cases h
def ZO:∀ {new l r:ax},SH new l=some r->new.length<=l.length/\r.length=l.length/\∀ (i:Nat),r[i]? =if i<new.length then new[i]? else l[i]?:=by
 intro new;induction new with
 | nil=>intro l r h;cases h;simp
 | cons c new e=>
  intro l r h;cases l with
  | nil=>cases h
  | cons d l=>
   simp only [SH] at h;split at h
   .rename_i x a;cases h;obtain ⟨h1,b,h3⟩:=e a;refine ⟨by simp;omega,by simp [b],λ i=>?_⟩;cases i with
    | zero=>simp
    | succ i=>simpa using h3 i
   .cases h
def kC{off:Nat}:∀ {new l r:ax},nM off new l=some r->off+new.length<=l.length/\r.length=l.length/\∀ (i:Nat),r[i]? =if off<=i/\i<off+new.length then new[i-off]? else l[i]?:=by
 induction off with
 | zero=>
  intro new l r h;obtain ⟨h1,b,h3⟩:=ZO (show SH new l=some r by cases l<;>exact h)
  grind
 | succ n e=>
  intro new l r h;cases l with
  | nil=>cases h
  | cons c l=>
   simp only [nM] at h;split at h
   .rename_i x d;cases h;obtain ⟨h1,b,h3⟩:=e d;refine ⟨by simp;omega,by simp [b],λ i=>?_⟩;cases i with
    | zero=>simp
    | succ i=>
     simp only [Fo,h3 i];by_cases a:n<=i/\i<n+new.length
     .rw [if_pos a,if_pos ⟨by omega,by omega⟩];simp
     .rw [if_neg a,if_neg o_]
   .cases h
def xB(l:ax):OX l=l.length:=by
 induction l with
 | nil=>rfl
 | cons c r a=>simp [OX,a]
def nI{α:Type}(l:List α):∀ (n:Nat),nth l n=l[n]?:=by
 induction l with
 | nil=>intro n;rfl
 | cons x r a=>intro n;cases n with
  | zero=>rfl
  | succ n=>simpa [nth] using a n
def jX{α:Type}{l:List α}{n:Nat}{x:α}(h:nth l n=some x):l[n]? =some x:=by rw [<-nI];exact h
def KL(a b:ax):Z4 a b=a++b:=by
 induction a with
 | nil=>rfl
 | cons c r d=>simp [Z4,d]
def wD(f:aa->aa)(l:ax):dO f l=l.map f:=by
 induction l with
 | nil=>rfl
 | cons c r a=>simp [dO,a]
def lN{n:Nat}:∀ {l:az},tF n l=true↔n∈l
 | []=>by simp [tF]
 | x::r=>by
  simp only [tF,Ew,lN (l:=r),Bc];constructor
  .rintro (h | h)
   .simp_all
   grind
  .rintro (h | h)
   .simp_all
   grind
def sS(fr:ar)(n m:Nat)(x:aa):aU (gR fr n x) m=if m=n then x else aU fr m:=by
 induction fr with
 | nil=>
  simp only [gR,aU];by_cases h:m=n
  .simp_all
  .rw [EG (λ e=>h e.symm),if_neg h];rfl
 | cons p r b=>
  obtain ⟨i,v⟩:=p;simp only [gR];cases a:Aw i n with
  | true=>
   have:=aC a;subst this;simp only [cond_true,aU];by_cases h:m=i
   .grind
   .rw [EG (λ e=>h e.symm),if_neg h];rfl
  | false=>
   simp only [cond_false,aU,b]
   grind
def aZ(b o j:Nat):(⟨b,o,none⟩:Addr).add j=⟨b,o+j,none⟩:=by unfold Addr.add;simp
def eT{α:Type}{b:Bool}{x:Option α}{r:α}(h:(bif b then x else none)=some r):b=true/\x=some r:=by grind
section
variable {M:Imm} {ob:Hs} {ac:au} {w:World}
def Rep.int_inv{v:Value}{k:IntKind}{n:Int}(h:Rep M ob v (.int k n)):v= .int k n/\inR k n:=by cases h with | int _ _ h=>grind
def Rep.bool_inv{v:Value}{b:Bool}(h:Rep M ob v (.bool b)):v= .bool b:=by cases h;rfl
def Rep.str_inv{v:Value}{l:ay}(h:Rep M ob v (.str l)):v= .string ⟨l.toArray⟩/\(l.length:Int)<=9223372036854775807:=by cases h with | str _ h=>grind
def Rep.agg_inv{v:Value}{as:ax}(h:Rep M ob v (.agg as)):∃ vs:ba,v= .agg vs.toArray/\vs.length=as.length/\∀ (i:Nat) u a,vs[i]? =some u->as[i]? =some a->Rep M ob u a:=by cases h with | agg vs as hl h=>grind
def Rep.tup_inv{v:Value}{as:ax}(h:Rep M ob v (.tup as)):∃ vs:ba,v= .tuple vs.toArray/\vs.length=as.length/\∀ (i:Nat) u a,vs[i]? =some u->as[i]? =some a->Rep M ob u a:=by cases h with | tup vs as hl h=>grind
def Rep.ptr_inv{v:Value}{cs:ax}(h:Rep M ob v (.ptr cs)):∃ b o,v= .pointer (some ⟨b,o,none⟩)/\∀ (j:Nat) c,cs[j]? =some c->M b (o+j) c:=by cases h with | ptr b o cs h=>grind
def Rep.ref_inv{v:Value}{k off:Nat}(h:Rep M ob v (.ref k off)):∃ b,v= .pointer (some ⟨b,off,none⟩)/\at' ob k 0=some (.pointer (some ⟨b,0,none⟩)):=by cases h with | ref k off b h=>grind
def Rep.iface_inv{v:Value}{t:TypeId}{a:aa}(h:Rep M ob v (.iface t a)):∃ u,v= .iface t u/\Rep M ob u a:=by cases h with | iface _ v _ h=>grind
def Rep.row_inv{v:Value}{k g:Nat}(h:Rep M ob v (.row k g)):∃ a n c,v= .slice a n c/\at' ob k g=some (.slice a n c):=by cases h with | row _ _ a n c h=>grind
def Rep.untok{v:Value}{sz:Nat}{xs:ax}{t:Tk}(h:Rep M ob v (.slice sz xs t)):Rep M ob v (.slice sz xs .no)/\tG ob v t:=by
 cases h with
 | slnil sz t c=>exact ⟨.slnil sz .no trivial,c⟩
 | slemp sz t a cap c=>exact ⟨.slemp sz .no a cap trivial,c⟩
 | sl sz b o n cap xs t d e hm hz h c=>exact ⟨.sl sz b o n cap xs .no d e hm hz h trivial,c⟩
def Rep.tok{v:Value}{sz:Nat}{xs:ax}{t:Tk}(h:Rep M ob v (.slice sz xs .no))(c:tG ob v t):Rep M ob v (.slice sz xs t):=by
 cases h with
 | slnil sz _=>exact .slnil sz t c
 | slemp sz _ a cap _=>exact .slemp sz t a cap c
 | sl sz b o n cap xs _ d e hm hz h _=>exact .sl sz b o n cap xs t d e hm hz h c
def Rep.slice_pure{v:Value}{sz:Nat}{xs:ax}(h:Rep M ob v (.slice sz xs .no)):Rep M [] v (.slice sz xs .no):=by
 cases h with
 | slnil sz _=>exact .slnil sz .no trivial
 | slemp sz _ a cap _=>exact .slemp sz .no a cap trivial
 | sl sz b o n cap xs _ c d hm hz h _=>exact .sl sz b o n cap xs .no c d hm hz h trivial
def Rep.slice_inv{v:Value}{sz:Nat}{xs:ax}{t:Tk}(h:Rep M ob v (.slice sz xs t)):∃ a c,v= .slice a xs.length c/\(a=none->xs=[]/\c=0)/\(xs≠[]->xs.length<=c)/\(xs.length:Int)<=9223372036854775807:=by
 cases h with
 | slnil sz t d=>grind
 | slemp sz t a cap d=>grind
 | sl sz b o n cap xs t e f hm hz h d=>subst e;exact ⟨_,cap,rfl,λ h=>(by cases h),λ_=>f,hm⟩
def Rep.sl_inv{v:Value}{sz:Nat}{xs:ax}{t:Tk}(h:Rep M ob v (.slice sz xs t)):(v= .slice none 0 0/\xs=[])\/(∃ a cap,v= .slice (some a) 0 cap/\xs=[])\/
  ∃ b o cap,v= .slice (some ⟨b,o,none⟩) xs.length cap/\xs.length<=cap/\(xs.length:Int)<=9223372036854775807/\(∀ x∈xs,x.cells.length=sz)/\∀ (i j:Nat) x c,xs[i]? =some x->x.cells[j]? =some c->M b (o+i*sz+j) c:=by
 cases h with
 | slnil sz t d=>simp
 | slemp sz t a cap d=>exact .inr (.inl ⟨a,cap,rfl,rfl⟩)
 | sl sz b o n cap xs t e f hm hz h d=>subst e;exact .inr (.inr ⟨b,o,cap,rfl,f,hm,hz,h⟩)
def Rep.cells{v:Value}{a:aa}(h:Rep M ob v a)(j:a≠ .undef):v.cells.toList.length=a.cells.length/\∀ (i:Nat) u c,v.cells.toList[i]? =some u->a.cells[i]? =some c->Rep M ob u c:=by
 have d:∀ {v:Value} {a:aa},Rep M ob v a->v.cells= #[v]->a.cells=[a]->v.cells.toList.length=a.cells.length/\∀ (i:Nat) u c,v.cells.toList[i]? =some u->a.cells[i]? =some c->Rep M ob u c:=by
  intro v a h q A;rw [q,A];refine ⟨rfl,λ i u c j e=>?_⟩;cases i with
  | zero=>grind
  | succ i=>simp at j
 cases h with
 | undef v=>exact absurd rfl j
 | agg vs as hl h=>exact ⟨by simpa [Value.cells,aa.cells] using hl,λ i u c j e=>h i u c (by simpa [Value.cells] using j) (by simpa [aa.cells] using e)⟩
 | row k g a n c h=>exact d (.row k g a n c h) rfl rfl
 | bool b=>exact d (.bool b) rfl rfl
 | int k n r=>exact d (.int k n r) rfl rfl
 | str l hl=>exact d (.str l hl) rfl rfl
 | tup vs as hl h=>exact d (.tup vs as hl h) rfl rfl
 | ptr b o cs h=>exact d (.ptr b o cs h) rfl rfl
 | ref k off b h=>exact d (.ref k off b h) rfl rfl
 | eref k g i sz off b n c h=>exact d (.eref k g i sz off b n c h) rfl rfl
 | csl k off len sz b h hm=>exact d (.csl k off len sz b h hm) rfl rfl
 | sub k g lo len sz b n c h hl f e hm=>exact d (.sub k g lo len sz b n c h hl f e hm) rfl rfl
 | sub0 k g lo sz a y n c h hl e=>exact d (.sub0 k g lo sz a y n c h hl e) rfl rfl
 | rowc k g c a n h hm=>exact d (.rowc k g c a n h hm) rfl rfl
 | pre k g n c sz b len h e f hl hm=>exact d (.pre k g n c sz b len h e f hl hm) rfl rfl
 | mref k b h=>exact d (.mref k b h) rfl rfl
 | nilptr=>exact d .nilptr rfl rfl
 | nilslice=>exact d .nilslice rfl rfl
 | nilmap=>exact d .nilmap rfl rfl
 | nilfunc=>exact d .nilfunc rfl rfl
 | nilif=>exact d .nilif rfl rfl
 | hsl a n c=>exact d (.hsl a n c) rfl rfl
 | slnil sz t m=>exact d (.slnil sz t m) rfl rfl
 | slemp sz t a cap m=>exact d (.slemp sz t a cap m) rfl rfl
 | sl sz b o n cap xs t f e hm hz h m=>exact d (.sl sz b o n cap xs t f e hm hz h m) rfl rfl
 | func fn s cs p x z e h1 w=>exact d (.func fn s cs p x z e h1 w) rfl rfl
 | iface t v a h=>exact d (.iface t v a h) rfl rfl
def Rep.one{v:Value}{a:aa}(h:Rep M ob v a)(h1:one a=true):v.oneCell'=true:=by cases h<;>first | rfl | (simp [AW.one] at h1)
def lL{l:ax}(h:pG l=true):∀ (i:Nat) c,l[i]? =some c->one c=true:=by
 induction l with
 | nil=>simp
 | cons d r b=>
  simp only [pG,Ad] at h;intro i c a;cases i with
  | zero=>grind
  | succ i=>exact b h.2 i c (by simpa using a)
def oA{c:aa}(h:AW.one c=true):c.cells=[c]:=by cases c<;>first | rfl | cases h
def Rep.cells_one{v:Value}{a:aa}(h:Rep M ob v a)(h1:pG a.cells=true):v.cells.toList.length=a.cells.length/\(∀ u∈v.cells.toList,u.oneCell'=true)/\∀ (i:Nat) u c,v.cells.toList[i]? =some u->a.cells[i]? =some c->Rep M ob u c:=by
 have d:a≠ .undef:=λ e=>by subst e;simp [aa.cells,pG,AW.one] at h1
 obtain ⟨g,h3⟩:=h.cells d;refine ⟨g,λ u hm=>?_,h3⟩;obtain ⟨i,f⟩:=Cq hm;have b:i<a.cells.length:=by grind
 exact (h3 i u _ f (Aa b)).one (lL h1 i _ (Aa b))
end
def cL{ob:Hs}{ac:au}{k:Nat}{x:ab}{hs:ba}(h1:ac[k]? =some x)(a:ob[k]? =some hs){b:Nat}:aG ob ac k b↔x.owns=true/\b∈blk hs:=by
 constructor
 .rintro ⟨c,hs',g,f,h,e⟩
  grind
 .rintro ⟨h3,d⟩;exact ⟨x,hs,h1,h3,a,d⟩
def Mem.turn{M M':Imm}{ob:Hs}{ac:au}{w w':World}(h:Mem M ob ac w){k:Nat}{x x':ab}{hs hs':ba}(P:ac[k]? =some x)(K:ob[k]? =some hs)(hp:hs<+:hs')(hd:x= .dead->hs=[])
  (Y:∀ b o y,M b o y->M' b o y) (z:∀ b o y,M' b o y->M b o y\/(x.owns=true/\b∈blk hs)\/w.heap.size<=b)
  (D:∀ b o y,M' b o y->∃ v,w'.cell? ⟨b,o,none⟩=some v/\v.oneCell'=true/\Rep M' [] v y)
  (heap:∀ b,b<w.heap.size->¬ (x.owns=true/\b∈blk hs)->w'.heap[b]? =w.heap[b]?)
  (S:w'.os=w.os) (B:w'.tape=w.tape) (C:w'.output=w.output) (s:w.heap.size<=w'.heap.size)
  (I:cV ob (ob.set k hs')->gX M' (ob.set k hs') w' hs' x') (hb:x'.owns=true->∀ b,b∈blk hs'->((x.owns=true/\b∈blk hs)\/w.heap.size<=b)/\b<w'.heap.size) (L:x'≠ .dead:=by intro h;cases h):
  Mem M' (ob.set k hs') (ac.set k x') w'/\Ext M ob ac w M' (ob.set k hs') (ac.set k x') w'/\cI ob ac (ob.set k hs') (ac.set k x'):=by
 have N:k<ac.length:=(Ac.1 P).1;have G:k<ob.length:=(Ac.1 K).1;have t:cV ob (ob.set k hs'):=λ i l hl=>by
  by_cases f:i=k
  .subst f;rw [K] at hl;cases hl;exact ⟨hs',Aq G,hp⟩
  .exact ⟨l,by rw [Ax (λ e=>f e.symm)];exact hl,Cl _⟩
 have p:∀ {i:Nat},i≠k->(ac.set k x')[i]? =ac[i]?/\(ob.set k hs')[i]? =ob[i]?:=λ{i} f=>
  ⟨Ax (λ e=>f e.symm),Ax (λ e=>f e.symm)⟩
 have n:(ac.set k x')[k]? =some x':=Aq N;have m:(ob.set k hs')[k]? =some hs':=Aq G;have d:∀ {i b:Nat},aG (ob.set k hs') (ac.set k x') i b->(i≠k/\aG ob ac i b)\/(i=k/\((x.owns=true/\b∈blk hs)\/w.heap.size<=b)/\b<w'.heap.size):=λ{i b} a=>by
  by_cases f:i=k
  .subst f;have:=(cL n m).1 a;exact .inr ⟨rfl,hb this.1 b this.2⟩
  .obtain ⟨c,l,J,V,Z,e4⟩:=a;rw [(p f).1] at J;rw [(p f).2] at Z;exact .inl ⟨f,c,l,J,V,Z,e4⟩
 have r:∀ {b:Nat},x.owns=true/\b∈blk hs->aG ob ac k b:=λ a=>(cL P K).2 a;refine ⟨⟨D,by simp [h.len],λ i c F=>?_,λ i b a=>?_,λ i j b a A=>?_⟩,⟨Y,λ b o y O=>?_,t,S,B,C,s,λ b A hn=>heap b A λ a=>hn k (r a),λ i b a=>?_⟩,λ i l h1 u=>⟨λ h3=>?_,λ h3 X=>?_⟩⟩
 .by_cases f:i=k
  .subst f;rw [n] at F;cases F;exact ⟨hs',m,I t⟩
  .rw [(p f).1] at F;obtain ⟨l,hl,ho⟩:=h.obj i c F;have H:∀ b,c.owns=true->b∈blk l->¬ (x.owns=true/\b∈blk hs)/\b<w.heap.size:=λ b h1 u=>by have a:aG ob ac i b:=(cL F hl).2 ⟨h1,u⟩;exact ⟨λ hk=>f (h.inj i k b a (r hk)),h.lt i b a⟩
   refine ⟨l,by rw [(p f).2];exact hl,ho.mono Y t (λ b h1 u o U y O=>?_) (λ b c' h1 u T=>?_)⟩
   .obtain ⟨R,W⟩:=H b h1 u;rcases z b o y O with q | q | q
    .exact U y q
    .exact R q
    .omega
   .obtain ⟨R,W⟩:=H b h1 u;rw [heap b W R];exact T
 .rcases d a with ⟨_,a⟩ | ⟨_,_,Q⟩
  .exact Em (h.lt i b a) s
  .exact Q
 .rcases d a with ⟨_,a⟩ | ⟨J,a,_⟩<;>rcases d A with ⟨_,g⟩ | ⟨V,g,_⟩
  .exact h.inj i j b a g
  .rcases g with g | g
   .rw [V];exact h.inj i k b a (r g)
   .have:=h.lt i b a;omega
  .rcases a with a | a
   .rw [J];exact h.inj k j b (r a) g
   .have:=h.lt j b g;omega
  omega
 .rcases z b o y O with q | q | q
  .exact .inl q
  .exact .inr (.inr ⟨k,r q⟩)
  omega
 .rcases d a with ⟨_,a⟩ | ⟨_,a | a,_⟩
  .exact .inl ⟨i,a⟩
  .exact .inl ⟨k,r a⟩
  omega
 .have f:i≠k:=λ e=>by subst e;rw [P] at h1;rw [K] at u;cases h1;simp_all
  rw [(p f).1,(p f).2];exact ⟨h1,u⟩
 .by_cases f:i=k
  .subst f;rw [n] at X;cases X;rw [m];have:=I t;exact absurd rfl L
  .rw [(p f).2];exact h3▸u
def Mem.more{M M':Imm}{ob:Hs}{ac:au}{w w':World}(h:Mem M ob ac w)(t:∀ b o y,M b o y->M' b o y)(d:∀ b o y,M' b o y->M b o y\/w.heap.size<=b)
  (g:∀ b o y,M' b o y->∃ v,w'.cell? ⟨b,o,none⟩=some v/\v.oneCell'=true/\Rep M' [] v y) (heap:∀ b,b<w.heap.size->w'.heap[b]? =w.heap[b]?)
  (n:w'.os=w.os) (e:w'.tape=w.tape) (f:w'.output=w.output) (a:w.heap.size<=w'.heap.size):Mem M' ob ac w'/\Ext M ob ac w M' ob ac w':=by
 refine ⟨⟨g,h.len,λ i c m=>?_,λ i b r=>Em (h.lt i b r) a,h.inj⟩,⟨t,λ b o y j=>?_,cV.refl _,n,e,f,a,λ b x _=>heap b x,λ i b r=>.inl ⟨i,r⟩⟩⟩
 .obtain ⟨l,hl,u⟩:=h.obj i c m;refine ⟨l,hl,u.mono t (cV.refl _) (λ b h1 k o s y j=>?_) (λ b z h1 k p=>?_)⟩
  .have:=h.lt i b ((cL m hl).2 ⟨h1,k⟩);rcases d b o y j with q | q
   .exact s y q
   .omega
  .rw [heap b (h.lt i b ((cL m hl).2 ⟨h1,k⟩))];exact p
 .rcases d b o y j with q | q
  .exact .inl q
  omega
def Mem.extend{M:Imm}{ob:Hs}{ac:au}{w:World}(h:Mem M ob ac w)(n:Nat):
  Mem M (ob++Aj n []) (ac++Aj n .dead) w/\Ext M ob ac w M (ob++Aj n []) (ac++Aj n .dead) w/\cI ob ac (ob++Aj n []) (ac++Aj n .dead):=by
 have part:∀ {i:Nat} {c:ab},(ac++Aj n .dead)[i]? =some c->(i<ac.length/\ac[i]? =some c)\/(ac.length<=i/\c= .dead/\i-ac.length<n):=λ{i c} f=>by
  by_cases d:i<ac.length
  .rw [Af d] at f;grind
  .rw [Ak o_,Ei] at f
   grind
 have left:∀ {i:Nat},i<ac.length->(ob++Aj n ([]:ba))[i]? =ob[i]?:=λ{i} d=>Af (by rw [h.len];exact d)
 have g:cV ob (ob++Aj n []):=λ i l hl=>⟨l,by rw [Af (Ac.1 hl).1];exact hl,Cl _⟩
 have a:∀ {i b:Nat},aG (ob++Aj n []) (ac++Aj n .dead) i b->aG ob ac i b:=λ{i b} ⟨c,l,m,e2,e3,e4⟩=>by
  rcases part m with ⟨d,m⟩ | ⟨_,rfl,_⟩
  .rw [left d] at e3;exact ⟨c,l,m,e2,e3,e4⟩
  .cases e2
 refine ⟨⟨h.imm,by simp [h.len],λ i c f=>?_,λ i b k=>h.lt i b (a k),λ i j b k r=>h.inj i j b (a k) (a r)⟩,⟨λ_ _ _ h=>h,λ_ _ _ h=>.inl h,g,rfl,rfl,rfl,Bf _,λ_ _ _=>rfl,λ i b k=>.inl ⟨i,a k⟩⟩,λ i l h1 p=>?_⟩
 .rcases part f with ⟨d,f⟩ | ⟨d,rfl,o⟩
  .obtain ⟨l,hl,q⟩:=h.obj i c f;exact ⟨l,by rw [left d];exact hl,q.mono (λ_ _ _ h=>h) g (λ_ _ _ _ h=>h) (λ_ _ _ _ h=>h)⟩
  .refine ⟨[],?_,trivial⟩;rw [Ak (by rw [h.len];exact d),Ei,if_pos (by rw [h.len];exact o)]
 .have d:=(Ac.1 h1).1;exact ⟨λ_=>⟨by rw [Af d];exact h1,by rw [left d];exact p⟩,λ e _=>by rw [left d];exact e▸p⟩
def HW{sz:Nat}{xs:ax}{i j:Nat}{x c:aa}(d:xs[i]? =some x)(b:x.cells[j]? =some c)(hz:x.cells.length=sz):cellAt sz xs (i*sz+j)=some c:=by
 have a:j<sz:=by grind
 have h1:(i*sz+j) / sz=i:=by rw [Da,Km o_,Nat.div_eq_of_lt a,Ff]
 have e:(i*sz+j) % sz=j:=by rw [Da,Nat.mul_add_mod,Hd a]
 simp [cellAt,h1,e,d,b]
def fZ{sz:Nat}{xs:ax}{o:Nat}{c:aa}(h:cellAt sz xs o=some c):∃ x,xs[o / sz]? =some x/\x.cells[o % sz]? =some c:=by
 unfold cellAt at h;cases a:xs[o / sz]? with
 | none=>grind
 | some x=>exact ⟨x,rfl,by grind⟩
def fI{sz:Nat}{xs:ax}{q:Nat}{c:aa}(hs:0<sz)(h:cellAt sz xs q=some c):q<xs.length*sz:=by obtain ⟨x,a,_⟩:=fZ h;exact (Di hs).1 (Ac.1 a).1
def yT{sz:Nat}{xs:ax}{q:Nat}(hs:0<sz)(hz:∀ x∈xs,x.cells.length=sz)(h:q<xs.length*sz):∃ c,cellAt sz xs q=some c:=by
 have a:q / sz<xs.length:=(Di hs).2 h;have b:xs[q / sz]? =some xs[q / sz]:=Aa a;have d:q % sz<(xs[q / sz]).cells.length:=by rw [hz _ (Bd a)];exact Ez _ hs
 exact ⟨_,by unfold cellAt;rw [b];exact Aa d⟩
def cK{sz:Nat}{xs ys:ax}{o:Nat}(hs:0<sz)(h:o<xs.length*sz):cellAt sz (xs++ys) o=cellAt sz xs o:=by have a:o / sz<xs.length:=(Di hs).2 h;simp [cellAt,Af a]
def cD{sz:Nat}{xs ys:ax}{o:Nat}(hs:0<sz)(h:xs.length*sz<=o):cellAt sz (xs++ys) o=cellAt sz ys (o-xs.length*sz):=by
 have b:xs.length<=o / sz:=(Hu hs).2 h;obtain ⟨q,rfl⟩:=Nat.exists_eq_add_of_le h;have h1:(xs.length*sz+q) / sz=xs.length+q / sz:=by rw [Da,Km hs]
 have a:(xs.length*sz+q) % sz=q % sz:=by simp
 simp only [cellAt,h1,a,Hi];rw [Ak o_];simp
def nA{sz n:Nat}{xs:ax}{q:Nat}(hs:0<sz)(h:q<n*sz):cellAt sz (xs.take n) q=cellAt sz xs q:=by have a:q / sz<n:=(Di hs).2 h;simp [cellAt,Bj a]
def AB{sz n:Nat}{xs:ax}{q:Nat}(hs:0<sz):cellAt sz (xs.drop n) q=cellAt sz xs (n*sz+q):=by
 have h1:(n*sz+q) / sz=n+q / sz:=by rw [Da,Km hs]
 have a:(n*sz+q) % sz=q % sz:=by simp
 simp [cellAt,h1,a,Bo]
def FB{sz i:Nat}{xs ys:ax}(hs:0<sz)(d:i+ys.length<=xs.length){q:Nat}{c:aa}(h:cellAt sz (xs.take i++ys++xs.drop (i+ys.length)) q=some c):
  (i*sz<=q/\q<i*sz+ys.length*sz/\cellAt sz ys (q-i*sz)=some c)\/((q<i*sz\/i*sz+ys.length*sz<=q)/\cellAt sz xs q=some c):=by
 have hl:(xs.take i).length=i:=by simp;omega
 have a:(xs.take i++ys).length=i+ys.length:=by simp;omega
 by_cases h1:q<i*sz
 .right;refine ⟨.inl h1,?_⟩;rw [Ae,cK hs (by grind),nA hs h1] at h;exact h
 .by_cases b:q<i*sz+ys.length*sz
  .left;rw [cK hs (by rw [a,Bv];exact b),cD hs (by grind),hl] at h
   grind
  .right;refine ⟨.inr o_,?_⟩;rw [cD hs (by rw [a,Bv];omega),AB hs,a] at h;have:(i+ys.length)*sz+(q-(i+ys.length)*sz)=q:=by rw [Bv];omega
   simp_all
def fG{α:Type}(cv vs:List α)(off:Nat)(h:off+vs.length<=cv.length):(cv.take off++vs++cv.drop (off+vs.length)).length=cv.length/\
  ∀ (i:Nat),(cv.take off++vs++cv.drop (off+vs.length))[i]? =if off<=i/\i<off+vs.length then vs[i-off]? else cv[i]?:=by
 refine ⟨by simp;omega,λ i=>?_⟩;by_cases h1:i<off
 .rw [Ae,Af q_,if_neg o_,Bj h1]
 .by_cases a:i<off+vs.length
  .rw [if_pos ⟨by omega,a⟩,Ae,Ak q_,Af q_];congr 1;simp;omega
  .rw [if_neg o_,Ak q_,Bo];congr 1;simp;omega
section
variable {M:Imm} {ob:Hs} {ac:au} {w:World}
def dZ{hs:ba}{g:Nat}{v:Value}(hl:hs.length=g+1)(a:hs[g]? =some v):blk hs=KH v:=by unfold blk;rw [Le,hl,Hn,a]
def nC{hs:ba}{v:Value}{b:Nat}(h:blk hs=v.ownBlock.toList)(e:v.ownBlock=some b):b∈blk hs:=by grind
def vY{hs:ba}{v:Value}{b:Nat}(h:blk hs=v.ownBlock.toList)(e:b∈blk hs):v.ownBlock=some b:=by grind
def eV{w:World}{e:TypeId}{sz n:Nat}{v:Value}{cv:ba}(h:w.ownsRow 0 e sz v n cv):KH v=v.ownBlock.toList:=by rcases h.2 with ⟨rfl,_⟩ | ⟨g,cap,a,rfl,_⟩<;>rfl
def bT{k g:Nat}{hs:ba}(h:ob[k]? =some hs):at' ob k g=hs[g]?:=by simp [at',h]
def Mem.rowOf(h:Mem M ob ac w){k g sz:Nat}{e:TypeId}{xs:ax}(c:ac[k]? =some (.row g sz e xs)):∃ hs v,ob[k]? =some hs/\hs.length=g+1/\hs[g]? =some v/\at' ob k g=some v/\dM M w v sz e xs/\blk hs=v.ownBlock.toList:=by obtain ⟨hs,h1,a,v,h3,b⟩:=h.obj k _ c;refine ⟨hs,v,h1,a,h3,(bT h1).trans h3,b,(dZ a h3).trans ?_⟩;obtain ⟨cv,d,_⟩:=b;exact eV d
def Mem.rowTurn(h:Mem M ob ac w){k g sz:Nat}{e:TypeId}{xs:ax}(F:ac[k]? =some (.row g sz e xs)){hs:ba}{v:Value}(G:ob[k]? =some hs)(K:hs[g]? =some v)
  {w':World} {n:Nat} {hs':ba} {t:Value} {xs':ax} (hp:hs<+:hs') (m:hs'.length=n+1) (l:hs'[n]? =some t) (D:dM M w' t sz e xs')
  (heap:∀ b,b<w.heap.size->v.ownBlock≠some b->w'.heap[b]? =w.heap[b]?) (A:w'.os=w.os) (i:w'.tape=w.tape) (r:w'.output=w.output) (j:w.heap.size<=w'.heap.size)
  (P:∀ b,t.ownBlock=some b->v.ownBlock=some b\/w.heap.size<=b):
  Mem M (ob.set k hs') (ac.set k (.row n sz e xs')) w'/\Ext M ob ac w M (ob.set k hs') (ac.set k (.row n sz e xs')) w'/\cI ob ac (ob.set k hs') (ac.set k (.row n sz e xs')):=by
 obtain ⟨O,Q,C,R,I,_,p,f⟩:=h.rowOf F;rw [G] at C;cases C;rw [K] at I;cases I;obtain ⟨cv,H,_,_,_,B,_⟩:=p;obtain ⟨cv',c,_⟩:=id D;have s:∀ b o y,M b o y->v.ownBlock≠some b:=λ b o y x e=>B b e o y x;refine h.turn F G hp (λ e=>by cases e) (λ_ _ _ h=>h) (λ_ _ _ h=>.inl h) (λ b o y x=>?_) (λ b z L=>heap b z λ e=>L ⟨rfl,nC f e⟩) A i r j (λ_=>?_) (λ_ b d=>?_)
 .obtain ⟨u,J,h1,N⟩:=h.imm b o y x;exact ⟨u,(Co (w:=w) (a:=⟨b,o,none⟩) (heap b (Cp w _ J) (s b o y x))).trans J,h1,N⟩
 .exact ⟨m,t,l,D⟩
 .have d:=vY ((dZ m l).trans (eV c)) d;refine ⟨?_,(c.lt b d).2⟩;rcases P b d with q | q
  .exact .inl ⟨rfl,nC f q⟩
  omega
def fS{α:Type}{l:List α}{k:Nat}{x:α}(h:l[k]? =some x):l.set k x=l:=by
 apply Ea;intro i;by_cases a:i=k
 .subst a;rw [Aq (Ac.1 h).1,h]
 .rw [Ax (λ e=>a e.symm)]
def dM.write{v:Value}{sz:Nat}{e:TypeId}{xs xs':ax}(h:dM M w v sz e xs){b n cap:Nat}(F:v= .slice (some ⟨b,0,none⟩) n cap)(hs:0<sz){p:Nat}{news:ba}(hp:p+news.length<=xs.length*sz)
  (h1:∀ u∈news,u.oneCell'=true) (hl:xs'.length=xs.length) (hz:∀ x∈xs',x.cells.length=sz)
  (N:∀ q c,cellAt sz xs' q=some c->(p<=q/\q<p+news.length/\∃ u,news[q-p]? =some u/\Rep M [] u c)\/((q<p\/p+news.length<=q)/\cellAt sz xs q=some c)):
  ∃ a,w.heap[b]? =some (.cells a e (0,0))/\p+news.length<=a.size/\dM M (w.setRow b (a.toList.take p++news++a.toList.drop (p+news.length)).toArray) v sz e xs':=by
 subst F;obtain ⟨cv,⟨V,I⟩,h3,S,P,O,D⟩:=h;rcases I with ⟨s,_⟩ | ⟨g,z,a,s,_,o,K,H,B,L⟩
 .cases s
 cases s;have G:xs.length*sz<=a.size:=by rw [B];exact Bs _ K
 have k:p+news.length<=a.toList.length:=by simp;omega
 obtain ⟨A,C⟩:=fG a.toList news p k;have l:∀ q,q<xs.length*sz->cv[q]? =a.toList[q]?:=λ q d=>by rw [<-L,Bj d]
 refine ⟨a,o,by omega,(a.toList.take p++news++a.toList.drop (p+news.length)).take (xs.length*sz),⟨by rw [hl,Dl,A,Im];simp;omega,.inr ⟨b,cap,_,by rw [hl],Bt _,setRow_heap w b a _ e _ o,by omega,H,?_,by rw [hl]⟩⟩,λ u f=>?_,hz,λ q c d=>?_,O,λ R Q t T U m u f=>?_⟩
 .rw [Ge,A,Im,B]
 .obtain ⟨q,d⟩:=Cq f;rw [Fz] at d;split at d
  .rename_i i;rw [C] at d;split at d
   .exact h1 u (Av d)
   .rw [<-l q i] at d;exact h3 u (Av d)
  .cases d
 .have i:=fI hs d;rw [hl] at i;rw [Bj i,C];rcases N q c d with ⟨y,r,u,f,J⟩ | ⟨y,r⟩
  .rw [if_pos ⟨y,r⟩];exact ⟨u,f,J⟩
  .rw [if_neg o_,<-l q i];exact P q c r
 .cases Q;rw [setRow_heap w b a _ e _ o] at m;cases m;have j:∀ u∈a.toList,u.oneCell'=true:=D b rfl _ _ _ o;simp only [Az] at f;rcases f with (f | f) | f
  .exact j u (Cu f)
  .exact h1 u f
  .exact j u (Es f)
def Mem.rowWrite{P:Program}(h:Mem M ob ac w){k g sz:Nat}{e:TypeId}{xs xs':ax}(m:ac[k]? =some (.row g sz e xs)){b n cap:Nat}(t:at' ob k g=some (.slice (some ⟨b,0,none⟩) n cap))(hs:0<sz)
  {p:Nat} {news:ba} (hp:p+news.length<=xs.length*sz) (h1:∀ u∈news,u.oneCell'=true) (hl:xs'.length=xs.length) (hz:∀ x∈xs',x.cells.length=sz)
  (A:∀ q c,cellAt sz xs' q=some c->(p<=q/\q<p+news.length/\∃ u,news[q-p]? =some u/\Rep M [] u c)\/((q<p\/p+news.length<=q)/\cellAt sz xs q=some c)):
  ∃ w',(storeCells ⟨b,p,none⟩ news).run P w= .ok () w'/\Mem M ob (ac.set k (.row g sz e xs')) w'/\Ext M ob ac w M ob (ac.set k (.row g sz e xs')) w'/\cI ob ac ob (ac.set k (.row g sz e xs')):=by
 obtain ⟨i,v,j,B,s,r,a,l⟩:=h.rowOf m;rw [t] at r;cases r;obtain ⟨f,C,D,y⟩:=a.write rfl hs hp h1 hl hz A;have hst:=run_storeCells_at P b p e news 0 f w C o_ h1;simp only [Ff] at hst;refine ⟨_,hst,?_⟩;have:=h.rowTurn (hs':=i) m j s (Cl _) B s y (λ o _ z=>setRow_other w b o _ (λ e=>z (by simp [Gd,e]))) rfl rfl rfl s_ (λ o d=>.inl d);rw [fS j] at this;exact this
end
def uQ(w:World)(o:Obj):(w.alloc o).heap.size=w.heap.size+1:=by simp
structure Grown(M:Imm)(w w':World)(sz:Nat)(e:TypeId)(v:Value)(xs:ax):Prop where
 own:∃ cv,w'.ownsRow 0 e sz v xs.length cv/\(∀ u∈cv,u.oneCell'=true)/\∀ (q:Nat) c,cellAt sz xs q=some c->∃ u,cv[q]? =some u/\Rep M [] u c
 pos:0<sz
 hz:∀ x∈xs,x.cells.length=sz
 blk:∀ b,v.ownBlock=some b->w.heap.size<=b
 heap:∀ b,b<w.heap.size->w'.heap[b]? =w.heap[b]?
 os:w'.os=w.os
 tape:w'.tape=w.tape
 output:w'.output=w.output
 size:w.heap.size<=w'.heap.size
 oneb:S3 w' v
section
variable {M:Imm} {ob:Hs} {ac:au} {w w':World} {sz:Nat} {e:TypeId} {v:Value} {xs:ax}
def fH{w:World}{n:Nat}{cv:ba}(h:w.ownsRow 0 e sz v n cv){b:Nat}(c:v.ownBlock=some b){q:Nat}{u:Value}(a:cv[q]? =some u):w.cell? ⟨b,q,none⟩=some u:=by have:=h.cells (g:=b) c q u a;rwa [aZ,Bw] at this
def dJ{w:World}{n:Nat}{cv:ba}(h:w.ownsRow 0 e sz v n cv):(v= .slice none 0 0/\n=0)\/∃ b cap,v= .slice (some ⟨b,0,none⟩) n cap/\v.ownBlock=some b/\n<=cap/\cap<=maxLen:=by
 rcases h.2 with h | ⟨g,cap,f,a,_,_,c,d,_⟩
 .exact .inl h
 .exact .inr ⟨g,cap,a,by rw [a];rfl,c,d⟩
def gY(M:Imm)(v:Value)(sz:Nat)(xs:ax):Imm:=λ b o x=>M b o x\/(v.ownBlock=some b/\cellAt sz xs o=some x)
def jT{w:World}{cv:ba}(h:w.ownsRow 0 e sz v xs.length cv)(hz:∀ x∈xs,x.cells.length=sz){t:Tk}(d:tG ob v t):Rep (gY M v sz xs) ob v (.slice sz xs t):=by
 rcases dJ h with ⟨rfl,g⟩ | ⟨b,cap,f,n,m,k⟩
 .have:xs=[]:=Ay g;subst this;exact .slnil sz t d
 .subst f;refine .sl sz b 0 xs.length cap xs t rfl m (by simp only [maxLen] at k;omega) hz (λ i j x c a l=>.inr ⟨n,?_⟩) d;rw [Bw];exact HW a l (hz x (Av a))
def Grown.imm(g:Grown M w w' sz e v xs)(h:Mem M ob ac w):∀ b o y,gY M v sz xs b o y->∃ u,w'.cell? ⟨b,o,none⟩=some u/\u.oneCell'=true/\Rep (gY M v sz xs) [] u y:=by
 obtain ⟨cv,h1,i,h3⟩:=g.own;intro b o y c;rcases c with c | ⟨k,c⟩
 .obtain ⟨u,d,j,l⟩:=h.imm b o y c;exact ⟨u,(Co (w:=w) (a:=⟨b,o,none⟩) (g.heap b (Cp w _ d))).trans d,j,l.monoM λ_ _ _ h=>.inl h⟩
 .obtain ⟨u,d,f⟩:=h3 o y c;exact ⟨u,fH h1 k d,i u (Av d),f.monoM λ_ _ _ h=>.inl h⟩
def Grown.more(g:Grown M w w' sz e v xs)(h:Mem M ob ac w):Mem (gY M v sz xs) ob ac w'/\Ext M ob ac w (gY M v sz xs) ob ac w':=
 h.more (λ_ _ _ h=>.inl h) (λ b o y a=>by
  rcases a with a | ⟨c,_⟩
  .grind
  .exact .inr (g.blk b c)) (g.imm h) g.heap g.os g.tape g.output g.size
def Grown.row(g:Grown M w w' sz e v xs)(h:Mem M ob ac w){k:Nat}(h1:ac[k]? =some .dead)(n:ob[k]? =some []):
  Mem M (ob.set k [v]) (ac.set k (.row 0 sz e xs)) w'/\Ext M ob ac w M (ob.set k [v]) (ac.set k (.row 0 sz e xs)) w'/\cI ob ac (ob.set k [v]) (ac.set k (.row 0 sz e xs)):=by
 obtain ⟨cv,f,l,j⟩:=g.own;refine h.turn h1 n ⟨[v],rfl⟩ (λ_=>rfl) (λ_ _ _ h=>h) (λ_ _ _ h=>.inl h) (λ b o y m=>?_) (λ b d _=>g.heap b d) g.os g.tape g.output g.size (λ_=>⟨rfl,v,rfl,cv,f,l,g.hz,j,λ b d o=>h.noImm (g.blk b d) o,g.oneb⟩) (λ_ b d=>?_)
 .obtain ⟨u,i,p,q⟩:=h.imm b o y m;exact ⟨u,(Co (w:=w) (a:=⟨b,o,none⟩) (g.heap b (Cp w _ i))).trans i,p,q⟩
 .have c:v.ownBlock=some b:=vY (hs:=[v]) (eV f) d;exact ⟨.inr (g.blk b c),(f.lt b c).2⟩
def Grown.tail(g:Grown M w w' sz e v xs)(h:Mem M ob ac w){k:Nat}(h1:ac[k]? =some .dead)(j:ob[k]? =some []):
  Mem (gY M v sz xs) (ob.set k [v]) (ac.set k (.tail 0 sz e)) w'/\Ext M ob ac w (gY M v sz xs) (ob.set k [v]) (ac.set k (.tail 0 sz e)) w'/\cI ob ac (ob.set k [v]) (ac.set k (.tail 0 sz e))/\
   Rep (gY M v sz xs) (ob.set k [v]) v (.slice sz xs (.own k 0)):=by
 obtain ⟨cv,i,n,m⟩:=g.own;have l:k<ob.length:=(Ac.1 j).1
 have a:=h.turn (M':=gY M v sz xs) (w':=w') (x':=.tail 0 sz e) (hs':=[v]) h1 j ⟨[v],rfl⟩ (λ_=>rfl) (λ_ _ _ h=>.inl h) (λ b o y c=>by
  rcases c with c | ⟨d,_⟩
  .grind
  .exact .inr (.inr (g.blk b d))) (g.imm h) (λ b d _=>g.heap b d) g.os g.tape g.output g.size
  (λ_=>⟨rfl,v,rfl,_,cv,i,λ b d o p y c=>by
   rcases c with c | ⟨_,c⟩
   .exact h.noImm (g.blk b d) o y c
   .have:=fI g.pos c;omega⟩)
  (λ_ b d=>by
   have f:v.ownBlock=some b:=vY (hs:=[v]) (eV i) d
   exact ⟨.inr (g.blk b f),(i.lt b f).2⟩)
 refine ⟨a.1,a.2.1,a.2.2,jT i g.hz ?_⟩;show at' _ k 0=some v;rw [bT (Aq l)];rfl
end
def CT(w:World):S3 w (.slice none 0 0):=λ b a=>by cases a
def jI{z:Array Value}{n:Nat}(hz:z.toList.all (·.oneCell')=true):∀ u∈(Ce z n).toList,u.oneCell'=true:=by
 intro u b;simp only [Ce,Jr,Bq] at b;obtain ⟨i,d,rfl⟩:=b;have a:0<z.size:=by refine Nat.pos_of_ne_zero λ e=>?_;simp_all
 have c:i % z.size<z.size:=Ez _ a;simp_all
def pH{w:World}{cs:ba}{n c:Nat}{T:TypeId}(h:∀ u∈cs,u.oneCell'=true):S3 (w.alloc (.cells cs.toArray T)) (.slice (some ⟨w.heap.size,0,none⟩) n c):=by
 intro b a e g i d u f;cases a;rw [heap_alloc_new w _] at d
 grind
def iI{P:Program}(w:World)(t J ty e:TypeId)(i:TypeInfo)(z:Value)(O:P.underlying t=some (.slice e))(M:P.info? e=some i)(hz:i.zero=some z)(hz1:z.cells.toList.all (·.oneCell')=true)
  (Q:z.cells.size=i.size) (v:Value) (n:Nat) (a:ba) (d:w.ownsRow 0 e i.size v n a) (R:∀ u∈a,u.oneCell'=true) (x:Value) (m:Nat) (news:ba) (hs:Src P i.size J x m news w)
  (H:n+m<=maxLen) (r:(n+m)*i.bytes<=140737488355328):
  ∃ F w',(Cm #[t,J] ty #[v,x]).run P w= .ok F w'/\w'.ownsRow 0 e i.size F (n+m) (a++news)/\w'.os=w.os/\w'.tape=w.tape/\w'.output=w.output/\w.heap.size<=w'.heap.size/\
   ((F.ownBlock=v.ownBlock/\∀ b,v.ownBlock≠some b->w'.heap[b]? =w.heap[b]?)\/(F.ownBlock=some w.heap.size/\∀ b,b<w.heap.size->w'.heap[b]? =w.heap[b]?))/\(S3 w v->S3 w' F):=by
 have f:(a++news).length=(n+m)*i.size:=by rw [Ah,d.1,hs.newsLen,Bv]
 have h63':n+m<=4611686018427387904\/True:=.inr trivial
 have y:∀ (l:Nat),l<n+m->
   (w.drew.alloc (.cells ((a++news).toArray++Ce z.cells (grownCap w (n+m) l e-(n+m))) e)).ownsRow 0 e i.size
    (.slice (some ⟨w.heap.size,0,none⟩) (n+m) (grownCap w (n+m) l e)) (n+m) (a++news):=by
  intro l ho;have X:=grownCap_ge w (n+m) l e;have D:grownCap w (n+m) l e<=maxLen:=grownCap_le_maxLen w (n+m) l e H;refine ⟨f,.inr ⟨w.heap.size,_,_,rfl,Bt _,heap_alloc_new w.drew _,X,D,?_,?_⟩⟩
  .simp only [Array.size_append,Ge,size_zeroCells,Q,f,<-Bv];simp_all
  .simp only [Mu];rw [<-f];exact Hg
 have s:∀ (k Y c':Nat),S3 (w.drew.alloc (.cells ((a++news).toArray++Ce z.cells k) e)) (.slice (some ⟨w.heap.size,0,none⟩) Y c'):=by
  intro k Y c';have:(a++news).toArray++Ce z.cells k=((a++news)++(Ce z.cells k).toList).toArray:=by simp
  rw [this];refine pH (w:=w.drew) λ u c=>?_;rcases Az.1 c with c | c
  .rcases Az.1 c with c | c
   .exact R u c
   .exact hs.one u c
  .exact jI hz1 u c
 have G:∀ o,w.heap.size<=(w.drew.alloc o).heap.size:=λ o=>by simp
 have K:((n+m:Nat):Int)<=9223372036854775807:=by simp only [maxLen] at H;omega
 rcases d.2 with ⟨rfl,rfl⟩ | ⟨g,cap,p,rfl,_,N,hnc,D,W,B⟩
 .have hx:a=[]:=Ay (by simpa using d.1);subst hx;by_cases hm:m=0
  .subst hm;have hn:news=[]:=Ay (by simpa using hs.newsLen);subst hn;refine ⟨.slice none 0 0,w,?_,Gy w 0 e i.size,rfl,rfl,rfl,Bf _,.inl ⟨rfl,λ_ _=>rfl⟩,λ h=>h⟩;rcases hs.kind with ⟨e',L⟩ | L<;>simp [Cm,run_underlying O,run_underlying L,sizeOf,typeInfo,M,hs.len,hs.cells]
  .have I:=run_append_grow_src (P:=P) w t J ty e i z O M hz none 0 0 [] (by rfl) x m news hs o_ K (growslice_fits o_ r);exact ⟨_,_,I,y 0 o_,rfl,rfl,rfl,G _,.inr ⟨rfl,λ b C=>heap_alloc_old w.drew _ C⟩,λ_=>s _ _ _⟩
 .by_cases q:n+m<=cap
  .have Z:n*i.size+news.length<=p.size:=by rw [hs.newsLen,W,<-Bv];exact Bs _ q
   have hst:=run_storeCells_at P g (n*i.size) e news 0 p w N o_ hs.one;simp only [Ff] at hst;have V:(⟨g,0,none⟩:Addr).add (n*i.size)=⟨g,n*i.size,none⟩:=by rw [aZ,Bw]
   have I:(Cm #[t,J] ty #[.slice (some ⟨g,0,none⟩) n cap,x]).run P w= .ok (.slice (some ⟨g,0,none⟩) (n+m) cap) (w.setRow g (p.toList.take (n*i.size)++news++p.toList.drop (n*i.size+news.length)).toArray):=by rcases hs.kind with ⟨e',L⟩ | L<;>simp [Cm,run_underlying O,run_underlying L,sizeOf,typeInfo,M,hs.len,q,hs.cells,V,hst]
   refine ⟨_,_,I,⟨f,.inr ⟨g,cap,_,rfl,Bt _,setRow_heap w g p _ e _ N,q,D,?_,?_⟩⟩,rfl,rfl,rfl,by simp,.inl ⟨rfl,λ b C=>setRow_other w g b _ (λ e=>C (by simp [Gd,e]))⟩,λ U b C cur' T' fz hc u c=>?_⟩
   .simp only [Ge,Ah,Dl,Eg,Im];omega
   .rw [B,<-f];exact Hg
   .cases C;rw [setRow_heap w g p _ e _ N] at hc;cases hc;have A:∀ u∈p.toList,u.oneCell'=true:=U g rfl _ _ _ N;simp only [Az] at c;rcases c with (c | c) | c
    .exact A u (Cu c)
    .exact hs.one u c
    .exact A u (Es c)
  .have S:∀ (j:Nat) u,a[j]? =some u->w.cell? ((⟨g,0,none⟩:Addr).add j)=some u:=d.cells (g:=g) rfl;have T:(Ch i.size n (.slice (some ⟨g,0,none⟩) n cap)).run P w.drew= .ok a.toArray w.drew:=run_firstCells_some w.drew i.size n ⟨g,0,none⟩ n cap a d.1 q_;have I:=run_append_grow_src (P:=P) w t J ty e i z O M hz (some ⟨g,0,none⟩) n cap a T x m news hs o_ K (growslice_fits o_ r);exact ⟨_,_,I,y cap o_,rfl,rfl,rfl,G _,.inr ⟨rfl,λ b C=>heap_alloc_old w.drew _ C⟩,λ_=>s _ _ _⟩
section
variable {M:Imm} {ob:Hs} {ac:au} {w:World}
structure SrcA(P:Program)(M:Imm)(w:World)(sz:Nat)(tx:TypeId)(x:Value)(ys:ax):Prop where
 src:∃ news,Src P sz tx x ys.length news w/\∀ (q:Nat) c,cellAt sz ys q=some c->∃ u,news[q]? =some u/\Rep M [] u c
 hz:∀ y∈ys,y.cells.length=sz
 pre:∀ m,m<=ys.length->∃ news:ba,(Ch sz m x).run P w= .ok news.toArray w/\news.length=m*sz/\(∀ u∈news,u.oneCell'=true)/\∀ (q:Nat) c,q<m*sz->cellAt sz ys q=some c->∃ u,news[q]? =some u/\Rep M [] u c
def Mem.appendRow{P:Program}(h:Mem M ob ac w){t R ty e:TypeId}{i:TypeInfo}{z:Value}(ht:P.underlying t=some (.slice e))(hi:P.info? e=some i)(hz:i.zero=some z)(hz1:z.cells.toList.all (·.oneCell')=true)
  (N:z.cells.size=i.size) (p:0<i.size) {k g:Nat} {xs ys:ax} (X:ac[k]? =some (.row g i.size e xs)) {v x:Value} (hv:at' ob k g=some v) (hs:SrcA P M w i.size R x ys)
  (Q:xs.length+ys.length<=maxLen) (m:(xs.length+ys.length)*i.bytes<=140737488355328):
  ∃ a w' ob',(Cm #[t,R] ty #[v,x]).run P w= .ok a w'/\Mem M ob' (ac.set k (.row (g+1) i.size e (xs++ys))) w'/\Ext M ob ac w M ob' (ac.set k (.row (g+1) i.size e (xs++ys))) w'/\
   cI ob ac ob' (ac.set k (.row (g+1) i.size e (xs++ys)))/\Rep M ob' a (.row k (g+1)):=by
 obtain ⟨l,v0,T,Z,e3,Y,D,U⟩:=h.rowOf X;rw [hv] at Y;cases Y;obtain ⟨cv,K,W,o3,o4,o5,o6⟩:=D;obtain ⟨⟨news,V,s2⟩,s3⟩:=hs;obtain ⟨a,w',hr,s,S,B,G,A,f,r⟩:=iI (P:=P) w t R ty e i z ht hi hz hz1 N v xs.length cv K W x ys.length news V Q m;have d:∀ b,a.ownBlock=some b->v.ownBlock=some b\/w.heap.size<=b:=λ b I=>by
  rcases f with ⟨q,_⟩ | ⟨q,_⟩
  .exact .inl (q▸I)
  .rw [q] at I;cases I;omega
 have C:dM M w' a i.size e (xs++ys):=by
  refine ⟨cv++news,by simp;omega,λ u J=>?_,λ y F=>?_,λ q c L=>?_,λ b I o=>?_,r o6⟩
  .rcases Az.1 J with J | J
   .exact W u J
   .exact V.one u J
  .rcases Az.1 F with F | F
   .exact o3 y F
   .exact s3 y F
  .by_cases j:q<xs.length*i.size
   .rw [cK p j] at L;rw [Af (by rw [K.1];exact j)];exact o4 q c L
   .rw [cD p o_] at L;rw [Ak (by rw [K.1];omega),K.1];exact s2 _ c L
  .rcases d b I with q | q
   .exact o5 b q o
   .exact h.noImm q o
 have O:(l++[a]).length=g+1+1:=by simp [Z]
 have H:(l++[a])[g+1]? =some a:=by rw [<-Z];simp
 have:=h.rowTurn (hs':=l++[a]) X T e3 ⟨[a],rfl⟩ O H C (λ b j hn=>by
  rcases f with ⟨_,q⟩ | ⟨_,q⟩
  .exact q b hn
  .exact q b j) S B G A d
 refine ⟨a,w',_,hr,this.1,this.2.1,this.2.2,?_⟩;have hk:k<ob.length:=(Ac.1 T).1;have n:at' (ob.set k (l++[a])) k (g+1)=some a:=by rw [bT (Aq hk)];exact H
 rcases dJ s with ⟨q,_⟩ | ⟨b,cap,q,_⟩
 .rw [q] at n⊢;exact .row _ _ _ _ _ n
 .rw [q] at n⊢;exact .row _ _ _ _ _ n
def zK{v:Value}{sz:Nat}{xs:ax}{e:TypeId}{n:Nat}{cv:ba}(d:Rep M ob v (.slice sz xs .no))(f:w.ownsRow 0 e sz v n cv):n=xs.length:=by
 obtain ⟨a,c,rfl,h1,_⟩:=d.slice_inv;rcases dJ f with ⟨q,g⟩ | ⟨b,cap,q,_⟩
 .grind
 grind
def Mem.appendTail{P:Program}(h:Mem M ob ac w){t tx ty e:TypeId}{i:TypeInfo}{z:Value}(ht:P.underlying t=some (.slice e))(hi:P.info? e=some i)(hz:i.zero=some z)(hz1:z.cells.toList.all (·.oneCell')=true)
  (hzs:z.cells.size=i.size) (B:0<i.size) {k g:Nat} {xs ys:ax} (S:ac[k]? =some (.tail g i.size e)) {v x:Value} (hv:Rep M ob v (.slice i.size xs (.own k g))) (hs:SrcA P M w i.size tx x ys)
  (h63:xs.length+ys.length<=maxLen) (N:(xs.length+ys.length)*i.bytes<=140737488355328):
  ∃ A w' M' ob',(Cm #[t,tx] ty #[v,x]).run P w= .ok A w'/\Mem M' ob' (ac.set k (.tail (g+1) i.size e)) w'/\Ext M ob ac w M' ob' (ac.set k (.tail (g+1) i.size e)) w'/\
   cI ob ac ob' (ac.set k (.tail (g+1) i.size e))/\Rep M' ob' A (.slice i.size (xs++ys) (.own k (g+1))):=by
 obtain ⟨W,hvt⟩:=hv.untok;have hvt':at' ob k g=some v:=hvt;obtain ⟨I,X,e2,v0,e3,n,cv,C,o5⟩:=h.obj k _ S;have e4:I[g]? =some v:=by rw [<-bT X];exact hvt'
 rw [e4] at e3;cases e3;have hn:=zK W C;subst hn;obtain ⟨⟨news,s1,s2⟩,s3⟩:=hs
 -- the old row's cells
 have Y:(∀ x∈xs,x.cells.length=i.size)/\(∀ u∈cv,u.oneCell'=true)/\(∀ (q:Nat) c,cellAt i.size xs q=some c->∃ u,cv[q]? =some u/\Rep M [] u c)/\∀ b,v.ownBlock=some b->b<w.heap.size/\∀ (q:Nat) u,cv[q]? =some u->w.cell? ⟨b,q,none⟩=some u:=by
  have r:∀ b,v.ownBlock=some b->∀ (q:Nat) u,cv[q]? =some u->w.cell? ⟨b,q,none⟩=some u:=λ b d q u m=>fH C d m;cases W with
  | slnil sz t' T=>
   have:cv=[]:=Ay (by simpa using C.1);subst this;exact ⟨λ x S=>by simp at S,λ u m=>by simp at m,λ q c s=>by simp [cellAt] at s,λ b d=>⟨(C.lt b d).2,r b d⟩⟩
  | slemp sz t' a cap T=>
   have:cv=[]:=Ay (by simpa using C.1);subst this;exact ⟨λ x S=>by simp at S,λ u m=>by simp at m,λ q c s=>by simp [cellAt] at s,λ b d=>⟨(C.lt b d).2,r b d⟩⟩
  | sl sz b o n cap xs t' hn hc hm L hM T=>
   have ho:o=0:=by
    rcases dJ C with ⟨q,_⟩ | ⟨b',cap',q,_⟩
    .cases q
    .cases q;rfl
   subst ho;have p:∀ q,q<xs.length*i.size->∃ u c,cv[q]? =some u/\cellAt i.size xs q=some c/\u.oneCell'=true/\Rep M [] u c:=λ q s=>by
    obtain ⟨c,hc⟩:=yT B L s;obtain ⟨y,f,hyc⟩:=fZ hc;have V:=hM _ _ y c f hyc;have hqq:0+q / i.size*i.size+q % i.size=q:=by rw [Bw,Da];exact Ft q _
    rw [hqq] at V;obtain ⟨u,m,h1,F⟩:=h.imm b q c V;have j:q<cv.length:=by rw [C.1];exact s
    have:=r b rfl q _ (Aa j);rw [m] at this;cases this;exact ⟨_,c,Aa j,hc,h1,F⟩
   refine ⟨L,λ u m=>?_,λ q c s=>?_,λ b d=>⟨(C.lt b d).2,r b d⟩⟩
   .obtain ⟨q,s⟩:=Cq m;obtain ⟨u',c,h1,_,F,_⟩:=p q (by have:=(Ac.1 s).1;rw [C.1] at this;exact this);rw [s] at h1;cases h1;exact F
   .obtain ⟨u,c',h1,F,_,h3⟩:=p q (fI B s);rw [s] at F;cases F;exact ⟨u,h1,h3⟩
 obtain ⟨L,o2,o4,o6⟩:=Y;obtain ⟨A,w',U,l,hos,O,Z,R,H,honeb⟩:=iI (P:=P) w t tx ty e i z ht hi hz hz1 hzs v xs.length cv C o2 x ys.length news s1 h63 N;have D:∀ b,A.ownBlock=some b->v.ownBlock=some b\/w.heap.size<=b:=λ b d=>by
  rcases H with ⟨q,_⟩ | ⟨q,_⟩
  .exact .inl (q▸d)
  .rw [q] at d;cases d;omega
 have J:∀ b,b<w.heap.size->v.ownBlock≠some b\/A.ownBlock≠some b->w'.heap[b]? =w.heap[b]?:=λ b d hne=>by
  rcases H with ⟨X,F⟩ | ⟨_,F⟩
  .exact F b (by rcases hne with h | h;exact h;rw [<-X];exact h)
  .exact F b d
 have hzz:∀ y∈xs++ys,y.cells.length=i.size:=λ y f=>by
  rcases Az.1 f with f | f
  .exact L y f
  .exact s3 y f
 have K:∀ (q:Nat) c,cellAt i.size (xs++ys) q=some c->∃ u,(cv++news)[q]? =some u/\u.oneCell'=true/\Rep M [] u c:=λ q c s=>by
  by_cases j:q<xs.length*i.size
  .rw [cK B j] at s;obtain ⟨u,m,U⟩:=o4 q c s;exact ⟨u,by rw [Af (by rw [C.1];exact j)];exact m,o2 u (Av m),U⟩
  .rw [cD B o_] at s;obtain ⟨u,m,U⟩:=s2 _ c s;exact ⟨u,by rw [Ak (by rw [C.1];omega),C.1];exact m,s1.one u (Av m),U⟩
 have G:blk I=v.ownBlock.toList:=(dZ e2 e4).trans (eV C);have hl':(I++[A]).length=g+1+1:=by simp [e2]
 have Q:(I++[A])[g+1]? =some A:=by rw [<-e2];simp
 have hMo:∀ b o y,A.ownBlock=some b->M b o y->v.ownBlock=some b/\o<xs.length*i.size:=λ b o y d f=>by
  rcases D b d with q | q
  .refine ⟨q,?_⟩;rcases Mz o (xs.length*i.size) with j | hge
   .exact j
   .exact absurd f (o5 b q o hge y)
  .exact absurd f (h.noImm q o y)
 have p:=h.turn (M':=gY M A i.size (xs++ys)) (w':=w') (x':=.tail (g+1) i.size e) (hs':=I++[A]) S X ⟨[A],rfl⟩ (λ e=>by cases e) (λ_ _ _ h=>.inl h) (λ b o y f=>by
   rcases f with f | ⟨d,_⟩
   .exact .inl f
   .rcases D b d with q | q
    .exact .inr (.inl ⟨rfl,nC G q⟩)
    omega) (λ b o y f=>by
   rcases f with f | ⟨d,f⟩
   .obtain ⟨u,m,h1,F⟩:=h.imm b o y f;refine ⟨u,?_,h1,F.monoM λ_ _ _ h=>.inl h⟩;by_cases d:A.ownBlock=some b
    .obtain ⟨q1,q2⟩:=hMo b o y d f;have j:o<cv.length:=by rw [C.1];exact q2
     have:=(o6 b q1).2 o _ (Aa j);rw [m] at this;cases this;exact fH l d (by rw [Af j];simp)
    .exact (Co (w:=w) (a:=⟨b,o,none⟩) (J b (Cp w _ m) (.inr d))).trans m
   .obtain ⟨u,m,h1,F⟩:=K o y f
    exact ⟨u,fH l d m,h1,F.monoM λ_ _ _ h=>.inl h⟩)
  (λ b j hn=>J b j (.inl λ e=>hn ⟨rfl,nC G e⟩)) hos O Z R
  (λ_=>⟨hl',A,Q,_,cv++news,l,λ b d o ho y f=>by
   rcases f with f | ⟨_,f⟩
   .have:=(hMo b o y d f).2;rw [Bv] at ho;omega
   .have:=fI B f
    rw [Ah] at this;omega⟩)
  (λ_ b d=>by
   have hb':A.ownBlock=some b:=vY ((dZ hl' Q).trans (eV l)) d;refine ⟨?_,(l.lt b hb').2⟩;rcases D b hb' with q | q
   .exact .inl ⟨rfl,nC G q⟩
   omega)
 refine ⟨A,w',_,_,U,p.1,p.2.1,p.2.2,jT q_ hzz ?_⟩;show at' _ k (g+1)=some A;rw [bT (Aq (Ac.1 X).1)];exact Q
def append_nil{P:Program}(h:Mem M ob ac w){t p ty e:TypeId}{i:TypeInfo}{z:Value}(C:P.underlying t=some (.slice e))(v:P.info? e=some i)(hz:i.zero=some z)(hz1:z.cells.toList.all (·.oneCell')=true)
  (o:z.cells.size=i.size) (l:0<i.size) {ys:ax} {x:Value} (hs:SrcA P M w i.size p x ys) (u:ys.length<=maxLen) (n:ys.length*i.bytes<=140737488355328):
  ∃ m w',(Cm #[t,p] ty #[.slice none 0 0,x]).run P w= .ok m w'/\Grown M w w' i.size e m ys:=by
 obtain ⟨⟨news,s,B⟩,A⟩:=hs;obtain ⟨m,w',y,a,r,g,k,f,c,d⟩:=iI (P:=P) w t p ty e i z C v hz hz1 o _ 0 [] (Gy w 0 e i.size) s_ x ys.length news s o_ q_;rw [Bw,Bm] at a;refine ⟨m,w',y,⟨news,a,s.one,B⟩,l,A,λ b j=>?_,λ b j=>?_,r,g,k,f,d (CT w)⟩
 .rcases c with ⟨q,_⟩ | ⟨q,_⟩
  .rw [q] at j;cases j
  .rw [q] at j;cases j;omega
 .rcases c with ⟨_,q⟩ | ⟨_,q⟩
  .exact q b (by simp [Gd])
  .exact q b j
end
section
variable {M:Imm} {ob:Hs} {ac:au} {w:World}
def Mem.sliceCells(h:Mem M ob ac w){sz b o:Nat}{xs:ax}(hs:0<sz)(hz:∀ x∈xs,x.cells.length=sz)
  (hm:∀ (i j:Nat) x c,xs[i]? =some x->x.cells[j]? =some c->M b (o+i*sz+j) c):
  ∃ vs:ba,vs.length=xs.length*sz/\(∀ (j:Nat) u,vs[j]? =some u->w.cell? ⟨b,o+j,none⟩=some u)/\(∀ u∈vs,u.oneCell'=true)/\
   ∀ (q:Nat) c,cellAt sz xs q=some c->∃ u,vs[q]? =some u/\Rep M [] u c:=by
 have key:∀ q,q<xs.length*sz->∃ u,w.cell? ⟨b,o+q,none⟩=some u/\u.oneCell'=true/\∀ c,cellAt sz xs q=some c->Rep M [] u c:=by
  intro q e;obtain ⟨c,m⟩:=yT hs hz e;obtain ⟨x,p,l⟩:=fZ m;have r:o+q / sz*sz+q % sz=o+q:=by have:=Ft q sz;rw [Da] at this;omega
  obtain ⟨v,a,h1,k⟩:=h.imm _ _ _ (hm _ _ _ _ p l);rw [r] at a;exact ⟨v,a,h1,λ s g=>by rw [m] at g;cases g;exact k⟩
 refine ⟨(Dr (xs.length*sz)).map λ q=>(w.cell? ⟨b,o+q,none⟩).getD undef,by simp,λ j u d=>?_,λ u d=>?_,λ q c e=>?_⟩
 .simp only [Bh] at d;by_cases n:j<xs.length*sz
  .obtain ⟨v,a,_⟩:=key j n;simp [Dj n,a] at d;rw [a,d]
  .rw [Bg q_] at d;simp at d
 .simp only [Bq,Jg] at d;obtain ⟨q,e,rfl⟩:=d;obtain ⟨v,a,h1,_⟩:=key q e;simp [a,h1]
 .have f:=fI hs e;obtain ⟨v,a,_,k⟩:=key q f;exact ⟨v,by simp only [Bh,Dj f,Mj,a,Js],k c e⟩
def CG{P:Program}{sz c m:Nat}{n:Nat}(hm:m<=0){ys:ax}:∃ news:ba,(Ch sz m (.slice none n c)).run P w= .ok news.toArray w/\news.length=m*sz/\(∀ u∈news,u.oneCell'=true)/\∀ (q:Nat) c,q<m*sz->cellAt sz ys q=some c->∃ u,news[q]? =some u/\Rep M [] u c:=by have:m=0:=o_;subst this;exact ⟨[],rfl,by simp,λ u b=>by simp at b,λ q c a=>by simp at a⟩
def MF{P:Program}{sz n c m:Nat}{a:Addr}{ys:ax}{vs:ba}(hm:m*sz<=vs.length)(k:∀ (j:Nat) u,vs[j]? =some u->w.cell? (a.add j)=some u)(h1:∀ u∈vs,u.oneCell'=true)
  (h:∀ (q:Nat) c,cellAt sz ys q=some c->∃ u,vs[q]? =some u/\Rep M [] u c):
  ∃ news:ba,(Ch sz m (.slice (some a) n c)).run P w= .ok news.toArray w/\news.length=m*sz/\(∀ u∈news,u.oneCell'=true)/\∀ (q:Nat) c,q<m*sz->cellAt sz ys q=some c->∃ u,news[q]? =some u/\Rep M [] u c:=by
 have hl:(vs.take (m*sz)).length=m*sz:=by simp;omega
 have e:Ch sz m (.slice (some a) n c)=loadCells a (m*sz):=rfl
 have:=run_loadCells_list (P:=P) w a (vs.take (m*sz)) (λ j v b=>by
  rw [Fz] at b;split at b
  .exact k j v b
  .cases b)
 rw [hl] at this;refine ⟨vs.take (m*sz),by grind,hl,λ u f=>h1 u (Cu f),λ q c i d=>?_⟩;obtain ⟨u,f,g⟩:=h q c d;exact ⟨u,by rw [Bj i];exact f,g⟩
def ME{P:Program}{sz c m n:Nat}{a:Addr}(hm:m<=0){ys:ax}:∃ news:ba,(Ch sz m (.slice (some a) n c)).run P w= .ok news.toArray w/\news.length=m*sz/\(∀ u∈news,u.oneCell'=true)/\∀ (q:Nat) c,q<m*sz->cellAt sz ys q=some c->∃ u,news[q]? =some u/\Rep M [] u c:=by have:m=0:=o_;subst this;have e:Ch sz 0 (.slice (some a) n c)=loadCells a (0*sz):=rfl;have:=run_loadCells_list (P:=P) w a [] (λ j v b=>by simp at b);simp_all
def SrcA.ofSlice{P:Program}(h:Mem M ob ac w){sz:Nat}(hs:0<sz){k A:TypeId}(g:P.underlying k=some (.slice A)){x:Value}{ys:ax}{t:Tk}(s:Rep M ob x (.slice sz ys t)):SrcA P M w sz k x ys:=by
 cases s with
 | slnil sz t p=>exact ⟨⟨[],Src.ofNil w g 0,λ q c f=>by simp [cellAt] at f⟩,λ y e=>by simp at e,λ m hm=>CG hm⟩
 | slemp sz t a cap p=>exact ⟨⟨[],Src.ofSlice w g a 0 cap [] s_ (λ j u d=>by simp at d) (λ u z=>by simp at z),λ q c f=>by simp [cellAt] at f⟩,λ y e=>by simp at e,λ m hm=>ME hm⟩
 | sl sz b o n cap xs t r B hm hz v p=>
  subst r;obtain ⟨vs,l1,l2,l,i⟩:=h.sliceCells hs hz v;exact ⟨⟨vs,Src.ofSlice w g ⟨b,o,none⟩ _ cap vs l1 (λ j u d=>by rw [aZ];exact l2 j u d) l,i⟩,hz,λ m hm=>MF (vs:=vs) (by rw [l1];exact Bs _ hm) (λ j u d=>by rw [aZ];exact l2 j u d) l i⟩
def SrcA.ofRow{P:Program}(h:Mem M ob ac w){k g sz:Nat}{e:TypeId}{xs:ax}(hs:0<sz)(Q:ac[k]? =some (.row g sz e xs)){A V:TypeId}(C:P.underlying A=some (.slice V)){v:Value}(L:at' ob k g=some v)
  {lo len:Nat} (hl:lo+len<=xs.length) {x:Value} (r:∀ b n c,v= .slice (some ⟨b,0,none⟩) n c->len≠0->∃ l,x= .slice (some ⟨b,lo*sz,none⟩) len l) (B:len=0->∃ a l,x= .slice a 0 l):SrcA P M w sz A x ((xs.drop lo).take len):=by
 obtain ⟨T,X,_,_,_,H,o,_⟩:=h.rowOf Q;rw [L] at H;cases H;obtain ⟨cv,t,O,K,S,Y⟩:=o;have hz:∀ y∈(xs.drop lo).take len,y.cells.length=sz:=λ y R=>K y (Es (Cu R));have f:((xs.drop lo).take len).length=len:=by simp;omega
 suffices hsuf:(∃ news,Src P sz A x len news w/\∀ (q:Nat) c,cellAt sz ((xs.drop lo).take len) q=some c->∃ u,news[q]? =some u/\Rep M [] u c)/\
   ∀ m,m<=len->∃ news:ba,(Ch sz m x).run P w= .ok news.toArray w/\news.length=m*sz/\(∀ u∈news,u.oneCell'=true)/\∀ (q:Nat) c,q<m*sz->cellAt sz ((xs.drop lo).take len) q=some c->∃ u,news[q]? =some u/\Rep M [] u c by
  exact ⟨by rw [f];exact hsuf.1,hz,λ m hm=>hsuf.2 m o_⟩
 by_cases G:len=0
 .subst G;obtain ⟨a,l,rfl⟩:=B rfl;cases a with
  | none=>exact ⟨⟨[],Src.ofNil w C l,λ q c z=>by simp [cellAt] at z⟩,λ m hm=>CG hm⟩
  | some a=>exact ⟨⟨[],Src.ofSlice w C a 0 l [] s_ (λ j u d=>by simp at d) (λ u p=>by simp at p),λ q c z=>by simp [cellAt] at z⟩,λ m hm=>ME hm⟩
 .rcases dJ t with ⟨q,W⟩ | ⟨b,cap,q,U,_⟩
  .omega
  .obtain ⟨l,rfl⟩:=r b _ cap q G;have s:(lo+len)*sz<=cv.length:=by rw [t.1];exact Bs _ hl
   have J:((cv.drop (lo*sz)).take (len*sz)).length=len*sz:=by rw [Dl,Eg];rw [Bv] at s;omega
   have I:∀ (j:Nat) u,((cv.drop (lo*sz)).take (len*sz))[j]? =some u->w.cell? ((⟨b,lo*sz,none⟩:Addr).add j)=some u:=λ j u d=>by
    rw [Fz] at d;split at d
    .rw [Bo] at d;rw [aZ];exact fH t U d
    .cases d
   have D:∀ u∈(cv.drop (lo*sz)).take (len*sz),u.oneCell'=true:=λ u p=>O u (Es (Cu p));have F:∀ (j:Nat) c,cellAt sz ((xs.drop lo).take len) j=some c->∃ u,((cv.drop (lo*sz)).take (len*sz))[j]? =some u/\Rep M [] u c:=λ j c d=>by have i:=fI hs d;rw [f] at i;rw [nA hs i,AB hs] at d;obtain ⟨u,p,N⟩:=S _ c d;exact ⟨u,by rw [Bj i,Bo];exact p,N⟩
   exact ⟨⟨_,Src.ofSlice w C _ _ _ _ J I D,F⟩,λ m hm=>MF (by rw [J];exact Bs _ hm) I D F⟩
def pJ(l:ay):(⟨l.toArray⟩:ByteArray).size=l.length:=by rfl
def vU(c:UInt8):Rep M ob (.int .u8 c.toNat) (ub c):=.int _ _ ⟨by simp only [bW];omega,by simp only [aW];have:=c.toNat_lt;omega⟩
def TN(l:ay):∀ y∈l.map ub,y.cells.length=1:=λ y a=>by obtain ⟨c,_,rfl⟩:=Bq.1 a;rfl
def yS(l:ay)(q:Nat):cellAt 1 (l.map ub) q=(l[q]?).map ub:=by unfold cellAt;rw [Ig,Ix,Bh];cases l[q]?<;>rfl
def SrcA.ofStr{P:Program}{g:TypeId}(j:P.underlying g=some .string)(l:ay):SrcA P M w 1 g (.string ⟨l.toArray⟩) (l.map ub):=by
 have f:∀ (q:Nat) c,cellAt 1 (l.map ub) q=some c->∃ b,l[q]? =some b/\c=ub b:=λ q c a=>by
  rw [yS] at a;obtain ⟨b,d,rfl⟩:=Cb.1 a
  grind
 refine ⟨⟨byteCells ⟨l.toArray⟩,?_,λ q c a=>?_⟩,TN l,λ m hm=>⟨(l.take m).map λ b=>Dz .u8 b.toNat,?_,by grind,λ u h=>by obtain ⟨_,_,rfl⟩:=Bq.1 h;rfl,λ q c a i=>?_⟩⟩
 .have:=Src.ofString (P:=P) w j ⟨l.toArray⟩;rw [pJ] at this
  grind
 .rw [yS] at a;obtain ⟨b,d,rfl⟩:=Cb.1 a;exact ⟨.int .u8 b.toNat,by simp [byteCells,d],vU b⟩
 .have e:(Ch 1 m (.string ⟨l.toArray⟩)).run P w= .ok (((⟨l.toArray⟩:ByteArray).extract 0 m).data.map λ b=>Dz .u8 b.toNat) w:=rfl;rw [e];simp
 .obtain ⟨b,d,rfl⟩:=f q c i;rw [Nat.mul_one] at a;exact ⟨.int .u8 b.toNat,by rw [Bh,Bj a,d];rfl,vU b⟩
def PH{P:Program}(h:Mem M ob ac w){t K ty e:TypeId}{i:TypeInfo}{z:Value}(G:P.underlying t=some (.slice e))(V:P.info? e=some i)(hz:i.zero=some z)(hz1:z.cells.toList.all (·.oneCell')=true)
  (Q:z.cells.size=i.size) (g:0<i.size) {xs ys:ax} {v x:Value} (hv:Rep M ob v (.slice i.size xs .full)) (hs:SrcA P M w i.size K x ys)
  (H:xs.length+ys.length<=maxLen) (r:(xs.length+ys.length)*i.bytes<=140737488355328):
  ∃ U w',(Cm #[t,K] ty #[v,x]).run P w= .ok U w'/\((ys=[]/\U=v/\w'=w)\/(ys≠[]/\Grown M w w' i.size e U (xs++ys))):=by
 obtain ⟨A,⟨a,n,Z⟩⟩:=hv.untok;obtain ⟨⟨news,F,s2⟩,s3⟩:=hs;obtain ⟨a',c,X,h0,h1,_⟩:=A.slice_inv;subst Z;cases X;have N:((xs.length+ys.length:Nat):Int)<=9223372036854775807:=by simp only [maxLen] at H;omega
 by_cases m:ys=[]
 .subst m;refine ⟨_,w,?_,.inl ⟨rfl,rfl,rfl⟩⟩;have hn:news=[]:=Ay (by simpa using F.newsLen);subst hn;have D:Src P i.size K x 0 [] w:=F;cases a with
  | none=>rcases D.kind with ⟨e',J⟩ | J<;>simp [Cm,run_underlying G,run_underlying J,sizeOf,typeInfo,V,D.len,D.cells]
  | some a=>rcases D.kind with ⟨e',J⟩ | J<;>simp [Cm,run_underlying G,run_underlying J,sizeOf,typeInfo,V,D.len,D.cells,storeCells]
 .have Y:0<ys.length:=Dw.2 m
  have pre:(∀ x∈xs,x.cells.length=i.size)/\∃ d:ba,d.length=xs.length*i.size/\(Ch i.size xs.length (.slice a xs.length xs.length)).run P w.drew= .ok d.toArray w.drew/\(∀ u∈d,u.oneCell'=true)/\
    ∀ (q:Nat) c,cellAt i.size xs q=some c->∃ u,d[q]? =some u/\Rep M [] u c:=by
   have s:xs=[]->(∀ x∈xs,x.cells.length=i.size)/\∃ d:ba,d.length=xs.length*i.size/\(Ch i.size xs.length (.slice a xs.length xs.length)).run P w.drew= .ok d.toArray w.drew/\(∀ u∈d,u.oneCell'=true)/\
     ∀ (q:Nat) c,cellAt i.size xs q=some c->∃ u,d[q]? =some u/\Rep M [] u c:=by
    intro W;subst W;refine ⟨λ x W=>by simp at W,[],by simp,?_,λ u f=>by simp at f,λ q c C=>by simp [cellAt] at C⟩;cases a<;>simp [Ch,loadCells,loadCellsFrom]
   generalize B:Gn a xs.length xs.length=v at A;cases A with
   | slnil sz t G=>have q:=s rfl;rw [B] at q;exact q
   | slemp sz t a cap G=>have q:=s rfl;rw [B] at q;exact q
   | sl sz b o n cap xs t hn hc hm p hM G=>
    injection B with v1 v2 v3
    subst v1;obtain ⟨d,I,S,L,R⟩:=h.sliceCells g p hM;exact ⟨p,d,I,run_firstCells_some w.drew i.size _ ⟨b,o,none⟩ _ _ d I (λ j u hj=>by rw [aZ];simpa using S j u hj),L,R⟩
  obtain ⟨p,d,I,S,L,R⟩:=pre;have hr:=run_append_grow_src (P:=P) w t K ty e i z G V hz a xs.length xs.length d S x ys.length news F o_ N (growslice_fits o_ r);have hge:=grownCap_ge w (xs.length+ys.length) xs.length e;have hcm:grownCap w (xs.length+ys.length) xs.length e<=maxLen:=grownCap_le_maxLen w (xs.length+ys.length) xs.length e H;have l:(d++news).length=(xs.length+ys.length)*i.size:=by rw [Ah,I,F.newsLen,Bv]
  refine ⟨_,_,hr,.inr ⟨m,⟨d++news,⟨by rw [l,Ah],.inr ⟨w.heap.size,_,_,by simp,Bt _,heap_alloc_new w.drew _,by simp;omega,hcm,?_,?_⟩⟩,λ u f=>?_,λ q c C=>?_⟩,g,λ y m=>?_,λ b O=>?_,λ b O=>heap_alloc_old w.drew _ O,rfl,rfl,rfl,by simp,?_⟩⟩
  .simp only [Array.size_append,Ge,size_zeroCells,Q,l,<-Bv];congr 1;omega
  .rw [Ah];simp only [Mu];rw [<-l];exact Hg
  .rcases Az.1 f with f | f
   .exact L u f
   .exact F.one u f
  .by_cases T:q<xs.length*i.size
   .rw [cK g T] at C;rw [Af o_];exact R q c C
   .rw [cD g o_] at C;rw [Ak o_,I];exact s2 _ c C
  .rcases Az.1 m with m | m
   .exact p y m
   .exact s3 y m
  .simp only [Gd,Dp] at O;omega
  .have:∀ k,(d++news).toArray++Ce z.cells k=((d++news)++(Ce z.cells k).toList).toArray:=λ k=>by simp
   rw [this];refine pH (w:=w.drew) λ u f=>?_;rcases Az.1 f with f | f
   .rcases Az.1 f with f | f
    .exact L u f
    .exact F.one u f
   .exact jI hz1 u f
def Grown.ofAlloc{sz:Nat}{e:TypeId}{xs:ax}{cv:ba}(a:0<sz)(f:cv.length=xs.length*sz)(h1:∀ u∈cv,u.oneCell'=true)(hz:∀ x∈xs,x.cells.length=sz)(hm:xs.length<=maxLen)
  (g:∀ (q:Nat) c,cellAt sz xs q=some c->∃ u,cv[q]? =some u/\Rep M [] u c):Grown M w (w.alloc (.cells cv.toArray e)) sz e (.slice (some ⟨w.heap.size,0,none⟩) xs.length xs.length) xs:=by
 refine ⟨⟨cv,⟨f,.inr ⟨w.heap.size,xs.length,cv.toArray,rfl,Bt _,heap_alloc_new w _,Bf _,hm,by omega,by grind⟩⟩,h1,g⟩,a,hz,λ b d=>?_,λ b d=>heap_alloc_old w _ d,rfl,rfl,rfl,by simp,pH h1⟩;simp only [Gd,Dp] at d;omega
def Mem.bornCells(h:Mem M ob ac w){k:Nat}(h1:ac[k]? =some .dead)(f:ob[k]? =some []){cv:ba}{cs:ax}(T:TypeId)(hl:cv.length=cs.length)(c:∀ v∈cv,v.oneCell'=true)
  (l:∀ (i:Nat) v a,cv[i]? =some v->cs[i]? =some a->Rep M ob v a):
  Mem M (ob.set k [.pointer (some ⟨w.heap.size,0,none⟩)]) (ac.set k (.cells T cs)) (w.alloc (.cells cv.toArray T))/\Ext M ob ac w M (ob.set k [.pointer (some ⟨w.heap.size,0,none⟩)]) (ac.set k (.cells T cs)) (w.alloc (.cells cv.toArray T))/\
   cI ob ac (ob.set k [.pointer (some ⟨w.heap.size,0,none⟩)]) (ac.set k (.cells T cs))/\Rep M (ob.set k [.pointer (some ⟨w.heap.size,0,none⟩)]) (.pointer (some ⟨w.heap.size,0,none⟩)) (.ref k 0):=by
 have r:k<ob.length:=(Ac.1 f).1
 have:=h.turn (M':=M) (w':=w.alloc (.cells cv.toArray T)) (x':=.cells T cs) (hs':=[.pointer (some ⟨w.heap.size,0,none⟩)]) h1 f ⟨_,rfl⟩ (λ_=>rfl) (λ_ _ _ h=>h) (λ_ _ _ h=>.inl h) (λ b o y m=>by
   obtain ⟨u,g,n,q⟩:=h.imm b o y m
   exact ⟨u,(Co (w:=w) (a:=⟨b,o,none⟩) (heap_alloc_old w _ (Cp w _ g))).trans g,n,q⟩)
  (λ b e _=>heap_alloc_old w _ e) rfl rfl rfl s_ (λ d=>⟨_,rfl,λ o=>h.noImm (Bf _) o,cv,heap_alloc_new w _,hl,c,λ i v a j p=>(l i v a j p).mono (λ_ _ _ h=>h) d⟩)
  (λ_ b e=>by
   have:w.heap.size=b:=dS.1 e
   simp;omega)
 refine ⟨this.1,this.2.1,this.2.2,.ref k 0 _ ?_⟩;rw [bT (Aq r)];rfl
def Mem.bornMap(h:Mem M ob ac w){k:Nat}(h1:ac[k]? =some .dead)(f:ob[k]? =some [])(d:Bool):
  Mem M (ob.set k [.map (some w.heap.size)]) (ac.set k (.mp d [])) (w.alloc (.map #[] 0))/\Ext M ob ac w M (ob.set k [.map (some w.heap.size)]) (ac.set k (.mp d [])) (w.alloc (.map #[] 0))/\
   cI ob ac (ob.set k [.map (some w.heap.size)]) (ac.set k (.mp d []))/\Rep M (ob.set k [.map (some w.heap.size)]) (.map (some w.heap.size)) (.mref k):=by
 have q:k<ob.length:=(Ac.1 f).1
 have:=h.turn (M':=M) (w':=w.alloc (.map #[] 0)) (x':=.mp d []) (hs':=[.map (some w.heap.size)]) h1 f ⟨_,rfl⟩ (λ_=>rfl) (λ_ _ _ h=>h) (λ_ _ _ h=>.inl h) (λ b o y m=>by
   obtain ⟨u,g,n,p⟩:=h.imm b o y m
   exact ⟨u,(Co (w:=w) (a:=⟨b,o,none⟩) (heap_alloc_old w _ (Cp w _ g))).trans g,n,p⟩)
  (λ b e _=>heap_alloc_old w _ e) rfl rfl rfl s_ (λ l=>⟨_,rfl,λ o=>h.noImm (Bf _) o,[],0,heap_alloc_new w _,rfl,λ i x y c=>by simp at c,λ i x c=>by simp at c,λ i j x y c=>by simp at c⟩)
  (λ_ b e=>by
   have:w.heap.size=b:=dS.1 e
   simp_all)
 refine ⟨this.1,this.2.1,this.2.2,.mref k _ ?_⟩;rw [bT (Aq q)];rfl
def Mem.cellsTurn(h:Mem M ob ac w){k:Nat}{T:TypeId}{cs cs':ax}(r:ac[k]? =some (.cells T cs)){b:Nat}(t:at' ob k 0=some (.pointer (some ⟨b,0,none⟩))){cv':ba}(hl:cv'.length=cs'.length)(h1:∀ u∈cv',u.oneCell'=true)
  (z:∀ (i:Nat) v a,cv'[i]? =some v->cs'[i]? =some a->Rep M ob v a):
  Mem M ob (ac.set k (.cells T cs')) (w.setRow b cv'.toArray)/\Ext M ob ac w M ob (ac.set k (.cells T cs')) (w.setRow b cv'.toArray)/\cI ob ac ob (ac.set k (.cells T cs')):=by
 obtain ⟨hs,n,c,j,g,cv,s,_⟩:=h.obj k _ r;have:c=b:=by rw [bT n,j] at t;simpa using t
 subst this;have f:=fS (l:=ob) n
 have:=h.turn (M':=M) (w':=w.setRow c cv'.toArray) (x':=.cells T cs') (hs':=hs) r n (Cl _) (λ e=>by cases e) (λ_ _ _ h=>h) (λ_ _ _ h=>.inl h) (λ b o y q=>by
   obtain ⟨u,C,B,F⟩:=h.imm b o y q;have p:b≠c:=λ e=>by subst e;exact g o y q
   exact ⟨u,(Co (w:=w) (a:=⟨b,o,none⟩) (setRow_other w c b _ p)).trans C,B,F⟩)
  (λ b _ A=>setRow_other w c b _ λ e=>A ⟨rfl,by subst e;rw [j];exact dS.2 rfl⟩) rfl rfl rfl s_ (λ m=>⟨c,j,g,cv',setRow_heap w c _ _ T _ s,hl,h1,λ i v a x D=>(z i v a x D).mono (λ_ _ _ h=>h) m⟩)
  (λ_ b d=>⟨.inl ⟨rfl,d⟩,by
   have:c=b:=by rw [j] at d;exact dS.1 d
   subst this;have:=fA s
   simp;omega⟩)
 rw [f] at this;exact this
end
section
variable {M:Imm} {ob:Hs} {ac:au} {w:World}
def bV{M':Imm}{ob':Hs}{f:aa->aa}(d:∀ v a,Rep M ob v a->Rep M' ob' v (f a)){as:ax}{vs:ba}(hl:vs.length=as.length)(h:∀ (i:Nat) v a,vs[i]? =some v->as[i]? =some a->Rep M ob v a):
  vs.length=(dO f as).length/\∀ (i:Nat) v a,vs[i]? =some v->(dO f as)[i]? =some a->Rep M' ob' v a:=by
 rw [wD];refine ⟨by grind,λ i v a g c=>?_⟩;rw [Bh] at c;obtain ⟨b,e,rfl⟩:=Cb.1 c
 grind
def xD{k g:Nat}{v:Value}{hs:ba}(h1:ob[k]? =some hs)(a:at' ob k g=some v):hs[g]? =some v:=by rw [<-bT h1];exact a
def aJO{b o n sz:Nat}{xs:ax}(k:xs.length=n)(hm:(n:Int)<=9223372036854775807)(hz:∀ x∈xs,x.cells.length=sz)(h:∀ (i j:Nat) x c,xs[i]? =some x->x.cells[j]? =some c->M b (o+i*sz+j) c)
  {lo len d:Nat} (hl:lo+len<=n) (e:len<=d) {t:Tk} (f:tG ob (.slice (some ⟨b,o+lo*sz,none⟩) len d) t):Rep M ob (.slice (some ⟨b,o+lo*sz,none⟩) len d) (.slice sz ((xs.drop lo).take len) t):=by
 refine .sl sz b _ len d _ t q_ e o_ (λ x a=>hz x (Es (Cu a))) (λ i j x c a g=>?_) f;rw [Fz] at a;split at a
 .rw [Bo] at a;have:=h (lo+i) j x c a g;rwa [Bv,<-Ka] at this
 .cases a
def Mem.pureV(h:Mem M ob ac w):∀ (n:Nat) (v:Value) (a:aa),Rep M ob v a->Rep M [] v (ah (aB ac) n a):=by
 intro n;induction n with
 | zero=>intro v a _;exact .undef v
 | succ n u=>
  intro v a d;cases d with
  | undef v=>exact .undef v
  | bool b=>exact .bool b
  | int k n d=>exact .int k n d
  | str l hl=>exact .str l hl
  | agg vs as hl d=>
   obtain ⟨h1,f⟩:=bV (u) hl d;exact .agg vs _ h1 f
  | tup vs as hl d=>
   obtain ⟨h1,f⟩:=bV (u) hl d;exact .tup vs _ h1 f
  | ptr b o cs d=>exact .ptr b o cs d
  | ref k off b m=>
   simp only [AW.ah];split
   .rename_i cs p;obtain ⟨hs,h1,H,f,h3⟩:=h.obj k _ (bD p s_);have:=xD h1 m;rw [f] at this;simp at this;subst this;exact .ptr _ _ _ λ j c e=>by rw [lY,Bo] at e;simp_all
   .exact .undef _
  | eref k g i sz off b n c m=>exact .undef _
  | rowc k g c a n h hm=>exact .undef _
  | pre k g n c sz b len h e A hl hm=>exact .undef _
  | csl k off len sz b m hm=>
   simp only [AW.ah];split
   .rename_i cs p;cases y:Aw sz 1 with
    | false=>exact .undef _
    | true=>
     simp only [cond_true];split
     .rename_i l hl;cases I:pG l with
      | false=>exact .undef _
      | true=>
       simp only [cond_true];obtain ⟨hs,h1,H,f,h3⟩:=h.obj k _ (bD p s_);have:=xD h1 m;rw [f] at this;simp at this;subst this;obtain ⟨l1,l2⟩:=jE hl;refine .sl 1 _ off len len l .full l1 (Bf _) hm (λ x B=>?_) (λ i j x c B e=>?_) ⟨_,_,rfl⟩
       .obtain ⟨i,N⟩:=Cq B;rw [oA (lL I i x N)];rfl
       .rw [oA (lL I i x B)] at e;cases j with
        | succ j=>simp at e
        | zero=>
         simp at e;subst e;have:=l2 i x B;rw [lY,Bo] at this;have:=h3 _ x this
         grind
     .exact .undef _
   .exact .undef _
  | row k g a n c m=>
   simp only [AW.ah];split
   .rename_i z sz xs p;cases y:Aw g z with
    | false=>exact .undef _
    | true=>
     have:=aC y;subst this;simp only [cond_true];obtain ⟨hs,h1,K,f,h3⟩:=h.obj k _ (bD p s_);have:=xD h1 m
     grind
   .exact .undef _
  | sub k g lo len sz b n c m hl A e hm=>
   simp only [AW.ah];split
   .rename_i z s xs p;cases y:(Aw g z&&Aw sz s) with
    | false=>exact .undef _
    | true=>
     obtain ⟨r,C⟩:=aS y;have:=aC r;have:=aC C
     subst_vars
     simp only [cond_true];obtain ⟨hs,h1,K,f,h3⟩:=h.obj k _ (bD p s_);have:=xD h1 m;rw [f] at this;cases this;rcases h3.sl_inv with ⟨q,_⟩ | ⟨a,cap,q,C⟩ | ⟨H,T,G,q,R,L,hz,Q⟩
     .cases q
     .injection q with _ q3 _
      have:len=0:=o_;subst this;rw [Ih];exact .slemp _ _ _ _ trivial
     .injection q with r C q3
      injection r with r
      injection r with r q4 _
      subst r q4;have:=aJO (ob:=[]) (t:=.no) C.symm hm hz Q A (show len<=c-lo by omega) trivial;rw [Bw] at this;exact this
   .exact .undef _
  | sub0 k g lo sz _ a n c m hl e=>
   simp only [AW.ah];split
   .rename_i z s xs p;cases y:(Aw g z&&Aw sz s) with
    | false=>exact .undef _
    | true=>
     simp only [cond_true,Ih];cases a with
     | none=>exact .slnil _ _ trivial
     | some a=>exact .slemp _ _ _ _ trivial
   .exact .undef _
  | mref k b m=>exact .undef _
  | nilptr=>exact .nilptr
  | nilslice=>exact .nilslice
  | nilmap=>exact .nilmap
  | nilfunc=>exact .nilfunc
  | nilif=>exact .nilif
  | hsl a n c=>exact .hsl a n c
  | slnil sz t J=>exact .slnil sz .no trivial
  | slemp sz t a cap J=>exact .slemp sz .no a cap trivial
  | sl sz b o n cap xs t A e hm hz d J=>exact .sl sz b o n cap xs .no A e hm hz d trivial
  | func fn O cs U V S e D F=>
   obtain ⟨h1,f⟩:=bV (u) S D;obtain ⟨h3,P⟩:=bV (u) e F;exact .func fn O cs _ _ h1 h3 f P
  | iface t v a d=>exact .iface t v _ (u v a d)
def aL{k:Nat}{x y:ab}(h:ac[k]? =some x):bJ ac k y=ac.set k y:=fW y (Ac.1 h).1
def oS(M:Imm)(ob:Hs)(ac:au)(w:World)(ao:au):Prop:=∃ M',Mem M' ob ao w/\Ext M ob ac w M' ob ao w/\(∀ k:Nat,ac[k]? =some .dead->ao[k]? =some .dead)/\ao.length=ac.length
def oS.refl(h:Mem M ob ac w):oS M ob ac w ac:=⟨M,h,Ext.refl _ _ _ _,λ_ h=>h,rfl⟩
def oS.trans{a b:au}(h:oS M ob ac w a)(k:∀ M',Mem M' ob a w->oS M' ob a w b):oS M ob ac w b:=by obtain ⟨d,h1,e,h3,f⟩:=h;obtain ⟨c,j,l,m,n⟩:=k d h1;exact ⟨c,j,e.trans l,λ i g=>m i (h3 i g),n.trans f⟩
def Mem.frzR(h:Mem M ob ac w)(k g:Nat):oS M ob ac w (AW.frzR ac k g):=by
 unfold AW.frzR;split
 .rename_i q sz e xs C;cases A:Aw g q with
  | false=>exact .refl h
  | true=>
   have:=aC A;subst this;simp only [cond_true];have j:=bD C s_;rw [aL j];obtain ⟨hs,v,m,G,B,D,⟨cv,n,t,p,x,F⟩,d⟩:=h.rowOf j
   have a:=h.turn (M':=gY M v sz xs) (w':=w) (x':=.frow g sz xs) (hs':=hs) j m (Cl _) (λ e=>by cases e) (λ_ _ _ h=>.inl h) (λ b o y c=>by
     rcases c with c | ⟨l,_⟩
     .grind
     .exact .inr (.inl ⟨rfl,nC d l⟩)) (λ b o y c=>by
     rcases c with c | ⟨l,c⟩
     .obtain ⟨u,f,h1,z⟩:=h.imm b o y c;exact ⟨u,f,h1,z.monoM λ_ _ _ h=>.inl h⟩
     .obtain ⟨u,f,s⟩:=x o y c
      exact ⟨u,fH n l f,t u (Av f),s.monoM λ_ _ _ h=>.inl h⟩) (λ_ _ _=>rfl) rfl rfl rfl (Bf _)
    (λ_=>⟨v,B,jT n p trivial⟩) (λ e=>by cases e)
   rw [fS m] at a;exact ⟨_,a.1,a.2.1,λ i r=>by rw [Ax (λ e=>by grind)];exact r,by simp⟩
 .exact .refl h
def Mem.frz1(h:Mem M ob ac w)(k:Nat):oS M ob ac w (AW.frz1 ac k):=by
 unfold AW.frz1;split
 .rename_i cs F;have l:=bD F s_;rw [aL l];obtain ⟨hs,n,m,q,C,cv,A,z,r,x⟩:=h.obj k _ l;have p:cv.length=(dO (AW.ah (aB ac) 4) cs).length/\∀ (i:Nat) v a,cv[i]? =some v->(dO (AW.ah (aB ac) 4) cs)[i]? =some a->Rep M [] v a:=bV (h.pureV 4) z x
  let M':Imm:=λ b o y=>M b o y\/(b=m/\(dO (AW.ah (aB ac) 4) cs)[o]? =some y)
  have d:=h.turn (M':=M') (w':=w) (x':=.fcells (dO (AW.ah (aB ac) 4) cs)) (hs':=hs) l n (Cl _) (λ e=>by cases e) (λ_ _ _ h=>.inl h) (λ b o y f=>by
    rcases f with f | ⟨rfl,_⟩
    .exact .inl f
    .exact .inr (.inl ⟨rfl,by rw [q];exact dS.2 rfl⟩)) (λ b o y f=>by
    rcases f with f | ⟨rfl,f⟩
    .obtain ⟨u,B,h1,t⟩:=h.imm b o y f;exact ⟨u,B,h1,t.monoM λ_ _ _ h=>.inl h⟩
    .have g:o<cv.length:=by rw [p.1];exact (Ac.1 f).1
     exact ⟨cv[o],by rw [cell_of_row w b _ _ _ (0,0) A];simp [g],r _ (Bd g),(p.2 o _ y (Aa g) f).monoM λ_ _ _ h=>.inl h⟩) (λ_ _ _=>rfl) rfl rfl rfl (Bf _)
   (λ_=>⟨m,q,λ j c D=>.inr ⟨rfl,D⟩⟩) (λ e=>by cases e)
  rw [fS n] at d;exact ⟨_,d.1,d.2.1,λ i s=>by rw [Ax (λ e=>by simp_all)];exact s,by simp⟩
 .exact .refl h
def Mem.foldO{f:au->aa->au}(b:∀ (M:Imm) (ac:au) (a:aa),Mem M ob ac w->oS M ob ac w (f ac a)):∀ (l:ax) (M:Imm) (ac:au),Mem M ob ac w->oS M ob ac w (foldO f ac l)
 | [],_,_,h=>.refl h
 | c::r,M,ac,h=>(b M ac c h).trans λ M' d=>Mem.foldO b r M' _ d
def Mem.frzV:∀ (n:Nat) (M:Imm) (ac:au) (a:aa),Mem M ob ac w->oS M ob ac w (frzV n ac a):=by
 intro n;induction n with
 | zero=>intro M ac a h;exact .refl h
 | succ n d=>
  intro M ac a h;cases a
  case agg cs=>exact Mem.foldO d _ _ _ h
  case tup cs=>exact Mem.foldO d _ _ _ h
  case func fn fs cs=>exact (Mem.foldO d _ _ _ h).trans λ M' e=>Mem.foldO d _ _ _ e
  case iface t v=>exact d _ _ _ h
  case ref k off=>
   simp only [AW.frzV];split
   .exact (Mem.foldO d _ _ _ h).trans λ M' e=>e.frz1 k
   .exact .refl h
  case csl k a b c=>
   simp only [AW.frzV];split
   .exact (Mem.foldO d _ _ _ h).trans λ M' e=>e.frz1 k
   .exact .refl h
  case row k g=>exact h.frzR k g
  case sub k g a b c=>exact h.frzR k g
  all_goals exact .refl h
def Mem.frzL(l:ax)(h:Mem M ob ac w):oS M ob ac w (frzL ac l):=Mem.foldO (Mem.frzV 6) l M ac h
def Mem.frzs:∀ (l:az) (M:Imm) (ac:au),Mem M ob ac w->oS M ob ac w (aj l ac)
 | [],_,_,h=>.refl h
 | k::r,M,ac,h=>by
  unfold AW.aj;split
  .exact (h.frzR _ _).trans λ M' a=>Mem.frzs r M' _ a
  .exact (Mem.frzV 6 M ac _ h).trans λ M' a=>Mem.frzs r M' _ a
  .exact Mem.frzs r M _ h
end
def MG{k:Nat}:∀ {ks:az} {j i:Nat},pos k j ks=some i->j<=i/\ks[i-j]? =some k
 | [],j,i,h=>by cases h
 | x::r,j,i,h=>by
  simp only [pos] at h;cases a:Aw x k with
  | true=>
   simp_all
  | false=>
   rw [a] at h;obtain ⟨h1,b⟩:=MG (ks:=r) h;refine ⟨by omega,?_⟩;rw [show i-j=(i-(j+1))+1 from by omega];simp_all
def UJ{k i:Nat}{ks:az}(h:pos k 0 ks=some i):ks[i]? =some k:=by simpa using (MG h).2
def lP{ac:au}:∀ {ks:az},iR ks ac=true->(∀ (j k:Nat),ks[j]? =some k->(aB ac k).owns=true)/\ks.Nodup
 | [],_=>⟨λ j k h=>by simp at h,Hj⟩
 | x::r,h=>by
  simp only [iR,Ad,Cw] at h;obtain ⟨⟨h1,a⟩,h3⟩:=h;obtain ⟨b,c⟩:=lP h3;refine ⟨λ j k d=>?_,Bx.2 ⟨λ hm=>?_,c⟩⟩
  .cases j with
   | zero=>grind
   | succ j=>exact b j k (by simp_all)
  .rw [lN.2 hm] at a;cases a
def F7{l:az}(h:l.Nodup):∀ {i j b:Nat},l[i]? =some b->l[j]? =some b->i=j:=by
 induction l with
 | nil=>simp
 | cons x r d=>
  intro i j b c a;rw [Bx] at h;cases i with
  | zero=>cases j with
   | zero=>rfl
   | succ j=>simp at c a;subst c;exact absurd (Av a) h.1
  | succ i=>cases j with
   | zero=>simp at c a;subst a;exact absurd (Av c) h.1
   | succ j=>simp at c a;rw [d h.2 c a]
def eP{ac:au}{k:Nat}(h:(aB ac k).owns=true):ac[k]? =some (aB ac k):=by refine bD rfl λ e=>?_;rw [e] at h;cases h
def iL(n0 j:Nat)(o:ab)(hs:ba):ba:=
 if 0<eU o then (if j<n0 then hs.take 1 else [])++hs.drop (eU o) else hs
def eS(n0:Nat)(ob:Hs)(ac:au):Nat->az->Hs
 | _,[]=>[]
 | j,k::r=>iL n0 j (aB ac k) (ob.getD k [])::eS n0 ob ac (j+1) r
def gT{n0:Nat}{ob:Hs}{ac:au}:∀ {ks:az} {j i:Nat},(eS n0 ob ac j ks)[i]? =(ks[i]?).map λ k=>iL n0 (j+i) (aB ac k) (ob.getD k [])
 | [],j,i=>by simp [eS]
 | k::r,j,i=>by
  cases i with
  | zero=>simp [eS]
  | succ i=>simp only [eS,Fo,gT (ks:=r)];grind
def oM{n0:Nat}{ob:Hs}{ac:au}:∀ {ks:az} {j:Nat},(eS n0 ob ac j ks).length=ks.length
 | [],j=>rfl
 | k::r,j=>by simp [eS,oM (ks:=r)]
def LG{n0:Nat}{a:az}{ac:au}:∀ {ks:az} {j i:Nat},(qU n0 a ac j ks)[i]? =(ks[i]?).map λ k=>FA n0 a ac (j+i) (aB ac k)
 | [],j,i=>by simp [qU]
 | k::r,j,i=>by
  cases i with
  | zero=>simp [qU]
  | succ i=>simp only [qU,Fo,LG (ks:=r)];grind
def nQ{n0:Nat}{a:az}{ac:au}:∀ {ks:az} {j:Nat},(qU n0 a ac j ks).length=ks.length
 | [],j=>rfl
 | k::r,j=>by simp [qU,nQ (ks:=r)]
def VH{n0 j c g d:Nat}(h:gm n0 j c g=some d):(g=c/\d=(if j<n0 then (if c=0 then 0 else 1) else 0))\/(g≠c/\j<n0/\g=0/\d=0):=by
 unfold gm at h;have f:∀ a b:Nat,Aw a b=decide (a=b):=λ a b=>by
  by_cases e:a=b
  .simp_all
  .rw [EG e];simp [e]
 have hl:∀ a b:Nat,Ey a b=decide (a<b):=λ a b=>by
  by_cases e:a<b
  .simp_all
  .have:Ey a b=false:=by
    cases k:Ey a b with
    | false=>rfl
    | true=>simp_all;omega
   grind
 simp only [f,hl] at h;by_cases h1:g=c
 .simp only [h1,decide_true,cond_true,Dp] at h
  grind
 .simp only [h1,decide_false,cond_false] at h;by_cases i:j<n0<;>by_cases h3:g=0<;>simp [i,h3] at h;omega
def mV(n0 j g:Nat):gm n0 j g g=some (if j<n0 then (if g=0 then 0 else 1) else 0):=by
 unfold gm;simp only [Nat.beq_eq_true_eq,Nd,cond_true,Dp];by_cases b:j<n0
 .simp_all
 .have:Ey j n0=false:=by
   cases a:Ey j n0 with
   | false=>rfl
   | true=>simp_all;omega
  grind
section
variable {M:Imm} {ob:Hs} {ac:au} {w:World}
def Mem.histLen(h:Mem M ob ac w){k:Nat}{hs:ba}(d:(aB ac k).owns=true)(f:ob[k]? =some hs):hs.length=eU (aB ac k)+1:=by
 obtain ⟨hs',e,a⟩:=h.obj k _ (eP d);rw [f] at e;cases e;cases c:aB ac k with
 | dead=>rw [c] at d;cases d
 | fcells cs=>rw [c] at d;cases d
 | frow g sz xs=>rw [c] at d;cases d
 | cells T cs=>rw [c] at a;obtain ⟨b,rfl,_⟩:=a;rfl
 | row g sz e xs=>rw [c] at a;exact a.1
 | tail g sz e=>rw [c] at a;exact a.1
 | mp i es=>rw [c] at a;obtain ⟨b,rfl,_⟩:=a;rfl
 | bun g I=>rw [c] at a;exact a.1
def wY{n0 j g c:Nat}{o:ab}{hs:ba}(hl:hs.length=eU o+1)(d:gm n0 j (eU o) g=some c):(iL n0 j o hs)[c]? =hs[g]?:=by
 unfold iL;rcases VH d with ⟨rfl,rfl⟩ | ⟨h1,e,rfl,rfl⟩
 .by_cases b:0<eU o
  .rw [if_pos b];by_cases a:j<n0
   .rw [if_pos a,if_pos a,if_neg o_,Ak q_];simp_all
   .rw [if_neg a,if_neg a];simp
  simp_all
 .have b:0<eU o:=o_;simp_all
def yN{n0 j:Nat}{o:ab}{hs:ba}(hl:hs.length=eU o+1):(iL n0 j o hs).getLast? =hs.getLast?:=by
 unfold iL;by_cases b:0<eU o
 .rw [if_pos b];rw [Mr,List.getLast?_drop,if_neg o_];have a:hs≠[]:=λ e=>by grind
  rw [Ki a];rfl
 grind
def rW{n0 j:Nat}{o:ab}{hs:ba}(hl:hs.length=eU o+1):(iL n0 j o hs).length=(if j<n0 then (if eU o=0 then 0 else 1) else 0)+1:=by
 unfold iL;by_cases b:0<eU o
 .rw [if_pos b];by_cases a:j<n0
  .simp_all;omega
  .rw [if_neg a,if_neg a];simp;omega
 grind
def Mem.cutAt(h:Mem M ob ac w){n0:Nat}{ks:az}(m:iR ks ac=true){k j g c:Nat}{v:Value}(hp:pos k 0 ks=some j)(l:gm n0 j (eU (aB ac k)) g=some c)(i:at' ob k g=some v):
  at' (eS n0 ob ac 0 ks) j c=some v:=by
 have d:=UJ hp;have f:=(lP m).1 j k d;have a:k<ob.length:=by rw [h.len];exact (Ac.1 (eP f)).1
 have b:ob[k]? =some ob[k]:=Aa a;have hl:=h.histLen f b;have e:(eS n0 ob ac 0 ks)[j]? =some (iL n0 j (aB ac k) ob[k]):=by rw [gT,d];simp [b]
 rw [bT e,wY hl l];exact xD b i
def Mem.cvtV(h:Mem M ob ac w){n0:Nat}{ks:az}(r:iR ks ac=true):∀ (n:Nat) (v:Value) (a:aa),Rep M ob v a->Rep M (eS n0 ob ac 0 ks) v (cvtV n0 ks (aB ac) n a):=by
 intro n;induction n with
 | zero=>intro v a _;exact .undef v
 | succ n z=>
  intro v a m;have F:∀ {n0 j c x:Nat},gm n0 j c 0=some x->x=0:=λ{n0 j c x} d=>by
   rcases VH d with ⟨e,rfl⟩ | ⟨_,_,_,rfl⟩
   .grind
   .rfl
  have tok:∀ {v:Value} {sz:Nat} {xs:ax} {t:Tk},Rep M ob v (.slice sz xs t)->Rep M (eS n0 ob ac 0 ks) v (AW.cvtV n0 ks (aB ac) (n+1) (.slice sz xs t)):=by
   intro v sz xs t m;obtain ⟨J,C⟩:=m.untok;have p:Rep M (eS n0 ob ac 0 ks) v (.slice sz xs .no):=J.slice_pure.pure;cases t with
   | no=>exact p
   | nil=>
    cases ks with
    | nil=>exact p
    | cons k ks=>exact p.tok C
   | full=>exact p.tok C
   | own k g=>
    simp only [AW.cvtV];split
    .rename_i j hp;split
     .rename_i s d;exact p.tok (show at' _ _ _=_ from h.cutAt r hp d C)
     .exact p
    .exact p
  cases m with
  | undef v=>exact .undef v
  | bool b=>exact .bool b
  | int k n m=>exact .int k n m
  | str l hl=>exact .str l hl
  | agg vs as hl m=>
   obtain ⟨h1,y⟩:=bV (z) hl m;exact .agg vs _ h1 y
  | tup vs as hl m=>
   obtain ⟨h1,y⟩:=bV (z) hl m;exact .tup vs _ h1 y
  | ptr b o cs m=>exact .ptr b o cs m
  | ref k off b f=>
   simp only [AW.cvtV];split
   .rename_i j hp;split
    .rename_i x d;have:=F d;subst this;exact .ref j off b (h.cutAt r hp d f)
    .exact .undef _
   .exact (h.pureV 1 _ _ (.ref k off b f)).pure
  | eref k g i sz off b n c f=>exact .undef _
  | rowc k g c a n h hm=>exact .undef _
  | pre k g n c sz b len h q u hl hm=>exact .undef _
  | csl k off len sz b f hm=>
   simp only [AW.cvtV];split
   .rename_i j hp;split
    .rename_i x d;have:=F d;subst this;exact .csl j off len sz b (h.cutAt r hp d f) hm
    .exact .undef _
   .exact (h.pureV 1 _ _ (.csl k off len sz b f hm)).pure
  | row k g a n c f=>
   simp only [AW.cvtV];split
   .rename_i j hp;split
    .rename_i s d;exact .row j s a n c (h.cutAt r hp d f)
    .exact .undef _
   .exact (h.pureV 1 _ _ (.row k g a n c f)).pure
  | sub k g lo len sz b n c f hl u q hm=>
   simp only [AW.cvtV];split
   .rename_i j hp;split
    .rename_i s d;exact .sub j s lo len sz b n c (h.cutAt r hp d f) hl u q hm
    .exact .undef _
   .exact (h.pureV 1 _ _ (.sub k g lo len sz b n c f hl u q hm)).pure
  | sub0 k g lo sz a G n c f hl q=>
   simp only [AW.cvtV];split
   .rename_i j hp;split
    .rename_i s d;exact .sub0 j s lo sz a G n c (h.cutAt r hp d f) hl q
    .exact .undef _
   .exact (h.pureV 1 _ _ (.sub0 k g lo sz a G n c f hl q)).pure
  | mref k b f=>
   simp only [AW.cvtV];split
   .rename_i j hp;split
    .rename_i x d;have:=F d;subst this;exact .mref j b (h.cutAt r hp d f)
    .exact .undef _
   .exact .undef _
  | nilptr=>exact .nilptr
  | nilslice=>exact .nilslice
  | nilmap=>exact .nilmap
  | nilfunc=>exact .nilfunc
  | nilif=>exact .nilif
  | hsl a n c=>exact .hsl a n c
  | slnil sz t A=>exact tok (.slnil sz t A)
  | slemp sz t a cap A=>exact tok (.slemp sz t a cap A)
  | sl sz b o n cap xs t u q hm hz m A=>exact tok (.sl sz b o n cap xs t u q hm hz m A)
  | func fn H cs L N K q B D=>
   obtain ⟨h1,y⟩:=bV (z) K B;obtain ⟨h3,I⟩:=bV (z) q D;exact .func fn H cs _ _ h1 h3 y I
  | iface t v a m=>exact .iface t v _ (z v a m)
def Mem.cvt(h:Mem M ob ac w){n0:Nat}{ks:az}(L:iR ks ac=true):
  Mem M (eS n0 ob ac 0 ks) (gF n0 ks ac) w/\(∀ j b,aG (eS n0 ob ac 0 ks) (gF n0 ks ac) j b->∃ k,ks[j]? =some k/\aG ob ac k b)/\
   (∀ j k b,ks[j]? =some k->aG ob ac k b->aG (eS n0 ob ac 0 ks) (gF n0 ks ac) j b):=by
 obtain ⟨y,O⟩:=lP L;have hist:∀ {j k:Nat},ks[j]? =some k->∃ hs,ob[k]? =some hs/\hs.length=eU (aB ac k)+1/\(eS n0 ob ac 0 ks)[j]? =some (iL n0 j (aB ac k) hs)/\(gF n0 ks ac)[j]? =some (FA n0 ks ac j (aB ac k))/\gX M ob w hs (aB ac k):=by
  intro j k a;have H:=y j k a;obtain ⟨hs,C,F⟩:=h.obj k _ (eP H);refine ⟨hs,C,h.histLen H C,?_,?_,F⟩
  .rw [gT,a];simp [C]
  .unfold gF;rw [LG,a];simp
 have l:∀ j o,(FA n0 ks ac j o).owns=o.owns:=λ j o=>by cases o<;>rfl
 have n:∀ j b,aG (eS n0 ob ac 0 ks) (gF n0 ks ac) j b->∃ k,ks[j]? =some k/\aG ob ac k b:=by
  rintro j b ⟨c,hs,B,S,K,J⟩;have a:∃ k,ks[j]? =some k:=by
   have:j<ks.length:=by have:=(Ac.1 B).1;unfold gF at this;rwa [nQ] at this
   exact ⟨_,Aa this⟩
  obtain ⟨k,a⟩:=a;obtain ⟨hs',A,t,u,x,_⟩:=hist a;rw [x] at B;rw [u] at K;cases B;cases K;refine ⟨k,a,(cL (eP (y j k a)) A).2 ⟨by rw [<-l j];exact S,?_⟩⟩;unfold blk at J⊢;rwa [yN t] at J
 have D:∀ j k b,ks[j]? =some k->aG ob ac k b->aG (eS n0 ob ac 0 ks) (gF n0 ks ac) j b:=by intro j k b a p;obtain ⟨hs',A,t,u,x,_⟩:=hist a;have:=(cL (eP (y j k a)) A).1 p;refine (cL x u).2 ⟨by rw [l];exact this.1,?_⟩;unfold blk;rw [yN t];exact this.2
 refine ⟨⟨h.imm,by unfold gF;rw [oM,nQ],λ j c f=>?_,λ j b p=>?_,λ i j b p G=>?_⟩,n,D⟩
 .have a:∃ k,ks[j]? =some k:=by
   have:j<ks.length:=by have:=(Ac.1 f).1;unfold gF at this;rwa [nQ] at this
   exact ⟨_,Aa this⟩
  obtain ⟨k,a⟩:=a;obtain ⟨hs,A,t,u,x,m⟩:=hist a;rw [x] at f;cases f;refine ⟨_,u,?_⟩;have hl:=rW (n0:=n0) (j:=j) t;have r:=mV n0 j (eU (aB ac k));have d:=wY t r;cases f:aB ac k with
  | dead=>exact trivial
  | fcells cs=>have:=y j k a;rw [f] at this;cases this
  | frow g sz xs=>have:=y j k a;rw [f] at this;cases this
  | cells T cs=>
   rw [f] at m;obtain ⟨b,rfl,z,cv,q,s,V,Q⟩:=m;obtain ⟨P,U⟩:=bV (h.cvtV (n0:=n0) L 4) s Q;exact ⟨b,rfl,z,cv,q,P,V,U⟩
  | row g sz e xs=>
   rw [f] at m hl d;obtain ⟨z,v,q,s⟩:=m;simp only [FA,mV];exact ⟨hl,v,d.trans q,s⟩
  | tail g sz e=>
   rw [f] at m hl d;obtain ⟨z,v,q,s⟩:=m;simp only [FA,mV];exact ⟨hl,v,d.trans q,s⟩
  | mp W es=>
   rw [f] at m;exact m
  | bun g I=>
   rw [f] at m hl d;obtain ⟨z,v,q,s⟩:=m;simp only [FA,mV];exact ⟨hl,v,d.trans q,s⟩
 .obtain ⟨k,_,p⟩:=n j b p;exact h.lt k b p
 .obtain ⟨k,N,p⟩:=n i b p;obtain ⟨R,a,G⟩:=n j b G;have:=h.inj k R b p G;subst this;exact F7 O N a
end
def aB4(ks:az):dU.olenN ks=ks.length:=by
 induction ks with
 | nil=>rfl
 | cons k r a=>simp [dU.olenN,a]
def hC{ks:az}{base j k:Nat}(h:ks[j]? =some k):dU ks base j=k:=by simp [dU,nI,h]
def jM{ks:az}{base j:Nat}(h:ks.length<=j):dU ks base j=base+(j-ks.length):=by simp [dU,nI,Bg h,aB4]
def aDK{ks:az}{base:Nat}(f:ks.Nodup)(c:∀ (j k:Nat),ks[j]? =some k->k<base){i j:Nat}(h:dU ks base i=dU ks base j):i=j:=by
 by_cases e:i<ks.length<;>by_cases d:j<ks.length
 .have b:=Aa e;have a:=Aa d;rw [hC b,hC a] at h;rw [<-h] at a;exact F7 f b a
 .have b:=Aa e;rw [hC b,jM o_] at h;have:=c i _ b;omega
 .have a:=Aa d;rw [hC a,jM o_] at h;have:=c j _ a;omega
 .rw [jM o_,jM o_] at h;omega
def ZB{ks:az}{base:Nat}{ac:au}(w:ks.Nodup)(q:∀ (j k:Nat),ks[j]? =some k->k<base):∀ (l:au) (j:Nat) (a:au),a.length=base+(j-ks.length)->
  (gH ks base ac j l a).length=base+(j+l.length-ks.length)/\(∀ (t:Nat) o,l[t]? =some o->(gH ks base ac j l a)[dU ks base (j+t)]? =some (pR ks base ac (j+t) o))/\
   ∀ i,(∀ t,t<l.length->dU ks base (j+t)≠i)->i<a.length->(gH ks base ac j l a)[i]? =a[i]?:=by
 intro l;induction l with
 | nil=>intro j a hl;exact ⟨by simpa [gH] using hl,λ t o h=>by simp at h,λ i _ _=>rfl⟩
 | cons o r y=>
  intro j a hl;simp only [gH]
  have d:(bJ a (dU ks base j) (pR ks base ac j o)).length=base+(j+1-ks.length)/\(bJ a (dU ks base j) (pR ks base ac j o))[dU ks base j]? =some (pR ks base ac j o)/\
    ∀ i,dU ks base j≠i->i<a.length->(bJ a (dU ks base j) (pR ks base ac j o))[i]? =a[i]?:=by
   by_cases s:j<ks.length
   .have u:=Aa s;have f:=q j _ u;rw [hC u,fW _ o_];exact ⟨by simp;omega,Aq o_,λ i c _=>Ax c⟩
   .rw [jM o_,<-hl,MN];exact ⟨by simp;omega,by simp,λ i _ c=>Af c⟩
  obtain ⟨p,n,z⟩:=d;obtain ⟨x,A,m⟩:=y (j+1) _ p;have f:dU ks base j<(bJ a (dU ks base j) (pR ks base ac j o)).length:=(Ac.1 n).1;refine ⟨by rw [x];simp;omega,λ t v g=>?_,λ i c b=>?_⟩
  .cases t with
   | zero=>
    simp at g;subst g;show (gH ks base ac (j+1) r (bJ a (dU ks base j) (pR ks base ac j o)))[dU ks base j]? =some (pR ks base ac j o);rw [m _ (λ t _ e=>?_) f,n];have:=aDK w q e;omega
   | succ t=>
    have:=A t v (by simpa using g);rwa [show j+1+t=j+(t+1) from by omega] at this
  .rw [m i (λ t g=>?_) (by
    by_cases s:j<ks.length
    .rw [p];rw [hl] at b;omega
    omega),z i (c 0 s_) b]
   have:=c (t+1) q_;rwa [show j+(t+1)=j+1+t from by omega] at this
def jD(ks:az)(ob a:Hs):Hs:=
 (Dr ob.length).map (λ k=>match pos k 0 ks with | some j=>ob.getD k []++(a.getD j []).drop 1 | none=>ob.getD k [])++a.drop ks.length
def aBO{ks:az}(a:ks.Nodup){j k:Nat}(h:ks[j]? =some k):pos k 0 ks=some j:=by
 have b:∀ (ks:az) (j i:Nat),ks.Nodup->ks[j]? =some k->pos k i ks=some (i+j):=by
  intro ks;induction ks with
  | nil=>simp
  | cons x r d=>
   intro j i a h;rw [Bx] at a;simp only [pos];cases j with
   | zero=>simp at h;subst h;simp
   | succ j=>
    have c:r[j]? =some k:=by simpa using h
    have:¬ x=k:=λ e=>a.1 (e▸Av c);rw [EG this];simp only [cond_false];rw [d j (i+1) a.2 c]
    grind
 simpa using b ks j 0 a h
section
variable {M M':Imm} {ob obK':Hs} {ac ao:au} {w w':World}
def Mem.embAt(h:Mem M ob ac w){ks:az}(A:iR ks ac=true)(e:cV (eS 0 ob ac 0 ks) obK'){j g:Nat}{v:Value}(d:at' obK' j g=some v):
  at' (jD ks ob obK') (dU ks ac.length j) (iS ks ac j g)=some v:=by
 obtain ⟨z,u⟩:=lP A;have n:∃ hs,obK'[j]? =some hs/\hs[g]? =some v:=by
  unfold at' at d;cases x:obK'[j]? with
  | none=>grind
  | some hs=>rw [x] at d;exact ⟨hs,rfl,d⟩
 obtain ⟨hs,p,i⟩:=n;by_cases l:j<ks.length
 .have c:=Aa l;have r:=z j _ c;have a:ks[j]<ob.length:=by rw [h.len];exact (Ac.1 (eP r)).1
  have k:ob[ks[j]]? =some ob[ks[j]]:=Aa a;have hl:=h.histLen r k;have b:(eS 0 ob ac 0 ks)[j]? =some (iL 0 j (aB ac ks[j]) ob[ks[j]]):=by rw [gT,c];simp [k]
  obtain ⟨hs',q,t,y⟩:=e j _ b;rw [p] at q;cases q;have s:(iL 0 j (aB ac ks[j]) ob[ks[j]]).length=1:=by rw [rW hl];simp
  have m:(iL 0 j (aB ac ks[j]) ob[ks[j]])[0]? =ob[ks[j]][eU (aB ac ks[j])]?:=wY hl (by rw [mV];simp);have o:(jD ks ob obK')[ks[j]]? =some (ob[ks[j]]++hs.drop 1):=by unfold jD;rw [Af q_,Bh,Dj a];simp [aBO u c,k,p]
  rw [hC c,bT o];have f:iS ks ac j g=eU (aB ac ks[j])+g:=by simp [iS,nI,c]
  rw [f];cases g with
  | zero=>
   rw [Ff,Af o_,<-m,<-i,<-y,Af o_]
  | succ g=>
   rw [Ak o_,Bo,<-i];congr 1;omega
 .have o:(jD ks ob obK')[ac.length+(j-ks.length)]? =some hs:=by unfold jD;rw [Ak (by simp;rw [h.len];omega),Bo,<-p];congr 1;simp [h.len];omega
  rw [jM o_,bT o];simpa [iS,nI,Bg (show ks.length<=j by omega)] using i
def OJ{M':Imm}{obK' f:Hs}{ks:az}{base:Nat}{ac:au}(m:∀ {j g:Nat} {v:Value},at' obK' j g=some v->at' f (dU ks base j) (iS ks ac j g)=some v)
  (A:∀ {j:Nat} {v:Value},at' obK' j 0=some v->(∃ b,v= .pointer (some ⟨b,0,none⟩))\/(∃ b,v= .map (some b))->at' f (dU ks base j) 0=some v):
  ∀ (n:Nat) (v:Value) (a:aa),Rep M' obK' v a->Rep M' f v (embV ks base ac n a):=by
 intro n;induction n with
 | zero=>intro v a _;exact .undef v
 | succ n s=>
  intro v a d;have tok:∀ {v:Value} {sz:Nat} {xs:ax} {t:Tk},Rep M' obK' v (.slice sz xs t)->Rep M' f v (AW.embV ks base ac (n+1) (.slice sz xs t)):=by
   intro v sz xs t d;obtain ⟨D,y⟩:=d.untok;have p:Rep M' f v (.slice sz xs .no):=D.slice_pure.pure;cases t with
   | no=>exact p
   | nil=>exact p.tok y
   | full=>exact p.tok y
   | own k g=>exact p.tok (show at' _ _ _=_ from m y)
  cases d with
  | undef v=>exact .undef v
  | bool b=>exact .bool b
  | int k n d=>exact .int k n d
  | str l hl=>exact .str l hl
  | agg vs as hl d=>
   obtain ⟨h1,r⟩:=bV (s) hl d;exact .agg vs _ h1 r
  | tup vs as hl d=>
   obtain ⟨h1,r⟩:=bV (s) hl d;exact .tup vs _ h1 r
  | ptr b o cs d=>exact .ptr b o cs d
  | ref k off b e=>exact .ref _ off b (A e (.inl ⟨b,rfl⟩))
  | eref k g i sz off b n c e=>exact .undef _
  | rowc k g c a n h hm=>exact .undef _
  | pre k g n c sz b len h q w hl hm=>exact .undef _
  | csl k off len sz b e hm=>exact .csl _ off len sz b (A e (.inl ⟨b,rfl⟩)) hm
  | row k g a n c e=>exact .row _ _ a n c (m e)
  | sub k g lo len sz b n c e hl w q hm=>exact .sub _ _ lo len sz b n c (m e) hl w q hm
  | sub0 k g lo sz a F n c e hl q=>exact .sub0 _ _ lo sz a F n c (m e) hl q
  | mref k b e=>exact .mref _ b (A e (.inr ⟨b,rfl⟩))
  | nilptr=>exact .nilptr
  | nilslice=>exact .nilslice
  | nilmap=>exact .nilmap
  | nilfunc=>exact .nilfunc
  | nilif=>exact .nilif
  | hsl a n c=>exact .hsl a n c
  | slnil sz t u=>exact tok (.slnil sz t u)
  | slemp sz t a cap u=>exact tok (.slemp sz t a cap u)
  | sl sz b o n cap xs t w q hm hz d u=>exact tok (.sl sz b o n cap xs t w q hm hz d u)
  | func fn B cs H I G q x z=>
   obtain ⟨h1,r⟩:=bV (s) G x;obtain ⟨h3,C⟩:=bV (s) q z;exact .func fn B cs _ _ h1 h3 r C
  | iface t v a d=>exact .iface t v _ (s v a d)
def Mem.embV(h:Mem M ob ac w){ks:az}(B:iR ks ac=true)(m:cV (eS 0 ob ac 0 ks) obK')(F:(eS 0 ob ac 0 ks).length=ks.length):∀ (n:Nat) (v:Value) (a:aa),Rep M' obK' v a->
  Rep M' (jD ks ob obK') v (embV ks ac.length ac n a):=by
 have J:∀ {j:Nat} {v:Value},at' obK' j 0=some v->(∃ b,v= .pointer (some ⟨b,0,none⟩))\/(∃ b,v= .map (some b))->at' (jD ks ob obK') (dU ks ac.length j) 0=some v:=by
  intro j v r hs;have:=h.embAt B m r;by_cases t:j<ks.length
  .have A:=Aa t;have p:eU (aB ac ks[j])=0:=by
    have D:=(lP B).1 j _ A;obtain ⟨hs',C,d⟩:=h.obj _ _ (eP D);have f:(eS 0 ob ac 0 ks)[j]? =some (iL 0 j (aB ac ks[j]) hs'):=by rw [gT,A];simp [C]
    have hl:=h.histLen D C;have x:(iL 0 j (aB ac ks[j]) hs')[0]? =hs'[eU (aB ac ks[j])]?:=wY hl (by rw [mV];simp);have c:at' (eS 0 ob ac 0 ks) j 0=some v:=by
     have H:(iL 0 j (aB ac ks[j]) hs').length=1:=by rw [rW hl];simp
     have y:=Aa (l:=iL 0 j (aB ac ks[j]) hs') (i:=0) o_;generalize (iL 0 j (aB ac ks[j]) hs')[0]=u at y;have:=m.at (ob:=eS 0 ob ac 0 ks) (k:=j) (g:=0) (v:=u) (by rw [bT f];exact y);rw [r] at this;cases this;rw [bT f];exact y
    rw [bT f,x] at c;cases p:aB ac ks[j] with
    | row g sz e xs=>
     rw [p] at d c;obtain ⟨_,G,o,cv,z,_⟩:=d;simp only [eU] at c;rw [o] at c;cases c;rcases dJ z with ⟨q,_⟩ | ⟨_,_,q,_⟩<;>rcases hs with ⟨b,hs⟩ | ⟨b,hs⟩<;>(rw [q] at hs;cases hs)
    | tail g sz e=>
     rw [p] at d c;obtain ⟨_,G,o,K,cv,z,_⟩:=d;simp only [eU] at c;rw [o] at c;cases c;rcases dJ z with ⟨q,_⟩ | ⟨_,_,q,_⟩<;>rcases hs with ⟨b,hs⟩ | ⟨b,hs⟩<;>(grind)
    | bun g I=>
     rw [p] at d c;obtain ⟨_,bs,o,_⟩:=d;simp only [eU] at c;rw [o] at c;cases c;rcases hs with ⟨b,hs⟩ | ⟨b,hs⟩<;>cases hs
    | _=>rfl
   have s:iS ks ac j 0=0:=by simp [iS,nI,A,p]
   grind
  .have s:iS ks ac j 0=0:=by simp [iS,nI,Bg (show ks.length<=j by omega)]
   grind
 exact OJ (λ r=>h.embAt B m r) J
def Mem.emb(h:Mem M ob ac w){ks:az}(hk:iR ks ac=true)(s:Ext M (eS 0 ob ac 0 ks) (gF 0 ks ac) w M' obK' ao w')(h':Mem M' obK' ao w'):
  Mem M' (jD ks ob obK') (gH ks ac.length ac 0 ao ac) w'/\Ext M ob ac w M' (jD ks ob obK') (gH ks ac.length ac 0 ao ac) w'/\∀ (i:Nat) hs,ac[i]? =some .dead->ob[i]? =some hs->(gH ks ac.length ac 0 ao ac)[i]? =some .dead/\(jD ks ob obK')[i]? =some hs:=by
 obtain ⟨k1,k2⟩:=lP hk;obtain ⟨c1,c2,c3⟩:=h.cvt (n0:=0) hk;have hks:∀ (j k:Nat),ks[j]? =some k->k<ac.length:=λ j k u=>(Ac.1 (eP (k1 j k u))).1;have hcl:(eS 0 ob ac 0 ks).length=ks.length:=oM;have hm:ks.length<=ao.length:=by
  rcases Fi ks.length with h0 | h0
  .omega
  .have:(eS 0 ob ac 0 ks)[ks.length-1]? =some (eS 0 ob ac 0 ks)[ks.length-1]:=Aa o_;obtain ⟨hs',e,_⟩:=s.hs _ _ this;have:=(Ac.1 e).1;rw [h'.len] at this;omega
 obtain ⟨s1,s2,s3⟩:=ZB (base:=ac.length) (ac:=ac) k2 hks ao 0 ac s_;simp only [Bw] at s1 s2 s3;have hEl:(jD ks ob obK').length=ac.length+(ao.length-ks.length):=by unfold jD;simp [h.len,h'.len]
 -- the objects fL the call:by number
 have cls:∀ {i:Nat},i<(gH ks ac.length ac 0 ao ac).length->(∃ j,j<ao.length/\i=dU ks ac.length j)\/(i<ac.length/\(∀ j,j<ao.length->dU ks ac.length j≠i)):=by
  intro i C;rw [s1] at C;by_cases Q:i<ac.length
  .by_cases hin:∃ j,j<ao.length/\i=dU ks ac.length j
   .exact .inl hin
   .exact .inr ⟨Q,λ j u e=>hin ⟨j,u,e.symm⟩⟩
  .refine .inl ⟨ks.length+(i-ac.length),by omega,?_⟩;rw [jM o_];omega
 have O:∀ {i:Nat},i<ac.length->(∀ j,j<ao.length->dU ks ac.length j≠i)->(gH ks ac.length ac 0 ao ac)[i]? =ac[i]?/\(jD ks ob obK')[i]? =ob[i]?:=by
  intro i C d;refine ⟨s3 i d C,?_⟩;have P:i<ob.length:=by rw [h.len];exact C
  have hp:pos i 0 ks=none:=by
   cases hq:pos i 0 ks with
   | none=>rfl
   | some j=>
    have:=UJ hq;exact absurd (hC this) (d j (by have:=(Ac.1 this).1;omega))
  unfold jD;rw [Af q_,Bh,Dj P];simp [hp,Aa P]
 have Z:∀ {j:Nat} {o:ab},ao[j]? =some o->∃ hs hs',obK'[j]? =some hs/\gX M' obK' w' hs o/\(gH ks ac.length ac 0 ao ac)[dU ks ac.length j]? =some (pR ks ac.length ac j o)/\(jD ks ob obK')[dU ks ac.length j]? =some hs'/\
   hs'.length=(match ks[j]? with | some k=>eU (aB ac k) | none=>0)+hs.length/\(o.owns=true->blk hs'=blk hs)/\(∀ (g:Nat) v,hs[g]? =some v->hs'[iS ks ac j g]? =some v):=by
  intro j o u;obtain ⟨hs,J,m⟩:=h'.obj j o u;have hat:∀ (g:Nat) v,hs[g]? =some v->at' (jD ks ob obK') (dU ks ac.length j) (iS ks ac j g)=some v:=λ g v hg=>h.embAt hk s.hs (by rw [bT J];exact hg);by_cases Q:j<ks.length
  .have X:=Aa Q;have Y:=k1 j _ X;have hko:ks[j]<ob.length:=by rw [h.len];exact (Ac.1 (eP Y)).1
   have hhb:ob[ks[j]]? =some ob[ks[j]]:=Aa hko;have hl:=h.histLen Y hhb;have S:(eS 0 ob ac 0 ks)[j]? =some (iL 0 j (aB ac ks[j]) ob[ks[j]]):=by rw [gT,X];simp [hhb]
   obtain ⟨H,F,t,D⟩:=s.hs j _ S;rw [J] at F;cases F;have hc1:(iL 0 j (aB ac ks[j]) ob[ks[j]]).length=1:=by rw [rW hl];simp
   have hpos:1<=hs.length:=by rw [<-D];simp;omega
   have eE:(jD ks ob obK')[ks[j]]? =some (ob[ks[j]]++hs.drop 1):=by unfold jD;rw [Af q_,Bh,Dj hko];simp [aBO k2 X,hhb,J]
   refine ⟨hs,_,J,m,s2 j o u,by rw [hC X];exact eE,by rw [X];simp;omega,λ_=>?_,λ g v hg=>?_⟩
   .unfold blk;rw [Mr];by_cases h2:1<hs.length
    .rw [List.getLast?_drop,if_neg o_];have d:hs≠[]:=λ e=>by subst e;simp at hpos
     rw [Ki d];rfl
    .have:hs.drop 1=[]:=Ai o_;rw [this];simp only [List.getLast?_nil,Option.none_or];have h1l:hs.length=1:=o_;have ht:t=[]:=by have:=congrArg Lh D;simp at this;exact Ay o_
     subst ht;rw [Au] at D;rw [<-D,yN hl]
   .have:=hat g v hg;rw [hC X,bT eE] at this;exact this
  .have hjl:j<obK'.length:=(Ac.1 J).1;have eE:(jD ks ob obK')[ac.length+(j-ks.length)]? =some hs:=by unfold jD;rw [Ak (by simp;rw [h.len];omega),Bo,<-J];congr 1;simp [h.len];omega
   refine ⟨hs,hs,J,m,s2 j o u,by rw [jM o_];exact eE,by rw [Bg o_];simp,λ_=>rfl,λ g v hg=>?_⟩;simpa [iS,nI,Bg (show ks.length<=j by omega)] using hg
 have ownsE:∀ j o,(pR ks ac.length ac j o).owns=o.owns:=λ j o=>by cases o<;>rfl
 have l:∀ {i b:Nat},aG (jD ks ob obK') (gH ks ac.length ac 0 ao ac) i b->(∃ j,i=dU ks ac.length j/\aG obK' ao j b)\/((∀ j,j<ao.length->dU ks ac.length j≠i)/\aG ob ac i b):=by
  rintro i b ⟨c,hs,F,D,e3,e4⟩;rcases cls (Ac.1 F).1 with ⟨j,u,rfl⟩ | ⟨C,d⟩
  .obtain ⟨G,H,g1,A,g3,g4,_,g5,_⟩:=Z (Aa u);rw [g3] at F;rw [g4] at e3;cases F;cases e3;rw [ownsE] at D;exact .inl ⟨j,rfl,(cL (Aa u) g1).2 ⟨D,by rw [<-g5 D];exact e4⟩⟩
  .obtain ⟨o1,o2⟩:=O C d;rw [o1] at F;rw [o2] at e3;exact .inr ⟨d,c,hs,F,D,e3,e4⟩
 have hle:cV ob (jD ks ob obK'):=by
  intro i hs C;have P:=(Ac.1 C).1;cases hq:pos i 0 ks with
  | none=>
   refine ⟨hs,?_,Cl _⟩;unfold jD;rw [Af q_,Bh,Dj P];simp [hq,C]
  | some j=>
   refine ⟨hs++(obK'.getD j []).drop 1,?_,⟨_,rfl⟩⟩;unfold jD;rw [Af q_,Bh,Dj P];simp [hq,C]
 have f:∀ {i b:Nat},(∀ j,j<ao.length->dU ks ac.length j≠i)->aG ob ac i b->(∀ j,¬ aG (eS 0 ob ac 0 ks) (gF 0 ks ac) j b)/\b<w.heap.size:=by intro i b d n;refine ⟨λ j u=>?_,h.lt i b n⟩;obtain ⟨k,hk',ha'⟩:=c2 j b u;have:=h.inj i k b n ha';subst this;exact d j (by have:=(Ac.1 hk').1;omega) (hC hk')
 refine ⟨⟨h'.imm,by rw [hEl,s1],λ i c r=>?_,λ i b n=>?_,λ i i' b n hb=>?_⟩,⟨s.imm,λ b o y hy=>?_,hle,s.os,s.tape,s.output,s.size,λ b hb hn=>s.keep b hb λ j u=>?_,λ i b n=>?_⟩,λ i hs hd J=>?_⟩
 .rcases cls (Ac.1 r).1 with ⟨j,u,rfl⟩ | ⟨C,d⟩
  .obtain ⟨G,H,g1,A,g3,g4,g5,g6,g7⟩:=Z (Aa u);rw [g3] at r;cases r;refine ⟨H,g4,?_⟩;have one0:∀ {p:Value},G=[p]->G.length=1->(match ks[j]? with | some k=>eU (aB ac k) | none=>0)=0\/True:=λ_ _=>.inr trivial;have single:∀ {b:Nat} {p:Value},G=[p]->((∃ q,p= .pointer (some ⟨q,0,none⟩))\/(∃ q,p= .map (some q)))->H=[p]:=by
    intro b p e hp;have hcur:(match ks[j]? with | some k=>eU (aB ac k) | none=>0)=0:=by
     cases hq:ks[j]? with
     | none=>rfl
     | some k=>
      have L:=g7 0 p (by rw [e];rfl);have Y:=k1 j k hq;obtain ⟨U,hhk,m⟩:=h.obj k _ (eP Y);have hl:=h.histLen Y hhk;have S:(eS 0 ob ac 0 ks)[j]? =some (iL 0 j (aB ac k) U):=by rw [gT,hq];simp [hhk]
      obtain ⟨hs3,F,t,D⟩:=s.hs j _ S;rw [g1] at F;cases F;have hc1:(iL 0 j (aB ac k) U).length=1:=by rw [rW hl];simp
      have hc0:(iL 0 j (aB ac k) U)[0]? =U[eU (aB ac k)]?:=wY hl (by rw [mV];simp);have a:U[eU (aB ac k)]? =some p:=by
       rw [<-hc0];have:G[0]? =some p:=by rw [e];rfl
       rw [<-D,Af o_] at this;exact this
      show eU (aB ac k)=0;cases r:aB ac k with
      | row g sz e xs=>
       rw [r] at m a;obtain ⟨_,v',z,cv,K,_⟩:=m;simp only [eU] at a;rw [z] at a;cases a;rcases dJ K with ⟨q,_⟩ | ⟨_,_,q,_⟩<;>rcases hp with ⟨b,hp⟩ | ⟨b,hp⟩<;>(rw [q] at hp;cases hp)
      | tail g sz e=>
       rw [r] at m a;obtain ⟨_,v',z,n',cv,K,_⟩:=m;simp only [eU] at a;rw [z] at a;cases a;rcases dJ K with ⟨q,_⟩ | ⟨_,_,q,_⟩<;>rcases hp with ⟨b,hp⟩ | ⟨b,hp⟩<;>(rw [q] at hp;cases hp)
      | bun g I=>
       rw [r] at m a;obtain ⟨_,bs,z,_⟩:=m;simp only [eU] at a;rw [z] at a;cases a;rcases hp with ⟨b,hp⟩ | ⟨b,hp⟩<;>cases hp
      | _=>rfl
    rw [hcur,e] at g5;have L:=g7 0 p (by rw [e];rfl);have hG:iS ks ac j 0=0:=by unfold iS;rw [nI];omega
    rw [hG] at L
    match H,g5,L with
    | [x],_,L=>simp at L;rw [L]
   have B:∀ g,G.length=g+1->H.length=iS ks ac j g+1:=λ g hg=>by
    rw [g5,hg];unfold iS;rw [nI];cases ks[j]? with
    | none=>simp
    | some k=>simp;omega
   cases r:ao[j] with
   | dead=>exact trivial
   | cells T cs=>
    rw [r] at A;obtain ⟨b,rfl,V,cv,z,K,a4,a5⟩:=A;obtain ⟨m1,m2⟩:=bV (h.embV (M':=M') hk s.hs hcl 4) K a5;exact ⟨b,single (b:=b) rfl (.inl ⟨b,rfl⟩),V,cv,z,m1,a4,m2⟩
   | fcells cs=>
    rw [r] at A;obtain ⟨b,rfl,V⟩:=A;exact ⟨b,single (b:=b) rfl (.inl ⟨b,rfl⟩),V⟩
   | row g sz e xs=>
    rw [r] at A;obtain ⟨V,v,z,K⟩:=A;exact ⟨B g V,v,g7 g v z,K⟩
   | frow g sz xs=>
    rw [r] at A;obtain ⟨v,z,K⟩:=A;exact ⟨v,g7 g v z,K⟩
   | tail g sz e=>
    rw [r] at A;obtain ⟨V,v,z,K⟩:=A;exact ⟨B g V,v,g7 g v z,K⟩
   | mp ag es=>
    rw [r] at A;obtain ⟨b,rfl,V,z⟩:=A;exact ⟨b,single (b:=b) rfl (.inr ⟨b,rfl⟩),V,z⟩
   | bun g I=>
    rw [r] at A;obtain ⟨V,v,z,K⟩:=A;exact ⟨B g V,v,g7 g _ z,K⟩
  .obtain ⟨o1,o2⟩:=O C d;rw [o1] at r;obtain ⟨hs,J,m⟩:=h.obj i c r;refine ⟨hs,by rw [o2];exact J,m.mono s.imm hle (λ b p1 p2 o hno y hy=>?_) (λ b c' p1 p2 hc'=>?_)⟩
   .obtain ⟨n1,n2⟩:=f d ((cL r J).2 ⟨p1,p2⟩);rcases s.new b o y hy with q | q | ⟨j,q⟩
    .exact hno y q
    .omega
    .exact n1 j q
   .obtain ⟨n1,n2⟩:=f d ((cL r J).2 ⟨p1,p2⟩);rw [s.keep b n2 n1];exact hc'
 .rcases l n with ⟨j,_,n⟩ | ⟨_,n⟩
  .exact h'.lt j b n
  .exact Em (h.lt i b n) s.size
 .have W:∀ {i j:Nat},(∀ j,j<ao.length->dU ks ac.length j≠i)->aG ob ac i b->aG obK' ao j b->False:=by
   intro i j d n hb;obtain ⟨n1,n2⟩:=f d n;rcases s.fresh j b hb with ⟨j',q⟩ | q
   .exact n1 j' q
   .omega
  rcases l n with ⟨j,F,R⟩ | ⟨d,R⟩<;>rcases l hb with ⟨j',D,N⟩ | ⟨hne',N⟩
  .rw [F,D,h'.inj j j' b R N]
  .exact (W hne' N R).elim
  .exact (W d R N).elim
  .exact h.inj i i' b R N
 .rcases s.new b o y hy with q | q | ⟨j,q⟩
  .exact .inl q
  .omega
  .obtain ⟨k,_,n⟩:=c2 j b q;exact .inr (.inr ⟨k,n⟩)
 .obtain ⟨k,_,n⟩:=c2 j b u;exact hn k n
 .rcases l n with ⟨j,_,n⟩ | ⟨_,n⟩
  .rcases s.fresh j b n with ⟨j',q⟩ | q
   .obtain ⟨k,_,ha'⟩:=c2 j' b q;exact .inl ⟨k,ha'⟩
   omega
  .exact .inl ⟨i,n⟩
 .have C:=(Ac.1 hd).1;have d:∀ j,j<ao.length->dU ks ac.length j≠i:=by
   intro j u e;by_cases Q:j<ks.length
   .have X:=Aa Q;rw [hC X] at e;have Y:=k1 j _ X;rw [e,fN hd] at Y;cases Y
   .rw [jM o_] at e;omega
  obtain ⟨o1,o2⟩:=O C d;rw [o1,o2];exact ⟨hd,J⟩
end
section
variable {M M':Imm} {ob ob':Hs} {ac obs1 obs1' ao:au} {w w':World}
def S1(obs1 ac:au):Prop:=obs1.length=ac.length/\∀ (k:Nat),obs1[k]? =ac[k]?\/obs1[k]? =some .dead
def S1.alive(h:S1 obs1 ac){k b:Nat}(f:aG ob obs1 k b):aG ob ac k b:=by
 obtain ⟨c,hs,a,d,g,e⟩:=f;rcases h.2 k with q | q
 .rw [q] at a;exact ⟨c,hs,a,d,g,e⟩
 .rw [q] at a;cases a;cases d
def Mem.weak(h:Mem M ob ac w)(a:S1 obs1 ac):Mem M ob obs1 w:=by
 refine ⟨h.imm,h.len.trans a.1.symm,λ k c d=>?_,λ k b e=>h.lt k b (a.alive e),λ i j b e g=>h.inj i j b (a.alive e) (a.alive g)⟩;rcases a.2 k with q | q
 .rw [q] at d;exact h.obj k c d
 .rw [q] at d;cases d;have f:k<ob.length:=by rw [h.len,<-a.1];grind
  exact ⟨ob[k],Aa f,trivial⟩
def Mem.revive(h:Mem M ob ac w)(x:S1 obs1 ac)(d:Ext M ob obs1 w M' ob' obs1' w')(hs:cI ob obs1 ob' obs1')(z:Mem M' ob' obs1' w')(hl:ao.length=obs1'.length)
  (C:∀ (k:Nat) c,ao[k]? =some c->obs1'[k]? =some c\/(obs1[k]? =some .dead/\(∃ hs,ob[k]? =some hs/\hs≠[])/\ac[k]? =some c)):
  Mem M' ob' ao w'/\Ext M ob ac w M' ob' ao w'/\cI ob ac ob' ao:=by
 have a:∀ {k b:Nat},aG ob' ao k b->aG ob' obs1' k b\/(obs1[k]? =some .dead/\aG ob ac k b):=by
  rintro k b ⟨c,hs',u,D,R,P⟩;rcases C k c u with q | ⟨m,⟨g,n,B⟩,A⟩
  .exact .inl ⟨c,hs',q,D,R,P⟩
  .have:=((hs k g m n).1 B).2;rw [R] at this;cases this;exact .inr ⟨m,c,hs',A,D,n,P⟩
 have l:∀ {k b:Nat},obs1[k]? =some .dead->aG ob ac k b->∀ j,¬ aG ob obs1 j b:=by intro k b Z e j F;have:=h.inj k j b e (x.alive F);subst this;obtain ⟨c,_,u,D,_⟩:=F;rw [Z] at u;cases u;cases D
 refine ⟨⟨z.imm,z.len.trans hl.symm,λ k c W=>?_,λ k b e=>?_,λ i j b e L=>?_⟩,⟨d.imm,λ b o y H=>?_,d.hs,d.os,d.tape,d.output,d.size,λ b L U=>d.keep b L λ j F=>U j (x.alive F),λ k b e=>?_⟩,λ k hs' h1 O=>⟨λ h3=>?_,λ h3 V=>?_⟩⟩
 .rcases C k c W with q | ⟨m,⟨g,n,B⟩,A⟩
  .exact z.obj k c q
  .obtain ⟨Y,u,J⟩:=h.obj k c A;rw [n] at u;cases u;refine ⟨g,((hs k g m n).1 B).2,J.mono d.imm d.hs (λ b I G o N y H=>?_) (λ b c' I G K=>?_)⟩
   .have e:aG ob ac k b:=(cL A n).2 ⟨I,G⟩;rcases d.new b o y H with q | q | ⟨j,q⟩
    .exact N y q
    .have:=h.lt k b e;omega
    .exact l m e j q
   .have e:aG ob ac k b:=(cL A n).2 ⟨I,G⟩;rw [d.keep b (h.lt k b e) (l m e)];exact K
 .rcases a e with q | ⟨_,q⟩
  .exact z.lt k b q
  .exact Em (h.lt k b q) d.size
 .have f:∀ {i j:Nat},aG ob' obs1' i b->obs1[j]? =some .dead->aG ob ac j b->False:=λ{i j} p q r=>by
   rcases d.fresh i b p with ⟨S,t⟩ | t
   .exact l q r S t
   .have:=h.lt j b r;omega
  rcases a e with q | ⟨m,q⟩<;>rcases a L with r | ⟨X,r⟩
  .exact z.inj i j b q r
  .exact (f q X r).elim
  .exact (f r m q).elim
  .exact h.inj i j b q r
 .rcases d.new b o y H with q | q | ⟨j,q⟩
  .exact .inl q
  .omega
  .exact .inr (.inr ⟨j,x.alive q⟩)
 .rcases a e with q | ⟨_,q⟩
  .rcases d.fresh k b q with ⟨j,t⟩ | t
   .exact .inl ⟨j,x.alive t⟩
   omega
  .exact .inl ⟨k,q⟩
 .have s:obs1[k]? =some .dead:=by
   rcases x.2 k with q | q
   .grind
   .exact q
  obtain ⟨Q,T⟩:=(hs k hs' s O).1 h3;refine ⟨?_,T⟩;have v:k<ao.length:=by rw [hl];exact (Ac.1 Q).1
  rcases C k _ (Aa v) with q | ⟨_,_,q⟩
  .rw [Q] at q;rw [Aa v,<-q]
  .rw [h1] at q;rw [Aa v,<-q]
 .have s:obs1[k]? =some .dead:=by
   rcases x.2 k with q | q
   .grind
   .exact q
  rcases C k _ V with q | ⟨_,⟨g,n,B⟩,_⟩
  .exact (hs k hs' s O).2 h3 q
  grind
end
def aO(P:Program)(t:TypeId):Bool:=match P.underlying t with | some (.struct _) | some (.array _ _)=>true | _=>false
def oT(P:Program):List Field->List (Nat×Nat×Bool)->Prop
 | [],[]=>True
 | f::fs,(off,sz,ag)::r=>f.offset=off/\(P.info? f.type).map (·.size)=some sz/\(P.underlying f.type).isSome=true/\aO P f.type=ag/\oT P fs r
 | _,_=>False
def uT(P:Program)(t:Nat)(a:Bool)(size:Nat):TK->Prop
 | .int k=>P.underlying t=some (.int k)/\a=false/\size=1
 | .bool=>P.underlying t=some .bool/\a=false/\size=1
 | .str=>P.underlying t=some .string/\a=false/\size=1
 | .strct g=>(∃ c,P.underlying t=some (.struct c)/\oT P c.toList g)/\a=true
 | .arr n b h=>(∃ e,P.underlying t=some (.array n e)/\(P.info? e).map (·.size)=some b/\(P.underlying e).isSome=true/\aO P e=h)/\a=true
 | .slc e b j=>(P.underlying t=some (.slice e)/\∃ i z,P.info? e=some i/\i.size=b/\i.bytes=j/\i.zero=some z/\z.cells.size=b/\z.cells.toList.all (·.oneCell')=true)/\a=false/\size=1
 | .ptr e=>P.underlying t=some (.pointer e)/\a=false/\size=1
 | .iface=>(∃ f,P.underlying t=some (.interface f))/\a=false/\size=1
 | .mp k e=>P.underlying t=some (.map k e)/\a=false/\size=1
 | .other=>(∃ d,P.underlying t=some d/\(∀ f,d≠ .interface f))/\aO P t=a
structure TIOK(P:Program)(t:Nat)(ti:TI):Prop where
 info:∃ i z,P.info? t=some i/\i.size=ti.size/\i.zero=some z/\z.cells.size=ti.size/\Rep (λ_ _ _=>False) [] z ti.zero/\z.cells.toList.all (·.oneCell')=true/\ti.zero≠ .undef
 kind:uT P t ti.agg ti.size ti.kind
def aLX(P:Program)(t n:Nat):Prop:=∀ (w:World) (x y:Operand) (xs ys:ax) (vs us:ba) (c:Bool),ceq xs ys=some c->xs.length=n->
 bX (λ_ _ _=>False) [] vs xs->bX (λ_ _ _=>False) [] us ys->
 (∀ op,(eqGuard op t x y (.agg vs.toArray) (.agg us.toArray)).run P w= .ok () w)/\(Op.equal t (.agg vs.toArray) (.agg us.toArray)).run P w= .ok c w
def KT(P:Program)(t n:Nat):Prop:=∀ (w:World) (a b:aw),a.length=n->b.length=n->(Op.equal t (fQ true a) (fQ true b)).run P w= .ok (decide (a=b)) w/\∀ c,(Hk c 10000 t (fQ true a)).run P w= .ok () w
def S4(P:Program)(t n:Nat):Prop:=aLX P t n/\KT P t n
structure ae(E:Env):Prop where
 mix:E.P.follows .mixedOrders=true
 tab:∀ t ti,cU E.T t=some ti->TIOK E.P t ti
 mth:∀ t name g,aCp E.mt t name=some g->∀ v w,(method (E.P.types.size+Made.depth) t v name).run E.P w= .ok (g,v) w
 fl:∀ t,0<AP E.fl t->S4 E.P t (AP E.fl t)
def uT.isAgg{P:Program}{t:Nat}{g:Bool}{size:Nat}{k:TK}(h:uT P t g size k):(P.underlying t).isSome=true/\aO P t=g:=by
 cases k with
 | strct j=>obtain ⟨⟨f,h1,_⟩,c⟩:=h;simp [aO,h1,c]
 | arr n i m=>obtain ⟨⟨f,h1,_⟩,c⟩:=h;simp [aO,h1,c]
 | slc e a b=>obtain ⟨⟨h1,_⟩,c,_⟩:=h;simp [aO,h1,c]
 | iface=>obtain ⟨⟨l,h1⟩,c,_⟩:=h;simp [aO,h1,c]
 | other=>obtain ⟨⟨d,h1,_⟩,c⟩:=h;grind
 | _=>obtain ⟨h1,c,_⟩:=h;simp [aO,h1,c]
def xL{P:Program}{t:Nat}(h:(P.underlying t).isSome=true)(w:World):(isAgg t).run P w= .ok (aO P t) w:=by obtain ⟨d,hd⟩:=Cy.1 h;unfold isAgg;simp only [Bi,run_underlying hd,Ap,aO,hd];cases d<;>rfl
def af{P:Program}{t:Nat}{s:Nat}(h:(P.info? t).map (·.size)=some s)(w:World):(sizeOf t).run P w= .ok s w:=by obtain ⟨i,a,rfl⟩:=Cb.1 h;simp [sizeOf,typeInfo,a]
def TIOK.size?{P:Program}{t:Nat}{a:TI}(h:TIOK P t a):(P.info? t).map (·.size)=some a.size:=by
 obtain ⟨i,z,c,b,_⟩:=h.info
 grind
def oT.get{P:Program}:∀ {a:List Field} {b:List (Nat×Nat×Bool)},oT P a b->∀ {i:Nat} {off sz:Nat} {c:Bool},nth b i=some (off,sz,c)->
  ∃ f,a[i]? =some f/\f.offset=off/\(P.info? f.type).map (·.size)=some sz/\(P.underlying f.type).isSome=true/\aO P f.type=c
 | [],[],_,i,_,_,_,hn=>by cases i<;>cases hn
 | [],_::_,h,_,_,_,_,_=>h.elim
 | _::_,[],h,_,_,_,_,_=>h.elim
 | f::a,(off',sz',ag')::b,h,i,off,sz,c,hn=>by
  obtain ⟨h1,d,h3,e,j⟩:=h;cases i with
  | zero=>cases hn;exact ⟨f,rfl,h1,d,h3,e⟩
  | succ i=>
   obtain ⟨g,k,r⟩:=j.get (show nth b i=_ from hn);exact ⟨g,by simp;omega,r⟩
def jP{M:Imm}{ob:Hs}{z:Value}{a:aa}(h:Rep (λ_ _ _=>False) [] z a):Rep M ob z a:=h.mono (λ_ _ _ h=>h.elim) (DN ob)
def Sd(VS:aa->au->Prop)(CS:Fn->ax->Prop)(PS:aa->Prop)(ac:au)(base:Nat):OR->Prop
 | .no=>True
 | .val v=>VS v ac
 | .mkf fn d cs=>VS (.func fn d cs) ac
 | .need p r=>p->Sd VS CS PS ac base r
 | .alt p v w=>(p->VS v ac)/\VS w ac
 | .idx n f=>∀ i:Nat,n=(i:Int)->Sd VS CS PS ac base (f i)
 | .elem xs i f=>∀ x,xs[i]? =some x->Sd VS CS PS ac base (f x)
 | .byte l i=>∀ c,l[i]? =some c->VS (.int .u8 (c.toNat:Int)) ac
 | .text xs=>∀ l:ay,xs=l.map ub->(l.length:Int)<=9223372036854775807->VS (.str l) ac
 | .find es key f=>Sd VS CS PS ac base (f (bB es key))
 | .born x v=>VS v (bJ ac base x)
 | .upd k x v=>VS v (bJ ac k x)
 | .nilq xs a=>∃ b:Bool,(b=true->xs=[])/\VS (.bool (if a then !b else b)) ac
 | .call f args=>CS f args
 | .pan v=>PS v
def Sd.mono{VS j:aa->au->Prop}{CS d:Fn->ax->Prop}{PS e:aa->Prop}{ac:au}{base:Nat}(h1:∀ v o,VS v o->j v o)(g:∀ f a,CS f a->d f a)(h3:∀ v,PS v->e v):
  ∀ {r:OR},Sd VS CS PS ac base r->Sd j d e ac base r
 | .no,_=>trivial
 | .val v,h=>h1 _ _ h
 | .mkf fn fs cs,h=>h1 _ _ h
 | .need p r,h=>λ hp=>Sd.mono h1 g h3 (h hp)
 | .alt p v w,h=>⟨λ hp=>h1 _ _ (h.1 hp),h1 _ _ h.2⟩
 | .idx n f,h=>λ i q=>Sd.mono h1 g h3 (h i q)
 | .elem xs i f,h=>λ x s=>Sd.mono h1 g h3 (h x s)
 | .byte l i,h=>λ c t=>h1 _ _ (h c t)
 | .text xs,h=>λ l hl m=>h1 _ _ (h l hl m)
 | .find es key f,h=>Sd.mono (r:=f (bB es key)) h1 g h3 h
 | .born x v,h=>h1 _ _ h
 | .upd k x v,h=>h1 _ _ h
 | .nilq xs neg,⟨b,m,h⟩=>⟨b,m,h1 _ _ h⟩
 | .call f args,h=>g _ _ h
 | .pan v,h=>h3 _ h
def PV(P:Program)(M:Imm)(ob:Hs)(w:World)(s:Sem Value)(ac:au)(v:aa)(o:au):Prop:=o=ac/\∃ u,s.run P w= .ok u w/\Rep M ob u v
abbrev PS0(P:Program)(M:Imm)(ob:Hs)(w:World)(s:Sem Value)(ac:au)(base:Nat)(r:OR):Prop:=Sd (PV P M ob w s ac) (λ_ _=>False) (λ_=>False) ac base r
def PS0.bind{P:Program}{M:Imm}{ob:Hs}{w:World}{s:Sem Value}{ac:au}{base:Nat}{f:aa->aa}(a:∀ v u,Rep M ob u v->Rep M ob u (f v)):∀ {r:OR},PS0 P M ob w s ac base r->PS0 P M ob w s ac base (r.bind λ v=>.val (f v))
 | .no,_=>trivial
 | .val v,⟨h1,u,h2,h3⟩=>⟨h1,u,h2,a _ _ h3⟩
 | .mkf fn fs cs,_=>trivial
 | .need p r,h=>λ hp=>PS0.bind a (r:=r) (h hp)
 | .alt p v w,_=>trivial
 | .idx n f',h=>λ i c=>PS0.bind a (r:=f' i) (h i c)
 | .elem xs i f',h=>λ x b=>PS0.bind a (r:=f' x) (h x b)
 | .byte l i,_=>trivial
 | .text xs,_=>trivial
 | .find es key f',_=>trivial
 | .born x v,_=>trivial
 | .upd k x v,_=>trivial
 | .nilq xs neg,_=>trivial
 | .call f' args,_=>trivial
 | .pan v,_=>trivial
structure VS1(P:Program)(ρv:Operand->Value)(op:Op)(ty:TypeId)(M:Imm)(ob:Hs)(ac:au)(w:World)(v:aa)(ao:au)(u:Value)(w':World)(M':Imm)(ob':Hs):Prop where
 run:∀ d pos after g,(execOp ρv ⟨d,op,ty,pos,after,g⟩).run P w= .ok (.value u) w'\/((execOp ρv ⟨d,op,ty,pos,after,g⟩).run P w= .ok .skip w'/\u=undef)
 ext:Ext M ob ac w M' ob' ao w'
 mem:Mem M' ob' ao w'
 still:cI ob ac ob' ao
 rep:Rep M' ob' u v
def VS(P:Program)(ρv:Operand->Value)(op:Op)(ty:TypeId)(M:Imm)(ob:Hs)(ac:au)(w:World)(v:aa)(ao:au):Prop:=∃ u w' M' ob',VS1 P ρv op ty M ob ac w v ao u w' M' ob'
def CS(P:Program)(ρv:Operand->Value)(op:Op)(ty:TypeId)(M:Imm)(ob:Hs)(w:World)(f:Fn)(args:ax):Prop:=
 ∃ b:ba,bX M ob b args/\∀ d pos a g,(execOp ρv ⟨d,op,ty,pos,a,g⟩).run P w=(EE f b.toArray).run P w
def PS(P:Program)(ρv:Operand->Value)(op:Op)(ty:TypeId)(M:Imm)(w:World)(v:aa):Prop:=
 ∃ u,(∀ d pos a g,(execOp ρv ⟨d,op,ty,pos,a,g⟩).run P w= .halt (.panic u) w)/\Rep M [] u v
abbrev cA(P:Program)(ρv:Operand->Value)(op:Op)(ty:TypeId)(M:Imm)(ob:Hs)(ac:au)(w:World)(base:Nat)(r:OR):Prop:=
 Sd (VS P ρv op ty M ob ac w) (CS P ρv op ty M ob w) (PS P ρv op ty M w) ac base r
def cA.pv{P:Program}{ρv:Operand->Value}{op:Op}{ty:TypeId}{M:Imm}{ob:Hs}{ac:au}{w:World}{base:Nat}{r:OR}{s:Sem Value}(hm:Mem M ob ac w)
  (b:∀ d pos a g,execOp ρv ⟨d,op,ty,pos,a,g⟩=(s >>= λ v=>Pure.pure (.value v))) (h:PS0 P M ob w s ac base r):cA P ρv op ty M ob ac w base r:=
 Sd.mono (λ v o ⟨h1,u,c,h3⟩=>⟨u,w,M,ob,λ d pos a g=>.inl (by simp_all),h1▸Ext.refl _ _ _ _,h1▸hm,h1▸cI.refl _ _,h3⟩) (λ_ _ h=>h.elim) (λ_ h=>h.elim) h
def YO{k:IntKind}{n:Int}(h:aHd k n=true):inR k n:=by
 unfold aHd at h;split at h
 .rename_i m;have:=Ci h;rw [show Int.ofNat m=(m:Int) from rfl];constructor
  .cases k<;>simp only [bW]<;>omega
  .cases k<;>simp only [aI5,aW] at * <;>omega
 .rename_i m;have:m<aCI k:=by simp_all
  constructor
  .cases k<;>simp only [aCI,bW] at * <;>omega
  .cases k<;>simp only [aW]<;>omega
def aGU(l:ay):aCz l=l.length:=by
 induction l with
 | nil=>rfl
 | cons c r a=>simp [aCz,a]
def jQ{k:IntKind}{n:Int}(h:inR k n):k.wrap n=n:=by unfold inR bW aW at h;unfold IntKind.wrap;cases k<;>simp only [IntKind.bits,IntKind.signed] at * <;>simp at * <;>omega
def jY(k:IntKind)(n:Int):inR k (k.wrap n):=by unfold inR bW aW IntKind.wrap;cases k<;>simp only [IntKind.bits,IntKind.signed]<;>simp<;>(try split)<;>omega
def aCP{k:IntKind}{x y:Int}(h:inR k x):inR k (x.tmod y):=by
 obtain ⟨h1,g⟩:=h;have f:bW k<=0:=by cases k<;>decide
 have c:0<=aW k:=by cases k<;>decide
 by_cases d:0<=x
 .have a:=Int.tmod_nonneg y d;have b:x.tmod y<=x:=by have:=Int.natAbs_tmod x y;have:=Lz x.natAbs y.natAbs;omega
  exact ⟨by omega,by omega⟩
 .have e:x.tmod y= -((-x).tmod y):=by simp
  have a:=Int.tmod_nonneg y (show 0<= -x by omega);have b:(-x).tmod y<= -x:=by have:=Int.natAbs_tmod (-x) y;have:=Lz (-x).natAbs y.natAbs;omega
  exact ⟨by omega,by omega⟩
def aCQ{k:IntKind}{x:Int}(p:Nat)(h:inR k x):inR k (x.fdiv (2 ^ p)):=by
 obtain ⟨h1,d⟩:=h;have c:bW k<=0:=by cases k<;>decide
 have b:0<=aW k:=by cases k<;>decide
 have hp:(0:Int)<2 ^ p:=Int.pow_pos d_;have a:(1:Int)<=2 ^ p:=o_;rw [Dy _ o_];generalize (2:Int) ^ p=q at hp a;constructor
 .refine Int.le_ediv_of_mul_le hp ?_;have:bW k*q<=bW k*1:=Int.mul_le_mul_of_nonpos_left c a;omega
 .refine Int.ediv_le_of_le_mul hp ?_;have:aW k*1<=aW k*q:=Kj a b;omega
def wG{k a:IntKind}(h:aCL k a=true):k=a:=by cases k<;>cases a<;>first | rfl | cases h
def sdc{VS:aa->au->Prop}{CS:Fn->ax->Prop}{PS:aa->Prop}{ac:au}{base:Nat}{b:Bool}{r:OR}(h:b=true->Sd VS CS PS ac base r):Sd VS CS PS ac base (bif b then r else .no):=by
 cases b with
 | true=>exact h rfl
 | false=>exact trivial
section
variable {P:Program} {E:Env} {M:Imm} {ob:Hs} {ac:au} {w:World} {base:Nat}
def rV(v:Value):Rep M ob v (aIm v):=by
 unfold aIm;split
 .exact .bool _
 .rename_i k n;cases h:aHd k n with
  | true=>exact .int _ _ (YO h)
  | false=>exact .undef _
 .rename_i s;cases h:Fp (aCz s.data.toList) 1000000 with
  | true=>
   have:=Ci h;rw [aGU] at this;obtain ⟨⟨l⟩⟩:=s;exact .str l (by grind)
  | false=>exact .undef _
 .exact .nilslice
 .exact .nilptr
 .exact .nilmap
 .exact .nilfunc
 .exact .nilif
 .exact .undef _
def D4{op:BinOp}{t:TypeId}{k:IntKind}{x y n:Int}(a:(binOp op t (.int k x) (.int k y)).run P w= .ok (.int k (k.wrap n)) w):
  PS0 P M ob w (binOp op t (.int k x) (.int k y)) ac base (D5 k n):=
 ⟨λ hp=>⟨rfl,_,by rw [a,jQ hp],.int _ _ hp⟩,rfl,_,a,.int _ _ (jY _ _)⟩
def aLk{op:BinOp}{t:TypeId}{k:IntKind}{x y:Int}(g:inR k x):PS0 P M ob w (binOp op t (.int k x) (.int k y)) ac base (aNl op k x y):=by
 have c:∀ {op:BinOp} {n:Int},(binOp op t (.int k x) (.int k y)).run P w= .ok (.int k n) w->inR k n->PS0 P M ob w (binOp op t (.int k x) (.int k y)) ac base (.val (.int k n)):=λ h1 h=>⟨rfl,_,h1,.int _ _ h⟩
 have a:∀ {op:BinOp} {b:Bool},(binOp op t (.int k x) (.int k y)).run P w= .ok (.bool b) w->PS0 P M ob w (binOp op t (.int k x) (.int k y)) ac base (.val (.bool b)):=λ h1=>⟨rfl,_,h1,.bool _⟩
 have d:∀ op,inR k (dK op k x y):=λ op=>by unfold dK;cases op<;>exact jY _ _
 cases op with
 | add=>exact D4 (by rw [binOp_add];rfl)
 | sub=>exact D4 (by rw [binOp_sub];rfl)
 | mul=>exact D4 (by rw [binOp_mul];rfl)
 | quo=>
  intro f;have e:(binOp .quo t (.int k x) (.int k y)).run P w= .ok (.int k (k.wrap (x.tdiv y))) w:=by rw [binOp_quo];simp only [Op.intDiv,if_neg f];rfl
  exact ⟨λ hp=>⟨rfl,_,by rw [e,jQ hp],.int _ _ hp⟩,rfl,_,e,.int _ _ (jY _ _)⟩
 | rem=>
  intro f;exact c (by rw [binOp_rem];simp only [Op.intDiv,if_neg f];rfl) (aCP g)
 | and=>exact c (by rw [binOp_and];rfl) (d .and)
 | or=>exact c (by rw [binOp_or];rfl) (d .or)
 | xor=>exact c (by rw [binOp_xor];rfl) (d .xor)
 | andNot=>exact c (by rw [binOp_andNot];rfl) (d .andNot)
 | shl=>exact trivial
 | shr=>exact trivial
 | eql=>exact a (by rw [binOp_eql];rfl)
 | neq=>exact a (by rw [binOp_neq];rfl)
 | lss=>exact a (by rw [binOp_lss];rfl)
 | leq=>exact a (by rw [binOp_leq];rfl)
 | gtr=>exact a (by rw [binOp_gtr];rfl)
 | geq=>exact a (by rw [binOp_geq];rfl)
def dQ(l:ay):(⟨l.toArray⟩:ByteArray).toList=l:=by simp
def QX(l:ay)(i j:Nat):(⟨l.toArray⟩:ByteArray).extract i j=⟨((l.take j).drop i).toArray⟩:=by
 have h:=Lib.extract_data ⟨l.toArray⟩ i j;have:((⟨l.toArray⟩:ByteArray).extract i j).data=((l.take j).drop i).toArray:=by rw [<-Array.toList_inj,h];simp [List.drop_take]
 cases a:(⟨l.toArray⟩:ByteArray).extract i j with
 | mk d=>grind
def xC{M':Imm}{ob':Hs}:∀ {xs ys:ax} {c:Bool},ceq xs ys=some c->∀ {vs:ba},bX M ob vs xs->bX M' ob' vs xs:=by
 intro xs;induction xs with
 | nil=>intro ys c _ vs h;exact ⟨h.1,λ i v a _ l=>by simp at l⟩
 | cons x xs g=>
  intro ys c h vs d;cases ys with
  | nil=>cases x<;>cases h
  | cons y ys=>
   cases x with
   | int k a=>
    cases y with
    | int o b=>
     simp only [ceq] at h;obtain ⟨_,n⟩:=eT h;cases j:ceq xs ys with
     | none=>grind
     | some p=>
      match vs,d with
      | [],d=>exact absurd d.1 s_
      | v::vs,d=>
       have m:=g j (vs:=vs) ⟨by simpa using d.1,λ i u b e f=>d.2 (i+1) u b (by grind) q_⟩;refine ⟨by simpa using d.1,λ i u b e f=>?_⟩;cases i with
       | zero=>
        simp at e f;subst e f;have:=(d.2 0 v _ rfl rfl).int_inv;rw [this.1];exact .int _ _ this.2
       | succ i=>exact m.2 i u b (by simpa using e) (by simpa using f)
    | _=>cases h
   | _=>cases h
def O1:∀ {xs ys:ax} {c:Bool},ceq xs ys=some c->∃ e,ceq ys xs=some e:=by
 intro xs;induction xs with
 | nil=>intro ys c h;cases ys with
  | nil=>grind
  | cons y ys=>cases h
 | cons x xs i=>
  intro ys c h;cases ys with
  | nil=>cases x<;>cases h
  | cons y ys=>
   cases x with
   | int k a=>
    cases y with
    | int j b=>
     simp only [ceq] at h;obtain ⟨f,l⟩:=eT h;have:=wG f;subst this;cases g:ceq xs ys with
     | none=>grind
     | some e=>
      obtain ⟨d,hd⟩:=i g;exact ⟨(b==a)&&d,by simp only [ceq,f,cond_true,hd]⟩
    | _=>cases h
   | _=>cases h
def xM{P:Program}{w:World}{t e:TypeId}{a:Addr}{j:TypeInfo}(d:Nat)(h:P.underlying t=some (.pointer e))(b:P.info? e=some j):(Op.equalIn (d+1) t (.pointer (some a)) (.pointer (some a))).run P w= .ok true w:=by by_cases hz:j.size=0<;>simp [Op.equalIn,run_underlying h,sizeOf,typeInfo,b,hz,run_sameAddr_same]
def aKR{P:Program}{t e:TypeId}(h:P.underlying t=some (.pointer e)):P.underlying t=some (.pointer (P.pointee t)):=by simp [Program.pointee,h]
abbrev J9(op:BinOp)(t:TypeId)(x y:Operand)(vx vy:Value):Sem Value:=eqGuard op t x y vx vy >>= λ_=>binOp op t vx vy
def aI1{s s':Sem Value}(h:∀ {r},s'.run P w=r->s.run P w=r){r:OR}(k:PS0 P M ob w s' ac base r):PS0 P M ob w s ac base r:=
 Sd.mono (λ_ _ ⟨h1,u,a,h3⟩=>⟨h1,u,h a,h3⟩) (λ_ _ h=>h) (λ_ h=>h) k
def aBY{op:BinOp}{t:TypeId}{x y:Operand}{a b:Value}{c:Bool}(h1:∀ op,eqGuard op t x y a b=Pure.pure ())(d:∀ op,op= .eql\/op= .neq->binOp op t a b=(Op.equal t a b >>= λ r=>Pure.pure (.bool (if op= .eql then r else !r))))
  (h3:(Op.equal t a b).run P w= .ok c w):PS0 P M ob w (J9 op t x y a b) ac base (vZ op c):=by
 unfold vZ;split
 .refine ⟨rfl,.bool c,?_,.bool c⟩;simp only [J9,h1,d _ (.inl rfl)];simp only [Bi,Bu,Ap,h3,if_true]
 .refine ⟨rfl,.bool (!c),?_,.bool _⟩;simp only [J9,h1,d _ (.inr rfl)];simp only [Bi,Bu,Ap,h3];rfl
 .exact trivial
def aKt{op:BinOp}{t:TypeId}{x y:Operand}{a b:Value}{c:Bool}{xs:ax}(h1:∀ op,eqGuard op t x y a b=Pure.pure ())(e:∀ op,op= .eql\/op= .neq->binOp op t a b=(Op.equal t a b >>= λ r=>Pure.pure (.bool (if op= .eql then r else !r))))
  (h3:(Op.equal t a b).run P w= .ok c w) (d:c=true->xs=[]):PS0 P M ob w (J9 op t x y a b) ac base (aKu op xs):=by
 have:=aBY (M:=M) (ob:=ob) (ac:=ac) (base:=base) (op:=op) h1 e h3;unfold aKu;unfold vZ at this;split
 .exact ⟨c,d,this⟩
 .exact ⟨c,d,this⟩
 .exact trivial
def rD{P:Program}(w:World)(d:Nat)(t u:TypeId)(x:Value)(h:P.underlying t=some (.interface (P.methodsAt t))):(Op.equalIn (d+1) t .nilIface (.iface u x)).run P w= .ok false w:=by simp [Op.equalIn,run_underlying h]
def aLn(hE:ae E){og:Nat->ab}{op:BinOp}{t:TypeId}{x y:Operand}{u v:Value}{a b:aa}(m:Rep M ob u a)(l:Rep M ob v b):PS0 E.P M ob w (J9 op t x y u v) ac base (aLo E og (isC x||isC y) op t a b):=by
 unfold aLo;split
 .rename_i k x' H F;obtain ⟨rfl,I⟩:=m.int_inv;obtain ⟨rfl,U⟩:=l.int_inv;have B:∀ op,(eqGuard op t x y (.int k x') (.int H F))=Pure.pure ():=λ op=>by cases op<;>rfl
  refine aI1 (s':=binOp op t (.int k x') (.int H F)) (λ h=>by grind) ?_;split
  .intro T;have e:(binOp .shl t (.int k x') (.int H F)).run E.P w= .ok (.int k (k.wrap (x'*2 ^ min F.toNat k.bits))) w:=by rw [binOp_shl];simp only [Op.shift];simp;omega
   refine ⟨λ⟨K,Q⟩=>⟨rfl,_,?_,.int _ _ Q⟩,rfl,_,e,.int _ _ (jY _ _)⟩;rw [e,Gh K,jQ Q]
  .rintro ⟨T,K⟩;refine ⟨rfl,_,?_,.int _ _ (aCQ _ I)⟩;rw [binOp_shr];simp only [Op.shift];rw [if_neg o_,Gh K];rfl
  .refine sdc λ f=>?_;have:=wG f;subst this;exact aLk I
 .rename_i l1 l2;obtain ⟨rfl,I⟩:=m.str_inv;obtain ⟨rfl,U⟩:=l.str_inv;have B:∀ op,(eqGuard op t x y (.string ⟨l1.toArray⟩) (.string ⟨l2.toArray⟩))=Pure.pure ():=λ op=>by cases op<;>rfl
  refine aI1 (s':=binOp op t (.string ⟨l1.toArray⟩) (.string ⟨l2.toArray⟩)) (λ h=>by grind) ?_;split
  .intro T;refine ⟨rfl,.string ⟨(l1++l2).toArray⟩,?_,.str _ (by grind)⟩;rw [binOp_string_add];rw [run_string_add_sum w _ _ (by rw [pJ,pJ];omega),ByteArray.mk_append_mk]
  .exact ⟨rfl,_,by rw [binOp_string_eql,dQ,dQ];rfl,.bool _⟩
  .exact ⟨rfl,_,by rw [binOp_string_neq,dQ,dQ];rfl,.bool _⟩
  .exact ⟨rfl,_,by rw [binOp_string_lss,dQ,dQ];rfl,.bool _⟩
  .exact ⟨rfl,_,by rw [binOp_string_leq,dQ,dQ];rfl,.bool _⟩
  .exact ⟨rfl,_,by rw [binOp_string_gtr,dQ,dQ];rfl,.bool _⟩
  .exact ⟨rfl,_,by rw [binOp_string_geq,dQ,dQ];rfl,.bool _⟩
  .exact trivial
 .rename_i xs ys;refine sdc λ B=>?_;obtain ⟨Z,N⟩:=aS B;have S:0<AP E.fl t:=by simp_all
  have s:=aC N;rw [xB] at s;obtain ⟨vs,rfl,hl,O⟩:=m.agg_inv;obtain ⟨us,rfl,A,D⟩:=l.agg_inv;split
  .rename_i c i;obtain ⟨Y,p⟩:=O1 i;obtain ⟨J,G⟩:=(hE.fl t S).1 w x y _ _ vs us c i s (xC i ⟨hl,O⟩) (xC p ⟨A,D⟩);refine ⟨rfl,.bool c,?_,.bool c⟩;simp only [J9,Bi,J,Ap,binOp,G,Bu]
  .rename_i c i;obtain ⟨Y,p⟩:=O1 i;obtain ⟨J,G⟩:=(hE.fl t S).1 w x y _ _ vs us c i s (xC i ⟨hl,O⟩) (xC p ⟨A,D⟩);refine ⟨rfl,.bool (!c),?_,.bool _⟩;simp only [J9,Bi,J,Ap,binOp,G,Bu]
  .exact trivial
 .split
  .exact trivial
  .rename_i n W;have d:=(hE.tab t n W).kind
   have two:∀ {u v:Value},(∀ op,eqGuard op t x y u v=Pure.pure ())->(∀ op,op= .eql\/op= .neq->binOp op t u v=(Op.equal t u v >>= λ r=>Pure.pure (.bool (if op= .eql then r else !r))))->
     ∀ {c:Bool},(Op.equal t u v).run E.P w= .ok c w->PS0 E.P M ob w (J9 op t x y u v) ac base (vZ op c):=λ h1 C _ h3=>aBY h1 C h3
   split
   .have f:=‹n.kind=TK.bool›;rw [f] at d;obtain rfl:=m.bool_inv;obtain rfl:=l.bool_inv;exact two (λ op=>by cases op<;>rfl) (λ op g=>by rcases g with rfl | rfl<;>rfl) (run_equal_bool w t _ _ d.1)
   .have f:=‹n.kind=TK.slc _ _ _›;rw [f] at d;have:=m.untok.2;obtain rfl:u= .slice none 0 0:=this;cases l;exact two (λ op=>by cases op<;>rfl) (λ op g=>by rcases g with rfl | rfl<;>rfl) (run_equal_slice_nil w t _ none 0 0 d.1.1)
   .have f:=‹n.kind=TK.slc _ _ _›;rw [f] at d;cases m;cases l;exact two (λ op=>by cases op<;>rfl) (λ op g=>by rcases g with rfl | rfl<;>rfl) (run_equal_slice_nil w t _ none 0 0 d.1.1)
   .have f:=‹n.kind=TK.slc _ _ _›;rw [f] at d;obtain ⟨a,c,rfl,V,_⟩:=m.slice_inv;cases l;exact aKt (λ op=>by cases op<;>rfl) (λ op g=>by rcases g with rfl | rfl<;>rfl) (run_equal_slice_nil w t _ a _ c d.1.1) (λ e=>(V (by cases a<;>first | rfl | cases e)).1)
   .have f:=‹n.kind=TK.ptr _›;rw [f] at d;cases m;cases l;exact two (λ op=>by cases op<;>rfl) (λ op g=>by rcases g with rfl | rfl<;>rfl) (run_equal_pointer_nil w t _ (aKR d.1))
   .have f:=‹n.kind=TK.ptr _›;rw [f] at d;obtain ⟨b,rfl,_⟩:=m.ref_inv;cases l;exact two (λ op=>by cases op<;>rfl) (λ op g=>by rcases g with rfl | rfl<;>rfl) (run_equal_pointer_nil w t _ (aKR d.1))
   .have f:=‹n.kind=TK.ptr _›;rw [f] at d;obtain ⟨b,o,rfl,_⟩:=m.ptr_inv;cases l;exact two (λ op=>by cases op<;>rfl) (λ op g=>by rcases g with rfl | rfl<;>rfl) (run_equal_pointer_nil w t _ (aKR d.1))
   .have f:=‹n.kind=TK.ptr _›;rw [f] at d;split
    .rename_i tj L;refine sdc λ B=>?_;obtain ⟨h1,C⟩:=aS B;have h1:=aC h1;have C:=aC C;subst h1 C;obtain ⟨b,rfl,X⟩:=m.ref_inv;obtain ⟨b',rfl,z⟩:=l.ref_inv;rw [X] at z;cases z;obtain ⟨j,hj,_⟩:=Cb.1 (hE.tab _ tj L).size?;refine two (λ op=>by cases op<;>rfl) (λ op g=>by rcases g with rfl | rfl<;>rfl) (c:=true) ?_;exact xM 9999 d.1 hj
    .exact trivial
   .have f:=‹n.kind=TK.iface›;rw [f] at d;obtain ⟨R,q⟩:=d.1;cases m;cases l;refine sdc λ hl=>two (λ op=>?_) (λ op g=>by rcases g with rfl | rfl<;>rfl) (run_equal_nil_nil w t (by simp only [Program.methodsAt,q]));cases op<;>first | rfl | (cases x<;>first | rfl | (cases y<;>first | rfl | cases hl))
   .have f:=‹n.kind=TK.iface›;rw [f] at d;obtain ⟨R,q⟩:=d.1;cases m;cases l;exact two (λ op=>by cases op<;>rfl) (λ op g=>by rcases g with rfl | rfl<;>rfl) (run_equal_held_nil w t _ _ (by simp only [Program.methodsAt,q]))
   .have f:=‹n.kind=TK.iface›;rw [f] at d;obtain ⟨R,q⟩:=d.1;cases m;cases l;exact two (λ op=>by cases op<;>rfl) (λ op g=>by rcases g with rfl | rfl<;>rfl) (rD w 9999 t _ _ (by simp only [Program.methodsAt,q]))
   .exact trivial
end
end Go.AW
