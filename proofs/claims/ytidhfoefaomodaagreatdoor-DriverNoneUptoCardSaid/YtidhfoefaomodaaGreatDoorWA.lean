/- Part 1 of what the statement rests on. -/
import Derived.WalkKit
import Derived.WalkLawsBesides
import Derived.RangeFuncLeaves
import Derived.OrdersIn
import Derived.TacticsIn
import Derived.Deep.AppendSrc
import Derived.Lib.Strings
import Derived.LaidEql
set_option linter.all false
open Array renaming getElem?_eq_some_iff->Ez,length_toList->Iw,toList_append->Nd,toList_map->Jx
open Bool renaming and_eq_true->Ad,not_eq_true'->Cx,or_eq_true->Fc
open Go.Builtin renaming append_->Co,firstCells->Cj,zeroCells->Cg
open Go.Instr renaming checkKey->Ht
open Go.Region renaming binds->Jp
open Go.Result renaming andThen_ok->Aq
open Go.Sem renaming run_bind->Bg,run_pure->Bw
open Go.Value renaming int->Eb,ownBlock->Gk,slice->Gu
open Go.World renaming block_lt_of_cell?->Cs,cell?_of_block->Cr,ownsRow_nil->Hf
open Int renaming fdiv_eq_ediv_of_nonneg->Ea,mul_le_mul_of_nonneg_left->Ko
open List renaming append_assoc->Af,append_nil->Av,cons_append->Cc,drop_eq_nil_of_le->Ah,eq_nil_of_length_eq_zero->Ax,ext_getElem?->Ek,getElem?_append_left->Ag,getElem?_append_right->Ak,getElem?_cons_succ->Fv,getElem?_drop->Bp,getElem?_eq_getElem->Aa,getElem?_eq_none->Bk,getElem?_eq_some_iff->Ab,getElem?_map->Bf,getElem?_of_mem->Ct,getElem?_range->Dn,getElem?_replicate->Es,getElem?_set_ne->Ay,getElem?_set_self->Ar,getElem?_take->Gg,getElem?_take_of_lt->Bi,getElem_mem->Bh,getLast?_append->Na,getLast?_eq_getElem?->Lj,getLast?_eq_some_getLast->Kn,length->Lm,length_append->Ai,length_drop->Ei,length_pos_iff->Dy,length_take->Dp,map_cons->Bl,mem_append->Az,mem_cons->Bb,mem_map->Ca,mem_of_getElem?->Au,mem_of_mem_drop->Fa,mem_of_mem_take->Cw,mem_range->Hn,nil_append->Bn,nodup_cons->Ce,nodup_nil->Hr,prefix_refl->Cn,range->Di,replicate->Aj,size_toArray->Gl,take_left->Hl,take_zero->Iq
open Nat renaming add_assoc->Kf,add_mul->Bx,add_sub_cancel->Hw,add_sub_cancel_left->Hq,add_zero->Fl,beq->Aw,beq_refl->Nk,ble->Fw,blt->Ff,div_add_mod->Fy,div_lt_iff_lt_mul->Dl,div_one->Ip,eq_zero_or_pos->Fp,le_div_iff_mul_le->Ic,le_of_ble_eq_true->Ck,le_refl->Bc,le_trans->Cz,lor->Nj,lt_of_lt_of_le->Ey,lt_or_ge->Nh,min_eq_left->Gp,mod_eq_of_lt->Hj,mod_le->Mf,mod_lt->Fg,mod_one->Jd,mul_add_div->Kt,mul_comm->De,mul_le_mul_right->Bu,zero_add->Bo,zero_le->Bv
open Option renaming getD_some->Jy,isSome_iff_exists->Da,map_eq_some_iff->Cd,map_some->Mq
open Option.some renaming injEq->Ds
namespace Go.AW
open Go.RowKit
def _root_.o_ {P:Prop} (h:P:=by omega):P:=h
def _root_.d_ {P:Prop} (h:P:=by decide):P:=h
def _root_.s_ {P:Prop} (h:P:=by simp):P:=h
def _root_.q_ {P:Prop} (h:P:=by simp;omega):P:=h
def cJ:IntKind->Int
 | .i8=> -128 | .i16=> -32768 | .i32=> -2147483648 | .i64=> -9223372036854775808 | _=>0
def bE:IntKind->Int
 | .i8=>127 | .i16=>32767 | .i32=>2147483647 | .i64=>9223372036854775807
 | .u8=>255 | .u16=>65535 | .u32=>4294967295 | .u64=>18446744073709551615
def inR (k:IntKind) (n:Int):Prop:=cJ k<=n/\n<=bE k
inductive Tk where
 | no | nil | full | own (k g:Nat)
inductive aa where
 | undef
 | bool (b:Bool)
 | int (k:IntKind) (n:Int)
 | str (l:List UInt8)
 | slice (sz:Nat) (xs:List aa) (t:Tk)
 | agg (cs:List aa)
 | tup (vs:List aa)
 | ptr (cs:List aa)
 | ref (k off:Nat)
 | eref (k g i sz off:Nat)
 | csl (k off len sz:Nat)
 | row (k g:Nat)
 | sub (k g lo len sz:Nat)
 | rowc (k g c:Nat)
 | pre (k g n c sz:Nat)
 | mref (k:Nat)
 | nilptr | nilslice | nilmap | nilfunc | nilif
 | hsl (a:Option Addr) (n c:Nat)
 | func (fn:Fn) (first caps:List aa)
 | iface (t:TypeId) (v:aa)
def aa.cells:aa->List aa
 | .agg cs=>cs
 | v=>[v]
abbrev Imm:=Nat->Nat->aa->Prop
def NoM (M:Imm) (b o:Nat):Prop:=∀ x,¬ M b o x
abbrev Hs:=List (List Value)
def at' (ob:Hs) (k g:Nat):Option Value:=(ob[k]?).bind λ hs=>hs[g]?
def dE (ob ob':Hs):Prop:=∀ (k:Nat) hs,ob[k]? =some hs->∃ hs',ob'[k]? =some hs'/\hs<+:hs'
def dE.refl (ob:Hs):dE ob ob:=λ_ hs h=>⟨hs,h,Cn _⟩
def dE.trans {a b c:Hs} (h:dE a b) (k:dE b c):dE a c:=λ i hs j=>by obtain ⟨h1,l,e⟩:=h i hs j;obtain ⟨g,d,f⟩:=k i h1 l;exact ⟨g,d,e.trans f⟩
def dE.at {ob ob':Hs} (h:dE ob ob') {k g:Nat} {v:Value} (a:at' ob k g=some v):at' ob' k g=some v:=by
 unfold at' at *
 cases b:ob[k]? with
 | none=>grind
 | some hs=>
  rw [b] at a;obtain ⟨hs',e,p⟩:=h k hs b;rw [e];simp only [Option.bind_some] at a⊢;obtain ⟨t,rfl⟩:=p;rw [Ag (Ab.1 a).1];exact a
def sO (ob:Hs) (v:Value):Tk->Prop
 | .no=>True
 | .nil=>v= .slice none 0 0
 | .full=>∃ a n,v= .slice a n n
 | .own k g=>at' ob k g=some v
def sO.mono {ob ob':Hs} (a:dE ob ob') {v:Value} {t:Tk} (h:sO ob v t):sO ob' v t:=by
 cases t with
 | own k g=>exact a.at h
 | _=>exact h
inductive Rep (M:Imm) (ob:Hs):Value->aa->Prop
 | undef (v):Rep M ob v .undef
 | bool (b):Rep M ob (.bool b) (.bool b)
 | int (k n) (h:inR k n):Rep M ob (.int k n) (.int k n)
 | str (l:List UInt8) (h:(l.length:Int)<=9223372036854775807):Rep M ob (.string ⟨l.toArray⟩) (.str l)
 | agg (vs:List Value) (as:List aa) (hl:vs.length=as.length) (h:∀ (i:Nat) v a,vs[i]? =some v->as[i]? =some a->Rep M ob v a):Rep M ob (.agg vs.toArray) (.agg as)
 | tup (vs:List Value) (as:List aa) (hl:vs.length=as.length) (h:∀ (i:Nat) v a,vs[i]? =some v->as[i]? =some a->Rep M ob v a):Rep M ob (.tuple vs.toArray) (.tup as)
 | ptr (b o:Nat) (cs:List aa) (h:∀ (j:Nat) c,cs[j]? =some c->M b (o+j) c):Rep M ob (.pointer (some ⟨b,o,none⟩)) (.ptr cs)
 | ref (k off b:Nat) (h:at' ob k 0=some (.pointer (some ⟨b,0,none⟩))):Rep M ob (.pointer (some ⟨b,off,none⟩)) (.ref k off)
 | eref (k g i sz off b n c:Nat) (h:at' ob k g=some (.slice (some ⟨b,0,none⟩) n c)):Rep M ob (.pointer (some ⟨b,i*sz+off,none⟩)) (.eref k g i sz off)
 | csl (k off len sz b:Nat) (h:at' ob k 0=some (.pointer (some ⟨b,0,none⟩))) (hm:(len:Int)<=9223372036854775807):Rep M ob (.slice (some ⟨b,off,none⟩) len len) (.csl k off len sz)
 | row (k g:Nat) (a:Option Addr) (n c:Nat) (h:at' ob k g=some (.slice a n c)):Rep M ob (.slice a n c) (.row k g)
 | sub (k g lo len sz b n c:Nat) (h:at' ob k g=some (.slice (some ⟨b,0,none⟩) n c)) (hl:lo<c) (hn:lo+len<=n) (hc:n<=c) (hm:(n:Int)<=9223372036854775807):Rep M ob (.slice (some ⟨b,lo*sz,none⟩) len (c-lo)) (.sub k g lo len sz)
 | sub0 (k g lo sz:Nat) (a a':Option Addr) (n c:Nat) (h:at' ob k g=some (.slice a n c)) (hl:lo=n) (hc:n=c):Rep M ob (.slice a' 0 0) (.sub k g lo 0 sz)
 | rowc (k g c:Nat) (a:Option Addr) (n:Nat) (h:at' ob k g=some (.slice a n c)) (hm:(c:Int)<=9223372036854775807):Rep M ob (.slice a n c) (.rowc k g c)
 | pre (k g n c sz b len:Nat) (h:at' ob k g=some (.slice (some ⟨b,0,none⟩) len c)) (hc:0<c) (hn:n<=len) (hl:len<=c) (hm:(c:Int)<=9223372036854775807):Rep M ob (.slice (some ⟨b,0,none⟩) n c) (.pre k g n c sz)
 | mref (k b:Nat) (h:at' ob k 0=some (.map (some b))):Rep M ob (.map (some b)) (.mref k)
 | nilptr:Rep M ob (.pointer none) .nilptr
 | nilslice:Rep M ob (.slice none 0 0) .nilslice
 | nilmap:Rep M ob (.map none) .nilmap
 | nilfunc:Rep M ob .nilFunc .nilfunc
 | nilif:Rep M ob .nilIface .nilif
 | hsl (a:Option Addr) (n c:Nat):Rep M ob (.slice a n c) (.hsl a n c)
 | slnil (sz:Nat) (t:Tk) (ht:sO ob (.slice none 0 0) t):Rep M ob (.slice none 0 0) (.slice sz [] t)
 | slemp (sz:Nat) (t:Tk) (a:Addr) (cap:Nat) (ht:sO ob (.slice (some a) 0 cap) t):Rep M ob (.slice (some a) 0 cap) (.slice sz [] t)
 | sl (sz b o n cap:Nat) (xs:List aa) (t:Tk) (hn:xs.length=n) (hc:n<=cap) (hm:(n:Int)<=9223372036854775807) (hz:∀ x∈xs,x.cells.length=sz)
   (h:∀ (i j:Nat) x c,xs[i]? =some x->x.cells[j]? =some c->M b (o+i*sz+j) c) (ht:sO ob (.slice (some ⟨b,o,none⟩) n cap) t):Rep M ob (.slice (some ⟨b,o,none⟩) n cap) (.slice sz xs t)
 | func (fn:Fn) (fs cs:List Value) (fa ca:List aa) (hf:fs.length=fa.length) (hc:cs.length=ca.length)
   (h1:∀ (i:Nat) v a,fs[i]? =some v->fa[i]? =some a->Rep M ob v a) (h2:∀ (i:Nat) v a,cs[i]? =some v->ca[i]? =some a->Rep M ob v a):
   Rep M ob (.func fn fs.toArray cs.toArray) (.func fn fa ca)
 | iface (t:TypeId) (v:Value) (a:aa) (h:Rep M ob v a):Rep M ob (.iface t v) (.iface t a)
def Rep.mono {M M':Imm} {ob ob':Hs} (s:∀ b o x,M b o x->M' b o x) (d:dE ob ob') {v:Value} {a:aa} (h:Rep M ob v a):Rep M' ob' v a:=by
 induction h with
 | undef v=>exact .undef v
 | bool b=>exact .bool b
 | int k n h=>exact .int k n h
 | str l h=>exact .str l h
 | agg vs as hl _ p=>exact .agg vs as hl p
 | tup vs as hl _ p=>exact .tup vs as hl p
 | ptr b o cs h=>exact .ptr b o cs λ j c e=>s _ _ _ (h j c e)
 | ref k off b h=>exact .ref k off b (d.at h)
 | eref k g i sz off b n c h=>exact .eref k g i sz off b n c (d.at h)
 | csl k off len sz b h hm=>exact .csl k off len sz b (d.at h) hm
 | row k g a n c h=>exact .row k g a n c (d.at h)
 | sub k g lo len sz b n c h hl f e hm=>exact .sub k g lo len sz b n c (d.at h) hl f e hm
 | sub0 k g lo sz a B n c h hl e=>exact .sub0 k g lo sz a B n c (d.at h) hl e
 | rowc k g c a n h hm=>exact .rowc k g c a n (d.at h) hm
 | pre k g n c sz b len h e f hl hm=>exact .pre k g n c sz b len (d.at h) e f hl hm
 | mref k b h=>exact .mref k b (d.at h)
 | nilptr=>exact .nilptr
 | nilslice=>exact .nilslice
 | nilmap=>exact .nilmap
 | nilfunc=>exact .nilfunc
 | nilif=>exact .nilif
 | hsl a n c=>exact .hsl a n c
 | slnil sz t m=>exact .slnil sz t (m.mono d)
 | slemp sz t a cap m=>exact .slemp sz t a cap (m.mono d)
 | sl sz b o n cap xs t f e hm hz h m=>exact .sl sz b o n cap xs t f e hm hz (λ i j x c C u=>s _ _ _ (h i j x c C u)) (m.mono d)
 | func fn y cs w A z e _ _ r q=>exact .func fn y cs w A z e r q
 | iface t v a _ p=>exact .iface t v a p
def C6 (ob:Hs):dE [] ob:=λ k hs h=>by simp at h
def Rep.pure {M:Imm} {ob:Hs} {v:Value} {a:aa} (h:Rep M [] v a):Rep M ob v a:=h.mono (λ_ _ _ h=>h) (C6 ob)
def Rep.monoM {M M':Imm} {ob:Hs} {v:Value} {a:aa} (h:Rep M ob v a) (c:∀ b o x,M b o x->M' b o x):Rep M' ob v a:=h.mono c (dE.refl _)
structure BInv where
 inv:Imm->List Nat->World->Prop
 mono:∀ {M M':Imm} {bs:List Nat} {w w':World},(∀ b o x,M b o x->M' b o x)->(∀ b,b∈bs->∀ o,NoM M b o->NoM M' b o)->(∀ b c,b∈bs->w.heap[b]? =some c->w'.heap[b]? =some c)->inv M bs w->inv M' bs w'
def CZ:Obj->Bool
 | .deferred _=>true
 | _=>false
def dR (bs:List Nat):Value:=.tuple (bs.map λ b=>Value.map (some b)).toArray
inductive ab where
 | dead
 | cells (T:TypeId) (cs:List aa)
 | fcells (cs:List aa)
 | row (g sz:Nat) (e:TypeId) (xs:List aa)
 | frow (g sz:Nat) (xs:List aa)
 | tail (g sz:Nat) (e:TypeId)
 | mp (ag:Bool) (es:List (List Int×aa))
 | bun (g:Nat) (I:BInv)
def aJG:Value->Option Nat
 | .map (some b)=>some b
 | _=>none
def JU:Value->List Nat
 | .pointer (some a)=>[a.block]
 | .slice (some a) _ _=>[a.block]
 | .map (some b)=>[b]
 | .tuple vs=>vs.toList.filterMap aJG
 | _=>[]
def blk (hs:List Value):List Nat:=match hs.getLast? with | some v=>JU v | none=>[]
def A0 {hs:List Value} {bs:List Nat} (h:hs.getLast? =some (dR bs)):blk hs=bs:=by
 unfold blk;rw [h];show (bs.map λ b=>Value.map (some b)).filterMap aJG=bs;clear h;induction bs with
 | nil=>rfl
 | cons b r a=>simp only [Bl,List.filterMap_cons,aJG,a]
def dM {b c:Nat}:b∈([c]:List Nat)↔c=b:=by grind
def ab.owns:ab->Bool
 | .dead | .fcells _ | .frow _ _ _=>false
 | _=>true
def aH (sz:Nat) (xs:List aa) (q:Nat):Option aa:=(xs[q / sz]?).bind λ x=>x.cells[q % sz]?
def R9 (w:World) (v:Value):Prop:=∀ b,v.ownBlock=some b->∀ a T c,w.heap[b]? =some (.cells a T c)->∀ u∈a.toList,u.oneCell'=true
def dH (M:Imm) (w:World) (v:Value) (sz:Nat) (e:TypeId) (xs:List aa):Prop:=
 ∃ cv,w.ownsRow 0 e sz v xs.length cv/\(∀ u∈cv,u.oneCell'=true)/\(∀ x∈xs,x.cells.length=sz)/\
  (∀ (q:Nat) c,aH sz xs q=some c->∃ u,cv[q]? =some u/\Rep M [] u c)/\(∀ b,v.ownBlock=some b->∀ o,NoM M b o)/\R9 w v
def fP (a:Bool) (l:List Int):Value:=if a then .agg (l.map (Eb .i64)).toArray else .int .i64 (l.headD 0)
def ZH (M:Imm) (w:World) (b:Nat) (d:Bool) (es:List (List Int×aa)):Prop:=
 ∃ (c:List MapEntry) (a:Nat),w.heap[b]? =some (.map c.toArray a)/\c.length=es.length/\(∀ (i:Nat) x y,c[i]? =some x->es[i]? =some y->x.key=fP d y.1/\(d=false->y.1.length=1)/\Rep M [] x.val y.2)/\
  (∀ (i:Nat) x,c[i]? =some x->x.born<a)/\∀ (i j:Nat) x y,c[i]? =some x->c[j]? =some y->x.born=y.born->i=j
def gQ (M:Imm) (ob:Hs) (w:World) (hs:List Value):ab->Prop
 | .dead=>True
 | .cells T cs=>∃ b,hs=[.pointer (some ⟨b,0,none⟩)]/\(∀ o,NoM M b o)/\∃ (cv:List Value),w.heap[b]? =some (.cells cv.toArray T (0,0))/\cv.length=cs.length/\(∀ v∈cv,v.oneCell'=true)/\
   ∀ (i:Nat) v a,cv[i]? =some v->cs[i]? =some a->Rep M ob v a
 | .fcells cs=>∃ b,hs=[.pointer (some ⟨b,0,none⟩)]/\∀ (j:Nat) c,cs[j]? =some c->M b j c
 | .row g sz e xs=>hs.length=g+1/\∃ v,hs[g]? =some v/\dH M w v sz e xs
 | .frow g sz xs=>∃ v,hs[g]? =some v/\Rep M [] v (.slice sz xs .no)
 | .tail g sz e=>hs.length=g+1/\∃ v,hs[g]? =some v/\∃ n cv,w.ownsRow 0 e sz v n cv/\∀ b,v.ownBlock=some b->∀ o,n*sz<=o->NoM M b o
 | .mp d es=>∃ b,hs=[.map (some b)]/\(∀ o,NoM M b o)/\ZH M w b d es
 | .bun g I=>hs.length=g+1/\∃ bs,hs[g]? =some (dR bs)/\(∀ b,b∈bs->∃ o,w.heap[b]? =some o/\CZ o=false)/\I.inv M bs w
def aG (ob:Hs) (ac:List ab) (k b:Nat):Prop:=∃ c hs,ac[k]? =some c/\c.owns=true/\ob[k]? =some hs/\b∈blk hs
structure Mem (M:Imm) (ob:Hs) (ac:List ab) (w:World):Prop where
 imm:∀ b o x,M b o x->∃ v,w.cell? ⟨b,o,none⟩=some v/\v.oneCell'=true/\Rep M [] v x
 len:ob.length=ac.length
 obj:∀ (k:Nat) c,ac[k]? =some c->∃ hs,ob[k]? =some hs/\gQ M ob w hs c
 lt:∀ k b,aG ob ac k b->b<w.heap.size
 inj:∀ k k' b,aG ob ac k b->aG ob ac k' b->k=k'
structure Ext (M:Imm) (ob:Hs) (ac:List ab) (w:World) (M':Imm) (ob':Hs) (ap:List ab) (w':World):Prop where
 imm:∀ b o x,M b o x->M' b o x
 new:∀ b o x,M' b o x->M b o x\/w.heap.size<=b\/∃ k,aG ob ac k b
 hs:dE ob ob'
 os:w'.os=w.os
 tape:w'.tape=w.tape
 output:w'.output=w.output
 size:w.heap.size<=w'.heap.size
 keep:∀ b,b<w.heap.size->(∀ k,¬ aG ob ac k b)->w'.heap[b]? =w.heap[b]?
 fresh:∀ k b,aG ob' ap k b->(∃ k',aG ob ac k' b)\/w.heap.size<=b
def Ext.refl (M:Imm) (ob:Hs) (ac:List ab) (w:World):Ext M ob ac w M ob ac w where
 imm _ _ _ h:=h
 new _ _ _ h:=.inl h
 hs:=dE.refl _
 os:=rfl
 tape:=rfl
 output:=rfl
 size:=Bc _
 keep _ _ _:=rfl
 fresh k _ h:=.inl ⟨k,h⟩
def Ext.trans {M M1 M2:Imm} {ob ob1 ob2:Hs} {ac obs1 obs2:List ab} {w w1 w2:World} (h:Ext M ob ac w M1 ob1 obs1 w1) (k:Ext M1 ob1 obs1 w1 M2 ob2 obs2 w2):
  Ext M ob ac w M2 ob2 obs2 w2 where
 imm b o x hx:=k.imm _ _ _ (h.imm _ _ _ hx)
 new b o x hx:=by
  rcases k.new b o x hx with h1 | h1 | ⟨i,hi⟩
  .exact h.new b o x h1
  .exact .inr (.inl (Cz h.size h1))
  .rcases h.fresh i b hi with h2 | h2
   .grind
   omega
 hs:=h.hs.trans k.hs
 os:=k.os.trans h.os
 tape:=k.tape.trans h.tape
 output:=k.output.trans h.output
 size:=Cz h.size k.size
 keep b hb ho:=by
  rw [<-h.keep b hb ho];refine k.keep b (Ey hb h.size) λ i hi=>?_;rcases h.fresh i b hi with ⟨j,hj⟩ | h2
  .grind
  .omega
 fresh i b hi:=by
  rcases k.fresh i b hi with ⟨j,hj⟩ | h1
  .exact h.fresh j b hj
  .exact .inr (Cz h.size h1)
def cH (ob:Hs) (ac:List ab) (ob':Hs) (ap:List ab):Prop:=∀ (k:Nat) hs,ac[k]? =some .dead->ob[k]? =some hs->
 (hs≠[]->ap[k]? =some .dead/\ob'[k]? =some hs)/\(hs=[]->ap[k]? =some .dead->ob'[k]? =some [])
def cH.refl (ob:Hs) (ac:List ab):cH ob ac ob ac:=λ_ _ h1 a=>⟨λ_=>⟨h1,a⟩,λ e _=>e▸a⟩
def eX {w:World} {b:Nat} {x:Obj} (a:w.heap[b]? =some x):b<w.heap.size:=(Ez.1 a).1
def dH.mono {M M':Imm} {w w':World} {v:Value} {sz:Nat} {e:TypeId} {xs:List aa} (h:dH M w v sz e xs) (s:∀ b o x,M b o x->M' b o x)
  (m:∀ b,v.ownBlock=some b->(∀ o,NoM M b o)->∀ o,NoM M' b o) (k:∀ b c,v.ownBlock=some b->w.heap[b]? =some c->w'.heap[b]? =some c):dH M' w' v sz e xs:=by
 obtain ⟨cv,⟨h1,i⟩,h3,n,t,p,z⟩:=h;refine ⟨cv,⟨h1,?_⟩,h3,n,λ q c j=>?_,λ b e=>m b e (p b e),λ b e d T C j=>?_⟩
 .rcases i with i | ⟨g,cap,d,a,B,f,r⟩
  .exact .inl i
  .exact .inr ⟨g,cap,d,a,B,k g _ (by rw [a];rfl) f,r⟩
 .obtain ⟨u,A,y⟩:=t q c j;exact ⟨u,A,y.monoM s⟩
 .rcases i with ⟨rfl,_⟩ | ⟨g,cap,l,a,_,f,_⟩
  .cases e
  .rw [a] at e;cases e;have:=k g _ (by rw [a];rfl) f;rw [j] at this;cases this;exact z g (by rw [a];rfl) _ _ _ f
def gQ.mono {M M':Imm} {ob ob':Hs} {w w':World} {hs:List Value} {x:ab} (h:gQ M ob w hs x) (s:∀ b o x,M b o x->M' b o x) (A:dE ob ob')
  (t:∀ b,x.owns=true->b∈blk hs->∀ o,NoM M b o->NoM M' b o) (q:∀ b c,x.owns=true->b∈blk hs->w.heap[b]? =some c->w'.heap[b]? =some c):gQ M' ob' w' hs x:=by
 have f:∀ {g:Nat} {v:Value},hs.length=g+1->hs[g]? =some v->blk hs=JU v:=λ{g v} hl B=>by unfold blk;rw [Lj,hl,Hw,B]
 have u:∀ {v:Value} {b:Nat},v.ownBlock=some b->b∈JU v:=λ{v b} h=>by
  unfold Gk at h;split at h
  .cases h;simp [JU]
  .cases h
 have k:∀ {v:Value} {b:Nat},blk hs=JU v->v.ownBlock=some b->b∈blk hs:=λ{v b} h1 d=>by rw [h1];exact u d
 cases x with
 | dead=>trivial
 | cells T cs=>
  obtain ⟨b,rfl,h1,cv,d,h3,m,p⟩:=h;exact ⟨b,rfl,λ o=>t b rfl (dM.2 rfl) o (h1 o),cv,q b _ rfl (dM.2 rfl) d,h3,m,λ i v a B P=>(p i v a B P).mono s A⟩
 | fcells cs=>
  obtain ⟨b,rfl,h1⟩:=h;exact ⟨b,rfl,λ j c L=>s _ _ _ (h1 j c L)⟩
 | row g sz e xs=>
  obtain ⟨h1,v,d,h3⟩:=h;exact ⟨h1,v,d,h3.mono s (λ b e F o=>t b rfl (k (f h1 d) e) o (F o)) (λ b c e=>q b c rfl (k (f h1 d) e))⟩
 | frow g sz xs=>
  obtain ⟨v,h1,d⟩:=h;exact ⟨v,h1,d.monoM s⟩
 | tail g sz e=>
  obtain ⟨h1,v,d,n,cv,⟨h3,m⟩,p⟩:=h;refine ⟨h1,v,d,n,cv,⟨h3,?_⟩,λ b e o A=>t b rfl (k (f h1 d) e) o (p b e o A)⟩;rcases m with m | ⟨G,cap,z,H,O,J,r⟩
  .exact .inl m
  .exact .inr ⟨G,cap,z,H,O,q G _ rfl (k (f h1 d) (by rw [H];rfl)) J,r⟩
 | mp Q es=>
  obtain ⟨b,rfl,h1,K,cl,d,h3,m,p⟩:=h;exact ⟨b,rfl,λ o=>t b rfl (dM.2 rfl) o (h1 o),K,cl,q b _ rfl (dM.2 rfl) d,h3,λ i x y D C=>⟨(m i x y D C).1,(m i x y D C).2.1,(m i x y D C).2.2.monoM s⟩,p⟩
 | bun g I=>
  obtain ⟨h1,bs,d,h3,m⟩:=h;have e:blk hs=bs:=by rw [<-A0 (hs:=[dR bs]) rfl];exact f h1 d
  refine ⟨h1,bs,d,λ b l=>?_,I.mono s (λ b l=>t b rfl (by rw [e];exact l)) (λ b c l=>q b c rfl (by rw [e];exact l)) m⟩;obtain ⟨o,p,N⟩:=h3 b l;exact ⟨o,q b _ rfl (by rw [e];exact l) p,N⟩
def Mem.same {M:Imm} {ob:Hs} {ac:List ab} {w w':World} (h:Mem M ob ac w) (hs:w.heap.size<=w'.heap.size)
  (i:∀ b,b<w.heap.size->w'.heap[b]? =w.heap[b]?):Mem M ob ac w':=by
 refine ⟨λ b o x m=>?_,h.len,λ k c d=>?_,λ k b g=>Ey (h.lt k b g) hs,h.inj⟩
 .obtain ⟨v,j,l⟩:=h.imm b o x m;exact ⟨v,(Cr (w:=w) (a:=⟨b,o,none⟩) (i b (Cs w _ j))).trans j,l⟩
 .obtain ⟨hs',e,f⟩:=h.obj k c d;exact ⟨hs',e,f.mono (λ_ _ _ h=>h) (dE.refl _) (λ_ _ _ _ h=>h) (λ b c _ _ d=>(i b (eX d)).trans d)⟩
def Mem.noImm {M:Imm} {ob:Hs} {ac:List ab} {w:World} (h:Mem M ob ac w) {b:Nat} (d:w.heap.size<=b) (o:Nat):NoM M b o:=by
 intro x c;obtain ⟨v,a,_⟩:=h.imm b o x c;have:=Cs w _ a
 grind
inductive TK where
 | int (k:IntKind) | bool | str | strct (fs:List (Nat×Nat×Bool)) | arr (n esz:Nat) (eagg:Bool) | slc (e esz ebytes:Nat) | ptr (e:Nat) | iface | mp (k e:Nat) | other
structure TI where
 kind:TK
 size:Nat
 agg:Bool
 zero:aa
abbrev Tab:=List (Nat×TI)
def cU:Tab->Nat->Option TI
 | [],_=>none
 | (i,x)::r,n=>bif Aw i n then some x else cU r n
abbrev aD4:=List (Nat×String×Nat)
def aBM:aD4->Nat->String->Option Nat
 | [],_,_=>none
 | (i,s,f)::r,n,m=>bif (Aw i n&&s==m) then some f else aBM r n m
structure Env where
 P:Program
 T:Tab
 mt:aD4
 fl:List (Nat×Nat)
 own:List Nat
 rws:List Nat
 bl:List Nat
 df:List (Nat×List aa)
 rd:Option Nat:=none
def sL (n:Nat):List Nat->Bool
 | []=>false
 | x::r=>Aw x n||sL n r
def aX:List (Nat×aa)->Nat->aa
 | [],_=>.undef
 | (i,v)::r,n=>bif Aw i n then v else aX r n
def bW:List (Nat×aa)->Nat->aa->List (Nat×aa)
 | [],n,x=>[(n,x)]
 | (i,v)::r,n,x=>bif Aw i n then (n,x)::r else (i,v)::bW r n x
def aC:List ab->Nat->ab
 | [],_=>.dead
 | x::_,0=>x
 | _::r,n+1=>aC r n
def bJ:List ab->Nat->ab->List ab
 | [],0,y=>[y]
 | [],n+1,y=>.dead::bJ [] n y
 | _::r,0,y=>y::r
 | x::r,n+1,y=>x::bJ r n y
def aM:List ab->Nat
 | []=>0
 | _::r=>aM r+1
def kI:Nat->List aa->List aa
 | 0,l=>l
 | _+1,[]=>[]
 | n+1,_::l=>kI n l
def lL:Nat->List aa->Option (List aa)
 | 0,_=>some []
 | _+1,[]=>none
 | n+1,c::l=>match lL n l with | some r=>some (c::r) | none=>none
def RO:List aa->List aa->Option (List aa)
 | [],l=>some l
 | _::_,[]=>none
 | c::r,_::l=>match RO r l with | some x=>some (c::x) | none=>none
def mY:Nat->List aa->List aa->Option (List aa)
 | 0,new,l=>RO new l
 | _+1,_,[]=>none
 | n+1,new,c::l=>match mY n new l with | some x=>some (c::x) | none=>none
def N9:List aa->Nat
 | []=>0
 | _::r=>N9 r+1
def nth {α:Type}:List α->Nat->Option α
 | [],_=>none
 | x::_,0=>some x
 | _::r,n+1=>nth r n
def Y9:List aa->List aa->List aa
 | [],l=>l
 | c::r,l=>c::Y9 r l
def dX (f:aa->aa):List aa->List aa
 | []=>[]
 | c::r=>f c::dX f r
def aIb:IntKind->Nat
 | .i8=>127 | .i16=>32767 | .i32=>2147483647 | .i64=>9223372036854775807
 | .u8=>255 | .u16=>65535 | .u32=>4294967295 | .u64=>18446744073709551615
def aB2:IntKind->Nat
 | .i8=>128 | .i16=>32768 | .i32=>2147483648 | .i64=>9223372036854775808 | _=>0
def aGk (k:IntKind):Int->Bool
 | .ofNat m=>Fw m (aIb k)
 | .negSucc m=>Ff m (aB2 k)
def aBS:List UInt8->Nat
 | []=>0
 | _::r=>aBS r+1
def aHp:Value->aa
 | .bool b=>.bool b
 | .int k n=>bif aGk k n then .int k n else .undef
 | .string s=>bif Fw (aBS s.data.toList) 1000000 then .str s.data.toList else .undef
 | .slice none 0 0=>.nilslice
 | .pointer none=>.nilptr
 | .map none=>.nilmap
 | .nilFunc=>.nilfunc
 | .nilIface=>.nilif
 | _=>.undef
def ev (fr:List (Nat×aa)):Operand->aa
 | .tmp t=>aX fr t
 | .const v=>aHp v
 | .func f=>.func (.func f) [] []
 | .global _=>.undef
def one:aa->Bool
 | .undef | .agg _ | .tup _=>false
 | _=>true
def oT:List aa->Bool
 | []=>true
 | c::r=>one c&&oT r
def CI:aa->Bool
 | .undef=>false
 | _=>true
def ah (og:Nat->ab):Nat->aa->aa
 | 0,_=>.undef
 | n+1,v=>match v with
  | .slice sz xs _=>.slice sz xs .no
  | .agg cs=>.agg (dX (ah og n) cs)
  | .tup cs=>.tup (dX (ah og n) cs)
  | .func fn a cs=>.func fn (dX (ah og n) a) (dX (ah og n) cs)
  | .iface t v=>.iface t (ah og n v)
  | .ref k off=>(match og k with | .fcells cs=>.ptr (kI off cs) | _=>.undef)
  | .csl k off len sz=>(match og k with | .fcells cs=>bif Aw sz 1 then (match lL len (kI off cs) with | some l=>bif oT l then .slice 1 l .full else .undef | none=>.undef) else .undef | _=>.undef)
  | .row k g=>(match og k with | .frow g' sz xs=>bif Aw g g' then .slice sz xs .no else .undef | _=>.undef)
  | .sub k g lo len sz=>(match og k with | .frow g' sz' xs=>bif Aw g g'&&Aw sz sz' then .slice sz ((xs.drop lo).take len) .no else .undef | _=>.undef)
  | .eref _ _ _ _ _=>.undef
  | .rowc _ _ _=>.undef
  | .pre _ _ _ _ _=>.undef
  | .mref _=>.undef
  | v=>v
def foldO (f:List ab->aa->List ab):List ab->List aa->List ab
 | ac,[]=>ac
 | ac,c::r=>foldO f (f ac c) r
def frz1 (ac:List ab) (k:Nat):List ab:=match aC ac k with
 | .cells _ cs=>bJ ac k (.fcells (dX (ah (aC ac) 4) cs))
 | _=>ac
def frzR (ac:List ab) (k g:Nat):List ab:=match aC ac k with
 | .row a sz _ xs=>bif Aw g a then bJ ac k (.frow g sz xs) else ac
 | _=>ac
def frzV:Nat->List ab->aa->List ab
 | 0,ac,_=>ac
 | n+1,ac,v=>match v with
  | .agg cs=>foldO (frzV n) ac cs
  | .tup cs=>foldO (frzV n) ac cs
  | .func _ a cs=>foldO (frzV n) (foldO (frzV n) ac a) cs
  | .iface _ v=>frzV n ac v
  | .ref k _=>(match aC ac k with | .cells _ cs=>frz1 (foldO (frzV n) ac cs) k | _=>ac)
  | .csl k _ _ _=>(match aC ac k with | .cells _ cs=>frz1 (foldO (frzV n) ac cs) k | _=>ac)
  | .row k g=>frzR ac k g
  | .sub k g _ _ _=>frzR ac k g
  | _=>ac
def frzL (ac:List ab) (l:List aa):List ab:=foldO (frzV 6) ac l
def aj:List Nat->List ab->List ab
 | [],ac=>ac
 | k::r,ac=>aj r (match aC ac k with
  | .row g _ _ _=>frzR ac k g
  | .cells _ _=>frzV 6 ac (.ref k 0)
  | _=>ac)
inductive OR where
 | no
 | val (v:aa)
 | mkf (fn:Fn) (fs cs:List aa)
 | need (p:Prop) (r:OR)
 | alt (p:Prop) (v w:aa)
 | idx (n:Int) (k:Nat->OR)
 | elem (xs:List aa) (i:Nat) (k:aa->OR)
 | byte (l:List UInt8) (i:Nat)
 | text (xs:List aa)
 | find (es:List (List Int×aa)) (key:List Int) (k:Option aa->OR)
 | born (x:ab) (v:aa)
 | upd (k:Nat) (x:ab) (v:aa)
 | nilq (xs:List aa) (neg:Bool)
 | call (f:Fn) (args:List aa)
 | pan (v:aa)
def OR.bind:OR->(aa->OR)->OR
 | .val v,k=>k v
 | .need p r,k=>.need p (r.bind k)
 | .elem xs i f,k=>.elem xs i λ x=>(f x).bind k
 | .idx n f,k=>.idx n λ i=>(f i).bind k
 | _,_=>.no
def dF:BinOp->IntKind->Int->Int->Int
 | op,k,x,y=>
  let a:=BitVec.ofInt k.bits x
  let b:=BitVec.ofInt k.bits y
  match op with
  | .and=>k.wrap (a &&& b).toNat
  | .or=>k.wrap (a ||| b).toNat
  | .xor=>k.wrap (a ^^^ b).toNat
  | _=>k.wrap (a &&& ~~~b).toNat
def DR (k:IntKind) (n:Int):OR:=.alt (inR k n) (.int k n) (.int k (k.wrap n))
def aB5:IntKind->IntKind->Bool
 | .i8,.i8 | .i16,.i16 | .i32,.i32 | .i64,.i64 | .u8,.u8 | .u16,.u16 | .u32,.u32 | .u64,.u64=>true
 | _,_=>false
def aMa (op:BinOp) (k:IntKind) (x y:Int):OR:=
 match op with
 | .add=>DR k (x+y)
 | .sub=>DR k (x-y)
 | .mul=>DR k (x*y)
 | .quo=>.need (y≠0) (.alt (inR k (x.tdiv y)) (.int k (x.tdiv y)) (.int k (k.wrap (x.tdiv y))))
 | .rem=>.need (y≠0) (.val (.int k (x.tmod y)))
 | .and=>.val (.int k (dF .and k x y))
 | .or=>.val (.int k (dF .or k x y))
 | .xor=>.val (.int k (dF .xor k x y))
 | .andNot=>.val (.int k (dF .andNot k x y))
 | .eql=>.val (.bool (x==y))
 | .neq=>.val (.bool (x !=y))
 | .lss=>.val (.bool (decide (x<y)))
 | .leq=>.val (.bool (decide (x<=y)))
 | .gtr=>.val (.bool (decide (y<x)))
 | .geq=>.val (.bool (decide (y<=x)))
 | _=>.no
def ceq:List aa->List aa->Option Bool
 | [],[]=>some true
 | .int k a::r,.int k' b::s=>bif aB5 k k' then (match ceq r s with | some c=>some ((a==b)&&c) | none=>none) else none
 | _,_=>none
def zY:List (Nat×Nat)->Nat->Nat
 | [],_=>0
 | (i,n)::r,t=>bif Aw i t then n else zY r t
def vG (op:BinOp) (c:Bool):OR:=
 match op with
 | .eql=>.val (.bool c)
 | .neq=>.val (.bool (!c))
 | _=>.no
def aJt (op:BinOp) (xs:List aa):OR:=
 match op with
 | .eql=>.nilq xs false
 | .neq=>.nilq xs true
 | _=>.no
def isC:Operand->Bool
 | .const _=>true
 | _=>false
def aKq (E:Env) (og:Nat->ab) (d:Bool) (op:BinOp) (t:Nat) (a b:aa):OR:=
 match a,b with
 | .int k x,.int k' y=>
  (match op with
  | .shl=>.need (0<=y) (.alt (y.toNat<=k.bits/\inR k (x*2 ^ y.toNat)) (.int k (x*2 ^ y.toNat)) (.int k (k.wrap (x*2 ^ (min y.toNat k.bits)))))
  | .shr=>.need (0<=y/\y.toNat<=k.bits) (.val (.int k (x.fdiv (2 ^ y.toNat))))
  | op=>bif aB5 k k' then aMa op k x y else .no)
 | .str x,.str y=>
  (match op with
  | .add=>.need (((x.length+y.length:Nat):Int)<=9223372036854775807) (.val (.str (x++y)))
  | .eql=>.val (.bool (x==y))
  | .neq=>.val (.bool (!(x==y)))
  | .lss=>.val (.bool (Op.bytesLess x y))
  | .leq=>.val (.bool (Op.bytesLess x y||x==y))
  | .gtr=>.val (.bool (!(Op.bytesLess x y||x==y)))
  | .geq=>.val (.bool (!Op.bytesLess x y))
  | _=>.no)
 | .agg xs,.agg ys=>
  bif Ff 0 (zY E.fl t)&&Aw (N9 xs) (zY E.fl t) then
   (match op,ceq xs ys with
   | .eql,some c=>.val (.bool c)
   | .neq,some c=>.val (.bool (!c))
   | _,_=>.no)
  else .no
 | a,b=>match cU E.T t with
  | none=>.no
  | some f=>match f.kind,a,b with
   | .bool,.bool x,.bool y=>vG op (x==y)
   | .slc _ _ _,.slice _ _ .nil,.nilslice=>vG op true
   | .slc _ _ _,.nilslice,.nilslice=>vG op true
   | .slc _ _ _,.slice _ xs _,.nilslice=>aJt op xs
   | .ptr _,.nilptr,.nilptr=>vG op true
   | .ptr _,.ref _ _,.nilptr=>vG op false
   | .ptr _,.ptr _,.nilptr=>vG op false
   | .ptr e,.ref k o,.ref k' o'=>(match cU E.T e with
    | some _=>bif Aw k k'&&Aw o o' then vG op true else .no
    | none=>.no)
   | .iface,.nilif,.nilif=>bif d then vG op true else .no
   | .iface,.iface _ _,.nilif=>vG op false
   | .iface,.nilif,.iface _ _=>vG op false
   | _,_,_=>.no
def mk (a:TI) (l:List aa):Option aa:=
 bif a.agg then some (.agg l) else match l with
  | [c]=>some c
  | _=>none
def fin (a:TI) (l:Option (List aa)):OR:=
 match l with
 | none=>.no
 | some l=>match mk a l with
  | none=>.no
  | some v=>.val v
def VI (E:Env) (og:Nat->ab) (t:Nat) (a:aa):OR:=
 match cU E.T t with
 | none=>.no
 | some b=>match a with
  | .ptr cs=>fin b (lL b.size cs)
  | .ref k off=>(match og k with
   | .cells _ cs=>fin b (lL b.size (kI off cs))
   | .fcells cs=>fin b (lL b.size (kI off cs))
   | _=>.no)
  | .eref k g i sz off=>(match og k with
   | .row d c _ xs=>bif Aw g d&&Aw sz c then .elem xs i λ x=>fin b (lL b.size (kI off x.cells)) else .no
   | _=>.no)
  | _=>.no
def aH9:List aa->aa
 | [c]=>c
 | _=>.undef
def aJe (x:aa) (cs:List aa):aa:=
 match x with
 | .agg _=>.agg cs
 | _=>aH9 cs
def QQ (E:Env) (og:Nat->ab) (t:Nat) (a v:aa):OR:=
 match cU E.T t with
 | none=>.no
 | some c=>
  bif oT v.cells&&Aw (N9 v.cells) c.size then
   match a with
   | .ref k off=>(match og k with
    | .cells T cs=>(match mY off v.cells cs with
     | some cs=>.upd k (.cells T cs) .undef
     | none=>.no)
    | _=>.no)
   | .eref k g i sz off=>(match og k with
    | .row d b e xs=>
     bif ((Aw g d&&Aw sz b)&&Fw 1 sz)&&oT (ah og 4 v).cells then
            (bif Aw off 0&&Aw c.size sz then .need (i<xs.length) (.upd k (.row g sz e (xs.set i (ah og 4 v))) .undef)
            else .elem xs i λ x=>match mY off (ah og 4 v).cells x.cells with
             | some cs=>.upd k (.row g sz e (xs.set i (aJe x cs))) .undef
             | none=>.no)
     else .no
    | _=>.no)
   | _=>.no
  else .no
def Q1 (E:Env) (s:Nat) (a:aa) (f:Nat):OR:=
 match cU E.T s with
 | some {kind:=.strct fs,..}=>(match nth fs f with
  | none=>.no
  | some (off,sz,ag)=>match a with
   | .agg cs=>(match lL sz (kI off cs) with
    | none=>.no
    | some l=>bif ag then .val (.agg l) else match l with
     | [c]=>.val c
     | _=>.no)
   | _=>.no)
 | _=>.no
def tP (E:Env) (s:Nat) (a:aa) (f:Nat):OR:=
 match cU E.T s with
 | some {kind:=.strct fs,..}=>(match nth fs f with
  | none=>.no
  | some (off,sz,_)=>
   bif Aw sz 0 then .no else
   match a with
   | .ptr cs=>.val (.ptr (kI off cs))
   | .ref k x=>.val (.ref k (x+off))
   | .eref k g i z x=>.val (.eref k g i z (x+off))
   | _=>.no)
 | _=>.no
def tO (E:Env) (og:Nat->ab) (t:Nat) (a i:aa):OR:=
 match cU E.T t,i with
 | some ti,.int _ n=>(match ti.kind with
  | .slc _ b _=>(match a with
   | .slice sz xs _=>bif Aw sz b then .idx n λ i=>.elem xs i λ x=>.val (.ptr x.cells) else .no
   | .row k g=>(match og k with
    | .row c sz _ xs=>bif Aw g c&&Aw sz b then .idx n λ i=>.need (i<xs.length) (.val (.eref k g i sz 0)) else .no
    | .frow c sz xs=>bif Aw g c&&Aw sz b then .idx n λ i=>.elem xs i λ x=>.val (.ptr x.cells) else .no
    | _=>.no)
   | .sub k g lo len sz=>(match og k with
    | .row c d _ _=>bif (Aw g c&&Aw sz d)&&Aw sz b then .idx n λ i=>.need (i<len) (.val (.eref k g (lo+i) sz 0)) else .no
    | _=>.no)
   | _=>.no)
  | .arr len b _=>(match a with
   | .ref k off=>.need (0<=n/\n.toNat<len) (.val (.ref k (off+n.toNat*b)))
   | .ptr cs=>.need (0<=n/\n.toNat<len) (.val (.ptr (kI (n.toNat*b) cs)))
   | _=>.no)
  | _=>.no)
 | _,_=>.no
def Q0 (E:Env) (t:Nat) (a i:aa):OR:=
 match a,i with
 | .str l,.int _ n=>(match cU E.T t with
  | some {kind:=.str,..}=>.idx n λ i=>.byte l i
  | _=>.no)
 | .agg cs,.int _ n=>(match cU E.T t with
  | some {kind:=.arr len esz ag,..}=>(match lL esz (kI (n.toNat*esz) cs) with
   | some l=>bif ag then .need (0<=n/\n<len) (.val (.agg l)) else (match l with | [c]=>.need (0<=n/\n<len) (.val c) | _=>.no)
   | none=>.no)
  | _=>.no)
 | _,_=>.no
def DO (place:Nat->Option (Nat×Nat)):List aa->List (Nat×aa)->Option (List aa)
 | cs,[]=>some cs
 | cs,(i,v)::r=>match place i with
  | none=>none
  | some (off,sz)=>bif CI v&&Aw (N9 v.cells) sz then (match mY off v.cells cs with | some cs=>DO place cs r | none=>none) else none
def Q4 (E:Env) (t:Nat) (a:List (Nat×aa)):OR:=
 match cU E.T t with
 | some b=>(match b.kind,b.zero with
  | .strct fs,.agg z=>(match DO (λ i=>(nth fs i).map λ f=>(f.1,f.2.1)) z a with
   | some cs=>.val (.agg cs)
   | none=>.no)
  | .arr _ esz _,.agg z=>(match DO (λ i=>some (i*esz,esz)) z a with
   | some cs=>.val (.agg cs)
   | none=>.no)
  | _,_=>.no)
 | _=>.no
def pG (hint base sz:Nat) (e:TypeId) (xs:List aa):OR:=
 match hint with
 | 2=>.born (.row 0 sz e xs) (.row base 0)
 | _=>.born (.tail 0 sz e) (.slice sz xs (.own base 0))
def DP (og:Nat->ab) (a:Nat):Nat->List (Nat×aa)->Option (List aa)
 | _,[]=>some []
 | n,(i,v)::r=>(λ v=>bif Aw i n&&Aw (N9 v.cells) a&&oT v.cells then (match DP og a (n+1) r with | some l=>some (v::l) | none=>none) else none) (ah og 4 v)
def aBh:List (Nat×aa)->Nat
 | []=>0
 | _::r=>aBh r+1
def mL (E:Env) (hint base:Nat) (og:Nat->ab) (t len:Nat) (a:List (Nat×aa)):OR:=
 match cU E.T t with
 | some {kind:=.slc e esz _,..}=>
  bif Aw (aBh a) len&&Fw (len*esz) 1000&&Fw 1 esz then
   match DP og esz 0 a with
   | some xs=>(match hint with | 0=>.val (.slice esz xs .full) | h=>pG h base esz e xs)
   | none=>.no
  else .no
 | _=>.no
def evL (ρ:Operand->aa):List (Nat×Operand)->List (Nat×aa)
 | []=>[]
 | (i,x)::r=>(i,ρ x)::evL ρ r
def evO (ρ:Operand->aa):List Operand->List aa
 | []=>[]
 | x::r=>ρ x::evO ρ r
def bnd:Option aa->(Option Nat->OR)->OR
 | none,k=>k none
 | some (.int _ n),k=>.idx n λ i=>k (some i)
 | some _,_=>.no
def QS (E:Env) (og:Nat->ab) (t:Nat) (a:aa) (lo c d:Option aa):OR:=
 match cU E.T t with
 | none=>.no
 | some e=>match a with
  | .str l=>(match e.kind,d with
   | .str,none=>bnd lo λ lo=>bnd c λ c=>match lo,c with
    | none,none=>.val (.str l)
    | some x,none=>.need (x<=l.length) (.val (.str (l.drop x)))
    | none,some y=>.need (y<=l.length) (.val (.str (l.take y)))
    | some x,some y=>.need (x<=y/\y<=l.length) (.val (.str ((l.take y).drop x)))
   | _,_=>.no)
  | .slice sz xs _=>(match e.kind with
   | .slc _ b _=>bif Aw sz b then
     (bnd lo λ lo=>bnd c λ c=>bnd d λ d=>match d with
     | none=>(match lo,c with
            | none,none=>.val (.slice sz xs .no)
            | some x,none=>.need (x<=xs.length) (.val (.slice sz (xs.drop x) .no))
            | none,some y=>.need (y<=xs.length) (.val (.slice sz (xs.take y) .no))
            | some x,some y=>.need (x<=y/\y<=xs.length) (.val (.slice sz ((xs.take y).drop x) .no)))
     | some m=>(match lo,c with
            | none,some y=>.need (y<=xs.length/\m=y) (.val (.slice sz (xs.take y) .full))
            | _,_=>.no))
    else .no
   | _=>.no)
  | .row k g=>(match e.kind,d,og k with
   | .slc _ b _,none,.row g' sz _ xs=>bif Aw g g'&&Aw sz b then
     (bnd lo λ lo=>bnd c λ c=>match lo,c with
     | none,none=>.val (.row k g)
     | some x,none=>.need (x<=xs.length) (.val (.sub k g x (xs.length-x) sz))
     | none,some y=>.need (y<=xs.length) (.val (.sub k g 0 y sz))
     | some x,some y=>.need (x<=y/\y<=xs.length) (.val (.sub k g x (y-x) sz)))
    else .no
   | _,_,_=>.no)
  | .sub k g f len sz=>(match e.kind,d,og k with
   | .slc _ b _,none,.row g' sz' _ xs=>bif (Aw g g'&&Aw sz sz')&&Aw sz b then
     (bnd lo λ lo=>bnd c λ c=>match lo,c with
     | none,none=>.val (.sub k g f len sz)
     | some x,none=>.need (x<=len) (.val (.sub k g (f+x) (len-x) sz))
     | none,some y=>.need (f+y<=xs.length) (.val (.sub k g f y sz))
     | some x,some y=>.need (x<=y/\f+y<=xs.length) (.val (.sub k g (f+x) (y-x) sz)))
    else .no
   | _,_,_=>.no)
  | .ref k off=>(match e.kind,lo,c,d with
   | .arr len b _,none,none,none=>.need ((len:Int)<=9223372036854775807) (.val (.csl k off len b))
   | _,_,_,_=>.no)
  | .ptr cs=>(match e.kind,lo,c,d with
   | .arr len 1 false,none,none,none=>(match lL len cs with
    | some l=>bif oT l then .need ((len:Int)<=9223372036854775807) (.val (.slice 1 l .full)) else .no
    | none=>.no)
   | _,_,_,_=>.no)
  | _=>.no
def ub (c:UInt8):aa:=.int .u8 c.toNat
def aEJ (og:Nat->ab):aa->Option (Nat×List aa)
 | .slice sz xs _=>some (sz,xs)
 | .row k g=>(match og k with
  | .row a sz _ xs=>bif Aw g a then some (sz,xs) else none
  | .frow a sz xs=>bif Aw g a then some (sz,xs) else none
  | _=>none)
 | .sub k g lo len sz=>(match og k with
  | .row a b _ xs=>bif Aw g a&&Aw sz b then some (sz,(xs.drop lo).take len) else none
  | _=>none)
 | _=>none
def aAn (E:Env) (og:Nat->ab) (a b:Nat) (x:aa):Option (List aa):=
 match x with
 | .str l=>(match cU E.T b with | some {kind:=.str,..}=>bif Aw a 1 then some (l.map ub) else none | _=>none)
 | .nilslice=>(match cU E.T b with | some {kind:=.slc _ _ _,..}=>some [] | _=>none)
 | x=>match cU E.T b,aEJ og x with
  | some {kind:=.slc _ _ _,..},some (sz,xs)=>bif Aw sz a then some xs else none
  | _,_=>none
def aC6 (E:Env) (og:Nat->ab) (s d:Nat) (a:aa):OR:=
 match cU E.T s,cU E.T d with
 | some ts,some td=>(match td.kind,a with
  | .int k,.int _ n=>.alt (inR k n) (.int k n) (.int k (k.wrap n))
  | .str,.str l=>(match ts.kind with | .str=>.val (.str l) | _=>.no)
  | .slc e 1 _,.str l=>(match ts.kind,cU E.T e with
   | .str,some {kind:=.int .u8,..}=>.val (.slice 1 (l.map ub) .no)
   | _,_=>.no)
  | .str,a=>(match ts.kind,aEJ og a with
   | .slc e 1 _,some (1,xs)=>(match cU E.T e with
    | some {kind:=.int .u8,..}=>.text xs
    | _=>.no)
   | _,_=>.no)
  | _,_=>.no)
 | _,_=>.no
def aKl (E:Env) (og:Nat->ab) (t:Nat) (a:aa):OR:=
 match cU E.T t with
 | none=>.no
 | some c=>match c.kind,a with
  | .str,.str l=>.val (.int .i64 l.length)
  | .slc _ _ _,.slice _ xs _=>.val (.int .i64 xs.length)
  | .slc _ _ _,.nilslice=>.val (.int .i64 0)
  | .slc _ _ _,.csl _ _ len _=>.val (.int .i64 len)
  | .slc _ _ _,.hsl _ n _=>.need ((n:Int)<=9223372036854775807) (.val (.int .i64 n))
  | .slc _ _ _,.row k g=>(match og k with
   | .row b _ _ xs=>bif Aw g b then .val (.int .i64 xs.length) else .no
   | .frow b _ xs=>bif Aw g b then .val (.int .i64 xs.length) else .no
   | _=>.no)
  | .slc _ _ _,.sub _ _ _ len _=>.val (.int .i64 len)
  | .arr n _ _,_=>.need ((n:Int)<=9223372036854775807) (.val (.int .i64 n))
  | _,_=>.no
def zX (n a:Nat):Prop:=n<=maxLen/\n*a<=140737488355328
def sE (E:Env) (hint base:Nat) (og:Nat->ab) (t d:Nat) (s x:aa):OR:=
 match cU E.T t with
 | some {kind:=.slc e esz eb,..}=>
  bif Fw 1 esz then
   match aAn E og esz d x with
   | none=>.no
   | some ys=>(match s with
    | .slice sz xs tk=>(match tk with
     | .own k g=>(match og k with
      | .tail b a c=>bif ((Aw g b&&Aw sz a)&&Aw sz esz)&&Aw e c then .need (zX (xs.length+ys.length) eb) (.upd k (.tail (g+1) esz e) (.slice esz (xs++ys) (.own k (g+1)))) else .no
      | _=>.no)
     | .nil=>bif Aw sz esz then .need (zX ys.length eb) (pG hint base esz e ys) else .no
     | .full=>bif Aw sz esz then .need (zX (xs.length+ys.length) eb) (match hint with | 0=>.val (.slice esz (xs++ys) .no) | 3=>.need (ys=[]) (.val (.slice esz xs .full)) | h=>.need (ys≠[]) (pG h base esz e (xs++ys))) else .no
     | .no=>.no)
    | .nilslice=>.need (zX ys.length eb) (pG hint base esz e ys)
    | .row k g=>(match og k with
     | .row b sz c xs=>bif (Aw g b&&Aw sz esz)&&Aw e c then .need (zX (xs.length+ys.length) eb) (.upd k (.row (g+1) sz e (xs++ys)) (.row k (g+1))) else .no
     | _=>.no)
    | .sub k g lo len sz=>(match og k with
     | .row b a c xs=>bif ((Aw g b&&Aw sz a)&&Aw sz esz)&&Aw e c then
       .need (lo+len+ys.length<=xs.length) (.upd k (.row g sz e (xs.take (lo+len)++ys++xs.drop (lo+len+ys.length))) (.sub k g lo (len+ys.length) sz)) else .no
     | _=>.no)
    | _=>.no)
  else .no
 | _=>.no
def aC5 (E:Env) (og:Nat->ab) (t f:Nat) (d x:aa):OR:=
 match cU E.T t with
 | some {kind:=.slc e esz _,..}=>
  bif Fw 1 esz then
   match aAn E og esz f x with
   | none=>.no
   | some ys=>(match d with
    | .row k g=>(match og k with
     | .row a sz b xs=>bif Aw g a&&Aw sz esz then .upd k (.row g sz b (ys.take xs.length++xs.drop ys.length)) (.int .i64 (min ys.length xs.length:Nat)) else .no
     | _=>.no)
    | .sub k g lo len sz=>(match og k with
     | .row a c b xs=>bif (Aw g a&&Aw sz c)&&Aw sz esz then
       .upd k (.row g sz b (xs.take lo++ys.take len++xs.drop (lo+min ys.length len))) (.int .i64 (min ys.length len:Nat)) else .no
     | _=>.no)
    | _=>.no)
  else .no
 | _=>.no
def Q3 (E:Env) (og:Nat->ab) (t:Nat) (d:aa):OR:=
 match cU E.T t with
 | some {kind:=.slc e esz _,..}=>(match cU E.T e with
  | some b=>bif Fw 1 esz&&CI (ah (λ_=>.dead) 4 b.zero) then (match d with
   | .sub k g lo len sz=>(match og k with
    | .row c a f xs=>bif (Aw g c&&Aw sz a)&&Aw sz esz then
            .upd k (.row g sz f (xs.take lo++Aj len (ah (λ_=>.dead) 4 b.zero)++xs.drop (lo+len))) (.tup []) else .no
    | _=>.no)
   | _=>.no) else .no
  | none=>.no)
 | _=>.no
def VG (E:Env) (hint base:Nat) (t:Nat) (n c:aa):OR:=
 match cU E.T t,n,c with
 | some {kind:=.slc e esz f,..},.int _ a,.int _ b=>(match cU E.T e with
  | some d=>bif Fw 1 esz&&CI (ah (λ_=>.dead) 4 d.zero) then
    .idx a λ i=>.need (a=b/\(f:Int)*b<=281474976710656/\i<=maxLen) (.born (.row 0 esz e (Aj i (ah (λ_=>.dead) 4 d.zero))) (.row base 0))
   else .no
  | none=>.no)
 | _,_,_=>.no
def M6:List aa->Option (List Int)
 | []=>some []
 | .int .i64 n::r=>(match M6 r with | some l=>some (n::l) | none=>none)
 | _=>none
def F3 (E:Env) (k:Nat) (a:Bool) (v:aa):Option (List Int):=
 match a with
 | false=>(match cU E.T k with
  | some {kind:=.int .i64,..}=>(match v with | .int .i64 n=>some [n] | _=>none)
  | _=>none)
 | true=>(match cU E.T k with
  | some _=>(match v with
   | .agg cs=>(match M6 cs with
    | some l=>bif Ff 0 (zY E.fl k)&&Aw (N9 cs) (zY E.fl k) then some l else none
    | none=>none)
   | _=>none)
  | none=>none)
def bR:List (List Int×aa)->List Int->Option aa
 | [],_=>none
 | (k,v)::r,x=>if k=x then some v else bR r x
def lC:List (List Int×aa)->List Int->aa->List (List Int×aa)
 | [],x,y=>[(x,y)]
 | (k,v)::r,x,y=>if k=x then (x,y)::r else (k,v)::lC r x y
def EP:List (List Int×aa)->List Int->List (List Int×aa)
 | [],_=>[]
 | (k,v)::r,x=>if k=x then r else (k,v)::EP r x
def AQ (a:Bool) (es:List (List Int×aa)) (key:List Int) (r:OR):OR:=
 match a with
 | false=>r
 | true=>.need (∀ p∈es,p.1.length=key.length) r
def JH (E:Env) (og:Nat->ab) (t:Nat) (m k:aa) (ok:Bool):OR:=
 match cU E.T t,m with
 | some {kind:=.mp kt e,..},.mref j=>(match cU E.T e,og j with
  | some te,.mp ag es=>(match F3 E kt ag k with
   | some key=>AQ ag es key (.find es key λ o=>match o with
    | some v=>.val (bif ok then .tup [v,.bool true] else v)
    | none=>.val (bif ok then .tup [te.zero,.bool false] else te.zero))
   | none=>.no)
  | _,_=>.no)
 | _,_=>.no
def QZ (E:Env) (og:Nat->ab) (t:Nat) (m k v:aa):OR:=
 match cU E.T t,m with
 | some {kind:=.mp kt _,..},.mref j=>(match og j with
  | .mp a es=>(match F3 E kt a k with
   | some key=>(λ v=>bif CI v then AQ a es key (.upd j (.mp a (lC es key v)) .undef) else .no) (ah og 4 v)
   | none=>.no)
  | _=>.no)
 | _,_=>.no
def JG (E:Env) (og:Nat->ab) (t:Nat) (m k:aa):OR:=
 match cU E.T t,m with
 | some {kind:=.mp kt _,..},.mref j=>(match og j with
  | .mp a es=>(match F3 E kt a k with
   | some key=>AQ a es key (.upd j (.mp a (EP es key)) (.tup []))
   | none=>.no)
  | _=>.no)
 | _,_=>.no
def BE (E:Env) (ty:Nat):aa->aa
 | .nilslice=>(match cU E.T ty with | some {kind:=.slc _ esz _,..}=>.slice esz [] .nil | _=>.nilslice)
 | v=>v
def lK (E:Env) (hint base:Nat) (og:Nat->ab) (ρ:Operand->aa) (op:Op) (ty:TypeId):OR:=
 match op with
 | .move x=>.val (ρ x)
 | .assign x=>(match hint with
  | 0=>.val (BE E ty (ρ x))
  | h=>match BE E ty (ρ x) with
   | .slice o xs t=>(match t with
    | .nil=>(match xs with
          | []=>(match cU E.T ty with | some {kind:=.slc e esz' _,..}=>bif Aw o esz'&&Fw 1 o then pG h base o e [] else .no | _=>.no)
          | _::_=>.no)
    | t=>.val (.slice o xs t))
   | v=>.val v)
 | .pick c a b=>(match ρ c with
  | .bool true=>.val (ρ a)
  | .bool false=>.val (ρ b)
  | _=>.no)
 | .alloc t=>(match cU E.T t with
  | some j=>bif oT j.zero.cells then .born (.cells t j.zero.cells) (.ref base 0) else .no
  | none=>.no)
 | .box t x=>(λ v=>bif oT v.cells then .born (.cells t v.cells) (.ref base 0) else .no) (ρ x)
 | .build t w=>Q4 E t (evL ρ w.toList)
 | .buildSlice t n w=>mL E hint base og t n (evL ρ w.toList)
 | .load t a=>(VI E og t (ρ a)).bind λ v=>.val (BE E t v)
 | .store t a x=>QQ E og t (ρ a) (BE E t (ρ x))
 | .nilCheck x=>(match ρ x with
  | .ref k off=>.val (.ref k off)
  | .eref k g i sz off=>.val (.eref k g i sz off)
  | .ptr cs=>.val (.ptr cs)
  | .func (.func f) p cs=>.val (.func (.func f) p cs)
  | .func (.yield f) p cs=>.val (.func (.yield f) p cs)
  | .iface t v=>.val (.iface t v)
  | _=>.no)
 | .binOp op t x y _=>aKq E og (isC x||isC y) op t (ρ x) (ρ y)
 | .unOp op _ x=>(match op,ρ x with
  | .not,.bool b=>.val (.bool (!b))
  | .neg,.int k n=>DR k (0-n)
  | .xor,.int k n=>.val (.int k (dF .xor k (if k.signed then -1 else k.max) n))
  | _,_=>.no)
 | .convert s d x=>aC6 E og s d (ρ x)
 | .makeSlice t n c=>VG E hint base t (ρ n) (ρ c)
 | .makeInterface t x=>(match cU E.T t with
  | some j=>(match j.kind with | .iface=>.no | _=>.val (.iface t (ρ x)))
  | none=>.no)
 | .makeFunc fn p cs=>.mkf fn (evO ρ p.toList) (evO ρ cs.toList)
 | .slice t x lo z A=>QS E og t (ρ x) (lo.map ρ) (z.map ρ) (A.map ρ)
 | .fieldAddr t x f=>tP E t (ρ x) f
 | .field t x f=>(Q1 E t (ρ x) f).bind λ v=>.val (BE E ty v)
 | .indexAddr t x i=>tO E og t (ρ x) (ρ i)
 | .index t x i=>Q0 E t (ρ x) (ρ i)
 | .extract x i=>(match ρ x with
  | .tup vs=>(match nth vs i with | some v=>.val v | none=>.no)
  | _=>.no)
 | .panic x=>(match ρ x with
  | .iface t v=>(λ v=>bif CI v then .pan (.iface t v) else .no) (ah og 3 v)
  | _=>.no)
 | .typeAssert x _ t ok=>(match cU E.T t,ρ x with
  | some j,.iface u v=>(match j.kind with
   | .iface=>.no
   | _=>bif Aw u t then .val (bif ok then .tup [v,.bool true] else v) else (bif ok then .val (.tup [j.zero,.bool false]) else .no))
  | some j,.nilif=>(match j.kind with
   | .iface=>.no
   | _=>bif ok then .val (.tup [j.zero,.bool false]) else .no)
  | _,_=>.no)
 | .makeMap t none=>(match cU E.T t with
  | some {kind:=.mp k _,..}=>(match cU E.T k with
   | some tk=>.born (.mp tk.agg []) (.mref base)
   | none=>.no)
  | _=>.no)
 | .lookup t m k ok=>JH E og t (ρ m) (ρ k) ok
 | .mapUpdate t m k v=>QZ E og t (ρ m) (ρ k) (ρ v)
 | .call c=>(match c.callee with
  | .value f=>(match ρ f with
   | .func (.func g) p cs=>.call (.func g) (Y9 (Y9 p (evO ρ c.args.toList)) cs)
   | .func (.yield l) p _=>.call (.yield l) (Y9 p (evO ρ c.args.toList))
   | _=>.no)
  | .invoke r q=>(match ρ r with
   | .iface t v=>(match aBM E.mt t q with
    | some g=>.call (.func g) (v::evO ρ c.args.toList)
    | none=>.no)
   | _=>.no)
  | .builtin b=>(match b,c.args.toList,c.argTypes.toList with
   | .len,[x],[t]=>aKl E og t (ρ x)
   | .min,[x,y],_=>(match ρ x,ρ y with | .int k a,.int k' b=>bif aB5 k k' then .val (.int k (min a b)) else .no | _,_=>.no)
   | .max,[x,y],_=>(match ρ x,ρ y with | .int k a,.int k' b=>bif aB5 k k' then .val (.int k (max a b)) else .no | _,_=>.no)
   | .append,[x,y],[t,t2]=>sE E hint base og t t2 (ρ x) (ρ y)
   | .copy,[x,y],[t,t2]=>aC5 E og t t2 (ρ x) (ρ y)
   | .clear,[x],[t]=>Q3 E og t (ρ x)
   | .delete,[m,k],[t,_]=>JG E og t (ρ m) (ρ k)
   | _,_,_=>.no))
 | _=>.no
def nrm:aa->aa
 | .rowc k g _=>.row k g
 | .pre k g n _ sz=>.sub k g 0 n sz
 | v=>v
def aKo (E:Env) (hint:Nat) (og:Nat->ab) (t k g c:Nat) (h:aa):OR:=
 match cU E.T t,og k,h with
 | some {kind:=.slc _ esz _,..},.row g' sz e xs,.int _ n=>bif (Aw g g'&&Aw sz esz)&&Fw 1 sz then
   .idx n λ y=>(match hint with
    | 0=>.need (y<=xs.length/\0<c) (.val (.pre k g y c sz))
    | _=>.need (xs.length<=y/\y<=c) (.upd k (.row (g+1) sz e (xs++Aj (y-xs.length) (.agg (Aj sz .undef)))) (.row k (g+1))))
  else .no
 | _,_,_=>.no
def aC4 (E:Env) (og:Nat->ab) (t k g:Nat) (l h m:aa):OR:=
 match cU E.T t,og k,l,h,m with
 | some {kind:=.slc _ esz _,..},.row g' sz _ xs,.int _ a,.int _ b,.int _ c=>bif Aw g g'&&Aw sz esz then
   .idx a λ x=>.idx b λ y=>.idx c λ z=>.need ((x<=y/\y<=z)/\z<=xs.length) (.val .undef)
  else .no
 | _,_,_,_,_=>.no
def VF (E:Env) (base:Nat) (og:Nat->ab) (t k g n c sz:Nat) (m:aa):OR:=
 match cU E.T t,og k,m with
 | some {kind:=.slc e esz eb,..},.row g' sz' e' xs,.int .i64 a=>(match cU E.T e with
  | some b=>bif ((Aw g g'&&Aw sz sz')&&(Aw sz esz&&Aw e e'))&&(Fw 1 esz&&CI (ah (λ_=>.dead) 4 b.zero)) then
    .idx a λ y=>.need (c<n+y/\zX (n+y) eb) (.born (.row 0 esz e (xs.take n++Aj y (ah (λ_=>.dead) 4 b.zero))) (.row base 0))
   else .no
  | none=>.no)
 | _,_,_=>.no
def kM (E:Env) (hint base:Nat) (og:Nat->ab) (ρ:Operand->aa) (op:Op):Option OR:=
 match op with
 | .move x=>some (.val (ρ x))
 | .assign x=>(match ρ x with
  | .rowc k g c=>some (.val (.rowc k g c))
  | _=>none)
 | .slice t x none (some h) none=>(match ρ x with
  | .rowc k g c=>some (aKo E hint og t k g c (ρ h))
  | _=>none)
 | .slice t x (some l) (some h) (some m)=>(match ρ x with
  | .row k g=>some (aC4 E og t k g (ρ l) (ρ h) (ρ m))
  | _=>none)
 | .call c=>(match c.callee with
  | .builtin .cap=>(match c.args.toList,c.argTypes.toList with
   | [x],[t]=>(match ρ x,cU E.T t with
    | .rowc _ _ n,some {kind:=.slc _ _ _,..}=>some (.val (.int .i64 n))
    | _,_=>none)
   | _,_=>none)
  | .builtin .append=>(match c.args.toList,c.argTypes.toList with
   | [x,y],[t,t2]=>(match ρ x,cU E.T t2 with
    | .pre k g n c sz,some {kind:=.int _,..}=>some (VF E base og t k g n c sz (ρ y))
    | _,_=>none)
   | _,_=>none)
  | _=>none)
 | _=>none
def eop (E:Env) (hint base:Nat) (og:Nat->ab) (ρ:Operand->aa) (op:Op) (ty:TypeId):OR:=
 match kM E hint base og ρ op with
 | some r=>r
 | none=>lK E hint base og (λ x=>nrm (ρ x)) op ty
def KDL (f:aa->(aa->Prop)->Prop):List aa->(List aa->Prop)->Prop
 | [],k=>k []
 | c::r,k=>f c λ c=>KDL f r λ r=>k (c::r)
def KD:Nat->aa->(aa->Prop)->Prop
 | 0,v,k=>k v
 | n+1,v,k=>match v with
  | .undef=>k .undef
  | .bool b=>k (.bool b)
  | .int i n=>k (.int i n)
  | .str l=>k (.str l)
  | .slice sz xs t=>(match t with | .no=>k (.slice sz xs .no) | .nil=>k (.slice sz xs .nil) | .full=>k (.slice sz xs .full) | .own a b=>k (.slice sz xs (.own a b)))
  | .agg cs=>KDL (KD n) cs λ cs=>k (.agg cs)
  | .tup cs=>KDL (KD n) cs λ cs=>k (.tup cs)
  | .ptr cs=>k (.ptr cs)
  | .ref a b=>k (.ref a b)
  | .eref a b c d e=>k (.eref a b c d e)
  | .csl a b c d=>k (.csl a b c d)
  | .row a b=>k (.row a b)
  | .sub a b c d e=>k (.sub a b c d e)
  | .rowc a b c=>k (.rowc a b c)
  | .pre a b c d e=>k (.pre a b c d e)
  | .mref a=>k (.mref a)
  | .nilptr=>k .nilptr
  | .nilslice=>k .nilslice
  | .nilmap=>k .nilmap
  | .nilfunc=>k .nilfunc
  | .nilif=>k .nilif
  | .hsl a n c=>k (.hsl a n c)
  | .func fn f cs=>k (.func fn f cs)
  | .iface t v=>KD n v λ v=>k (.iface t v)
def J8 {f:aa->(aa->Prop)->Prop} (b:∀ v k,f v k=k v) (l:List aa):∀ (k:List aa->Prop),KDL f l k=k l:=by
 induction l with
 | nil=>intro k;rfl
 | cons c r a=>intro k;simp only [KDL,b,a]
def mR (n:Nat):∀ (v:aa) (k:aa->Prop),KD n v k=k v:=by
 induction n with
 | zero=>intro v k;rfl
 | succ n a=>
  intro v k;cases v<;>simp only [KD,J8 a,a]
  grind
def OD (x:ab) (k:ab->Prop):Prop:=
 match x with
 | .dead=>k .dead
 | .cells T cs=>KDL (KD 3) cs λ cs=>k (.cells T cs)
 | .fcells cs=>KDL (KD 3) cs λ cs=>k (.fcells cs)
 | .row g sz e xs=>k (.row g sz e xs)
 | .frow g sz xs=>k (.frow g sz xs)
 | .tail g sz e=>k (.tail g sz e)
 | .mp a es=>k (.mp a es)
 | .bun g I=>k (.bun g I)
def aD3 (x:ab) (k:ab->Prop):OD x k=k x:=by cases x<;>simp only [OD,J8 (mR 3)]
def ODL:List ab->(List ab->Prop)->Prop
 | [],k=>k []
 | c::r,k=>OD c λ c=>ODL r λ r=>k (c::r)
def rJ (l:List ab):∀ (k:List ab->Prop),ODL l k=k l:=by
 induction l with
 | nil=>intro k;rfl
 | cons c r a=>intro k;simp only [ODL,aD3,a]
def BX:List (Nat×aa)->Nat->aa->(List (Nat×aa)->Prop)->Prop
 | [],n,x,k=>k [(n,x)]
 | (i,v)::r,n,x,k=>bif Aw i n then k ((n,x)::r) else BX r n x λ r=>k ((i,v)::r)
def mD (l:List (Nat×aa)) (n:Nat) (x:aa):∀ (k:List (Nat×aa)->Prop),BX l n x k=k (bW l n x):=by
 induction l with
 | nil=>intro k;rfl
 | cons c r a=>intro k;obtain ⟨i,v⟩:=c;simp only [BX,bW,a];grind
def pos (k:Nat):Nat->List Nat->Option Nat
 | _,[]=>none
 | j,x::r=>bif Aw x k then some j else pos k (j+1) r
def eS:ab->Nat
 | .row g _ _ _=>g
 | .tail g _ _=>g
 | .bun g _=>g
 | _=>0
def gm (n0 j a g:Nat):Option Nat:=
 bif Aw g a then some (bif Ff j n0 then (bif Aw a 0 then 0 else 1) else 0) else (bif Ff j n0&&Aw g 0 then some 0 else none)
def cvtV (n0:Nat) (ks:List Nat) (og:Nat->ab):Nat->aa->aa
 | 0,_=>.undef
 | n+1,v=>match v with
  | .slice sz xs t=>(match t with
   | .full=>.slice sz xs .full
   | .nil=>(match ks with | []=>.slice sz xs .no | _::_=>.slice sz xs .nil)
   | .own k g=>(match pos k 0 ks with
    | some j=>(match gm n0 j (eS (og k)) g with | some g=>.slice sz xs (.own j g) | none=>.slice sz xs .no)
    | none=>.slice sz xs .no)
   | _=>.slice sz xs .no)
  | .agg cs=>.agg (dX (cvtV n0 ks og n) cs)
  | .tup cs=>.tup (dX (cvtV n0 ks og n) cs)
  | .func fn a cs=>.func fn (dX (cvtV n0 ks og n) a) (dX (cvtV n0 ks og n) cs)
  | .iface t v=>.iface t (cvtV n0 ks og n v)
  | .ref k off=>(match pos k 0 ks with
   | some j=>(match gm n0 j (eS (og k)) 0 with | some _=>.ref j off | none=>.undef)
   | none=>ah og 1 (.ref k off))
  | .csl k off len sz=>(match pos k 0 ks with
   | some j=>(match gm n0 j (eS (og k)) 0 with | some _=>.csl j off len sz | none=>.undef)
   | none=>ah og 1 (.csl k off len sz))
  | .row k g=>(match pos k 0 ks with
   | some j=>(match gm n0 j (eS (og k)) g with | some g=>.row j g | none=>.undef)
   | none=>ah og 1 (.row k g))
  | .sub k g lo len sz=>(match pos k 0 ks with
   | some j=>(match gm n0 j (eS (og k)) g with | some g=>.sub j g lo len sz | none=>.undef)
   | none=>ah og 1 (.sub k g lo len sz))
  | .mref k=>(match pos k 0 ks with | some j=>(match gm n0 j (eS (og k)) 0 with | some _=>.mref j | none=>.undef) | none=>.undef)
  | .eref _ _ _ _ _=>.undef
  | .rowc _ _ _=>.undef
  | .pre _ _ _ _ _=>.undef
  | v=>v
def RE (n0:Nat) (ks:List Nat) (ac:List ab) (j:Nat):ab->ab
 | .cells T cs=>.cells T (dX (cvtV n0 ks (aC ac) 4) cs)
 | .row g sz e xs=>.row (match gm n0 j g g with | some g=>g | none=>0) sz e xs
 | .tail g sz e=>.tail (match gm n0 j g g with | some g=>g | none=>0) sz e
 | .bun g I=>.bun (match gm n0 j g g with | some g=>g | none=>0) I
 | o=>o
def yO (n0:Nat) (ks:List Nat) (ac:List ab):Nat->List Nat->List ab
 | _,[]=>[]
 | j,k::r=>RE n0 ks ac j (aC ac k)::yO n0 ks ac (j+1) r
def iD (n0:Nat) (ks:List Nat) (ac:List ab):List ab:=yO n0 ks ac 0 ks
def lT:List Nat->List ab->Bool
 | [],_=>true
 | k::r,ac=>(aC ac k).owns&& !sL k r&&lT r ac
def upto:Nat->Nat->List Nat
 | _,0=>[]
 | j,n+1=>j::upto (j+1) n
def jW:Nat->Nat->List Nat->Bool
 | 0,_,_=>true
 | n+1,j,k::r=>Aw k j&&jW n (j+1) r
 | _+1,_,[]=>false
def dP (ks:List Nat) (base j:Nat):Nat:=match nth ks j with | some k=>k | none=>base+(j-(olenN ks))
where olenN:List Nat->Nat
 | []=>0
 | _::r=>olenN r+1
def kC (ks:List Nat) (ac:List ab) (j g:Nat):Nat:=match nth ks j with | some k=>eS (aC ac k)+g | none=>g
def embV (ks:List Nat) (base:Nat) (ac:List ab):Nat->aa->aa
 | 0,_=>.undef
 | n+1,v=>match v with
  | .slice sz xs t=>(match t with
   | .own j g=>.slice sz xs (.own (dP ks base j) (kC ks ac j g))
   | t=>.slice sz xs t)
  | .agg cs=>.agg (dX (embV ks base ac n) cs)
  | .tup cs=>.tup (dX (embV ks base ac n) cs)
  | .func fn a cs=>.func fn (dX (embV ks base ac n) a) (dX (embV ks base ac n) cs)
  | .iface t v=>.iface t (embV ks base ac n v)
  | .ref j off=>.ref (dP ks base j) off
  | .csl j off len sz=>.csl (dP ks base j) off len sz
  | .row j g=>.row (dP ks base j) (kC ks ac j g)
  | .sub j g lo len sz=>.sub (dP ks base j) (kC ks ac j g) lo len sz
  | .mref j=>.mref (dP ks base j)
  | .eref _ _ _ _ _=>.undef
  | .rowc _ _ _=>.undef
  | .pre _ _ _ _ _=>.undef
  | v=>v
def sN (ks:List Nat) (base:Nat) (ac:List ab) (j:Nat):ab->ab
 | .cells T cs=>.cells T (dX (embV ks base ac 4) cs)
 | .row g sz e xs=>.row (kC ks ac j g) sz e xs
 | .frow g sz xs=>.frow (kC ks ac j g) sz xs
 | .tail g sz e=>.tail (kC ks ac j g) sz e
 | .bun g I=>.bun (kC ks ac j g) I
 | o=>o
def kB (ks:List Nat) (base:Nat) (ac:List ab):Nat->List ab->List ab->List ab
 | _,[],l=>l
 | j,o::r,l=>kB ks base ac (j+1) r (bJ l (dP ks base j) (sN ks base ac j o))
inductive Res where
 | ret (a:aa)
 | pan (a:aa)
def rK (M:Imm) (ob:Hs):Ending->Res->Prop
 | .returned v,.ret a=>Rep M ob v a
 | .panicked ch,.pan a=>∃ v,ch=[{v,recovered:=false}]/\Rep M ob v a
 | _,_=>False
def cA (M:Imm) (ob:Hs) (vs:List Value) (as:List aa):Prop:=
 vs.length=as.length/\∀ (i:Nat) v a,vs[i]? =some v->as[i]? =some a->Rep M ob v a
def jX (P:Program) (f:FuncId) (a:Array Value) (w:World) (R:Ending->World->Prop):Prop:=
 ((callFunc f a).run P w= .ok (.enter f a) w/\Calls P f a w R)\/∃ u w',(callFunc f a).run P w= .ok (.value u) w'/\R (.returned u) w'
def ZG (P:Program) (l:Nat) (b:Array Value) (w:World) (R:Ending->World->Prop):Prop:=
 ∃ f tmps as a,(Instr.yield l b).run P w= .ok (.round l f tmps as a) w/\RoundIn Fence.wide 0 P l f tmps as a w R
def D2:Fn->Array Value->Sem Next
 | .func f,va=>callFunc f va
 | .yield l,va=>Instr.yield l va
 | _,va=>callFunc 0 va
@[reducible] def cI (P:Program) (f:Fn) (va:Array Value) (w:World) (R:Ending->World->Prop):Prop:=
 match f with
 | .func f=>jX P f va w R
 | .yield l=>ZG P l va w R
 | _=>False
def bN (P:Program) (f:Fn) (args:List aa) (ac:List ab) (r:Res) (ap:List ab):Prop:=
 ∀ M ob w a,Mem M ob ac w->cA M ob a args->
  cI P f a.toArray w λ e w'=>∃ M' ob',Ext M ob ac w M' ob' ap w'/\Mem M' ob' ap w'/\rK M' ob' e r
abbrev aA (P:Program) (f:FuncId) (args:List aa) (ac:List ab) (r:Res) (ap:List ab):Prop:=bN P (.func f) args ac r ap
inductive CallG (P:Program) (f:Fn) (args:List aa) (ac:List ab) (K:aa->List ab->Prop) (Kp:aa->List ab->Prop):Prop
 | pure (r:aa) (new:List ab) (h:bN P f (dX (cvtV 0 [] (aC (frzL ac args)) 5) args) [] (.ret r) new) (k:K (embV [] (aM ac) (frzL ac args) 5 r) (kB [] (aM ac) (frzL ac args) 0 new (frzL ac args)))
 | eff (fz ks:List Nat) (r:aa) (ap:List ab) (hk:lT ks (aj fz ac)=true) (h:bN P f (dX (cvtV 0 ks (aC (aj fz ac)) 5) args) (iD 0 ks (aj fz ac)) (.ret r) ap)
   (k:K (embV ks (aM (aj fz ac)) (aj fz ac) 5 r) (kB ks (aM (aj fz ac)) (aj fz ac) 0 ap (aj fz ac)))
 | effp (fz ks:List Nat) (r:aa) (ap:List ab) (hk:lT ks (aj fz ac)=true) (h:bN P f (dX (cvtV 0 ks (aC (aj fz ac)) 5) args) (iD 0 ks (aj fz ac)) (.pan r) ap)
   (k:Kp (embV ks (aM (aj fz ac)) (aj fz ac) 5 r) (kB ks (aM (aj fz ac)) (aj fz ac) 0 ap (aj fz ac)))
 | pan (r:aa) (h:bN P f (dX (cvtV 0 [] (aC (frzL ac args)) 5) args) [] (.pan r) []) (k:Kp r (frzL ac args))
inductive CallD (P:Program) (f:Fn) (args:List aa) (so:Bool) (seen:List ab) (base:Nat) (ac:List ab) (K:aa->List ab->Prop) (Kp:aa->List ab->Prop):Prop
 | pure (r:aa) (new:List ab) (h:bN P f (dX (cvtV 0 [] (aC seen) 5) args) [] (.ret r) new) (k:K (embV [] base seen 5 r) (kB [] base seen 0 new ac)):CallD P f args so seen base ac K Kp
 | sole (h:so=true) (h:CallG P f args ac K Kp):CallD P f args so seen base ac K Kp
def orF (P:Program) (ac:List ab) (K:aa->List ab->Prop) (Kp:aa->List ab->Prop):OR->Prop
 | .no=>False
 | .val v=>K v ac
 | .mkf fn d cs=>K (.func fn d cs) ac
 | .need p r=>p/\orF P ac K Kp r
 | .alt p v w=>(p/\K v ac)\/K w ac
 | .idx n f=>∃ i:Nat,n=(i:Int)/\orF P ac K Kp (f i)
 | .elem xs i f=>∃ x,xs[i]? =some x/\orF P ac K Kp (f x)
 | .byte l i=>∃ c,l[i]? =some c/\K (.int .u8 (c.toNat:Int)) ac
 | .text xs=>∃ l:List UInt8,xs=l.map ub/\(l.length:Int)<=9223372036854775807/\K (.str l) ac
 | .find es key f=>∃ o,bR es key=o/\orF P ac K Kp (f o)
 | .born x v=>K v (bJ ac (aM ac) x)
 | .upd k x v=>K v (bJ ac k x)
 | .nilq xs a=>∀ b:Bool,(b=true->xs=[])->K (.bool (if a then !b else b)) ac
 | .call f args=>CallG P f args ac K Kp
 | .pan v=>Kp v ac
def nd:ab->Bool
 | .dead=>false
 | _=>true
def orD (P:Program) (d e bl:Bool) (a ac:List ab) (base:Nat) (K:aa->List ab->Prop) (Kp:aa->List ab->Prop):OR->Prop
 | .val v=>K v ac
 | .mkf fn h cs=>K (.func fn h cs) ac
 | .need p r=>p/\orD P d e bl a ac base K Kp r
 | .alt p v w=>(p/\K v ac)\/K w ac
 | .idx n f=>∃ i:Nat,n=(i:Int)/\orD P d e bl a ac base K Kp (f i)
 | .elem xs i f=>∃ x,xs[i]? =some x/\orD P d e bl a ac base K Kp (f x)
 | .byte l i=>∃ c,l[i]? =some c/\K (.int .u8 (c.toNat:Int)) ac
 | .text xs=>∃ l:List UInt8,xs=l.map ub/\(l.length:Int)<=9223372036854775807/\K (.str l) ac
 | .find es key f=>∃ o,bR es key=o/\orD P d e bl a ac base K Kp (f o)
 | .born x v=>(match bl with | true=>False | false=>K v (bJ ac base x))
 | .upd k x v=>(match (d||(e&&nd (aC a k))) with | true=>K v (bJ ac k x) | false=>False)
 | .nilq xs g=>(match d with | true=>∀ b:Bool,(b=true->xs=[])->K (.bool (if g then !b else b)) ac | false=>False)
 | .call f args=>(match bl with | true=>False | false=>CallD P f args d a base ac K Kp)
 | .pan v=>(match d with | true=>Kp v ac | false=>False)
 | .no=>False
def cF (all:List Oper) (ρ:Operand->aa) (g:Option (Nat×Bool)):Option Bool:=
 match g with
 | none=>some true
 | some (j,want)=>match nth all j with
  | some p=>match p.dst with
   | some d=>match ρ (.tmp d) with
    | .bool b=>some (b==want)
    | .tup []=>some false
    | _=>none
   | none=>none
  | none=>none
def vT (n:Nat):List Oper->Bool
 | []=>false
 | o::r=>(match o.guard with | some (j,_)=>Aw j n | none=>false)||vT n r
def eW (E:Env):Option Nat->Nat
 | none=>0
 | some d=>bif sL d E.own then (bif sL d E.rws then 3 else 1) else bif sL d E.rws then 2 else 0
def kW (fr:List (Nat×aa)):Option Nat->aa->List (Nat×aa)
 | none,_=>fr
 | some d,v=>bW fr d v
def wrP (rest:List Oper) (n:Nat) (d:Option Nat) (fr:List (Nat×aa)) (v:aa) (k:List (Nat×aa)->Prop):Prop:=
 match d with
 | none=>k fr
 | some d=>bif vT n rest then (match v with
   | .bool b=>(b=true->k (bW fr d (.bool true)))/\(b=false->k (bW fr d (.bool false)))
   | _=>False)
  else k (bW fr d v)
def eQ (E:Env) (all:List Oper) (K:List (Nat×aa)->List ab->Prop) (Kp:(Nat->aa)->aa->List ab->Prop):Nat->List Oper->List (Nat×aa)->List ab->Prop
 | _,[],fr,ac=>K fr ac
 | n,p::rest,fr,ac=>match cF all (ev fr) p.guard with
  | none=>False
  | some false=>eQ E all K Kp (n+1) rest (kW fr p.dst (.tup [])) ac
  | some true=>orF E.P ac (λ v ac=>wrP rest n p.dst fr v λ fr=>eQ E all K Kp (n+1) rest fr ac) (Kp (aX fr))
    (eop E (eW E p.dst) (aM ac) (aC ac) (ev fr) p.op p.type)
def gX (p:Oper):List Nat:=(p.after.toList.filter (Jp .any)).map (·.on)
def cP (m i:Nat):Bool:=Aw (Nat.land (Nat.shiftRight m i) 1) 1
def cV:List Nat->Nat->Nat
 | [],_=>0
 | x::_,0=>x
 | _::r,n+1=>cV r n
def iR (tab:List Nat):List Nat->Nat
 | []=>0
 | i::r=>Nj (Nj (Nat.shiftLeft 1 i) (cV tab i)) (iR tab r)
def iN:List Nat->List Oper->List Nat
 | tab,[]=>tab
 | tab,p::r=>iN (tab++[iR tab (gX p)]) r
def aLu (n:Nat) (k:Nat->Prop):Prop:=match n with | 0=>k 0 | m+1=>k (m+1)
def aFM (n:Nat) (k:Nat->Prop):aLu n k=k n:=by cases n<;>rfl
def S6:List Nat->Nat->(List Nat->Prop)->Prop
 | [],m,k=>k [m]
 | x::r,m,k=>S6 r m λ r=>k (x::r)
def aAo (l:List Nat) (m:Nat):∀ (k:List Nat->Prop),S6 l m k=k (l++[m]):=by
 induction l with
 | nil=>intro k;rfl
 | cons x r a=>intro k;simp only [S6,a,Cc]
def VZ:List Nat->List Oper->(List Nat->Prop)->Prop
 | tab,[],k=>k tab
 | tab,p::r,k=>aLu (iR tab (gX p)) λ m=>S6 tab m λ tab=>VZ tab r k
def aDN (l:List Oper):∀ (tab:List Nat) (k:List Nat->Prop),VZ tab l k=k (iN tab l):=by
 induction l with
 | nil=>intro tab k;rfl
 | cons p r a=>intro tab k;simp only [VZ,iN,aFM,aAo,a]
def loose (tab:List Nat) (i j:Nat):Bool:=!Aw i j&& !cP (cV tab j) i&& !cP (cV tab i) j
def NA (tab:List Nat) (j t:Nat):Nat->List Oper->Bool
 | _,[]=>false
 | i,p::r=>(match p.dst with | some d=>Aw d t&&loose tab i j | none=>false)||NA tab j t (i+1) r
def evH (tab:List Nat) (all:List Oper) (j:Nat) (fr:List (Nat×aa)):Operand->aa
 | .tmp t=>bif NA tab j t 0 all then .undef else aX fr t
 | x=>ev fr x
def pS:List Nat->List ab->List ab
 | [],ac=>ac
 | k::r,ac=>pS r (bJ ac k .dead)
def ES (tab:List Nat) (j:Nat):List (Nat×Nat)->List Nat
 | []=>[]
 | (i,k)::r=>bif cP (cV tab j) i then ES tab j r else k::ES tab j r
def sole (tab:List Nat) (j:Nat):Nat->List Oper->Bool
 | _,[]=>true
 | i,_::r=>!loose tab i j&&sole tab j (i+1) r
def blD (E:Env):Option Nat->Bool
 | none=>false
 | some d=>sL d E.bl
def FG (E:Env) (tab:List Nat) (j:Nat):Nat->List Oper->Bool
 | _,[]=>true
 | i,p::r=>(!loose tab i j||blD E p.dst)&&FG E tab j (i+1) r
def soN (E:Env) (tab:List Nat) (all:List Oper) (n:Nat) (d:Option Nat):Bool:=sole tab n 0 all&& !blD E d
def uoN (E:Env) (tab:List Nat) (all:List Oper) (n:Nat) (d:Option Nat):Bool:=FG E tab n 0 all&& !blD E d
def pL (E:Env) (tab:List Nat) (n:Nat) (br:List (Nat×Nat)) (ac:List ab) (d:Option Nat):List ab:=bif blD E d then [] else pS (ES tab n br) ac
def born (j base:Nat):List ab->List (Nat×Nat)->List (Nat×Nat)
 | [],br=>br
 | _::r,br=>(j,base)::born j (base+1) r br
def gZ:Nat->List ab->List ab
 | 0,l=>l
 | _+1,[]=>[]
 | n+1,_::l=>gZ n l
def iJ (E:Env) (all:List Oper) (tab:List Nat) (K:List (Nat×aa)->List ab->Prop) (Kp:(Nat->aa)->aa->List ab->Prop):Nat->List Oper->List (Nat×Nat)->List (Nat×aa)->List ab->Prop
 | _,[],_,fr,ac=>K fr ac
 | n,p::rest,br,fr,ac=>
  match cF all (evH tab all n fr) p.guard with
  | none=>False
  | some false=>iJ E all tab K Kp (n+1) rest br (kW fr p.dst (.tup [])) ac
  | some true=>orD E.P (soN E tab all n p.dst) (uoN E tab all n p.dst) (blD E p.dst) (pL E tab n br ac p.dst) ac (aM ac) (λ v ap=>wrP rest n p.dst fr v λ fr=>iJ E all tab K Kp (n+1) rest (born n (aM ac) (gZ (aM ac) ap) br) fr ap) (Kp (aX fr))
     (eop E (eW E p.dst) (aM ac) (aC (pL E tab n br ac p.dst)) (evH tab all n fr) p.op p.type)
inductive KI where
 | code (c:Code) | inB (id:Nat) | inL (c:Code) | beginR
def DK (id:Nat):List KI->Option (List KI)
 | []=>none
 | .inB i::r=>bif Aw i id then some r else DK id r
 | _::r=>DK id r
inductive Goal where
 | pure (r:Res)
 | full (n0:Nat) (r:Res) (ap:List ab)
 | keep (n0:Nat) (r:Res) (ap:List ab)
def aJc (E:Env) (ac:List ab) (fr:List (Nat×aa)):ResultVar->Option aa
 | .tmp t=>some (aX fr t)
 | .cell t ty=>match cU E.T ty,aX fr t with
  | some ti,.ref k off=>match aC ac k with
   | .cells _ cs=>match lL ti.size (kI off cs) with | some l=>mk ti l | none=>none
   | _=>none
  | _,_=>none
def aAR (E:Env) (ac:List ab) (fr:List (Nat×aa)):List ResultVar->Option (List aa)
 | []=>some []
 | r::rs=>match aJc E ac fr r,aAR E ac fr rs with
  | some v,some vs=>some (v::vs)
  | _,_=>none
def aAS (E:Env) (ac:List ab) (a:List ResultVar) (fr:List (Nat×aa)):Option aa:=
 match aAR E ac fr a with
 | some [v]=>some v
 | some vs=>some (.tup vs)
 | none=>none
def aMu (n:Nat):Tk->Bool
 | .own k _=>Ff k n
 | _=>true
def D5 (f:aa->Bool):List aa->Bool
 | []=>true
 | c::r=>f c&&D5 f r
def bel (n:Nat):Nat->aa->Bool
 | 0,_=>false
 | m+1,a=>match a with
  | .slice _ _ t=>aMu n t
  | .agg cs=>D5 (bel n m) cs
  | .tup cs=>D5 (bel n m) cs
  | .ref k _=>Ff k n
  | .eref k _ _ _ _=>Ff k n
  | .csl k _ _ _=>Ff k n
  | .row k _=>Ff k n
  | .sub k _ _ _ _=>Ff k n
  | .rowc k _ _=>Ff k n
  | .pre k _ _ _ _=>Ff k n
  | .mref k=>Ff k n
  | .func _ b cs=>D5 (bel n m) b&&D5 (bel n m) cs
  | .iface _ v=>bel n m v
  | _=>true
def EX (n:Nat):List ab->Bool
 | []=>true
 | .cells _ cs::r=>D5 (bel n 5) cs&&EX n r
 | _::r=>EX n r
def aDL (n:Nat):List (Nat×aa)->Bool
 | []=>true
 | (_,v)::r=>bel n 5 v&&aDL n r
def nN:Nat->List ab->List ab
 | 0,_=>[]
 | _+1,[]=>[]
 | n+1,x::r=>x::nN n r
def NW (g:Goal) (a:aa->Res) (v:aa) (ac:List ab):Prop:=
 match g with
 | .pure r=>a (cvtV 0 [] (aC (frzL ac [v])) 5 v)=r
 | .full n0 r ap=>∃ b ks,(lT ks (aj b ac)=true/\jW n0 0 ks=true)/\a (cvtV n0 ks (aC (aj b ac)) 5 v)=r/\iD n0 ks (aj b ac)=ap
 | .keep n0 r ap=>(bel n0 5 v=true/\EX n0 (nN n0 ac)=true)/\a v=r/\nN n0 ac=ap
def Goal.n0:Goal->Nat
 | .pure _=>0
 | .full n _ _=>n
 | .keep n _ _=>n
def dG (fn:Func):Code:=fn.body.getD .skip
def BK:Nat->Code->List KI->List KI ⊕ Nat
 | n,.seq a b,ks=>match BK n a (.code b::ks) with | .inl r=>.inl r | .inr n=>BK n b ks
 | n,.cond _ a b,ks=>match BK n a ks with | .inl r=>.inl r | .inr n=>BK n b ks
 | n,.block id b,ks=>BK n b (.inB id::ks)
 | 0,.loop b,ks=>.inl (.code b:: .inL b::ks)
 | n+1,.loop b,ks=>BK n b (.inL b::ks)
 | n,_,_=>.inr n
def stk (fn:Func) (n:Nat):List KI:=match BK n (dG fn) [] with | .inl r=>r | .inr _=>[]
def frA:Nat->List aa->List (Nat×aa)
 | _,[]=>[]
 | n,a::r=>(n,a)::frA (n+1) r
def mE:List Nat->List (Nat×aa)->List (Nat×aa)
 | [],_=>[]
 | t::r,fr=>(t,aX fr t)::mE r fr
structure RI where
 all:List Oper
 dr:Bool
 tab:List Nat
 ks:List KI
inductive St where
 | code (ks:List KI) (fr:List (Nat×aa)) (ac:List ab)
 | head (ks:List KI) (fr:List (Nat×aa)) (ac:List ab)
 | mid (R:RI) (n:Nat) (rest:List Oper) (br:List (Nat×Nat)) (fr:List (Nat×aa)) (ac:List ab)
 | pend (R:RI) (n:Nat) (d:Option Nat) (rest:List Oper) (br:List (Nat×Nat)) (fr:List (Nat×aa)) (ac:List ab) (r:OR)
 | got (R:RI) (n:Nat) (d:Option Nat) (rest:List Oper) (br:List (Nat×Nat)) (fr:List (Nat×aa)) (len:Nat) (ac:List ab) (v:aa)
 | leave (p:Option aa) (fr:List (Nat×aa)) (ac:List ab)
def aCX (g:Goal) (a:aa->Res) (v:aa) (ac:List ab):Prop:=
 match g with
 | .pure r=>KD 5 (cvtV 0 [] (aC (frzL ac [v])) 5 v) λ y=>a y=r
 | .full n0 r ap=>∃ b ks,(lT ks (aj b ac)=true/\jW n0 0 ks=true)/\KD 5 (cvtV n0 ks (aC (aj b ac)) 5 v) λ y=>ODL (iD n0 ks (aj b ac)) λ os=>a y=r/\os=ap
 | .keep n0 r ap=>(bel n0 5 v=true/\EX n0 (nN n0 ac)=true)/\ODL (nN n0 ac) λ os=>a v=r/\os=ap
def JF (g:Goal) (a:aa->Res) (v:aa) (ac:List ab):aCX g a v ac=NW g a v ac:=by cases g<;>simp only [aCX,NW,mR,rJ]
def aJr (E:Env) (g:Goal) (J:St->Prop) (fr:List (Nat×aa)) (v:aa) (ac:List ab):Prop:=match E.rd with
 | some _=>False
 | none=>match E.df with
  | []=>NW g .pan v ac
  | _::_=>J (.leave (some v) fr ac)
def aFb (E:Env) (fn:Func) (g:Goal) (J:St->Prop) (b:Bool) (fr:List (Nat×aa)) (ac:List ab):Prop:=match E.rd with
 | some _=>aCX g .ret (.bool b) ac
 | none=>match E.df with
  | []=>(match aAS E ac fn.results.toList fr with | some v=>KD 5 v λ v=>aCX g .ret v ac | none=>False)
  | _::_=>J (.leave none fr ac)
def aLD:List Oper->Bool
 | [p]=>(match p.op with | .defer _=>true | _=>false)
 | _=>false
def bS (E:Env) (fn:Func) (g:Goal) (J:St->Prop):Nat->St->Prop
 | 0,s=>J s
 | n+1,.head ks fr ac=>bS E fn g J n (.code ks fr ac)
 | _+1,.leave p fr ac=>J (.leave p fr ac)
 | _+1,.code [] fr ac=>aFb E fn g J true fr ac
 | n+1,.code (k::ks) fr ac=>(match k with
  | .inB _=>bS E fn g J n (.code ks fr ac)
  | .inL b=>J (.head (.code b:: .inL b::ks) fr ac)
  | .beginR=>J (.code (.beginR::ks) fr ac)
  | .code q=>match q with
   | .skip=>bS E fn g J n (.code ks fr ac)
   | .seq a b=>bS E fn g J n (.code (.code a:: .code b::ks) fr ac)
   | .block id b=>bS E fn g J n (.code (.code b:: .inB id::ks) fr ac)
   | .loop b=>J (.head (.code b:: .inL b::ks) fr ac)
   | .exit id=>(match DK id ks with
    | some ks=>bS E fn g J n (.code ks fr ac)
    | none=>False)
   | .ret=>aFb E fn g J false fr ac
   | .rangeFunc x t as u=>J (.code (.code (.rangeFunc x t as u)::ks) fr ac)
   | .cond x a b=>(match ev fr x with
    | .bool p=>(p=true->J (.code (.code a::ks) fr ac))/\(p=false->J (.code (.code b::ks) fr ac))
    | _=>False)
   | .region id ops dr=>(match aLD ops.toList with
    | true=>J (.code (.code (.region id ops dr)::ks) fr ac)
    | false=>(match dr with
     | false=>bS E fn g J n (.mid ⟨ops.toList,false,[],ks⟩ 0 ops.toList [] fr ac)
     | true=>VZ [] ops.toList λ tab=>bS E fn g J n (.mid ⟨ops.toList,true,tab,ks⟩ 0 ops.toList [] fr ac)))
   | _=>False)
 | n+1,.mid R _ [] _ fr ac=>bS E fn g J n (.code R.ks fr ac)
 | n+1,.mid R i (p::rest) br fr ac=>(match R.dr with
  | false=>(match cF R.all (ev fr) p.guard with
   | none=>False
   | some false=>(match p.dst with | none=>bS E fn g J n (.mid R (i+1) rest br fr ac) | some d=>BX fr d (.tup []) λ fr=>bS E fn g J n (.mid R (i+1) rest br fr ac))
   | some true=>bS E fn g J n (.pend R i p.dst rest br fr ac (eop E (eW E p.dst) (aM ac) (aC ac) (ev fr) p.op p.type)))
  | true=>(match cF R.all (evH R.tab R.all i fr) p.guard with
   | none=>False
   | some false=>(match p.dst with | none=>bS E fn g J n (.mid R (i+1) rest br fr ac) | some d=>BX fr d (.tup []) λ fr=>bS E fn g J n (.mid R (i+1) rest br fr ac))
   | some true=>ODL (pL E R.tab i br ac p.dst) λ e=>bS E fn g J n (.pend R i p.dst rest br fr ac (eop E (eW E p.dst) (aM ac) (aC e) (evH R.tab R.all i fr) p.op p.type))))
 | n+1,.pend R i d rest br fr ac r=>(match r with
  | .no=>False
  | .val v=>KD 4 v λ v=>bS E fn g J n (.got R i d rest br fr (aM ac) ac v)
  | .mkf f j cs=>KDL (KD 3) j λ j=>KDL (KD 3) cs λ cs=>bS E fn g J n (.got R i d rest br fr (aM ac) ac (.func f j cs))
  | .need p r=>p/\J (.pend R i d rest br fr ac r)
  | .alt p v w=>(p/\J (.got R i d rest br fr (aM ac) ac v))\/J (.got R i d rest br fr (aM ac) ac w)
  | .idx m f=>∃ x:Nat,m=(x:Int)/\J (.pend R i d rest br fr ac (f x))
  | .elem xs m f=>∃ x,xs[m]? =some x/\J (.pend R i d rest br fr ac (f x))
  | .byte l m=>∃ c,l[m]? =some c/\J (.got R i d rest br fr (aM ac) ac (.int .u8 (c.toNat:Int)))
  | .text xs=>∃ l:List UInt8,xs=l.map ub/\(l.length:Int)<=9223372036854775807/\J (.got R i d rest br fr (aM ac) ac (.str l))
  | .find es key f=>∃ o,bR es key=o/\J (.pend R i d rest br fr ac (f o))
  | .born x v=>(match (R.dr&&blD E d) with
   | true=>False
   | false=>OD x λ x=>ODL (bJ ac (aM ac) x) λ ap=>KD 4 v λ v=>bS E fn g J n (.got R i d rest br fr (aM ac) ap v))
  | .upd k x v=>(match (!R.dr||(soN E R.tab R.all i d||(uoN E R.tab R.all i d&&nd (aC (pL E R.tab i br ac d) k)))) with
   | true=>OD x λ x=>ODL (bJ ac k x) λ ap=>KD 4 v λ v=>bS E fn g J n (.got R i d rest br fr (aM ac) ap v)
   | false=>False)
  | .nilq xs h=>(match (!R.dr||soN E R.tab R.all i d) with
   | true=>∀ b:Bool,(b=true->xs=[])->J (.got R i d rest br fr (aM ac) ac (.bool (if h then !b else b)))
   | false=>False)
  | .call f args=>KDL (KD 5) args λ args=>(match R.dr with
   | false=>CallG E.P f args ac (λ v ap=>J (.got R i d rest br fr (aM ac) ap v)) (aJr E g J fr)
   | true=>match blD E d with
    | true=>False
    | false=>ODL (pL E R.tab i br ac d) λ e=>CallD E.P f args (soN E R.tab R.all i d) e (aM ac) ac (λ v ap=>J (.got R i d rest br fr (aM ac) ap v)) (aJr E g J fr))
  | .pan v=>(match (!R.dr||soN E R.tab R.all i d) with
   | true=>KD 5 v λ v=>(match E.rd with | some _=>False | none=>match E.df with | []=>aCX g .pan v ac | _::_=>J (.leave (some v) fr ac))
   | false=>False))
 | n+1,.got R i d rest br fr len ac v=>KD 4 v λ v=>ODL ac λ ac=>(match d with
  | none=>bS E fn g J n (.mid R (i+1) rest (bif R.dr then born i len (gZ len ac) br else br) fr ac)
  | some d=>bif vT i rest then (match v with
    | .bool b=>(b=true->BX fr d (.bool true) λ fr=>J (.mid R (i+1) rest (bif R.dr then born i len (gZ len ac) br else br) fr ac))/\
      (b=false->BX fr d (.bool false) λ fr=>J (.mid R (i+1) rest (bif R.dr then born i len (gZ len ac) br else br) fr ac))
    | _=>False)
   else BX fr d v λ fr=>bS E fn g J n (.mid R (i+1) rest (bif R.dr then born i len (gZ len ac) br else br) fr ac))
def D3 {i n:Nat} (h:¬ i=n):Aw i n=false:=by
 cases a:Aw i n with
 | false=>rfl
 | true=>simp_all
def aB {i n:Nat} (h:Aw i n=true):i=n:=Nat.eq_of_beq_eq_true h
def aU {a b:Bool} (h:(a&&b)=true):a=true/\b=true:=by grind
def bG (l:List ab):aM l=l.length:=by
 induction l with
 | nil=>rfl
 | cons x r a=>simp [aM,a]
def vI {l:List ab}:∀ {n:Nat},n<l.length->l[n]? =some (aC l n):=by
 induction l with
 | nil=>simp
 | cons x r a=>intro n h;cases n with
  | zero=>rfl
  | succ n=>simpa [aC] using a (n:=n) (by grind)
def bD {l:List ab}:∀ {n:Nat} {x:ab},aC l n=x->x≠ .dead->l[n]? =some x:=by
 induction l with
 | nil=>intro n x h a;exact absurd h.symm (by simpa [aC] using a)
 | cons y r b=>intro n x h a;cases n with
  | zero=>simpa [aC] using h
  | succ n=>simpa using b (n:=n) h a
def gB {l:List ab}:∀ {n:Nat} {x:ab},l[n]? =some x->aC l n=x:=by
 induction l with
 | nil=>simp
 | cons y r a=>intro n x h;cases n with
  | zero=>simpa [aC] using h
  | succ n=>exact a (n:=n) (by simp_all)
def gK {l:List ab}:∀ {n:Nat} (x:ab),n<l.length->bJ l n x=l.set n x:=by
 induction l with
 | nil=>simp
 | cons y r a=>intro n x h;cases n with
  | zero=>rfl
  | succ n=>simp only [bJ,List.set_cons_succ];grind
def L9 (l:List ab) (x:ab):bJ l l.length x=l++[x]:=by
 induction l with
 | nil=>rfl
 | cons y r a=>simp [bJ,a]
def lN (n:Nat):∀ (l:List aa),kI n l=l.drop n:=by
 induction n with
 | zero=>intro l;rfl
 | succ n a=>intro l;cases l with
  | nil=>rfl
  | cons c r=>simpa [kI] using a r
def iX {n:Nat}:∀ {l r:List aa},lL n l=some r->r.length=n/\∀ (i:Nat) c,r[i]? =some c->l[i]? =some c:=by
 induction n with
 | zero=>intro l r h;cases h;simp
 | succ n f=>
  intro l r h;cases l with
  | nil=>cases h
  | cons c l=>
   simp only [lL] at h;split at h
   .rename_i g b;cases h;obtain ⟨h1,e⟩:=f b;refine ⟨by simp [h1],λ i d a=>?_⟩;cases i with
    | zero=>simpa using a
    | succ i=>simpa using e i d (by simpa using a)
   .cases h
def YV:∀ {new l r:List aa},RO new l=some r->new.length<=l.length/\r.length=l.length/\∀ (i:Nat),r[i]? =if i<new.length then new[i]? else l[i]?:=by
 intro new;induction new with
 | nil=>intro l r h;cases h;simp
 | cons c new e=>
  intro l r h;cases l with
  | nil=>cases h
  | cons d l=>
   simp only [RO] at h;split at h
   .rename_i x a;cases h;obtain ⟨h1,b,h3⟩:=e a;refine ⟨by simp;omega,by simp [b],λ i=>?_⟩;cases i with
    | zero=>simp
    | succ i=>simpa using h3 i
   .cases h
def jV {off:Nat}:∀ {new l r:List aa},mY off new l=some r->off+new.length<=l.length/\r.length=l.length/\∀ (i:Nat),r[i]? =if off<=i/\i<off+new.length then new[i-off]? else l[i]?:=by
 induction off with
 | zero=>
  intro new l r h;obtain ⟨h1,b,h3⟩:=YV (show RO new l=some r by cases l<;>exact h)
  grind
 | succ n e=>
  intro new l r h;cases l with
  | nil=>cases h
  | cons c l=>
   simp only [mY] at h;split at h
   .rename_i x d;cases h;obtain ⟨h1,b,h3⟩:=e d;refine ⟨by simp;omega,by simp [b],λ i=>?_⟩;cases i with
    | zero=>simp
    | succ i=>
     simp only [Fv,h3 i];by_cases a:n<=i/\i<n+new.length
     .rw [if_pos a,if_pos ⟨by omega,by omega⟩];simp
     .rw [if_neg a,if_neg o_]
   .cases h
def wQ (l:List aa):N9 l=l.length:=by
 induction l with
 | nil=>rfl
 | cons c r a=>simp [N9,a]
def mU {α:Type} (l:List α):∀ (n:Nat),nth l n=l[n]?:=by
 induction l with
 | nil=>intro n;rfl
 | cons x r a=>intro n;cases n with
  | zero=>rfl
  | succ n=>simpa [nth] using a n
def kY {α:Type} {l:List α} {n:Nat} {x:α} (h:nth l n=some x):l[n]? =some x:=by rw [<-mU];exact h
def JY (a b:List aa):Y9 a b=a++b:=by
 induction a with
 | nil=>rfl
 | cons c r d=>simp [Y9,d]
def vN (f:aa->aa) (l:List aa):dX f l=l.map f:=by
 induction l with
 | nil=>rfl
 | cons c r a=>simp [dX,a]
def lD {n:Nat}:∀ {l:List Nat},sL n l=true↔n∈l
 | []=>by simp [sL]
 | x::r=>by
  simp only [sL,Fc,lD (l:=r),Bb];constructor
  .rintro (h | h)
   .simp_all
   grind
  .rintro (h | h)
   .simp_all
   grind
def sA (fr:List (Nat×aa)) (n m:Nat) (x:aa):aX (bW fr n x) m=if m=n then x else aX fr m:=by
 induction fr with
 | nil=>
  simp only [bW,aX];by_cases h:m=n
  .simp_all
  .rw [D3 (λ e=>h e.symm),if_neg h];rfl
 | cons p r a=>
  obtain ⟨i,v⟩:=p;simp only [bW];cases b:Aw i n with
  | true=>
   have:=aB b;subst this;simp only [cond_true,aX];by_cases h:m=i
   .grind
   .rw [D3 (λ e=>h e.symm),if_neg h];rfl
  | false=>
   simp only [cond_false,aX,a]
   grind
def bA (b o j:Nat):(⟨b,o,none⟩:Addr).add j=⟨b,o+j,none⟩:=by unfold Addr.add;simp
def eP {α:Type} {b:Bool} {x:Option α} {r:α} (h:(bif b then x else none)=some r):b=true/\x=some r:=by grind
section
variable {M:Imm} {ob:Hs} {ac:List ab} {w:World}
def Rep.int_inv {v:Value} {k:IntKind} {n:Int} (h:Rep M ob v (.int k n)):v= .int k n/\inR k n:=by cases h with | int _ _ h=>grind
def Rep.bool_inv {v:Value} {b:Bool} (h:Rep M ob v (.bool b)):v= .bool b:=by cases h;rfl
def Rep.str_inv {v:Value} {l:List UInt8} (h:Rep M ob v (.str l)):v= .string ⟨l.toArray⟩/\(l.length:Int)<=9223372036854775807:=by cases h with | str _ h=>grind
def Rep.agg_inv {v:Value} {as:List aa} (h:Rep M ob v (.agg as)):∃ vs:List Value,v= .agg vs.toArray/\vs.length=as.length/\∀ (i:Nat) u a,vs[i]? =some u->as[i]? =some a->Rep M ob u a:=by cases h with | agg vs as hl h=>grind
def Rep.tup_inv {v:Value} {as:List aa} (h:Rep M ob v (.tup as)):∃ vs:List Value,v= .tuple vs.toArray/\vs.length=as.length/\∀ (i:Nat) u a,vs[i]? =some u->as[i]? =some a->Rep M ob u a:=by cases h with | tup vs as hl h=>grind
def Rep.ptr_inv {v:Value} {cs:List aa} (h:Rep M ob v (.ptr cs)):∃ b o,v= .pointer (some ⟨b,o,none⟩)/\∀ (j:Nat) c,cs[j]? =some c->M b (o+j) c:=by cases h with | ptr b o cs h=>grind
def Rep.ref_inv {v:Value} {k off:Nat} (h:Rep M ob v (.ref k off)):∃ b,v= .pointer (some ⟨b,off,none⟩)/\at' ob k 0=some (.pointer (some ⟨b,0,none⟩)):=by cases h with | ref k off b h=>grind
def Rep.iface_inv {v:Value} {t:TypeId} {a:aa} (h:Rep M ob v (.iface t a)):∃ u,v= .iface t u/\Rep M ob u a:=by cases h with | iface _ v _ h=>grind
def Rep.row_inv {v:Value} {k g:Nat} (h:Rep M ob v (.row k g)):∃ a n c,v= .slice a n c/\at' ob k g=some (.slice a n c):=by cases h with | row _ _ a n c h=>grind
def Rep.untok {v:Value} {sz:Nat} {xs:List aa} {t:Tk} (h:Rep M ob v (.slice sz xs t)):Rep M ob v (.slice sz xs .no)/\sO ob v t:=by
 cases h with
 | slnil sz t c=>exact ⟨.slnil sz .no trivial,c⟩
 | slemp sz t a cap c=>exact ⟨.slemp sz .no a cap trivial,c⟩
 | sl sz b o n cap xs t d e hm hz h c=>exact ⟨.sl sz b o n cap xs .no d e hm hz h trivial,c⟩
def Rep.tok {v:Value} {sz:Nat} {xs:List aa} {t:Tk} (h:Rep M ob v (.slice sz xs .no)) (c:sO ob v t):Rep M ob v (.slice sz xs t):=by
 cases h with
 | slnil sz _=>exact .slnil sz t c
 | slemp sz _ a cap _=>exact .slemp sz t a cap c
 | sl sz b o n cap xs _ d e hm hz h _=>exact .sl sz b o n cap xs t d e hm hz h c
def Rep.slice_pure {v:Value} {sz:Nat} {xs:List aa} (h:Rep M ob v (.slice sz xs .no)):Rep M [] v (.slice sz xs .no):=by
 cases h with
 | slnil sz _=>exact .slnil sz .no trivial
 | slemp sz _ a cap _=>exact .slemp sz .no a cap trivial
 | sl sz b o n cap xs _ c d hm hz h _=>exact .sl sz b o n cap xs .no c d hm hz h trivial
def Rep.slice_inv {v:Value} {sz:Nat} {xs:List aa} {t:Tk} (h:Rep M ob v (.slice sz xs t)):∃ a c,v= .slice a xs.length c/\(a=none->xs=[]/\c=0)/\(xs≠[]->xs.length<=c)/\(xs.length:Int)<=9223372036854775807:=by
 cases h with
 | slnil sz t d=>grind
 | slemp sz t a cap d=>grind
 | sl sz b o n cap xs t e f hm hz h d=>subst e;exact ⟨_,cap,rfl,λ h=>(by cases h),λ_=>f,hm⟩
def Rep.sl_inv {v:Value} {sz:Nat} {xs:List aa} {t:Tk} (h:Rep M ob v (.slice sz xs t)):(v= .slice none 0 0/\xs=[])\/(∃ a cap,v= .slice (some a) 0 cap/\xs=[])\/
  ∃ b o cap,v= .slice (some ⟨b,o,none⟩) xs.length cap/\xs.length<=cap/\(xs.length:Int)<=9223372036854775807/\(∀ x∈xs,x.cells.length=sz)/\∀ (i j:Nat) x c,xs[i]? =some x->x.cells[j]? =some c->M b (o+i*sz+j) c:=by
 cases h with
 | slnil sz t d=>simp
 | slemp sz t a cap d=>exact .inr (.inl ⟨a,cap,rfl,rfl⟩)
 | sl sz b o n cap xs t e f hm hz h d=>subst e;exact .inr (.inr ⟨b,o,cap,rfl,f,hm,hz,h⟩)
def Rep.cells {v:Value} {a:aa} (h:Rep M ob v a) (m:a≠ .undef):v.cells.toList.length=a.cells.length/\∀ (i:Nat) u c,v.cells.toList[i]? =some u->a.cells[i]? =some c->Rep M ob u c:=by
 have d:∀ {v:Value} {a:aa},Rep M ob v a->v.cells= #[v]->a.cells=[a]->v.cells.toList.length=a.cells.length/\∀ (i:Nat) u c,v.cells.toList[i]? =some u->a.cells[i]? =some c->Rep M ob u c:=by
  intro v a h A z;rw [A,z];refine ⟨rfl,λ i u c m e=>?_⟩;cases i with
  | zero=>grind
  | succ i=>simp at m
 cases h with
 | undef v=>exact absurd rfl m
 | agg vs as hl h=>exact ⟨by simpa [Value.cells,aa.cells] using hl,λ i u c m e=>h i u c (by simpa [Value.cells] using m) (by simpa [aa.cells] using e)⟩
 | row k g a n c h=>exact d (.row k g a n c h) rfl rfl
 | bool b=>exact d (.bool b) rfl rfl
 | int k n x=>exact d (.int k n x) rfl rfl
 | str l hl=>exact d (.str l hl) rfl rfl
 | tup vs as hl h=>exact d (.tup vs as hl h) rfl rfl
 | ptr b o cs h=>exact d (.ptr b o cs h) rfl rfl
 | ref k off b h=>exact d (.ref k off b h) rfl rfl
 | eref k g i sz off b n c h=>exact d (.eref k g i sz off b n c h) rfl rfl
 | csl k off len sz b h hm=>exact d (.csl k off len sz b h hm) rfl rfl
 | sub k g lo len sz b n c h hl f e hm=>exact d (.sub k g lo len sz b n c h hl f e hm) rfl rfl
 | sub0 k g lo sz a y n c h hl e=>exact d (.sub0 k g lo sz a y n c h hl e) rfl rfl
 | rowc k g c a n h hm=>exact d (.rowc k g c a n h hm) rfl rfl
 | pre k g n c sz b len h e f hl hm=>exact d (.pre k g n c sz b len h e f hl hm) rfl rfl
 | mref k b h=>exact d (.mref k b h) rfl rfl
 | nilptr=>exact d .nilptr rfl rfl
 | nilslice=>exact d .nilslice rfl rfl
 | nilmap=>exact d .nilmap rfl rfl
 | nilfunc=>exact d .nilfunc rfl rfl
 | nilif=>exact d .nilif rfl rfl
 | hsl a n c=>exact d (.hsl a n c) rfl rfl
 | slnil sz t j=>exact d (.slnil sz t j) rfl rfl
 | slemp sz t a cap j=>exact d (.slemp sz t a cap j) rfl rfl
 | sl sz b o n cap xs t f e hm hz h j=>exact d (.sl sz b o n cap xs t f e hm hz h j) rfl rfl
 | func fn r cs q w s e h1 p=>exact d (.func fn r cs q w s e h1 p) rfl rfl
 | iface t v a h=>exact d (.iface t v a h) rfl rfl
def Rep.one {v:Value} {a:aa} (h:Rep M ob v a) (h1:one a=true):v.oneCell'=true:=by cases h<;>first | rfl | (simp [AW.one] at h1)
def kX {l:List aa} (h:oT l=true):∀ (i:Nat) c,l[i]? =some c->one c=true:=by
 induction l with
 | nil=>simp
 | cons d r b=>
  simp only [oT,Ad] at h;intro i c a;cases i with
  | zero=>grind
  | succ i=>exact b h.2 i c (by simpa using a)
def nO {c:aa} (h:AW.one c=true):c.cells=[c]:=by cases c<;>first | rfl | cases h
def Rep.cells_one {v:Value} {a:aa} (h:Rep M ob v a) (h1:oT a.cells=true):v.cells.toList.length=a.cells.length/\(∀ u∈v.cells.toList,u.oneCell'=true)/\∀ (i:Nat) u c,v.cells.toList[i]? =some u->a.cells[i]? =some c->Rep M ob u c:=by
 have g:a≠ .undef:=λ e=>by subst e;simp [aa.cells,oT,AW.one] at h1
 obtain ⟨d,h3⟩:=h.cells g;refine ⟨d,λ u hm=>?_,h3⟩;obtain ⟨i,f⟩:=Ct hm;have b:i<a.cells.length:=by grind
 exact (h3 i u _ f (Aa b)).one (kX h1 i _ (Aa b))
end
def cN {ob:Hs} {ac:List ab} {k:Nat} {x:ab} {hs:List Value} (h1:ac[k]? =some x) (a:ob[k]? =some hs) {b:Nat}:aG ob ac k b↔x.owns=true/\b∈blk hs:=by
 constructor
 .rintro ⟨c,hs',h,e,f,g⟩
  grind
 .rintro ⟨h3,d⟩;exact ⟨x,hs,h1,h3,a,d⟩
def Mem.turn {M M':Imm} {ob:Hs} {ac:List ab} {w w':World} (h:Mem M ob ac w) {k:Nat} {x x':ab} {hs hs':List Value} (S:ac[k]? =some x) (K:ob[k]? =some hs) (hp:hs<+:hs') (hd:x= .dead->hs=[])
  (Z:∀ b o y,M b o y->M' b o y) (z:∀ b o y,M' b o y->M b o y\/(x.owns=true/\b∈blk hs)\/w.heap.size<=b)
  (F:∀ b o y,M' b o y->∃ v,w'.cell? ⟨b,o,none⟩=some v/\v.oneCell'=true/\Rep M' [] v y)
  (heap:∀ b,b<w.heap.size->¬ (x.owns=true/\b∈blk hs)->w'.heap[b]? =w.heap[b]?)
  (Q:w'.os=w.os) (A:w'.tape=w.tape) (G:w'.output=w.output) (s:w.heap.size<=w'.heap.size)
  (I:dE ob (ob.set k hs')->gQ M' (ob.set k hs') w' hs' x') (hb:x'.owns=true->∀ b,b∈blk hs'->((x.owns=true/\b∈blk hs)\/w.heap.size<=b)/\b<w'.heap.size) (R:x'≠ .dead:=by intro h;cases h):
  Mem M' (ob.set k hs') (ac.set k x') w'/\Ext M ob ac w M' (ob.set k hs') (ac.set k x') w'/\cH ob ac (ob.set k hs') (ac.set k x'):=by
 have L:k<ac.length:=(Ab.1 S).1;have C:k<ob.length:=(Ab.1 K).1;have u:dE ob (ob.set k hs'):=λ i l hl=>by
  by_cases f:i=k
  .subst f;rw [K] at hl;cases hl;exact ⟨hs',Ar C,hp⟩
  .exact ⟨l,by rw [Ay (λ e=>f e.symm)];exact hl,Cn _⟩
 have m:∀ {i:Nat},i≠k->(ac.set k x')[i]? =ac[i]?/\(ob.set k hs')[i]? =ob[i]?:=λ{i} f=>
  ⟨Ay (λ e=>f e.symm),Ay (λ e=>f e.symm)⟩
 have n:(ac.set k x')[k]? =some x':=Ar L;have p:(ob.set k hs')[k]? =some hs':=Ar C;have d:∀ {i b:Nat},aG (ob.set k hs') (ac.set k x') i b->(i≠k/\aG ob ac i b)\/(i=k/\((x.owns=true/\b∈blk hs)\/w.heap.size<=b)/\b<w'.heap.size):=λ{i b} a=>by
  by_cases f:i=k
  .subst f;have:=(cN n p).1 a;exact .inr ⟨rfl,hb this.1 b this.2⟩
  .obtain ⟨c,l,J,O,W,e4⟩:=a;rw [(m f).1] at J;rw [(m f).2] at W;exact .inl ⟨f,c,l,J,O,W,e4⟩
 have r:∀ {b:Nat},x.owns=true/\b∈blk hs->aG ob ac k b:=λ a=>(cN S K).2 a;refine ⟨⟨F,by simp [h.len],λ i c D=>?_,λ i b a=>?_,λ i j b a B=>?_⟩,⟨Z,λ b o y N=>?_,u,Q,A,G,s,λ b B hn=>heap b B λ a=>hn k (r a),λ i b a=>?_⟩,λ i l h1 t=>⟨λ h3=>?_,λ h3 X=>?_⟩⟩
 .by_cases f:i=k
  .subst f;rw [n] at D;cases D;exact ⟨hs',p,I u⟩
  .rw [(m f).1] at D;obtain ⟨l,hl,ho⟩:=h.obj i c D;have H:∀ b,c.owns=true->b∈blk l->¬ (x.owns=true/\b∈blk hs)/\b<w.heap.size:=λ b h1 t=>by have a:aG ob ac i b:=(cN D hl).2 ⟨h1,t⟩;exact ⟨λ hk=>f (h.inj i k b a (r hk)),h.lt i b a⟩
   refine ⟨l,by rw [(m f).2];exact hl,ho.mono Z u (λ b h1 t o V y N=>?_) (λ b c' h1 t T=>?_)⟩
   .obtain ⟨U,Y⟩:=H b h1 t;rcases z b o y N with q | q | q
    .exact V y q
    .exact U q
    .omega
   .obtain ⟨U,Y⟩:=H b h1 t;rw [heap b Y U];exact T
 .rcases d a with ⟨_,a⟩ | ⟨_,_,P⟩
  .exact Ey (h.lt i b a) s
  .exact P
 .rcases d a with ⟨_,a⟩ | ⟨J,a,_⟩<;>rcases d B with ⟨_,g⟩ | ⟨O,g,_⟩
  .exact h.inj i j b a g
  .rcases g with g | g
   .rw [O];exact h.inj i k b a (r g)
   .have:=h.lt i b a;omega
  .rcases a with a | a
   .rw [J];exact h.inj k j b (r a) g
   .have:=h.lt j b g;omega
  omega
 .rcases z b o y N with q | q | q
  .exact .inl q
  .exact .inr (.inr ⟨k,r q⟩)
  omega
 .rcases d a with ⟨_,a⟩ | ⟨_,a | a,_⟩
  .exact .inl ⟨i,a⟩
  .exact .inl ⟨k,r a⟩
  omega
 .have f:i≠k:=λ e=>by subst e;rw [S] at h1;rw [K] at t;cases h1;simp_all
  rw [(m f).1,(m f).2];exact ⟨h1,t⟩
 .by_cases f:i=k
  .subst f;rw [n] at X;cases X;rw [p];have:=I u;exact absurd rfl R
  .rw [(m f).2];exact h3▸t
def Mem.more {M M':Imm} {ob:Hs} {ac:List ab} {w w':World} (h:Mem M ob ac w) (t:∀ b o y,M b o y->M' b o y) (d:∀ b o y,M' b o y->M b o y\/w.heap.size<=b)
  (f:∀ b o y,M' b o y->∃ v,w'.cell? ⟨b,o,none⟩=some v/\v.oneCell'=true/\Rep M' [] v y) (heap:∀ b,b<w.heap.size->w'.heap[b]? =w.heap[b]?)
  (n:w'.os=w.os) (e:w'.tape=w.tape) (g:w'.output=w.output) (a:w.heap.size<=w'.heap.size):Mem M' ob ac w'/\Ext M ob ac w M' ob ac w':=by
 refine ⟨⟨f,h.len,λ i c j=>?_,λ i b p=>Ey (h.lt i b p) a,h.inj⟩,⟨t,λ b o y m=>?_,dE.refl _,n,e,g,a,λ b u _=>heap b u,λ i b p=>.inl ⟨i,p⟩⟩⟩
 .obtain ⟨l,hl,x⟩:=h.obj i c j;refine ⟨l,hl,x.mono t (dE.refl _) (λ b h1 k o s y m=>?_) (λ b z h1 k r=>?_)⟩
  .have:=h.lt i b ((cN j hl).2 ⟨h1,k⟩);rcases d b o y m with q | q
   .exact s y q
   .omega
  .rw [heap b (h.lt i b ((cN j hl).2 ⟨h1,k⟩))];exact r
 .rcases d b o y m with q | q
  .exact .inl q
  omega
def Mem.extend {M:Imm} {ob:Hs} {ac:List ab} {w:World} (h:Mem M ob ac w) (n:Nat):
  Mem M (ob++Aj n []) (ac++Aj n .dead) w/\Ext M ob ac w M (ob++Aj n []) (ac++Aj n .dead) w/\cH ob ac (ob++Aj n []) (ac++Aj n .dead):=by
 have part:∀ {i:Nat} {c:ab},(ac++Aj n .dead)[i]? =some c->(i<ac.length/\ac[i]? =some c)\/(ac.length<=i/\c= .dead/\i-ac.length<n):=λ{i c} f=>by
  by_cases d:i<ac.length
  .rw [Ag d] at f;grind
  .rw [Ak o_,Es] at f
   grind
 have left:∀ {i:Nat},i<ac.length->(ob++Aj n ([]:List Value))[i]? =ob[i]?:=λ{i} d=>Ag (by rw [h.len];exact d)
 have g:dE ob (ob++Aj n []):=λ i l hl=>⟨l,by rw [Ag (Ab.1 hl).1];exact hl,Cn _⟩
 have a:∀ {i b:Nat},aG (ob++Aj n []) (ac++Aj n .dead) i b->aG ob ac i b:=λ{i b} ⟨c,l,o,e2,e3,e4⟩=>by
  rcases part o with ⟨d,o⟩ | ⟨_,rfl,_⟩
  .rw [left d] at e3;exact ⟨c,l,o,e2,e3,e4⟩
  .cases e2
 refine ⟨⟨h.imm,by simp [h.len],λ i c f=>?_,λ i b k=>h.lt i b (a k),λ i j b k q=>h.inj i j b (a k) (a q)⟩,⟨λ_ _ _ h=>h,λ_ _ _ h=>.inl h,g,rfl,rfl,rfl,Bc _,λ_ _ _=>rfl,λ i b k=>.inl ⟨i,a k⟩⟩,λ i l h1 p=>?_⟩
 .rcases part f with ⟨d,f⟩ | ⟨d,rfl,m⟩
  .obtain ⟨l,hl,r⟩:=h.obj i c f;exact ⟨l,by rw [left d];exact hl,r.mono (λ_ _ _ h=>h) g (λ_ _ _ _ h=>h) (λ_ _ _ _ h=>h)⟩
  .refine ⟨[],?_,trivial⟩;rw [Ak (by rw [h.len];exact d),Es,if_pos (by rw [h.len];exact m)]
 .have d:=(Ab.1 h1).1;exact ⟨λ_=>⟨by rw [Ag d];exact h1,by rw [left d];exact p⟩,λ e _=>by rw [left d];exact e▸p⟩
def HE {sz:Nat} {xs:List aa} {i j:Nat} {x c:aa} (b:xs[i]? =some x) (d:x.cells[j]? =some c) (hz:x.cells.length=sz):aH sz xs (i*sz+j)=some c:=by
 have a:j<sz:=by grind
 have h1:(i*sz+j) / sz=i:=by rw [De,Kt o_,Nat.div_eq_of_lt a,Fl]
 have e:(i*sz+j) % sz=j:=by rw [De,Nat.mul_add_mod,Hj a]
 simp [aH,h1,e,b,d]
def fV {sz:Nat} {xs:List aa} {o:Nat} {c:aa} (h:aH sz xs o=some c):∃ x,xs[o / sz]? =some x/\x.cells[o % sz]? =some c:=by
 unfold aH at h;cases a:xs[o / sz]? with
 | none=>grind
 | some x=>exact ⟨x,rfl,by grind⟩
def fI {sz:Nat} {xs:List aa} {q:Nat} {c:aa} (hs:0<sz) (h:aH sz xs q=some c):q<xs.length*sz:=by obtain ⟨x,a,_⟩:=fV h;exact (Dl hs).1 (Ab.1 a).1
def yE {sz:Nat} {xs:List aa} {q:Nat} (hs:0<sz) (hz:∀ x∈xs,x.cells.length=sz) (h:q<xs.length*sz):∃ c,aH sz xs q=some c:=by
 have a:q / sz<xs.length:=(Dl hs).2 h;have d:xs[q / sz]? =some xs[q / sz]:=Aa a;have b:q % sz<(xs[q / sz]).cells.length:=by rw [hz _ (Bh a)];exact Fg _ hs
 exact ⟨_,by unfold aH;rw [d];exact Aa b⟩
def cL {sz:Nat} {xs ys:List aa} {o:Nat} (hs:0<sz) (h:o<xs.length*sz):aH sz (xs++ys) o=aH sz xs o:=by have a:o / sz<xs.length:=(Dl hs).2 h;simp [aH,Ag a]
def cE {sz:Nat} {xs ys:List aa} {o:Nat} (hs:0<sz) (h:xs.length*sz<=o):aH sz (xs++ys) o=aH sz ys (o-xs.length*sz):=by
 have b:xs.length<=o / sz:=(Ic hs).2 h;obtain ⟨q,rfl⟩:=Nat.exists_eq_add_of_le h;have h1:(xs.length*sz+q) / sz=xs.length+q / sz:=by rw [De,Kt hs]
 have a:(xs.length*sz+q) % sz=q % sz:=by simp
 simp only [aH,h1,a,Hq];rw [Ak o_];simp
def mN {sz n:Nat} {xs:List aa} {q:Nat} (hs:0<sz) (h:q<n*sz):aH sz (xs.take n) q=aH sz xs q:=by have a:q / sz<n:=(Dl hs).2 h;simp [aH,Bi a]
def zI {sz n:Nat} {xs:List aa} {q:Nat} (hs:0<sz):aH sz (xs.drop n) q=aH sz xs (n*sz+q):=by
 have h1:(n*sz+q) / sz=n+q / sz:=by rw [De,Kt hs]
 have a:(n*sz+q) % sz=q % sz:=by simp
 simp [aH,h1,a,Bp]
def EW {sz i:Nat} {xs ys:List aa} (hs:0<sz) (d:i+ys.length<=xs.length) {q:Nat} {c:aa} (h:aH sz (xs.take i++ys++xs.drop (i+ys.length)) q=some c):
  (i*sz<=q/\q<i*sz+ys.length*sz/\aH sz ys (q-i*sz)=some c)\/((q<i*sz\/i*sz+ys.length*sz<=q)/\aH sz xs q=some c):=by
 have hl:(xs.take i).length=i:=by simp;omega
 have a:(xs.take i++ys).length=i+ys.length:=by simp;omega
 by_cases h1:q<i*sz
 .right;refine ⟨.inl h1,?_⟩;rw [Af,cL hs (by grind),mN hs h1] at h;exact h
 .by_cases b:q<i*sz+ys.length*sz
  .left;rw [cL hs (by rw [a,Bx];exact b),cE hs (by grind),hl] at h
   grind
  .right;refine ⟨.inr o_,?_⟩;rw [cE hs (by rw [a,Bx];omega),zI hs,a] at h;have:(i+ys.length)*sz+(q-(i+ys.length)*sz)=q:=by rw [Bx];omega
   simp_all
def fE {α:Type} (cv vs:List α) (off:Nat) (h:off+vs.length<=cv.length):(cv.take off++vs++cv.drop (off+vs.length)).length=cv.length/\
  ∀ (i:Nat),(cv.take off++vs++cv.drop (off+vs.length))[i]? =if off<=i/\i<off+vs.length then vs[i-off]? else cv[i]?:=by
 refine ⟨by simp;omega,λ i=>?_⟩;by_cases h1:i<off
 .rw [Af,Ag q_,if_neg o_,Bi h1]
 .by_cases a:i<off+vs.length
  .rw [if_pos ⟨by omega,a⟩,Af,Ak q_,Ag q_];congr 1;simp;omega
  .rw [if_neg o_,Ak q_,Bp];congr 1;simp;omega
section
variable {M:Imm} {ob:Hs} {ac:List ab} {w:World}
def dT {hs:List Value} {g:Nat} {v:Value} (hl:hs.length=g+1) (a:hs[g]? =some v):blk hs=JU v:=by unfold blk;rw [Lj,hl,Hw,a]
def mP {hs:List Value} {v:Value} {b:Nat} (h:blk hs=v.ownBlock.toList) (e:v.ownBlock=some b):b∈blk hs:=by grind
def vF {hs:List Value} {v:Value} {b:Nat} (h:blk hs=v.ownBlock.toList) (e:b∈blk hs):v.ownBlock=some b:=by grind
def eT {w:World} {e:TypeId} {sz n:Nat} {v:Value} {cv:List Value} (h:w.ownsRow 0 e sz v n cv):JU v=v.ownBlock.toList:=by rcases h.2 with ⟨rfl,_⟩ | ⟨g,cap,a,rfl,_⟩<;>rfl
def bV {k g:Nat} {hs:List Value} (h:ob[k]? =some hs):at' ob k g=hs[g]?:=by simp [at',h]
def Mem.rowOf (h:Mem M ob ac w) {k g sz:Nat} {e:TypeId} {xs:List aa} (d:ac[k]? =some (.row g sz e xs)):∃ hs v,ob[k]? =some hs/\hs.length=g+1/\hs[g]? =some v/\at' ob k g=some v/\dH M w v sz e xs/\blk hs=v.ownBlock.toList:=by obtain ⟨hs,h1,b,v,h3,a⟩:=h.obj k _ d;refine ⟨hs,v,h1,b,h3,(bV h1).trans h3,a,(dT b h3).trans ?_⟩;obtain ⟨cv,c,_⟩:=a;exact eT c
def Mem.rowTurn (h:Mem M ob ac w) {k g sz:Nat} {e:TypeId} {xs:List aa} (I:ac[k]? =some (.row g sz e xs)) {hs:List Value} {v:Value} (D:ob[k]? =some hs) (O:hs[g]? =some v)
  {w':World} {p:Nat} {hs':List Value} {t:Value} {xs':List aa} (hp:hs<+:hs') (l:hs'.length=p+1) (s:hs'[p]? =some t) (G:dH M w' t sz e xs')
  (heap:∀ b,b<w.heap.size->v.ownBlock≠some b->w'.heap[b]? =w.heap[b]?) (A:w'.os=w.os) (j:w'.tape=w.tape) (m:w'.output=w.output) (i:w.heap.size<=w'.heap.size)
  (N:∀ b,t.ownBlock=some b->v.ownBlock=some b\/w.heap.size<=b):
  Mem M (ob.set k hs') (ac.set k (.row p sz e xs')) w'/\Ext M ob ac w M (ob.set k hs') (ac.set k (.row p sz e xs')) w'/\cH ob ac (ob.set k hs') (ac.set k (.row p sz e xs')):=by
 obtain ⟨P,Q,J,R,C,_,n,f⟩:=h.rowOf I;rw [D] at J;cases J;rw [O] at C;cases C;obtain ⟨cv,F,_,_,_,B,_⟩:=n;obtain ⟨cv',c,_⟩:=id G;have r:∀ b o y,M b o y->v.ownBlock≠some b:=λ b o y x e=>B b e o y x;refine h.turn I D hp (λ e=>by cases e) (λ_ _ _ h=>h) (λ_ _ _ h=>.inl h) (λ b o y x=>?_) (λ b z K=>heap b z λ e=>K ⟨rfl,mP f e⟩) A j m i (λ_=>?_) (λ_ b d=>?_)
 .obtain ⟨u,H,h1,L⟩:=h.imm b o y x;exact ⟨u,(Cr (w:=w) (a:=⟨b,o,none⟩) (heap b (Cs w _ H) (r b o y x))).trans H,h1,L⟩
 .exact ⟨l,t,s,G⟩
 .have d:=vF ((dT l s).trans (eT c)) d;refine ⟨?_,(c.lt b d).2⟩;rcases N b d with q | q
  .exact .inl ⟨rfl,mP f q⟩
  omega
def fR {α:Type} {l:List α} {k:Nat} {x:α} (h:l[k]? =some x):l.set k x=l:=by
 apply Ek;intro i;by_cases a:i=k
 .subst a;rw [Ar (Ab.1 h).1,h]
 .rw [Ay (λ e=>a e.symm)]
def dH.write {v:Value} {sz:Nat} {e:TypeId} {xs xs':List aa} (h:dH M w v sz e xs) {b n cap:Nat} (I:v= .slice (some ⟨b,0,none⟩) n cap) (hs:0<sz) {p:Nat} {news:List Value} (hp:p+news.length<=xs.length*sz)
  (h1:∀ u∈news,u.oneCell'=true) (hl:xs'.length=xs.length) (hz:∀ x∈xs',x.cells.length=sz)
  (D:∀ q c,aH sz xs' q=some c->(p<=q/\q<p+news.length/\∃ u,news[q-p]? =some u/\Rep M [] u c)\/((q<p\/p+news.length<=q)/\aH sz xs q=some c)):
  ∃ a,w.heap[b]? =some (.cells a e (0,0))/\p+news.length<=a.size/\dH M (w.setRow b (a.toList.take p++news++a.toList.drop (p+news.length)).toArray) v sz e xs':=by
 subst I;obtain ⟨cv,⟨V,H⟩,h3,R,J,F,O⟩:=h;rcases H with ⟨s,_⟩ | ⟨g,C,a,s,_,o,G,K,y,N⟩
 .cases s
 cases s;have P:xs.length*sz<=a.size:=by rw [y];exact Bu _ G
 have m:p+news.length<=a.toList.length:=by simp;omega
 obtain ⟨t,A⟩:=fE a.toList news p m;have k:∀ q,q<xs.length*sz->cv[q]? =a.toList[q]?:=λ q d=>by rw [<-N,Bi d]
 refine ⟨a,o,by omega,(a.toList.take p++news++a.toList.drop (p+news.length)).take (xs.length*sz),⟨by rw [hl,Dp,t,Iw];simp;omega,.inr ⟨b,cap,_,by rw [hl],Bv _,setRow_heap w b a _ e _ o,by omega,K,?_,by rw [hl]⟩⟩,λ u f=>?_,hz,λ q c d=>?_,F,λ U Q z T S l u f=>?_⟩
 .rw [Gl,t,Iw,y]
 .obtain ⟨q,d⟩:=Ct f;rw [Gg] at d;split at d
  .rename_i i;rw [A] at d;split at d
   .exact h1 u (Au d)
   .rw [<-k q i] at d;exact h3 u (Au d)
  .cases d
 .have i:=fI hs d;rw [hl] at i;rw [Bi i,A];rcases D q c d with ⟨B,r,u,f,L⟩ | ⟨B,r⟩
  .rw [if_pos ⟨B,r⟩];exact ⟨u,f,L⟩
  .rw [if_neg o_,<-k q i];exact J q c r
 .cases Q;rw [setRow_heap w b a _ e _ o] at l;cases l;have j:∀ u∈a.toList,u.oneCell'=true:=O b rfl _ _ _ o;simp only [Az] at f;rcases f with (f | f) | f
  .exact j u (Cw f)
  .exact h1 u f
  .exact j u (Fa f)
def Mem.rowWrite {P:Program} (h:Mem M ob ac w) {k g sz:Nat} {e:TypeId} {xs xs':List aa} (o:ac[k]? =some (.row g sz e xs)) {b n cap:Nat} (A:at' ob k g=some (.slice (some ⟨b,0,none⟩) n cap)) (hs:0<sz)
  {p:Nat} {news:List Value} (hp:p+news.length<=xs.length*sz) (h1:∀ u∈news,u.oneCell'=true) (hl:xs'.length=xs.length) (hz:∀ x∈xs',x.cells.length=sz)
  (y:∀ q c,aH sz xs' q=some c->(p<=q/\q<p+news.length/\∃ u,news[q-p]? =some u/\Rep M [] u c)\/((q<p\/p+news.length<=q)/\aH sz xs q=some c)):
  ∃ w',(storeCells ⟨b,p,none⟩ news).run P w= .ok () w'/\Mem M ob (ac.set k (.row g sz e xs')) w'/\Ext M ob ac w M ob (ac.set k (.row g sz e xs')) w'/\cH ob ac ob (ac.set k (.row g sz e xs')):=by
 obtain ⟨f,v,s,C,j,l,a,r⟩:=h.rowOf o;rw [A] at l;cases l;obtain ⟨d,z,D,B⟩:=a.write rfl hs hp h1 hl hz y;have hst:=run_storeCells_at P b p e news 0 d w z o_ h1;simp only [Fl] at hst;refine ⟨_,hst,?_⟩;have:=h.rowTurn (hs':=f) o s j (Cn _) C j B (λ m _ t=>setRow_other w b m _ (λ e=>t (by simp [Gk,e]))) rfl rfl rfl s_ (λ m i=>.inl i);rw [fR s] at this;exact this
end
def tW (w:World) (o:Obj):(w.alloc o).heap.size=w.heap.size+1:=by simp
structure Grown (M:Imm) (w w':World) (sz:Nat) (e:TypeId) (v:Value) (xs:List aa):Prop where
 own:∃ cv,w'.ownsRow 0 e sz v xs.length cv/\(∀ u∈cv,u.oneCell'=true)/\∀ (q:Nat) c,aH sz xs q=some c->∃ u,cv[q]? =some u/\Rep M [] u c
 pos:0<sz
 hz:∀ x∈xs,x.cells.length=sz
 blk:∀ b,v.ownBlock=some b->w.heap.size<=b
 heap:∀ b,b<w.heap.size->w'.heap[b]? =w.heap[b]?
 os:w'.os=w.os
 tape:w'.tape=w.tape
 output:w'.output=w.output
 size:w.heap.size<=w'.heap.size
 oneb:R9 w' v
section
variable {M:Imm} {ob:Hs} {ac:List ab} {w w':World} {sz:Nat} {e:TypeId} {v:Value} {xs:List aa}
def fF {w:World} {n:Nat} {cv:List Value} (h:w.ownsRow 0 e sz v n cv) {b:Nat} (c:v.ownBlock=some b) {q:Nat} {u:Value} (a:cv[q]? =some u):w.cell? ⟨b,q,none⟩=some u:=by have:=h.cells (g:=b) c q u a;rwa [bA,Bo] at this
def dD {w:World} {n:Nat} {cv:List Value} (h:w.ownsRow 0 e sz v n cv):(v= .slice none 0 0/\n=0)\/∃ b cap,v= .slice (some ⟨b,0,none⟩) n cap/\v.ownBlock=some b/\n<=cap/\cap<=maxLen:=by
 rcases h.2 with h | ⟨g,cap,c,a,_,_,f,d,_⟩
 .exact .inl h
 .exact .inr ⟨g,cap,a,by rw [a];rfl,f,d⟩
def gR (M:Imm) (v:Value) (sz:Nat) (xs:List aa):Imm:=λ b o x=>M b o x\/(v.ownBlock=some b/\aH sz xs o=some x)
def jM {w:World} {cv:List Value} (h:w.ownsRow 0 e sz v xs.length cv) (hz:∀ x∈xs,x.cells.length=sz) {t:Tk} (a:sO ob v t):Rep (gR M v sz xs) ob v (.slice sz xs t):=by
 rcases dD h with ⟨rfl,g⟩ | ⟨b,cap,n,m,f,l⟩
 .have:xs=[]:=Ax g;subst this;exact .slnil sz t a
 .subst n;refine .sl sz b 0 xs.length cap xs t rfl f (by simp only [maxLen] at l;omega) hz (λ i j x c d k=>.inr ⟨m,?_⟩) a;rw [Bo];exact HE d k (hz x (Au d))
def Grown.imm (g:Grown M w w' sz e v xs) (h:Mem M ob ac w):∀ b o y,gR M v sz xs b o y->∃ u,w'.cell? ⟨b,o,none⟩=some u/\u.oneCell'=true/\Rep (gR M v sz xs) [] u y:=by
 obtain ⟨cv,h1,f,h3⟩:=g.own;intro b o y c;rcases c with c | ⟨i,c⟩
 .obtain ⟨u,d,j,k⟩:=h.imm b o y c;exact ⟨u,(Cr (w:=w) (a:=⟨b,o,none⟩) (g.heap b (Cs w _ d))).trans d,j,k.monoM λ_ _ _ h=>.inl h⟩
 .obtain ⟨u,d,l⟩:=h3 o y c;exact ⟨u,fF h1 i d,f u (Au d),l.monoM λ_ _ _ h=>.inl h⟩
def Grown.more (g:Grown M w w' sz e v xs) (h:Mem M ob ac w):Mem (gR M v sz xs) ob ac w'/\Ext M ob ac w (gR M v sz xs) ob ac w':=
 h.more (λ_ _ _ h=>.inl h) (λ b o y a=>by
  rcases a with a | ⟨c,_⟩
  .grind
  .exact .inr (g.blk b c)) (g.imm h) g.heap g.os g.tape g.output g.size
def Grown.row (g:Grown M w w' sz e v xs) (h:Mem M ob ac w) {k:Nat} (h1:ac[k]? =some .dead) (j:ob[k]? =some []):
  Mem M (ob.set k [v]) (ac.set k (.row 0 sz e xs)) w'/\Ext M ob ac w M (ob.set k [v]) (ac.set k (.row 0 sz e xs)) w'/\cH ob ac (ob.set k [v]) (ac.set k (.row 0 sz e xs)):=by
 obtain ⟨cv,f,m,q⟩:=g.own;refine h.turn h1 j ⟨[v],rfl⟩ (λ_=>rfl) (λ_ _ _ h=>h) (λ_ _ _ h=>.inl h) (λ b o y p=>?_) (λ b c _=>g.heap b c) g.os g.tape g.output g.size (λ_=>⟨rfl,v,rfl,cv,f,m,g.hz,q,λ b c o=>h.noImm (g.blk b c) o,g.oneb⟩) (λ_ b c=>?_)
 .obtain ⟨u,i,l,n⟩:=h.imm b o y p;exact ⟨u,(Cr (w:=w) (a:=⟨b,o,none⟩) (g.heap b (Cs w _ i))).trans i,l,n⟩
 .have d:v.ownBlock=some b:=vF (hs:=[v]) (eT f) c;exact ⟨.inr (g.blk b d),(f.lt b d).2⟩
def Grown.tail (g:Grown M w w' sz e v xs) (h:Mem M ob ac w) {k:Nat} (h1:ac[k]? =some .dead) (j:ob[k]? =some []):
  Mem (gR M v sz xs) (ob.set k [v]) (ac.set k (.tail 0 sz e)) w'/\Ext M ob ac w (gR M v sz xs) (ob.set k [v]) (ac.set k (.tail 0 sz e)) w'/\cH ob ac (ob.set k [v]) (ac.set k (.tail 0 sz e))/\
   Rep (gR M v sz xs) (ob.set k [v]) v (.slice sz xs (.own k 0)):=by
 obtain ⟨cv,i,n,p⟩:=g.own;have l:k<ob.length:=(Ab.1 j).1
 have a:=h.turn (M':=gR M v sz xs) (w':=w') (x':=.tail 0 sz e) (hs':=[v]) h1 j ⟨[v],rfl⟩ (λ_=>rfl) (λ_ _ _ h=>.inl h) (λ b o y c=>by
  rcases c with c | ⟨d,_⟩
  .grind
  .exact .inr (.inr (g.blk b d))) (g.imm h) (λ b d _=>g.heap b d) g.os g.tape g.output g.size
  (λ_=>⟨rfl,v,rfl,_,cv,i,λ b d o m y c=>by
   rcases c with c | ⟨_,c⟩
   .exact h.noImm (g.blk b d) o y c
   .have:=fI g.pos c;omega⟩)
  (λ_ b d=>by
   have f:v.ownBlock=some b:=vF (hs:=[v]) (eT i) d
   exact ⟨.inr (g.blk b f),(i.lt b f).2⟩)
 refine ⟨a.1,a.2.1,a.2.2,jM i g.hz ?_⟩;show at' _ k 0=some v;rw [bV (Ar l)];rfl
end
def CE (w:World):R9 w (.slice none 0 0):=λ b a=>by cases a
def jC {z:Array Value} {n:Nat} (hz:z.toList.all (·.oneCell')=true):∀ u∈(Cg z n).toList,u.oneCell'=true:=by
 intro u b;simp only [Cg,Jx,Ca] at b;obtain ⟨i,d,rfl⟩:=b;have a:0<z.size:=by refine Nat.pos_of_ne_zero λ e=>?_;simp_all
 have c:i % z.size<z.size:=Fg _ a;simp_all
def oU {w:World} {cs:List Value} {n c:Nat} {T:TypeId} (h:∀ u∈cs,u.oneCell'=true):R9 (w.alloc (.cells cs.toArray T)) (.slice (some ⟨w.heap.size,0,none⟩) n c):=by
 intro b e a g f d u i;cases e;rw [heap_alloc_new w _] at d
 grind
def iE {P:Program} (w:World) (t I ty e:TypeId) (i:TypeInfo) (z:Value) (M:P.underlying t=some (.slice e)) (O:P.info? e=some i) (hz:i.zero=some z) (hz1:z.cells.toList.all (·.oneCell')=true)
  (U:z.cells.size=i.size) (v:Value) (n:Nat) (a:List Value) (d:w.ownsRow 0 e i.size v n a) (V:∀ u∈a,u.oneCell'=true) (x:Value) (m:Nat) (news:List Value) (hs:Src P i.size I x m news w)
  (G:n+m<=maxLen) (s:(n+m)*i.bytes<=140737488355328):
  ∃ F w',(Co #[t,I] ty #[v,x]).run P w= .ok F w'/\w'.ownsRow 0 e i.size F (n+m) (a++news)/\w'.os=w.os/\w'.tape=w.tape/\w'.output=w.output/\w.heap.size<=w'.heap.size/\
   ((F.ownBlock=v.ownBlock/\∀ b,v.ownBlock≠some b->w'.heap[b]? =w.heap[b]?)\/(F.ownBlock=some w.heap.size/\∀ b,b<w.heap.size->w'.heap[b]? =w.heap[b]?))/\(R9 w v->R9 w' F):=by
 have f:(a++news).length=(n+m)*i.size:=by rw [Ai,d.1,hs.newsLen,Bx]
 have h63':n+m<=4611686018427387904\/True:=.inr trivial
 have y:∀ (p:Nat),p<n+m->
   (w.drew.alloc (.cells ((a++news).toArray++Cg z.cells (grownCap w (n+m) p e-(n+m))) e)).ownsRow 0 e i.size
    (.slice (some ⟨w.heap.size,0,none⟩) (n+m) (grownCap w (n+m) p e)) (n+m) (a++news):=by
  intro p ho;have S:=grownCap_ge w (n+m) p e;have D:grownCap w (n+m) p e<=maxLen:=grownCap_le_maxLen w (n+m) p e G;refine ⟨f,.inr ⟨w.heap.size,_,_,rfl,Bv _,heap_alloc_new w.drew _,S,D,?_,?_⟩⟩
  .simp only [Array.size_append,Gl,size_zeroCells,U,f,<-Bx];simp_all
  .simp only [Nd];rw [<-f];exact Hl
 have r:∀ (k n' Z:Nat),R9 (w.drew.alloc (.cells ((a++news).toArray++Cg z.cells k) e)) (.slice (some ⟨w.heap.size,0,none⟩) n' Z):=by
  intro k n' Z;have:(a++news).toArray++Cg z.cells k=((a++news)++(Cg z.cells k).toList).toArray:=by simp
  rw [this];refine oU (w:=w.drew) λ u c=>?_;rcases Az.1 c with c | c
  .rcases Az.1 c with c | c
   .exact V u c
   .exact hs.one u c
  .exact jC hz1 u c
 have L:∀ o,w.heap.size<=(w.drew.alloc o).heap.size:=λ o=>by simp
 have H:((n+m:Nat):Int)<=9223372036854775807:=by simp only [maxLen] at G;omega
 rcases d.2 with ⟨rfl,rfl⟩ | ⟨g,cap,l,rfl,_,N,hnc,D,T,B⟩
 .have hx:a=[]:=Ax (by simpa using d.1);subst hx;by_cases hm:m=0
  .subst hm;have hn:news=[]:=Ax (by simpa using hs.newsLen);subst hn;refine ⟨.slice none 0 0,w,?_,Hf w 0 e i.size,rfl,rfl,rfl,Bc _,.inl ⟨rfl,λ_ _=>rfl⟩,λ h=>h⟩;rcases hs.kind with ⟨e',J⟩ | J<;>simp [Co,run_underlying M,run_underlying J,sizeOf,typeInfo,O,hs.len,hs.cells]
  .have K:=run_append_grow_src (P:=P) w t I ty e i z M O hz none 0 0 [] (by rfl) x m news hs o_ H (growslice_fits o_ s);exact ⟨_,_,K,y 0 o_,rfl,rfl,rfl,L _,.inr ⟨rfl,λ b C=>heap_alloc_old w.drew _ C⟩,λ_=>r _ _ _⟩
 .by_cases q:n+m<=cap
  .have hfit:n*i.size+news.length<=l.size:=by rw [hs.newsLen,T,<-Bx];exact Bu _ q
   have hst:=run_storeCells_at P g (n*i.size) e news 0 l w N o_ hs.one;simp only [Fl] at hst;have W:(⟨g,0,none⟩:Addr).add (n*i.size)=⟨g,n*i.size,none⟩:=by rw [bA,Bo]
   have K:(Co #[t,I] ty #[.slice (some ⟨g,0,none⟩) n cap,x]).run P w= .ok (.slice (some ⟨g,0,none⟩) (n+m) cap) (w.setRow g (l.toList.take (n*i.size)++news++l.toList.drop (n*i.size+news.length)).toArray):=by rcases hs.kind with ⟨e',J⟩ | J<;>simp [Co,run_underlying M,run_underlying J,sizeOf,typeInfo,O,hs.len,q,hs.cells,W,hst]
   refine ⟨_,_,K,⟨f,.inr ⟨g,cap,_,rfl,Bv _,setRow_heap w g l _ e _ N,q,D,?_,?_⟩⟩,rfl,rfl,rfl,by simp,.inl ⟨rfl,λ b C=>setRow_other w g b _ (λ e=>C (by simp [Gk,e]))⟩,λ Q b C cur' T' fz Y u c=>?_⟩
   .simp only [Gl,Ai,Dp,Ei,Iw];omega
   .rw [B,<-f];exact Hl
   .cases C;rw [setRow_heap w g l _ e _ N] at Y;cases Y;have A:∀ u∈l.toList,u.oneCell'=true:=Q g rfl _ _ _ N;simp only [Az] at c;rcases c with (c | c) | c
    .exact A u (Cw c)
    .exact hs.one u c
    .exact A u (Fa c)
  .have X:∀ (j:Nat) u,a[j]? =some u->w.cell? ((⟨g,0,none⟩:Addr).add j)=some u:=d.cells (g:=g) rfl;have R:(Cj i.size n (.slice (some ⟨g,0,none⟩) n cap)).run P w.drew= .ok a.toArray w.drew:=run_firstCells_some w.drew i.size n ⟨g,0,none⟩ n cap a d.1 q_;have K:=run_append_grow_src (P:=P) w t I ty e i z M O hz (some ⟨g,0,none⟩) n cap a R x m news hs o_ H (growslice_fits o_ s);exact ⟨_,_,K,y cap o_,rfl,rfl,rfl,L _,.inr ⟨rfl,λ b C=>heap_alloc_old w.drew _ C⟩,λ_=>r _ _ _⟩
section
variable {M:Imm} {ob:Hs} {ac:List ab} {w:World}
structure SrcA (P:Program) (M:Imm) (w:World) (sz:Nat) (tx:TypeId) (x:Value) (ys:List aa):Prop where
 src:∃ news,Src P sz tx x ys.length news w/\∀ (q:Nat) c,aH sz ys q=some c->∃ u,news[q]? =some u/\Rep M [] u c
 hz:∀ y∈ys,y.cells.length=sz
 pre:∀ m,m<=ys.length->∃ news:List Value,(Cj sz m x).run P w= .ok news.toArray w/\news.length=m*sz/\(∀ u∈news,u.oneCell'=true)/\∀ (q:Nat) c,q<m*sz->aH sz ys q=some c->∃ u,news[q]? =some u/\Rep M [] u c
def Mem.appendRow {P:Program} (h:Mem M ob ac w) {t Q ty e:TypeId} {i:TypeInfo} {z:Value} (ht:P.underlying t=some (.slice e)) (hi:P.info? e=some i) (hz:i.zero=some z) (hz1:z.cells.toList.all (·.oneCell')=true)
  (R:z.cells.size=i.size) (p:0<i.size) {k g:Nat} {xs ys:List aa} (X:ac[k]? =some (.row g i.size e xs)) {v x:Value} (hv:at' ob k g=some v) (hs:SrcA P M w i.size Q x ys)
  (O:xs.length+ys.length<=maxLen) (j:(xs.length+ys.length)*i.bytes<=140737488355328):
  ∃ a w' ob',(Co #[t,Q] ty #[v,x]).run P w= .ok a w'/\Mem M ob' (ac.set k (.row (g+1) i.size e (xs++ys))) w'/\Ext M ob ac w M ob' (ac.set k (.row (g+1) i.size e (xs++ys))) w'/\
   cH ob ac ob' (ac.set k (.row (g+1) i.size e (xs++ys)))/\Rep M ob' a (.row k (g+1)):=by
 obtain ⟨n,v0,Z,W,e3,U,G,Y⟩:=h.rowOf X;rw [hv] at U;cases U;obtain ⟨cv,K,V,o3,o4,o5,o6⟩:=G;obtain ⟨⟨news,T,s2⟩,s3⟩:=hs;obtain ⟨a,w',hr,s,S,B,F,r,f,A⟩:=iE (P:=P) w t Q ty e i z ht hi hz hz1 R v xs.length cv K V x ys.length news T O j;have d:∀ b,a.ownBlock=some b->v.ownBlock=some b\/w.heap.size<=b:=λ b D=>by
  rcases f with ⟨q,_⟩ | ⟨q,_⟩
  .exact .inl (q▸D)
  .rw [q] at D;cases D;omega
 have C:dH M w' a i.size e (xs++ys):=by
  refine ⟨cv++news,by simp;omega,λ u J=>?_,λ y I=>?_,λ q c L=>?_,λ b D o=>?_,A o6⟩
  .rcases Az.1 J with J | J
   .exact V u J
   .exact T.one u J
  .rcases Az.1 I with I | I
   .exact o3 y I
   .exact s3 y I
  .by_cases m:q<xs.length*i.size
   .rw [cL p m] at L;rw [Ag (by rw [K.1];exact m)];exact o4 q c L
   .rw [cE p o_] at L;rw [Ak (by rw [K.1];omega),K.1];exact s2 _ c L
  .rcases d b D with q | q
   .exact o5 b q o
   .exact h.noImm q o
 have N:(n++[a]).length=g+1+1:=by simp [W]
 have H:(n++[a])[g+1]? =some a:=by rw [<-W];simp
 have:=h.rowTurn (hs':=n++[a]) X Z e3 ⟨[a],rfl⟩ N H C (λ b m hn=>by
  rcases f with ⟨_,q⟩ | ⟨_,q⟩
  .exact q b hn
  .exact q b m) S B F r d
 refine ⟨a,w',_,hr,this.1,this.2.1,this.2.2,?_⟩;have hk:k<ob.length:=(Ab.1 Z).1;have l:at' (ob.set k (n++[a])) k (g+1)=some a:=by rw [bV (Ar hk)];exact H
 rcases dD s with ⟨q,_⟩ | ⟨b,cap,q,_⟩
 .rw [q] at l⊢;exact .row _ _ _ _ _ l
 .rw [q] at l⊢;exact .row _ _ _ _ _ l
def yS {v:Value} {sz:Nat} {xs:List aa} {e:TypeId} {n:Nat} {cv:List Value} (f:Rep M ob v (.slice sz xs .no)) (d:w.ownsRow 0 e sz v n cv):n=xs.length:=by
 obtain ⟨a,c,rfl,h1,_⟩:=f.slice_inv;rcases dD d with ⟨q,g⟩ | ⟨b,cap,q,_⟩
 .grind
 grind
def Mem.appendTail {P:Program} (h:Mem M ob ac w) {t tx ty e:TypeId} {i:TypeInfo} {z:Value} (ht:P.underlying t=some (.slice e)) (hi:P.info? e=some i) (hz:i.zero=some z) (hz1:z.cells.toList.all (·.oneCell')=true)
  (hzs:z.cells.size=i.size) (A:0<i.size) {k g:Nat} {xs ys:List aa} (S:ac[k]? =some (.tail g i.size e)) {v x:Value} (hv:Rep M ob v (.slice i.size xs (.own k g))) (hs:SrcA P M w i.size tx x ys)
  (h63:xs.length+ys.length<=maxLen) (L:(xs.length+ys.length)*i.bytes<=140737488355328):
  ∃ s w' M' ob',(Co #[t,tx] ty #[v,x]).run P w= .ok s w'/\Mem M' ob' (ac.set k (.tail (g+1) i.size e)) w'/\Ext M ob ac w M' ob' (ac.set k (.tail (g+1) i.size e)) w'/\
   cH ob ac ob' (ac.set k (.tail (g+1) i.size e))/\Rep M' ob' s (.slice i.size (xs++ys) (.own k (g+1))):=by
 obtain ⟨V,hvt⟩:=hv.untok;have hvt':at' ob k g=some v:=hvt;obtain ⟨H,e1,e2,v0,e3,n,cv,C,o5⟩:=h.obj k _ S;have e4:H[g]? =some v:=by rw [<-bV e1];exact hvt'
 rw [e4] at e3;cases e3;have hn:=yS V C;subst hn;obtain ⟨⟨news,s1,s2⟩,s3⟩:=hs
 -- the old row's cells
 have Z:(∀ x∈xs,x.cells.length=i.size)/\(∀ u∈cv,u.oneCell'=true)/\(∀ (q:Nat) c,aH i.size xs q=some c->∃ u,cv[q]? =some u/\Rep M [] u c)/\∀ b,v.ownBlock=some b->b<w.heap.size/\∀ (q:Nat) u,cv[q]? =some u->w.cell? ⟨b,q,none⟩=some u:=by
  have r:∀ b,v.ownBlock=some b->∀ (q:Nat) u,cv[q]? =some u->w.cell? ⟨b,q,none⟩=some u:=λ b d q u m=>fF C d m;cases V with
  | slnil sz t' X=>
   have:cv=[]:=Ax (by simpa using C.1);subst this;exact ⟨λ x S=>by simp at S,λ u m=>by simp at m,λ q c B=>by simp [aH] at B,λ b d=>⟨(C.lt b d).2,r b d⟩⟩
  | slemp sz t' a cap X=>
   have:cv=[]:=Ax (by simpa using C.1);subst this;exact ⟨λ x S=>by simp at S,λ u m=>by simp at m,λ q c B=>by simp [aH] at B,λ b d=>⟨(C.lt b d).2,r b d⟩⟩
  | sl sz b o n cap xs t' hn hc hm N hM X=>
   have ho:o=0:=by
    rcases dD C with ⟨q,_⟩ | ⟨b',cap',q,_⟩
    .cases q
    .cases q;rfl
   subst ho;have p:∀ q,q<xs.length*i.size->∃ u c,cv[q]? =some u/\aH i.size xs q=some c/\u.oneCell'=true/\Rep M [] u c:=λ q B=>by
    obtain ⟨c,hc⟩:=yE A N B;obtain ⟨y,f,hyc⟩:=fV hc;have U:=hM _ _ y c f hyc;have hqq:0+q / i.size*i.size+q % i.size=q:=by rw [Bo,De];exact Fy q _
    rw [hqq] at U;obtain ⟨u,m,h1,F⟩:=h.imm b q c U;have j:q<cv.length:=by rw [C.1];exact B
    have:=r b rfl q _ (Aa j);rw [m] at this;cases this;exact ⟨_,c,Aa j,hc,h1,F⟩
   refine ⟨N,λ u m=>?_,λ q c B=>?_,λ b d=>⟨(C.lt b d).2,r b d⟩⟩
   .obtain ⟨q,B⟩:=Ct m;obtain ⟨u',c,h1,_,F,_⟩:=p q (by have:=(Ab.1 B).1;rw [C.1] at this;exact this);rw [B] at h1;cases h1;exact F
   .obtain ⟨u,c',h1,F,_,h3⟩:=p q (fI A B);rw [B] at F;cases F;exact ⟨u,h1,h3⟩
 obtain ⟨N,o2,o4,o6⟩:=Z;obtain ⟨s,w',T,l,hos,O,hout,Q,G,honeb⟩:=iE (P:=P) w t tx ty e i z ht hi hz hz1 hzs v xs.length cv C o2 x ys.length news s1 h63 L;have D:∀ b,s.ownBlock=some b->v.ownBlock=some b\/w.heap.size<=b:=λ b d=>by
  rcases G with ⟨q,_⟩ | ⟨q,_⟩
  .exact .inl (q▸d)
  .rw [q] at d;cases d;omega
 have J:∀ b,b<w.heap.size->v.ownBlock≠some b\/s.ownBlock≠some b->w'.heap[b]? =w.heap[b]?:=λ b d hne=>by
  rcases G with ⟨e1,F⟩ | ⟨_,F⟩
  .exact F b (by rcases hne with h | h;exact h;rw [<-e1];exact h)
  .exact F b d
 have hzz:∀ y∈xs++ys,y.cells.length=i.size:=λ y f=>by
  rcases Az.1 f with f | f
  .exact N y f
  .exact s3 y f
 have K:∀ (q:Nat) c,aH i.size (xs++ys) q=some c->∃ u,(cv++news)[q]? =some u/\u.oneCell'=true/\Rep M [] u c:=λ q c B=>by
  by_cases j:q<xs.length*i.size
  .rw [cL A j] at B;obtain ⟨u,m,T⟩:=o4 q c B;exact ⟨u,by rw [Ag (by rw [C.1];exact j)];exact m,o2 u (Au m),T⟩
  .rw [cE A o_] at B;obtain ⟨u,m,T⟩:=s2 _ c B;exact ⟨u,by rw [Ak (by rw [C.1];omega),C.1];exact m,s1.one u (Au m),T⟩
 have I:blk H=v.ownBlock.toList:=(dT e2 e4).trans (eT C);have Y:(H++[s]).length=g+1+1:=by simp [e2]
 have R:(H++[s])[g+1]? =some s:=by rw [<-e2];simp
 have W:∀ b o y,s.ownBlock=some b->M b o y->v.ownBlock=some b/\o<xs.length*i.size:=λ b o y d f=>by
  rcases D b d with q | q
  .refine ⟨q,?_⟩;rcases Nh o (xs.length*i.size) with j | hge
   .exact j
   .exact absurd f (o5 b q o hge y)
  .exact absurd f (h.noImm q o y)
 have p:=h.turn (M':=gR M s i.size (xs++ys)) (w':=w') (x':=.tail (g+1) i.size e) (hs':=H++[s]) S e1 ⟨[s],rfl⟩ (λ e=>by cases e) (λ_ _ _ h=>.inl h) (λ b o y f=>by
   rcases f with f | ⟨d,_⟩
   .exact .inl f
   .rcases D b d with q | q
    .exact .inr (.inl ⟨rfl,mP I q⟩)
    omega) (λ b o y f=>by
   rcases f with f | ⟨d,f⟩
   .obtain ⟨u,m,h1,F⟩:=h.imm b o y f;refine ⟨u,?_,h1,F.monoM λ_ _ _ h=>.inl h⟩;by_cases d:s.ownBlock=some b
    .obtain ⟨q1,q2⟩:=W b o y d f;have j:o<cv.length:=by rw [C.1];exact q2
     have:=(o6 b q1).2 o _ (Aa j);rw [m] at this;cases this;exact fF l d (by rw [Ag j];simp)
    .exact (Cr (w:=w) (a:=⟨b,o,none⟩) (J b (Cs w _ m) (.inr d))).trans m
   .obtain ⟨u,m,h1,F⟩:=K o y f
    exact ⟨u,fF l d m,h1,F.monoM λ_ _ _ h=>.inl h⟩)
  (λ b j hn=>J b j (.inl λ e=>hn ⟨rfl,mP I e⟩)) hos O hout Q
  (λ_=>⟨Y,s,R,_,cv++news,l,λ b d o ho y f=>by
   rcases f with f | ⟨_,f⟩
   .have:=(W b o y d f).2;rw [Bx] at ho;omega
   .have:=fI A f
    rw [Ai] at this;omega⟩)
  (λ_ b d=>by
   have hb':s.ownBlock=some b:=vF ((dT Y R).trans (eT l)) d;refine ⟨?_,(l.lt b hb').2⟩;rcases D b hb' with q | q
   .exact .inl ⟨rfl,mP I q⟩
   omega)
 refine ⟨s,w',_,_,T,p.1,p.2.1,p.2.2,jM q_ hzz ?_⟩;show at' _ k (g+1)=some s;rw [bV (Ar (Ab.1 e1).1)];exact R
def append_nil {P:Program} (h:Mem M ob ac w) {t o ty e:TypeId} {i:TypeInfo} {z:Value} (y:P.underlying t=some (.slice e)) (C:P.info? e=some i) (hz:i.zero=some z) (hz1:z.cells.toList.all (·.oneCell')=true)
  (p:z.cells.size=i.size) (l:0<i.size) {ys:List aa} {x:Value} (hs:SrcA P M w i.size o x ys) (u:ys.length<=maxLen) (n:ys.length*i.bytes<=140737488355328):
  ∃ m w',(Co #[t,o] ty #[.slice none 0 0,x]).run P w= .ok m w'/\Grown M w w' i.size e m ys:=by
 obtain ⟨⟨news,s,v⟩,A⟩:=hs;obtain ⟨m,w',B,c,r,g,k,d,a,f⟩:=iE (P:=P) w t o ty e i z y C hz hz1 p _ 0 [] (Hf w 0 e i.size) s_ x ys.length news s o_ q_;rw [Bo,Bn] at c;refine ⟨m,w',B,⟨news,c,s.one,v⟩,l,A,λ b j=>?_,λ b j=>?_,r,g,k,d,f (CE w)⟩
 .rcases a with ⟨q,_⟩ | ⟨q,_⟩
  .rw [q] at j;cases j
  .rw [q] at j;cases j;omega
 .rcases a with ⟨_,q⟩ | ⟨_,q⟩
  .exact q b (by simp [Gk])
  .exact q b j
end
section
variable {M:Imm} {ob:Hs} {ac:List ab} {w:World}
def Mem.sliceCells (h:Mem M ob ac w) {sz b o:Nat} {xs:List aa} (hs:0<sz) (hz:∀ x∈xs,x.cells.length=sz)
  (hm:∀ (i j:Nat) x c,xs[i]? =some x->x.cells[j]? =some c->M b (o+i*sz+j) c):
  ∃ vs:List Value,vs.length=xs.length*sz/\(∀ (j:Nat) u,vs[j]? =some u->w.cell? ⟨b,o+j,none⟩=some u)/\(∀ u∈vs,u.oneCell'=true)/\
   ∀ (q:Nat) c,aH sz xs q=some c->∃ u,vs[q]? =some u/\Rep M [] u c:=by
 have key:∀ q,q<xs.length*sz->∃ u,w.cell? ⟨b,o+q,none⟩=some u/\u.oneCell'=true/\∀ c,aH sz xs q=some c->Rep M [] u c:=by
  intro q e;obtain ⟨c,n⟩:=yE hs hz e;obtain ⟨x,r,k⟩:=fV n;have p:o+q / sz*sz+q % sz=o+q:=by have:=Fy q sz;rw [De] at this;omega
  obtain ⟨v,a,h1,l⟩:=h.imm _ _ _ (hm _ _ _ _ r k);rw [p] at a;exact ⟨v,a,h1,λ s g=>by rw [n] at g;cases g;exact l⟩
 refine ⟨(Di (xs.length*sz)).map λ q=>(w.cell? ⟨b,o+q,none⟩).getD undef,by simp,λ j u d=>?_,λ u d=>?_,λ q c e=>?_⟩
 .simp only [Bf] at d;by_cases m:j<xs.length*sz
  .obtain ⟨v,a,_⟩:=key j m;simp [Dn m,a] at d;rw [a,d]
  .rw [Bk q_] at d;simp at d
 .simp only [Ca,Hn] at d;obtain ⟨q,e,rfl⟩:=d;obtain ⟨v,a,h1,_⟩:=key q e;simp [a,h1]
 .have f:=fI hs e;obtain ⟨v,a,_,l⟩:=key q f;exact ⟨v,by simp only [Bf,Dn f,Mq,a,Jy],l c e⟩
def B0 {P:Program} {sz c m:Nat} {n:Nat} (hm:m<=0) {ys:List aa}:∃ news:List Value,(Cj sz m (.slice none n c)).run P w= .ok news.toArray w/\news.length=m*sz/\(∀ u∈news,u.oneCell'=true)/\∀ (q:Nat) c,q<m*sz->aH sz ys q=some c->∃ u,news[q]? =some u/\Rep M [] u c:=by have:m=0:=o_;subst this;exact ⟨[],rfl,by simp,λ u b=>by simp at b,λ q c a=>by simp at a⟩
def LX {P:Program} {sz n c m:Nat} {a:Addr} {ys:List aa} {vs:List Value} (hm:m*sz<=vs.length) (h:∀ (j:Nat) u,vs[j]? =some u->w.cell? (a.add j)=some u) (h1:∀ u∈vs,u.oneCell'=true)
  (i:∀ (q:Nat) c,aH sz ys q=some c->∃ u,vs[q]? =some u/\Rep M [] u c):
  ∃ news:List Value,(Cj sz m (.slice (some a) n c)).run P w= .ok news.toArray w/\news.length=m*sz/\(∀ u∈news,u.oneCell'=true)/\∀ (q:Nat) c,q<m*sz->aH sz ys q=some c->∃ u,news[q]? =some u/\Rep M [] u c:=by
 have hl:(vs.take (m*sz)).length=m*sz:=by simp;omega
 have e:Cj sz m (.slice (some a) n c)=loadCells a (m*sz):=rfl
 have:=run_loadCells_list (P:=P) w a (vs.take (m*sz)) (λ j v b=>by
  rw [Gg] at b;split at b
  .exact h j v b
  .cases b)
 rw [hl] at this;refine ⟨vs.take (m*sz),by grind,hl,λ u d=>h1 u (Cw d),λ q c k f=>?_⟩;obtain ⟨u,d,g⟩:=i q c f;exact ⟨u,by rw [Bi k];exact d,g⟩
def LW {P:Program} {sz c m n:Nat} {a:Addr} (hm:m<=0) {ys:List aa}:∃ news:List Value,(Cj sz m (.slice (some a) n c)).run P w= .ok news.toArray w/\news.length=m*sz/\(∀ u∈news,u.oneCell'=true)/\∀ (q:Nat) c,q<m*sz->aH sz ys q=some c->∃ u,news[q]? =some u/\Rep M [] u c:=by have:m=0:=o_;subst this;have e:Cj sz 0 (.slice (some a) n c)=loadCells a (0*sz):=rfl;have:=run_loadCells_list (P:=P) w a [] (λ j v b=>by simp at b);simp_all
def SrcA.ofSlice {P:Program} (h:Mem M ob ac w) {sz:Nat} (hs:0<sz) {k A:TypeId} (e:P.underlying k=some (.slice A)) {x:Value} {ys:List aa} {t:Tk} (z:Rep M ob x (.slice sz ys t)):SrcA P M w sz k x ys:=by
 cases z with
 | slnil sz t i=>exact ⟨⟨[],Src.ofNil w e 0,λ q c g=>by simp [aH] at g⟩,λ y f=>by simp at f,λ m hm=>B0 hm⟩
 | slemp sz t a cap i=>exact ⟨⟨[],Src.ofSlice w e a 0 cap [] s_ (λ j u d=>by simp at d) (λ u v=>by simp at v),λ q c g=>by simp [aH] at g⟩,λ y f=>by simp at f,λ m hm=>LW hm⟩
 | sl sz b o n cap xs t r B hm hz s i=>
  subst r;obtain ⟨vs,l1,l2,p,l⟩:=h.sliceCells hs hz s;exact ⟨⟨vs,Src.ofSlice w e ⟨b,o,none⟩ _ cap vs l1 (λ j u d=>by rw [bA];exact l2 j u d) p,l⟩,hz,λ m hm=>LX (vs:=vs) (by rw [l1];exact Bu _ hm) (λ j u d=>by rw [bA];exact l2 j u d) p l⟩
def SrcA.ofRow {P:Program} (h:Mem M ob ac w) {k g sz:Nat} {e:TypeId} {xs:List aa} (hs:0<sz) (U:ac[k]? =some (.row g sz e xs)) {t V:TypeId} (z:P.underlying t=some (.slice V)) {v:Value} (L:at' ob k g=some v)
  {lo len:Nat} (hl:lo+len<=xs.length) {x:Value} (s:∀ b n c,v= .slice (some ⟨b,0,none⟩) n c->len≠0->∃ i,x= .slice (some ⟨b,lo*sz,none⟩) len i) (r:len=0->∃ a i,x= .slice a 0 i):SrcA P M w sz t x ((xs.drop lo).take len):=by
 obtain ⟨T,Y,_,_,_,F,o,_⟩:=h.rowOf U;rw [L] at F;cases F;obtain ⟨cv,B,N,R,K,X⟩:=o;have hz:∀ y∈(xs.drop lo).take len,y.cells.length=sz:=λ y Q=>R y (Fa (Cw Q));have f:((xs.drop lo).take len).length=len:=by simp;omega
 suffices hsuf:(∃ news,Src P sz t x len news w/\∀ (q:Nat) c,aH sz ((xs.drop lo).take len) q=some c->∃ u,news[q]? =some u/\Rep M [] u c)/\
   ∀ m,m<=len->∃ news:List Value,(Cj sz m x).run P w= .ok news.toArray w/\news.length=m*sz/\(∀ u∈news,u.oneCell'=true)/\∀ (q:Nat) c,q<m*sz->aH sz ((xs.drop lo).take len) q=some c->∃ u,news[q]? =some u/\Rep M [] u c by
  exact ⟨by rw [f];exact hsuf.1,hz,λ m hm=>hsuf.2 m o_⟩
 by_cases J:len=0
 .subst J;obtain ⟨a,i,rfl⟩:=r rfl;cases a with
  | none=>exact ⟨⟨[],Src.ofNil w z i,λ q c C=>by simp [aH] at C⟩,λ m hm=>B0 hm⟩
  | some a=>exact ⟨⟨[],Src.ofSlice w z a 0 i [] s_ (λ j u d=>by simp at d) (λ u p=>by simp at p),λ q c C=>by simp [aH] at C⟩,λ m hm=>LW hm⟩
 .rcases dD B with ⟨q,W⟩ | ⟨b,cap,q,S,_⟩
  .omega
  .obtain ⟨i,rfl⟩:=s b _ cap q J;have A:(lo+len)*sz<=cv.length:=by rw [B.1];exact Bu _ hl
   have H:((cv.drop (lo*sz)).take (len*sz)).length=len*sz:=by rw [Dp,Ei];rw [Bx] at A;omega
   have G:∀ (j:Nat) u,((cv.drop (lo*sz)).take (len*sz))[j]? =some u->w.cell? ((⟨b,lo*sz,none⟩:Addr).add j)=some u:=λ j u d=>by
    rw [Gg] at d;split at d
    .rw [Bp] at d;rw [bA];exact fF B S d
    .cases d
   have I:∀ u∈(cv.drop (lo*sz)).take (len*sz),u.oneCell'=true:=λ u p=>N u (Fa (Cw p));have D:∀ (j:Nat) c,aH sz ((xs.drop lo).take len) j=some c->∃ u,((cv.drop (lo*sz)).take (len*sz))[j]? =some u/\Rep M [] u c:=λ j c d=>by have l:=fI hs d;rw [f] at l;rw [mN hs l,zI hs] at d;obtain ⟨u,p,O⟩:=K _ c d;exact ⟨u,by rw [Bi l,Bp];exact p,O⟩
   exact ⟨⟨_,Src.ofSlice w z _ _ _ _ H G I,D⟩,λ m hm=>LX (by rw [H];exact Bu _ hm) G I D⟩
def oW (l:List UInt8):(⟨l.toArray⟩:ByteArray).size=l.length:=by rfl
def uY (c:UInt8):Rep M ob (.int .u8 c.toNat) (ub c):=.int _ _ ⟨by simp only [cJ];omega,by simp only [bE];have:=c.toNat_lt;omega⟩
def SP (l:List UInt8):∀ y∈l.map ub,y.cells.length=1:=λ y a=>by obtain ⟨c,_,rfl⟩:=Ca.1 a;rfl
def yD (l:List UInt8) (q:Nat):aH 1 (l.map ub) q=(l[q]?).map ub:=by unfold aH;rw [Ip,Jd,Bf];cases l[q]?<;>rfl
def SrcA.ofStr {P:Program} {g:TypeId} (h:P.underlying g=some .string) (l:List UInt8):SrcA P M w 1 g (.string ⟨l.toArray⟩) (l.map ub):=by
 have f:∀ (q:Nat) c,aH 1 (l.map ub) q=some c->∃ b,l[q]? =some b/\c=ub b:=λ q c a=>by
  rw [yD] at a;obtain ⟨b,d,rfl⟩:=Cd.1 a
  grind
 refine ⟨⟨byteCells ⟨l.toArray⟩,?_,λ q c a=>?_⟩,SP l,λ m hm=>⟨(l.take m).map λ b=>Eb .u8 b.toNat,?_,by grind,λ u j=>by obtain ⟨_,_,rfl⟩:=Ca.1 j;rfl,λ q c a i=>?_⟩⟩
 .have:=Src.ofString (P:=P) w h ⟨l.toArray⟩;rw [oW] at this
  grind
 .rw [yD] at a;obtain ⟨b,d,rfl⟩:=Cd.1 a;exact ⟨.int .u8 b.toNat,by simp [byteCells,d],uY b⟩
 .have e:(Cj 1 m (.string ⟨l.toArray⟩)).run P w= .ok (((⟨l.toArray⟩:ByteArray).extract 0 m).data.map λ b=>Eb .u8 b.toNat) w:=rfl;rw [e];simp
 .obtain ⟨b,d,rfl⟩:=f q c i;rw [Nat.mul_one] at a;exact ⟨.int .u8 b.toNat,by rw [Bf,Bi a,d];rfl,uY b⟩
def OU {P:Program} (h:Mem M ob ac w) {t L ty e:TypeId} {i:TypeInfo} {z:Value} (F:P.underlying t=some (.slice e)) (S:P.info? e=some i) (hz:i.zero=some z) (hz1:z.cells.toList.all (·.oneCell')=true)
  (Z:z.cells.size=i.size) (g:0<i.size) {xs ys:List aa} {v x:Value} (hv:Rep M ob v (.slice i.size xs .full)) (hs:SrcA P M w i.size L x ys)
  (H:xs.length+ys.length<=maxLen) (m:(xs.length+ys.length)*i.bytes<=140737488355328):
  ∃ N w',(Co #[t,L] ty #[v,x]).run P w= .ok N w'/\((ys=[]/\N=v/\w'=w)\/(ys≠[]/\Grown M w w' i.size e N (xs++ys))):=by
 obtain ⟨A,⟨a,n,V⟩⟩:=hv.untok;obtain ⟨⟨news,D,s2⟩,s3⟩:=hs;obtain ⟨a',c,X,h0,h1,_⟩:=A.slice_inv;subst V;cases X;have U:((xs.length+ys.length:Nat):Int)<=9223372036854775807:=by simp only [maxLen] at H;omega
 by_cases r:ys=[]
 .subst r;refine ⟨_,w,?_,.inl ⟨rfl,rfl,rfl⟩⟩;have hn:news=[]:=Ax (by simpa using D.newsLen);subst hn;have C:Src P i.size L x 0 [] w:=D;cases a with
  | none=>rcases C.kind with ⟨e',I⟩ | I<;>simp [Co,run_underlying F,run_underlying I,sizeOf,typeInfo,S,C.len,C.cells]
  | some a=>rcases C.kind with ⟨e',I⟩ | I<;>simp [Co,run_underlying F,run_underlying I,sizeOf,typeInfo,S,C.len,C.cells,storeCells]
 .have Y:0<ys.length:=Dy.2 r
  have pre:(∀ x∈xs,x.cells.length=i.size)/\∃ d:List Value,d.length=xs.length*i.size/\(Cj i.size xs.length (.slice a xs.length xs.length)).run P w.drew= .ok d.toArray w.drew/\(∀ u∈d,u.oneCell'=true)/\
    ∀ (q:Nat) c,aH i.size xs q=some c->∃ u,d[q]? =some u/\Rep M [] u c:=by
   have s:xs=[]->(∀ x∈xs,x.cells.length=i.size)/\∃ d:List Value,d.length=xs.length*i.size/\(Cj i.size xs.length (.slice a xs.length xs.length)).run P w.drew= .ok d.toArray w.drew/\(∀ u∈d,u.oneCell'=true)/\
     ∀ (q:Nat) c,aH i.size xs q=some c->∃ u,d[q]? =some u/\Rep M [] u c:=by
    intro T;subst T;refine ⟨λ x T=>by simp at T,[],by simp,?_,λ u f=>by simp at f,λ q c G=>by simp [aH] at G⟩;cases a<;>simp [Cj,loadCells,loadCellsFrom]
   generalize B:Gu a xs.length xs.length=v at A;cases A with
   | slnil sz t F=>have q:=s rfl;rw [B] at q;exact q
   | slemp sz t a cap F=>have q:=s rfl;rw [B] at q;exact q
   | sl sz b o n cap xs t hn hc hm p hM F=>
    injection B with v1 v2 v3
    subst v1;obtain ⟨d,J,k2,K,O⟩:=h.sliceCells g p hM;exact ⟨p,d,J,run_firstCells_some w.drew i.size _ ⟨b,o,none⟩ _ _ d J (λ j u hj=>by rw [bA];simpa using k2 j u hj),K,O⟩
  obtain ⟨p,d,J,k2,K,O⟩:=pre;have hr:=run_append_grow_src (P:=P) w t L ty e i z F S hz a xs.length xs.length d k2 x ys.length news D o_ U (growslice_fits o_ m);have hge:=grownCap_ge w (xs.length+ys.length) xs.length e;have Q:grownCap w (xs.length+ys.length) xs.length e<=maxLen:=grownCap_le_maxLen w (xs.length+ys.length) xs.length e H;have l:(d++news).length=(xs.length+ys.length)*i.size:=by rw [Ai,J,D.newsLen,Bx]
  refine ⟨_,_,hr,.inr ⟨r,⟨d++news,⟨by rw [l,Ai],.inr ⟨w.heap.size,_,_,by simp,Bv _,heap_alloc_new w.drew _,by simp;omega,Q,?_,?_⟩⟩,λ u f=>?_,λ q c G=>?_⟩,g,λ y r=>?_,λ b R=>?_,λ b R=>heap_alloc_old w.drew _ R,rfl,rfl,rfl,by simp,?_⟩⟩
  .simp only [Array.size_append,Gl,size_zeroCells,Z,l,<-Bx];congr 1;omega
  .rw [Ai];simp only [Nd];rw [<-l];exact Hl
  .rcases Az.1 f with f | f
   .exact K u f
   .exact D.one u f
  .by_cases W:q<xs.length*i.size
   .rw [cL g W] at G;rw [Ag o_];exact O q c G
   .rw [cE g o_] at G;rw [Ak o_,J];exact s2 _ c G
  .rcases Az.1 r with r | r
   .exact p y r
   .exact s3 y r
  .simp only [Gk,Ds] at R;omega
  .have:∀ k,(d++news).toArray++Cg z.cells k=((d++news)++(Cg z.cells k).toList).toArray:=λ k=>by simp
   rw [this];refine oU (w:=w.drew) λ u f=>?_;rcases Az.1 f with f | f
   .rcases Az.1 f with f | f
    .exact K u f
    .exact D.one u f
   .exact jC hz1 u f
def Grown.ofAlloc {sz:Nat} {e:TypeId} {xs:List aa} {cv:List Value} (a:0<sz) (f:cv.length=xs.length*sz) (h1:∀ u∈cv,u.oneCell'=true) (hz:∀ x∈xs,x.cells.length=sz) (hm:xs.length<=maxLen)
  (g:∀ (q:Nat) c,aH sz xs q=some c->∃ u,cv[q]? =some u/\Rep M [] u c):Grown M w (w.alloc (.cells cv.toArray e)) sz e (.slice (some ⟨w.heap.size,0,none⟩) xs.length xs.length) xs:=by
 refine ⟨⟨cv,⟨f,.inr ⟨w.heap.size,xs.length,cv.toArray,rfl,Bv _,heap_alloc_new w _,Bc _,hm,by omega,by grind⟩⟩,h1,g⟩,a,hz,λ b d=>?_,λ b d=>heap_alloc_old w _ d,rfl,rfl,rfl,by simp,oU h1⟩;simp only [Gk,Ds] at d;omega
def Mem.bornCells (h:Mem M ob ac w) {k:Nat} (h1:ac[k]? =some .dead) (f:ob[k]? =some []) {cv:List Value} {cs:List aa} (T:TypeId) (hl:cv.length=cs.length) (c:∀ v∈cv,v.oneCell'=true)
  (p:∀ (i:Nat) v a,cv[i]? =some v->cs[i]? =some a->Rep M ob v a):
  Mem M (ob.set k [.pointer (some ⟨w.heap.size,0,none⟩)]) (ac.set k (.cells T cs)) (w.alloc (.cells cv.toArray T))/\Ext M ob ac w M (ob.set k [.pointer (some ⟨w.heap.size,0,none⟩)]) (ac.set k (.cells T cs)) (w.alloc (.cells cv.toArray T))/\
   cH ob ac (ob.set k [.pointer (some ⟨w.heap.size,0,none⟩)]) (ac.set k (.cells T cs))/\Rep M (ob.set k [.pointer (some ⟨w.heap.size,0,none⟩)]) (.pointer (some ⟨w.heap.size,0,none⟩)) (.ref k 0):=by
 have l:k<ob.length:=(Ab.1 f).1
 have:=h.turn (M':=M) (w':=w.alloc (.cells cv.toArray T)) (x':=.cells T cs) (hs':=[.pointer (some ⟨w.heap.size,0,none⟩)]) h1 f ⟨_,rfl⟩ (λ_=>rfl) (λ_ _ _ h=>h) (λ_ _ _ h=>.inl h) (λ b o y q=>by
   obtain ⟨u,g,j,n⟩:=h.imm b o y q
   exact ⟨u,(Cr (w:=w) (a:=⟨b,o,none⟩) (heap_alloc_old w _ (Cs w _ g))).trans g,j,n⟩)
  (λ b d _=>heap_alloc_old w _ d) rfl rfl rfl s_ (λ e=>⟨_,rfl,λ o=>h.noImm (Bc _) o,cv,heap_alloc_new w _,hl,c,λ i v a m r=>(p i v a m r).mono (λ_ _ _ h=>h) e⟩)
  (λ_ b d=>by
   have:w.heap.size=b:=dM.1 d
   simp;omega)
 refine ⟨this.1,this.2.1,this.2.2,.ref k 0 _ ?_⟩;rw [bV (Ar l)];rfl
def Mem.bornMap (h:Mem M ob ac w) {k:Nat} (h1:ac[k]? =some .dead) (f:ob[k]? =some []) (d:Bool):
  Mem M (ob.set k [.map (some w.heap.size)]) (ac.set k (.mp d [])) (w.alloc (.map #[] 0))/\Ext M ob ac w M (ob.set k [.map (some w.heap.size)]) (ac.set k (.mp d [])) (w.alloc (.map #[] 0))/\
   cH ob ac (ob.set k [.map (some w.heap.size)]) (ac.set k (.mp d []))/\Rep M (ob.set k [.map (some w.heap.size)]) (.map (some w.heap.size)) (.mref k):=by
 have n:k<ob.length:=(Ab.1 f).1
 have:=h.turn (M':=M) (w':=w.alloc (.map #[] 0)) (x':=.mp d []) (hs':=[.map (some w.heap.size)]) h1 f ⟨_,rfl⟩ (λ_=>rfl) (λ_ _ _ h=>h) (λ_ _ _ h=>.inl h) (λ b o y q=>by
   obtain ⟨u,g,l,p⟩:=h.imm b o y q
   exact ⟨u,(Cr (w:=w) (a:=⟨b,o,none⟩) (heap_alloc_old w _ (Cs w _ g))).trans g,l,p⟩)
  (λ b e _=>heap_alloc_old w _ e) rfl rfl rfl s_ (λ m=>⟨_,rfl,λ o=>h.noImm (Bc _) o,[],0,heap_alloc_new w _,rfl,λ i x y c=>by simp at c,λ i x c=>by simp at c,λ i j x y c=>by simp at c⟩)
  (λ_ b e=>by
   have:w.heap.size=b:=dM.1 e
   simp_all)
 refine ⟨this.1,this.2.1,this.2.2,.mref k _ ?_⟩;rw [bV (Ar n)];rfl
def Mem.cellsTurn (h:Mem M ob ac w) {k:Nat} {T:TypeId} {cs cs':List aa} (t:ac[k]? =some (.cells T cs)) {b:Nat} (r:at' ob k 0=some (.pointer (some ⟨b,0,none⟩))) {cv':List Value} (hl:cv'.length=cs'.length) (h1:∀ u∈cv',u.oneCell'=true)
  (C:∀ (i:Nat) v a,cv'[i]? =some v->cs'[i]? =some a->Rep M ob v a):
  Mem M ob (ac.set k (.cells T cs')) (w.setRow b cv'.toArray)/\Ext M ob ac w M ob (ac.set k (.cells T cs')) (w.setRow b cv'.toArray)/\cH ob ac ob (ac.set k (.cells T cs')):=by
 obtain ⟨hs,n,c,j,g,cv,q,_⟩:=h.obj k _ t;have:c=b:=by rw [bV n,j] at r;simpa using r
 subst this;have f:=fR (l:=ob) n
 have:=h.turn (M':=M) (w':=w.setRow c cv'.toArray) (x':=.cells T cs') (hs':=hs) t n (Cn _) (λ e=>by cases e) (λ_ _ _ h=>h) (λ_ _ _ h=>.inl h) (λ b o y s=>by
   obtain ⟨u,D,z,B⟩:=h.imm b o y s;have p:b≠c:=λ e=>by subst e;exact g o y s
   exact ⟨u,(Cr (w:=w) (a:=⟨b,o,none⟩) (setRow_other w c b _ p)).trans D,z,B⟩)
  (λ b _ x=>setRow_other w c b _ λ e=>x ⟨rfl,by subst e;rw [j];exact dM.2 rfl⟩) rfl rfl rfl s_ (λ m=>⟨c,j,g,cv',setRow_heap w c _ _ T _ q,hl,h1,λ i v a A F=>(C i v a A F).mono (λ_ _ _ h=>h) m⟩)
  (λ_ b d=>⟨.inl ⟨rfl,d⟩,by
   have:c=b:=by rw [j] at d;exact dM.1 d
   subst this;have:=eX q
   simp;omega⟩)
 rw [f] at this;exact this
end
section
variable {M:Imm} {ob:Hs} {ac:List ab} {w:World}
def bX {M':Imm} {ob':Hs} {f:aa->aa} (g:∀ v a,Rep M ob v a->Rep M' ob' v (f a)) {as:List aa} {vs:List Value} (hl:vs.length=as.length) (h:∀ (i:Nat) v a,vs[i]? =some v->as[i]? =some a->Rep M ob v a):
  vs.length=(dX f as).length/\∀ (i:Nat) v a,vs[i]? =some v->(dX f as)[i]? =some a->Rep M' ob' v a:=by
 rw [vN];refine ⟨by grind,λ i v a d c=>?_⟩;rw [Bf] at c;obtain ⟨b,e,rfl⟩:=Cd.1 c
 grind
def wS {k g:Nat} {v:Value} {hs:List Value} (h1:ob[k]? =some hs) (a:at' ob k g=some v):hs[g]? =some v:=by rw [<-bV h1];exact a
def aIR {b o n sz:Nat} {xs:List aa} (k:xs.length=n) (hm:(n:Int)<=9223372036854775807) (hz:∀ x∈xs,x.cells.length=sz) (h:∀ (i j:Nat) x c,xs[i]? =some x->x.cells[j]? =some c->M b (o+i*sz+j) c)
  {lo len d:Nat} (hl:lo+len<=n) (f:len<=d) {t:Tk} (g:sO ob (.slice (some ⟨b,o+lo*sz,none⟩) len d) t):Rep M ob (.slice (some ⟨b,o+lo*sz,none⟩) len d) (.slice sz ((xs.drop lo).take len) t):=by
 refine .sl sz b _ len d _ t q_ f o_ (λ x a=>hz x (Fa (Cw a))) (λ i j x c a e=>?_) g;rw [Gg] at a;split at a
 .rw [Bp] at a;have:=h (lo+i) j x c a e;rwa [Bx,<-Kf] at this
 .cases a
def Mem.pureV (h:Mem M ob ac w):∀ (n:Nat) (v:Value) (a:aa),Rep M ob v a->Rep M [] v (ah (aC ac) n a):=by
 intro n;induction n with
 | zero=>intro v a _;exact .undef v
 | succ n u=>
  intro v a e;cases e with
  | undef v=>exact .undef v
  | bool b=>exact .bool b
  | int k n e=>exact .int k n e
  | str l hl=>exact .str l hl
  | agg vs as hl e=>
   obtain ⟨h1,f⟩:=bX (u) hl e;exact .agg vs _ h1 f
  | tup vs as hl e=>
   obtain ⟨h1,f⟩:=bX (u) hl e;exact .tup vs _ h1 f
  | ptr b o cs e=>exact .ptr b o cs e
  | ref k off b m=>
   simp only [AW.ah];split
   .rename_i cs p;obtain ⟨hs,h1,I,f,h3⟩:=h.obj k _ (bD p s_);have:=wS h1 m;rw [f] at this;simp at this;subst this;exact .ptr _ _ _ λ j c d=>by rw [lN,Bp] at d;simp_all
   .exact .undef _
  | eref k g i sz off b n c m=>exact .undef _
  | rowc k g c a n h hm=>exact .undef _
  | pre k g n c sz b len h d A hl hm=>exact .undef _
  | csl k off len sz b m hm=>
   simp only [AW.ah];split
   .rename_i cs p;cases z:Aw sz 1 with
    | false=>exact .undef _
    | true=>
     simp only [cond_true];split
     .rename_i l hl;cases H:oT l with
      | false=>exact .undef _
      | true=>
       simp only [cond_true];obtain ⟨hs,h1,I,f,h3⟩:=h.obj k _ (bD p s_);have:=wS h1 m;rw [f] at this;simp at this;subst this;obtain ⟨l1,l2⟩:=iX hl;refine .sl 1 _ off len len l .full l1 (Bc _) hm (λ x C=>?_) (λ i j x c C d=>?_) ⟨_,_,rfl⟩
       .obtain ⟨i,R⟩:=Ct C;rw [nO (kX H i x R)];rfl
       .rw [nO (kX H i x C)] at d;cases j with
        | succ j=>simp at d
        | zero=>
         simp at d;subst d;have:=l2 i x C;rw [lN,Bp] at this;have:=h3 _ x this
         grind
     .exact .undef _
   .exact .undef _
  | row k g a n c m=>
   simp only [AW.ah];split
   .rename_i y sz xs p;cases z:Aw g y with
    | false=>exact .undef _
    | true=>
     have:=aB z;subst this;simp only [cond_true];obtain ⟨hs,h1,K,f,h3⟩:=h.obj k _ (bD p s_);have:=wS h1 m
     grind
   .exact .undef _
  | sub k g lo len sz b n c m hl A d hm=>
   simp only [AW.ah];split
   .rename_i y s xs p;cases z:(Aw g y&&Aw sz s) with
    | false=>exact .undef _
    | true=>
     obtain ⟨r,B⟩:=aU z;have:=aB r;have:=aB B
     subst_vars
     simp only [cond_true];obtain ⟨hs,h1,K,f,h3⟩:=h.obj k _ (bD p s_);have:=wS h1 m;rw [f] at this;cases this;rcases h3.sl_inv with ⟨q,_⟩ | ⟨a,cap,q,B⟩ | ⟨I,T,J,q,S,N,hz,Q⟩
     .cases q
     .injection q with _ q3 _
      have:len=0:=o_;subst this;rw [Iq];exact .slemp _ _ _ _ trivial
     .injection q with r B q3
      injection r with r
      injection r with r q4 _
      subst r q4;have:=aIR (ob:=[]) (t:=.no) B.symm hm hz Q A (show len<=c-lo by omega) trivial;rw [Bo] at this;exact this
   .exact .undef _
  | sub0 k g lo sz _ a n c m hl d=>
   simp only [AW.ah];split
   .rename_i y s xs p;cases z:(Aw g y&&Aw sz s) with
    | false=>exact .undef _
    | true=>
     simp only [cond_true,Iq];cases a with
     | none=>exact .slnil _ _ trivial
     | some a=>exact .slemp _ _ _ _ trivial
   .exact .undef _
  | mref k b m=>exact .undef _
  | nilptr=>exact .nilptr
  | nilslice=>exact .nilslice
  | nilmap=>exact .nilmap
  | nilfunc=>exact .nilfunc
  | nilif=>exact .nilif
  | hsl a n c=>exact .hsl a n c
  | slnil sz t G=>exact .slnil sz .no trivial
  | slemp sz t a cap G=>exact .slemp sz .no a cap trivial
  | sl sz b o n cap xs t A d hm hz e G=>exact .sl sz b o n cap xs .no A d hm hz e trivial
  | func fn O cs U V P d D F=>
   obtain ⟨h1,f⟩:=bX (u) P D;obtain ⟨h3,L⟩:=bX (u) d F;exact .func fn O cs _ _ h1 h3 f L
  | iface t v a e=>exact .iface t v _ (u v a e)
def aO {k:Nat} {x y:ab} (h:ac[k]? =some x):bJ ac k y=ac.set k y:=gK y (Ab.1 h).1
def oG (M:Imm) (ob:Hs) (ac:List ab) (w:World) (ap:List ab):Prop:=∃ M',Mem M' ob ap w/\Ext M ob ac w M' ob ap w/\(∀ k:Nat,ac[k]? =some .dead->ap[k]? =some .dead)/\ap.length=ac.length
def oG.refl (h:Mem M ob ac w):oG M ob ac w ac:=⟨M,h,Ext.refl _ _ _ _,λ_ h=>h,rfl⟩
def oG.trans {a b:List ab} (h:oG M ob ac w a) (k:∀ M',Mem M' ob a w->oG M' ob a w b):oG M ob ac w b:=by obtain ⟨c,h1,l,h3,m⟩:=h;obtain ⟨j,g,d,e,f⟩:=k c h1;exact ⟨j,g,l.trans d,λ i n=>e i (h3 i n),f.trans m⟩
def Mem.frzR (h:Mem M ob ac w) (k g:Nat):oG M ob ac w (AW.frzR ac k g):=by
 unfold AW.frzR;split
 .rename_i t sz e xs r;cases C:Aw g t with
  | false=>exact .refl h
  | true=>
   have:=aB C;subst this;simp only [cond_true];have l:=bD r s_;rw [aO l];obtain ⟨hs,v,m,G,p,F,⟨cv,n,x,B,s,D⟩,d⟩:=h.rowOf l
   have a:=h.turn (M':=gR M v sz xs) (w':=w) (x':=.frow g sz xs) (hs':=hs) l m (Cn _) (λ e=>by cases e) (λ_ _ _ h=>.inl h) (λ b o y c=>by
     rcases c with c | ⟨j,_⟩
     .grind
     .exact .inr (.inl ⟨rfl,mP d j⟩)) (λ b o y c=>by
     rcases c with c | ⟨j,c⟩
     .obtain ⟨u,f,h1,q⟩:=h.imm b o y c;exact ⟨u,f,h1,q.monoM λ_ _ _ h=>.inl h⟩
     .obtain ⟨u,f,z⟩:=s o y c
      exact ⟨u,fF n j f,x u (Au f),z.monoM λ_ _ _ h=>.inl h⟩) (λ_ _ _=>rfl) rfl rfl rfl (Bc _)
    (λ_=>⟨v,p,jM n B trivial⟩) (λ e=>by cases e)
   rw [fR m] at a;exact ⟨_,a.1,a.2.1,λ i A=>by rw [Ay (λ e=>by grind)];exact A,by simp⟩
 .exact .refl h
def Mem.frz1 (h:Mem M ob ac w) (k:Nat):oG M ob ac w (AW.frz1 ac k):=by
 unfold AW.frz1;split
 .rename_i cs z;have l:=bD z s_;rw [aO l];obtain ⟨hs,p,m,q,F,cv,r,A,B,t⟩:=h.obj k _ l;have n:cv.length=(dX (AW.ah (aC ac) 4) cs).length/\∀ (i:Nat) v a,cv[i]? =some v->(dX (AW.ah (aC ac) 4) cs)[i]? =some a->Rep M [] v a:=bX (h.pureV 4) A t
  let M':Imm:=λ b o y=>M b o y\/(b=m/\(dX (AW.ah (aC ac) 4) cs)[o]? =some y)
  have d:=h.turn (M':=M') (w':=w) (x':=.fcells (dX (AW.ah (aC ac) 4) cs)) (hs':=hs) l p (Cn _) (λ e=>by cases e) (λ_ _ _ h=>.inl h) (λ b o y f=>by
    rcases f with f | ⟨rfl,_⟩
    .exact .inl f
    .exact .inr (.inl ⟨rfl,by rw [q];exact dM.2 rfl⟩)) (λ b o y f=>by
    rcases f with f | ⟨rfl,f⟩
    .obtain ⟨u,D,h1,x⟩:=h.imm b o y f;exact ⟨u,D,h1,x.monoM λ_ _ _ h=>.inl h⟩
    .have g:o<cv.length:=by rw [n.1];exact (Ab.1 f).1
     exact ⟨cv[o],by rw [cell_of_row w b _ _ _ (0,0) r];simp [g],B _ (Bh g),(n.2 o _ y (Aa g) f).monoM λ_ _ _ h=>.inl h⟩) (λ_ _ _=>rfl) rfl rfl rfl (Bc _)
   (λ_=>⟨m,q,λ j c s=>.inr ⟨rfl,s⟩⟩) (λ e=>by cases e)
  rw [fR p] at d;exact ⟨_,d.1,d.2.1,λ i C=>by rw [Ay (λ e=>by simp_all)];exact C,by simp⟩
 .exact .refl h
def Mem.foldO {f:List ab->aa->List ab} (b:∀ (M:Imm) (ac:List ab) (a:aa),Mem M ob ac w->oG M ob ac w (f ac a)):∀ (l:List aa) (M:Imm) (ac:List ab),Mem M ob ac w->oG M ob ac w (foldO f ac l)
 | [],_,_,h=>.refl h
 | c::r,M,ac,h=>(b M ac c h).trans λ M' d=>Mem.foldO b r M' _ d
def Mem.frzV:∀ (n:Nat) (M:Imm) (ac:List ab) (a:aa),Mem M ob ac w->oG M ob ac w (frzV n ac a):=by
 intro n;induction n with
 | zero=>intro M ac a h;exact .refl h
 | succ n d=>
  intro M ac a h;cases a
  case agg cs=>exact Mem.foldO d _ _ _ h
  case tup cs=>exact Mem.foldO d _ _ _ h
  case func fn fs cs=>exact (Mem.foldO d _ _ _ h).trans λ M' e=>Mem.foldO d _ _ _ e
  case iface t v=>exact d _ _ _ h
  case ref k off=>
   simp only [AW.frzV];split
   .exact (Mem.foldO d _ _ _ h).trans λ M' e=>e.frz1 k
   .exact .refl h
  case csl k a b c=>
   simp only [AW.frzV];split
   .exact (Mem.foldO d _ _ _ h).trans λ M' e=>e.frz1 k
   .exact .refl h
  case row k g=>exact h.frzR k g
  case sub k g a b c=>exact h.frzR k g
  all_goals exact .refl h
def Mem.frzL (l:List aa) (h:Mem M ob ac w):oG M ob ac w (frzL ac l):=Mem.foldO (Mem.frzV 6) l M ac h
def Mem.frzs:∀ (l:List Nat) (M:Imm) (ac:List ab),Mem M ob ac w->oG M ob ac w (aj l ac)
 | [],_,_,h=>.refl h
 | k::r,M,ac,h=>by
  unfold AW.aj;split
  .exact (h.frzR _ _).trans λ M' a=>Mem.frzs r M' _ a
  .exact (Mem.frzV 6 M ac _ h).trans λ M' a=>Mem.frzs r M' _ a
  .exact Mem.frzs r M _ h
end
def LY {k:Nat}:∀ {ks:List Nat} {j i:Nat},pos k j ks=some i->j<=i/\ks[i-j]? =some k
 | [],j,i,h=>by cases h
 | x::r,j,i,h=>by
  simp only [pos] at h;cases a:Aw x k with
  | true=>
   simp_all
  | false=>
   rw [a] at h;obtain ⟨h1,b⟩:=LY (ks:=r) h;refine ⟨by omega,?_⟩;rw [show i-j=(i-(j+1))+1 from by omega];simp_all
def TU {k i:Nat} {ks:List Nat} (h:pos k 0 ks=some i):ks[i]? =some k:=by simpa using (LY h).2
def nS {ac:List ab}:∀ {ks:List Nat},lT ks ac=true->(∀ (j k:Nat),ks[j]? =some k->(aC ac k).owns=true)/\ks.Nodup
 | [],_=>⟨λ j k h=>by simp at h,Hr⟩
 | x::r,h=>by
  simp only [lT,Ad,Cx] at h;obtain ⟨⟨h1,a⟩,h3⟩:=h;obtain ⟨c,b⟩:=nS h3;refine ⟨λ j k d=>?_,Ce.2 ⟨λ hm=>?_,b⟩⟩
  .cases j with
   | zero=>grind
   | succ j=>exact c j k (by simp_all)
  .rw [lD.2 hm] at a;cases a
def FQ {l:List Nat} (h:l.Nodup):∀ {i j b:Nat},l[i]? =some b->l[j]? =some b->i=j:=by
 induction l with
 | nil=>simp
 | cons x r d=>
  intro i j b c a;rw [Ce] at h;cases i with
  | zero=>cases j with
   | zero=>rfl
   | succ j=>simp at c a;subst c;exact absurd (Au a) h.1
  | succ i=>cases j with
   | zero=>simp at c a;subst a;exact absurd (Au c) h.1
   | succ j=>simp at c a;rw [d h.2 c a]
def fG {ac:List ab} {k:Nat} (h:(aC ac k).owns=true):ac[k]? =some (aC ac k):=by refine bD rfl λ e=>?_;rw [e] at h;cases h
def iI (n0 j:Nat) (o:ab) (hs:List Value):List Value:=
 if 0<eS o then (if j<n0 then hs.take 1 else [])++hs.drop (eS o) else hs
def eO (n0:Nat) (ob:Hs) (ac:List ab):Nat->List Nat->Hs
 | _,[]=>[]
 | j,k::r=>iI n0 j (aC ac k) (ob.getD k [])::eO n0 ob ac (j+1) r
def gM {n0:Nat} {ob:Hs} {ac:List ab}:∀ {ks:List Nat} {j i:Nat},(eO n0 ob ac j ks)[i]? =(ks[i]?).map λ k=>iI n0 (j+i) (aC ac k) (ob.getD k [])
 | [],j,i=>by simp [eO]
 | k::r,j,i=>by
  cases i with
  | zero=>simp [eO]
  | succ i=>simp only [eO,Fv,gM (ks:=r)];grind
def rC {n0:Nat} {ob:Hs} {ac:List ab}:∀ {ks:List Nat} {j:Nat},(eO n0 ob ac j ks).length=ks.length
 | [],j=>rfl
 | k::r,j=>by simp [eO,rC (ks:=r)]
def KV {n0:Nat} {a:List Nat} {ac:List ab}:∀ {ks:List Nat} {j i:Nat},(yO n0 a ac j ks)[i]? =(ks[i]?).map λ k=>RE n0 a ac (j+i) (aC ac k)
 | [],j,i=>by simp [yO]
 | k::r,j,i=>by
  cases i with
  | zero=>simp [yO]
  | succ i=>simp only [yO,Fv,KV (ks:=r)];grind
def nF {n0:Nat} {a:List Nat} {ac:List ab}:∀ {ks:List Nat} {j:Nat},(yO n0 a ac j ks).length=ks.length
 | [],j=>rfl
 | k::r,j=>by simp [yO,nF (ks:=r)]
def UR {n0 j c g d:Nat} (h:gm n0 j c g=some d):(g=c/\d=(if j<n0 then (if c=0 then 0 else 1) else 0))\/(g≠c/\j<n0/\g=0/\d=0):=by
 unfold gm at h;have i:∀ a b:Nat,Aw a b=decide (a=b):=λ a b=>by
  by_cases e:a=b
  .simp_all
  .rw [D3 e];simp [e]
 have hl:∀ a b:Nat,Ff a b=decide (a<b):=λ a b=>by
  by_cases e:a<b
  .simp_all
  .have:Ff a b=false:=by
    cases k:Ff a b with
    | false=>rfl
    | true=>simp_all;omega
   grind
 simp only [i,hl] at h;by_cases h1:g=c
 .simp only [h1,decide_true,cond_true,Ds] at h
  grind
 .simp only [h1,decide_false,cond_false] at h;by_cases f:j<n0<;>by_cases h3:g=0<;>simp [f,h3] at h;omega
def mH (n0 j g:Nat):gm n0 j g g=some (if j<n0 then (if g=0 then 0 else 1) else 0):=by
 unfold gm;simp only [Nat.beq_eq_true_eq,Nk,cond_true,Ds];by_cases b:j<n0
 .simp_all
 .have:Ff j n0=false:=by
   cases a:Ff j n0 with
   | false=>rfl
   | true=>simp_all;omega
  grind
section
variable {M:Imm} {ob:Hs} {ac:List ab} {w:World}
def Mem.histLen (h:Mem M ob ac w) {k:Nat} {hs:List Value} (d:(aC ac k).owns=true) (f:ob[k]? =some hs):hs.length=eS (aC ac k)+1:=by
 obtain ⟨hs',e,a⟩:=h.obj k _ (fG d);rw [f] at e;cases e;cases c:aC ac k with
 | dead=>rw [c] at d;cases d
 | fcells cs=>rw [c] at d;cases d
 | frow g sz xs=>rw [c] at d;cases d
 | cells T cs=>rw [c] at a;obtain ⟨b,rfl,_⟩:=a;rfl
 | row g sz e xs=>rw [c] at a;exact a.1
 | tail g sz e=>rw [c] at a;exact a.1
 | mp i es=>rw [c] at a;obtain ⟨b,rfl,_⟩:=a;rfl
 | bun g I=>rw [c] at a;exact a.1
def wN {n0 j g c:Nat} {o:ab} {hs:List Value} (hl:hs.length=eS o+1) (d:gm n0 j (eS o) g=some c):(iI n0 j o hs)[c]? =hs[g]?:=by
 unfold iI;rcases UR d with ⟨rfl,rfl⟩ | ⟨h1,e,rfl,rfl⟩
 .by_cases b:0<eS o
  .rw [if_pos b];by_cases a:j<n0
   .rw [if_pos a,if_pos a,if_neg o_,Ak q_];simp_all
   .rw [if_neg a,if_neg a];simp
  simp_all
 .have b:0<eS o:=o_;simp_all
def xY {n0 j:Nat} {o:ab} {hs:List Value} (hl:hs.length=eS o+1):(iI n0 j o hs).getLast? =hs.getLast?:=by
 unfold iI;by_cases b:0<eS o
 .rw [if_pos b];rw [Na,List.getLast?_drop,if_neg o_];have a:hs≠[]:=λ e=>by grind
  rw [Kn a];rfl
 grind
def rD {n0 j:Nat} {o:ab} {hs:List Value} (hl:hs.length=eS o+1):(iI n0 j o hs).length=(if j<n0 then (if eS o=0 then 0 else 1) else 0)+1:=by
 unfold iI;by_cases b:0<eS o
 .rw [if_pos b];by_cases a:j<n0
  .simp_all;omega
  .rw [if_neg a,if_neg a];simp;omega
 grind
def Mem.cutAt (h:Mem M ob ac w) {n0:Nat} {ks:List Nat} (m:lT ks ac=true) {k j g f:Nat} {v:Value} (hp:pos k 0 ks=some j) (l:gm n0 j (eS (aC ac k)) g=some f) (i:at' ob k g=some v):
  at' (eO n0 ob ac 0 ks) j f=some v:=by
 have d:=TU hp;have c:=(nS m).1 j k d;have b:k<ob.length:=by rw [h.len];exact (Ab.1 (fG c)).1
 have a:ob[k]? =some ob[k]:=Aa b;have hl:=h.histLen c a;have e:(eO n0 ob ac 0 ks)[j]? =some (iI n0 j (aC ac k) ob[k]):=by rw [gM,d];simp [a]
 rw [bV e,wN hl l];exact wS a i
def Mem.cvtV (h:Mem M ob ac w) {n0:Nat} {ks:List Nat} (r:lT ks ac=true):∀ (n:Nat) (v:Value) (a:aa),Rep M ob v a->Rep M (eO n0 ob ac 0 ks) v (cvtV n0 ks (aC ac) n a):=by
 intro n;induction n with
 | zero=>intro v a _;exact .undef v
 | succ n A=>
  intro v a m;have D:∀ {n0 j c x:Nat},gm n0 j c 0=some x->x=0:=λ{n0 j c x} d=>by
   rcases UR d with ⟨e,rfl⟩ | ⟨_,_,_,rfl⟩
   .grind
   .rfl
  have tok:∀ {v:Value} {sz:Nat} {xs:List aa} {t:Tk},Rep M ob v (.slice sz xs t)->Rep M (eO n0 ob ac 0 ks) v (AW.cvtV n0 ks (aC ac) (n+1) (.slice sz xs t)):=by
   intro v sz xs t m;obtain ⟨K,F⟩:=m.untok;have p:Rep M (eO n0 ob ac 0 ks) v (.slice sz xs .no):=K.slice_pure.pure;cases t with
   | no=>exact p
   | nil=>
    cases ks with
    | nil=>exact p
    | cons k ks=>exact p.tok F
   | full=>exact p.tok F
   | own k g=>
    simp only [AW.cvtV];split
    .rename_i j hp;split
     .rename_i s d;exact p.tok (show at' _ _ _=_ from h.cutAt r hp d F)
     .exact p
    .exact p
  cases m with
  | undef v=>exact .undef v
  | bool b=>exact .bool b
  | int k n m=>exact .int k n m
  | str l hl=>exact .str l hl
  | agg vs as hl m=>
   obtain ⟨h1,y⟩:=bX (A) hl m;exact .agg vs _ h1 y
  | tup vs as hl m=>
   obtain ⟨h1,y⟩:=bX (A) hl m;exact .tup vs _ h1 y
  | ptr b o cs m=>exact .ptr b o cs m
  | ref k off b f=>
   simp only [AW.cvtV];split
   .rename_i j hp;split
    .rename_i x d;have:=D d;subst this;exact .ref j off b (h.cutAt r hp d f)
    .exact .undef _
   .exact (h.pureV 1 _ _ (.ref k off b f)).pure
  | eref k g i sz off b n c f=>exact .undef _
  | rowc k g c a n h hm=>exact .undef _
  | pre k g n c sz b len h q u hl hm=>exact .undef _
  | csl k off len sz b f hm=>
   simp only [AW.cvtV];split
   .rename_i j hp;split
    .rename_i x d;have:=D d;subst this;exact .csl j off len sz b (h.cutAt r hp d f) hm
    .exact .undef _
   .exact (h.pureV 1 _ _ (.csl k off len sz b f hm)).pure
  | row k g a n c f=>
   simp only [AW.cvtV];split
   .rename_i j hp;split
    .rename_i s d;exact .row j s a n c (h.cutAt r hp d f)
    .exact .undef _
   .exact (h.pureV 1 _ _ (.row k g a n c f)).pure
  | sub k g lo len sz b n c f hl u q hm=>
   simp only [AW.cvtV];split
   .rename_i j hp;split
    .rename_i s d;exact .sub j s lo len sz b n c (h.cutAt r hp d f) hl u q hm
    .exact .undef _
   .exact (h.pureV 1 _ _ (.sub k g lo len sz b n c f hl u q hm)).pure
  | sub0 k g lo sz a G n c f hl q=>
   simp only [AW.cvtV];split
   .rename_i j hp;split
    .rename_i s d;exact .sub0 j s lo sz a G n c (h.cutAt r hp d f) hl q
    .exact .undef _
   .exact (h.pureV 1 _ _ (.sub0 k g lo sz a G n c f hl q)).pure
  | mref k b f=>
   simp only [AW.cvtV];split
   .rename_i j hp;split
    .rename_i x d;have:=D d;subst this;exact .mref j b (h.cutAt r hp d f)
    .exact .undef _
   .exact .undef _
  | nilptr=>exact .nilptr
  | nilslice=>exact .nilslice
  | nilmap=>exact .nilmap
  | nilfunc=>exact .nilfunc
  | nilif=>exact .nilif
  | hsl a n c=>exact .hsl a n c
  | slnil sz t z=>exact tok (.slnil sz t z)
  | slemp sz t a cap z=>exact tok (.slemp sz t a cap z)
  | sl sz b o n cap xs t u q hm hz m z=>exact tok (.sl sz b o n cap xs t u q hm hz m z)
  | func fn I cs L N J q B C=>
   obtain ⟨h1,y⟩:=bX (A) J B;obtain ⟨h3,H⟩:=bX (A) q C;exact .func fn I cs _ _ h1 h3 y H
  | iface t v a m=>exact .iface t v _ (A v a m)
def Mem.cvt (h:Mem M ob ac w) {n0:Nat} {ks:List Nat} (K:lT ks ac=true):
  Mem M (eO n0 ob ac 0 ks) (iD n0 ks ac) w/\(∀ j b,aG (eO n0 ob ac 0 ks) (iD n0 ks ac) j b->∃ k,ks[j]? =some k/\aG ob ac k b)/\
   (∀ j k b,ks[j]? =some k->aG ob ac k b->aG (eO n0 ob ac 0 ks) (iD n0 ks ac) j b):=by
 obtain ⟨u,V⟩:=nS K;have hist:∀ {j k:Nat},ks[j]? =some k->∃ hs,ob[k]? =some hs/\hs.length=eS (aC ac k)+1/\(eO n0 ob ac 0 ks)[j]? =some (iI n0 j (aC ac k) hs)/\(iD n0 ks ac)[j]? =some (RE n0 ks ac j (aC ac k))/\gQ M ob w hs (aC ac k):=by
  intro j k a;have J:=u j k a;obtain ⟨hs,D,F⟩:=h.obj k _ (fG J);refine ⟨hs,D,h.histLen J D,?_,?_,F⟩
  .rw [gM,a];simp [D]
  .unfold iD;rw [KV,a];simp
 have l:∀ j o,(RE n0 ks ac j o).owns=o.owns:=λ j o=>by cases o<;>rfl
 have n:∀ j b,aG (eO n0 ob ac 0 ks) (iD n0 ks ac) j b->∃ k,ks[j]? =some k/\aG ob ac k b:=by
  rintro j b ⟨c,hs,G,U,H,L⟩;have a:∃ k,ks[j]? =some k:=by
   have:j<ks.length:=by have:=(Ab.1 G).1;unfold iD at this;rwa [nF] at this
   exact ⟨_,Aa this⟩
  obtain ⟨k,a⟩:=a;obtain ⟨hs',A,t,x,y,_⟩:=hist a;rw [y] at G;rw [x] at H;cases G;cases H;refine ⟨k,a,(cN (fG (u j k a)) A).2 ⟨by rw [<-l j];exact U,?_⟩⟩;unfold blk at L⊢;rwa [xY t] at L
 have B:∀ j k b,ks[j]? =some k->aG ob ac k b->aG (eO n0 ob ac 0 ks) (iD n0 ks ac) j b:=by intro j k b a p;obtain ⟨hs',A,t,x,y,_⟩:=hist a;have:=(cN (fG (u j k a)) A).1 p;refine (cN y x).2 ⟨by rw [l];exact this.1,?_⟩;unfold blk;rw [xY t];exact this.2
 refine ⟨⟨h.imm,by unfold iD;rw [rC,nF],λ j c f=>?_,λ j b p=>?_,λ i j b p C=>?_⟩,n,B⟩
 .have a:∃ k,ks[j]? =some k:=by
   have:j<ks.length:=by have:=(Ab.1 f).1;unfold iD at this;rwa [nF] at this
   exact ⟨_,Aa this⟩
  obtain ⟨k,a⟩:=a;obtain ⟨hs,A,t,x,y,m⟩:=hist a;rw [y] at f;cases f;refine ⟨_,x,?_⟩;have hl:=rD (n0:=n0) (j:=j) t;have s:=mH n0 j (eS (aC ac k));have d:=wN t s;cases f:aC ac k with
  | dead=>exact trivial
  | fcells cs=>have:=u j k a;rw [f] at this;cases this
  | frow g sz xs=>have:=u j k a;rw [f] at this;cases this
  | cells T cs=>
   rw [f] at m;obtain ⟨b,rfl,z,cv,r,q,N,Q⟩:=m;obtain ⟨O,R⟩:=bX (h.cvtV (n0:=n0) K 4) q Q;exact ⟨b,rfl,z,cv,r,O,N,R⟩
  | row g sz e xs=>
   rw [f] at m hl d;obtain ⟨z,v,r,q⟩:=m;simp only [RE,mH];exact ⟨hl,v,d.trans r,q⟩
  | tail g sz e=>
   rw [f] at m hl d;obtain ⟨z,v,r,q⟩:=m;simp only [RE,mH];exact ⟨hl,v,d.trans r,q⟩
  | mp W es=>
   rw [f] at m;exact m
  | bun g I=>
   rw [f] at m hl d;obtain ⟨z,v,r,q⟩:=m;simp only [RE,mH];exact ⟨hl,v,d.trans r,q⟩
 .obtain ⟨k,_,p⟩:=n j b p;exact h.lt k b p
 .obtain ⟨k,S,p⟩:=n i b p;obtain ⟨P,a,C⟩:=n j b C;have:=h.inj k P b p C;subst this;exact FQ V S a
end
def aBs (ks:List Nat):dP.olenN ks=ks.length:=by
 induction ks with
 | nil=>rfl
 | cons k r a=>simp [dP.olenN,a]
def iH {ks:List Nat} {base j k:Nat} (h:ks[j]? =some k):dP ks base j=k:=by simp [dP,mU,h]
def jG {ks:List Nat} {base j:Nat} (h:ks.length<=j):dP ks base j=base+(j-ks.length):=by simp [dP,mU,Bk h,aBs]
def aC0 {ks:List Nat} {base:Nat} (f:ks.Nodup) (e:∀ (j k:Nat),ks[j]? =some k->k<base) {i j:Nat} (h:dP ks base i=dP ks base j):i=j:=by
 by_cases d:i<ks.length<;>by_cases c:j<ks.length
 .have b:=Aa d;have a:=Aa c;rw [iH b,iH a] at h;rw [<-h] at a;exact FQ f b a
 .have b:=Aa d;rw [iH b,jG o_] at h;have:=e i _ b;omega
 .have a:=Aa c;rw [iH a,jG o_] at h;have:=e j _ a;omega
 .rw [jG o_,jG o_] at h;omega
def YJ {ks:List Nat} {base:Nat} {ac:List ab} (w:ks.Nodup) (n:∀ (j k:Nat),ks[j]? =some k->k<base):∀ (l:List ab) (j:Nat) (a:List ab),a.length=base+(j-ks.length)->
  (kB ks base ac j l a).length=base+(j+l.length-ks.length)/\(∀ (t:Nat) o,l[t]? =some o->(kB ks base ac j l a)[dP ks base (j+t)]? =some (sN ks base ac (j+t) o))/\
   ∀ i,(∀ t,t<l.length->dP ks base (j+t)≠i)->i<a.length->(kB ks base ac j l a)[i]? =a[i]?:=by
 intro l;induction l with
 | nil=>intro j a hl;exact ⟨by simpa [kB] using hl,λ t o h=>by simp at h,λ i _ _=>rfl⟩
 | cons o r A=>
  intro j a hl;simp only [kB]
  have d:(bJ a (dP ks base j) (sN ks base ac j o)).length=base+(j+1-ks.length)/\(bJ a (dP ks base j) (sN ks base ac j o))[dP ks base j]? =some (sN ks base ac j o)/\
    ∀ i,dP ks base j≠i->i<a.length->(bJ a (dP ks base j) (sN ks base ac j o))[i]? =a[i]?:=by
   by_cases m:j<ks.length
   .have s:=Aa m;have f:=n j _ s;rw [iH s,gK _ o_];exact ⟨by simp;omega,Ar o_,λ i c _=>Ay c⟩
   .rw [jG o_,<-hl,L9];exact ⟨by simp;omega,by simp,λ i _ c=>Ag c⟩
  obtain ⟨q,p,y⟩:=d;obtain ⟨v,z,u⟩:=A (j+1) _ q;have f:dP ks base j<(bJ a (dP ks base j) (sN ks base ac j o)).length:=(Ab.1 p).1;refine ⟨by rw [v];simp;omega,λ t x g=>?_,λ i c b=>?_⟩
  .cases t with
   | zero=>
    simp at g;subst g;show (kB ks base ac (j+1) r (bJ a (dP ks base j) (sN ks base ac j o)))[dP ks base j]? =some (sN ks base ac j o);rw [u _ (λ t _ e=>?_) f,p];have:=aC0 w n e;omega
   | succ t=>
    have:=z t x (by simpa using g);rwa [show j+1+t=j+(t+1) from by omega] at this
  .rw [u i (λ t g=>?_) (by
    by_cases m:j<ks.length
    .rw [q];rw [hl] at b;omega
    omega),y i (c 0 s_) b]
   have:=c (t+1) q_;rwa [show j+(t+1)=j+1+t from by omega] at this
def iW (ks:List Nat) (ob a:Hs):Hs:=
 (Di ob.length).map (λ k=>match pos k 0 ks with | some j=>ob.getD k []++(a.getD j []).drop 1 | none=>ob.getD k [])++a.drop ks.length
def aBc {ks:List Nat} (a:ks.Nodup) {j k:Nat} (h:ks[j]? =some k):pos k 0 ks=some j:=by
 have b:∀ (ks:List Nat) (j i:Nat),ks.Nodup->ks[j]? =some k->pos k i ks=some (i+j):=by
  intro ks;induction ks with
  | nil=>simp
  | cons x r d=>
   intro j i a h;rw [Ce] at a;simp only [pos];cases j with
   | zero=>simp at h;subst h;simp
   | succ j=>
    have c:r[j]? =some k:=by simpa using h
    have:¬ x=k:=λ e=>a.1 (e▸Au c);rw [D3 this];simp only [cond_false];rw [d j (i+1) a.2 c]
    grind
 simpa using b ks j 0 a h
section
variable {M M':Imm} {ob obK':Hs} {ac ap:List ab} {w w':World}
def Mem.embAt (h:Mem M ob ac w) {ks:List Nat} (u:lT ks ac=true) (e:dE (eO 0 ob ac 0 ks) obK') {j g:Nat} {v:Value} (k:at' obK' j g=some v):
  at' (iW ks ob obK') (dP ks ac.length j) (kC ks ac j g)=some v:=by
 obtain ⟨s,z⟩:=nS u;have f:∃ hs,obK'[j]? =some hs/\hs[g]? =some v:=by
  unfold at' at k;cases A:obK'[j]? with
  | none=>grind
  | some hs=>rw [A] at k;exact ⟨hs,rfl,k⟩
 obtain ⟨hs,d,n⟩:=f;by_cases p:j<ks.length
 .have c:=Aa p;have q:=s j _ c;have b:ks[j]<ob.length:=by rw [h.len];exact (Ab.1 (fG q)).1
  have i:ob[ks[j]]? =some ob[ks[j]]:=Aa b;have hl:=h.histLen q i;have a:(eO 0 ob ac 0 ks)[j]? =some (iI 0 j (aC ac ks[j]) ob[ks[j]]):=by rw [gM,c];simp [i]
  obtain ⟨hs',r,t,y⟩:=e j _ a;rw [d] at r;cases r;have x:(iI 0 j (aC ac ks[j]) ob[ks[j]]).length=1:=by rw [rD hl];simp
  have l:(iI 0 j (aC ac ks[j]) ob[ks[j]])[0]? =ob[ks[j]][eS (aC ac ks[j])]?:=wN hl (by rw [mH];simp);have m:(iW ks ob obK')[ks[j]]? =some (ob[ks[j]]++hs.drop 1):=by unfold iW;rw [Ag q_,Bf,Dn b];simp [aBc z c,i,d]
  rw [iH c,bV m];have o:kC ks ac j g=eS (aC ac ks[j])+g:=by simp [kC,mU,c]
  rw [o];cases g with
  | zero=>
   rw [Fl,Ag o_,<-l,<-n,<-y,Ag o_]
  | succ g=>
   rw [Ak o_,Bp,<-n];congr 1;omega
 .have m:(iW ks ob obK')[ac.length+(j-ks.length)]? =some hs:=by unfold iW;rw [Ak (by simp;rw [h.len];omega),Bp,<-d];congr 1;simp [h.len];omega
  rw [jG o_,bV m];simpa [kC,mU,Bk (show ks.length<=j by omega)] using n
def NX {M':Imm} {obK' f:Hs} {ks:List Nat} {base:Nat} {ac:List ab} (m:∀ {j g:Nat} {v:Value},at' obK' j g=some v->at' f (dP ks base j) (kC ks ac j g)=some v)
  (z:∀ {j:Nat} {v:Value},at' obK' j 0=some v->(∃ b,v= .pointer (some ⟨b,0,none⟩))\/(∃ b,v= .map (some b))->at' f (dP ks base j) 0=some v):
  ∀ (n:Nat) (v:Value) (a:aa),Rep M' obK' v a->Rep M' f v (embV ks base ac n a):=by
 intro n;induction n with
 | zero=>intro v a _;exact .undef v
 | succ n u=>
  intro v a d;have tok:∀ {v:Value} {sz:Nat} {xs:List aa} {t:Tk},Rep M' obK' v (.slice sz xs t)->Rep M' f v (AW.embV ks base ac (n+1) (.slice sz xs t)):=by
   intro v sz xs t d;obtain ⟨G,A⟩:=d.untok;have p:Rep M' f v (.slice sz xs .no):=G.slice_pure.pure;cases t with
   | no=>exact p
   | nil=>exact p.tok A
   | full=>exact p.tok A
   | own k g=>exact p.tok (show at' _ _ _=_ from m A)
  cases d with
  | undef v=>exact .undef v
  | bool b=>exact .bool b
  | int k n d=>exact .int k n d
  | str l hl=>exact .str l hl
  | agg vs as hl d=>
   obtain ⟨h1,r⟩:=bX (u) hl d;exact .agg vs _ h1 r
  | tup vs as hl d=>
   obtain ⟨h1,r⟩:=bX (u) hl d;exact .tup vs _ h1 r
  | ptr b o cs d=>exact .ptr b o cs d
  | ref k off b e=>exact .ref _ off b (z e (.inl ⟨b,rfl⟩))
  | eref k g i sz off b n c e=>exact .undef _
  | rowc k g c a n h hm=>exact .undef _
  | pre k g n c sz b len h q w hl hm=>exact .undef _
  | csl k off len sz b e hm=>exact .csl _ off len sz b (z e (.inl ⟨b,rfl⟩)) hm
  | row k g a n c e=>exact .row _ _ a n c (m e)
  | sub k g lo len sz b n c e hl w q hm=>exact .sub _ _ lo len sz b n c (m e) hl w q hm
  | sub0 k g lo sz a F n c e hl q=>exact .sub0 _ _ lo sz a F n c (m e) hl q
  | mref k b e=>exact .mref _ b (z e (.inr ⟨b,rfl⟩))
  | nilptr=>exact .nilptr
  | nilslice=>exact .nilslice
  | nilmap=>exact .nilmap
  | nilfunc=>exact .nilfunc
  | nilif=>exact .nilif
  | hsl a n c=>exact .hsl a n c
  | slnil sz t s=>exact tok (.slnil sz t s)
  | slemp sz t a cap s=>exact tok (.slemp sz t a cap s)
  | sl sz b o n cap xs t w q hm hz d s=>exact tok (.sl sz b o n cap xs t w q hm hz d s)
  | func fn C cs H I D q x y=>
   obtain ⟨h1,r⟩:=bX (u) D x;obtain ⟨h3,B⟩:=bX (u) q y;exact .func fn C cs _ _ h1 h3 r B
  | iface t v a d=>exact .iface t v _ (u v a d)
def Mem.embV (h:Mem M ob ac w) {ks:List Nat} (t:lT ks ac=true) (m:dE (eO 0 ob ac 0 ks) obK') (F:(eO 0 ob ac 0 ks).length=ks.length):∀ (n:Nat) (v:Value) (a:aa),Rep M' obK' v a->
  Rep M' (iW ks ob obK') v (embV ks ac.length ac n a):=by
 have H:∀ {j:Nat} {v:Value},at' obK' j 0=some v->(∃ b,v= .pointer (some ⟨b,0,none⟩))\/(∃ b,v= .map (some b))->at' (iW ks ob obK') (dP ks ac.length j) 0=some v:=by
  intro j v r hs;have:=h.embAt t m r;by_cases A:j<ks.length
  .have B:=Aa A;have o:eS (aC ac ks[j])=0:=by
    have C:=(nS t).1 j _ B;obtain ⟨hs',D,d⟩:=h.obj _ _ (fG C);have f:(eO 0 ob ac 0 ks)[j]? =some (iI 0 j (aC ac ks[j]) hs'):=by rw [gM,B];simp [D]
    have hl:=h.histLen C D;have x:(iI 0 j (aC ac ks[j]) hs')[0]? =hs'[eS (aC ac ks[j])]?:=wN hl (by rw [mH];simp);have c:at' (eO 0 ob ac 0 ks) j 0=some v:=by
     have J:(iI 0 j (aC ac ks[j]) hs').length=1:=by rw [rD hl];simp
     have z:=Aa (l:=iI 0 j (aC ac ks[j]) hs') (i:=0) o_;generalize (iI 0 j (aC ac ks[j]) hs')[0]=u at z;have:=m.at (ob:=eO 0 ob ac 0 ks) (k:=j) (g:=0) (v:=u) (by rw [bV f];exact z);rw [r] at this;cases this;rw [bV f];exact z
    rw [bV f,x] at c;cases o:aC ac ks[j] with
    | row g sz e xs=>
     rw [o] at d c;obtain ⟨_,G,p,cv,s,_⟩:=d;simp only [eS] at c;rw [p] at c;cases c;rcases dD s with ⟨q,_⟩ | ⟨_,_,q,_⟩<;>rcases hs with ⟨b,hs⟩ | ⟨b,hs⟩<;>(rw [q] at hs;cases hs)
    | tail g sz e=>
     rw [o] at d c;obtain ⟨_,G,p,K,cv,s,_⟩:=d;simp only [eS] at c;rw [p] at c;cases c;rcases dD s with ⟨q,_⟩ | ⟨_,_,q,_⟩<;>rcases hs with ⟨b,hs⟩ | ⟨b,hs⟩<;>(grind)
    | bun g I=>
     rw [o] at d c;obtain ⟨_,bs,p,_⟩:=d;simp only [eS] at c;rw [p] at c;cases c;rcases hs with ⟨b,hs⟩ | ⟨b,hs⟩<;>cases hs
    | _=>rfl
   have y:kC ks ac j 0=0:=by simp [kC,mU,B,o]
   grind
  .have y:kC ks ac j 0=0:=by simp [kC,mU,Bk (show ks.length<=j by omega)]
   grind
 exact NX (λ r=>h.embAt t m r) H
def Mem.emb (h:Mem M ob ac w) {ks:List Nat} (hk:lT ks ac=true) (s:Ext M (eO 0 ob ac 0 ks) (iD 0 ks ac) w M' obK' ap w') (h':Mem M' obK' ap w'):
  Mem M' (iW ks ob obK') (kB ks ac.length ac 0 ap ac) w'/\Ext M ob ac w M' (iW ks ob obK') (kB ks ac.length ac 0 ap ac) w'/\∀ (i:Nat) hs,ac[i]? =some .dead->ob[i]? =some hs->(kB ks ac.length ac 0 ap ac)[i]? =some .dead/\(iW ks ob obK')[i]? =some hs:=by
 obtain ⟨k1,k2⟩:=nS hk;obtain ⟨c1,c2,c3⟩:=h.cvt (n0:=0) hk;have hks:∀ (j k:Nat),ks[j]? =some k->k<ac.length:=λ j k z=>(Ab.1 (fG (k1 j k z))).1;have hcl:(eO 0 ob ac 0 ks).length=ks.length:=rC;have hm:ks.length<=ap.length:=by
  rcases Fp ks.length with h0 | h0
  .omega
  .have:(eO 0 ob ac 0 ks)[ks.length-1]? =some (eO 0 ob ac 0 ks)[ks.length-1]:=Aa o_;obtain ⟨hs',e,_⟩:=s.hs _ _ this;have:=(Ab.1 e).1;rw [h'.len] at this;omega
 obtain ⟨s1,s2,s3⟩:=YJ (base:=ac.length) (ac:=ac) k2 hks ap 0 ac s_;simp only [Bo] at s1 s2 s3;have hEl:(iW ks ob obK').length=ac.length+(ap.length-ks.length):=by unfold iW;simp [h.len,h'.len]
 -- the objects iM the call:by number
 have cls:∀ {i:Nat},i<(kB ks ac.length ac 0 ap ac).length->(∃ j,j<ap.length/\i=dP ks ac.length j)\/(i<ac.length/\(∀ j,j<ap.length->dP ks ac.length j≠i)):=by
  intro i C;rw [s1] at C;by_cases V:i<ac.length
  .by_cases hin:∃ j,j<ap.length/\i=dP ks ac.length j
   .exact .inl hin
   .exact .inr ⟨V,λ j z e=>hin ⟨j,z,e.symm⟩⟩
  .refine .inl ⟨ks.length+(i-ac.length),by omega,?_⟩;rw [jG o_];omega
 have P:∀ {i:Nat},i<ac.length->(∀ j,j<ap.length->dP ks ac.length j≠i)->(kB ks ac.length ac 0 ap ac)[i]? =ac[i]?/\(iW ks ob obK')[i]? =ob[i]?:=by
  intro i C d;refine ⟨s3 i d C,?_⟩;have N:i<ob.length:=by rw [h.len];exact C
  have hp:pos i 0 ks=none:=by
   cases hq:pos i 0 ks with
   | none=>rfl
   | some j=>
    have:=TU hq;exact absurd (iH this) (d j (by have:=(Ab.1 this).1;omega))
  unfold iW;rw [Ag q_,Bf,Dn N];simp [hp,Aa N]
 have Z:∀ {j:Nat} {o:ab},ap[j]? =some o->∃ hs hs',obK'[j]? =some hs/\gQ M' obK' w' hs o/\(kB ks ac.length ac 0 ap ac)[dP ks ac.length j]? =some (sN ks ac.length ac j o)/\(iW ks ob obK')[dP ks ac.length j]? =some hs'/\
   hs'.length=(match ks[j]? with | some k=>eS (aC ac k) | none=>0)+hs.length/\(o.owns=true->blk hs'=blk hs)/\(∀ (g:Nat) v,hs[g]? =some v->hs'[kC ks ac j g]? =some v):=by
  intro j o z;obtain ⟨hs,F,m⟩:=h'.obj j o z;have hat:∀ (g:Nat) v,hs[g]? =some v->at' (iW ks ob obK') (dP ks ac.length j) (kC ks ac j g)=some v:=λ g v hg=>h.embAt hk s.hs (by rw [bV F];exact hg);by_cases V:j<ks.length
  .have X:=Aa V;have Y:=k1 j _ X;have hko:ks[j]<ob.length:=by rw [h.len];exact (Ab.1 (fG Y)).1
   have hhb:ob[ks[j]]? =some ob[ks[j]]:=Aa hko;have hl:=h.histLen Y hhb;have Q:(eO 0 ob ac 0 ks)[j]? =some (iI 0 j (aC ac ks[j]) ob[ks[j]]):=by rw [gM,X];simp [hhb]
   obtain ⟨D,K,t,G⟩:=s.hs j _ Q;rw [F] at K;cases K;have hc1:(iI 0 j (aC ac ks[j]) ob[ks[j]]).length=1:=by rw [rD hl];simp
   have hpos:1<=hs.length:=by rw [<-G];simp;omega
   have eE:(iW ks ob obK')[ks[j]]? =some (ob[ks[j]]++hs.drop 1):=by unfold iW;rw [Ag q_,Bf,Dn hko];simp [aBc k2 X,hhb,F]
   refine ⟨hs,_,F,m,s2 j o z,by rw [iH X];exact eE,by rw [X];simp;omega,λ_=>?_,λ g v hg=>?_⟩
   .unfold blk;rw [Na];by_cases h2:1<hs.length
    .rw [List.getLast?_drop,if_neg o_];have d:hs≠[]:=λ e=>by subst e;simp at hpos
     rw [Kn d];rfl
    .have:hs.drop 1=[]:=Ah o_;rw [this];simp only [List.getLast?_nil,Option.none_or];have h1l:hs.length=1:=o_;have ht:t=[]:=by have:=congrArg Lm G;simp at this;exact Ax o_
     subst ht;rw [Av] at G;rw [<-G,xY hl]
   .have:=hat g v hg;rw [iH X,bV eE] at this;exact this
  .have hjl:j<obK'.length:=(Ab.1 F).1;have eE:(iW ks ob obK')[ac.length+(j-ks.length)]? =some hs:=by unfold iW;rw [Ak (by simp;rw [h.len];omega),Bp,<-F];congr 1;simp [h.len];omega
   refine ⟨hs,hs,F,m,s2 j o z,by rw [jG o_];exact eE,by rw [Bk o_];simp,λ_=>rfl,λ g v hg=>?_⟩;simpa [kC,mU,Bk (show ks.length<=j by omega)] using hg
 have ownsE:∀ j o,(sN ks ac.length ac j o).owns=o.owns:=λ j o=>by cases o<;>rfl
 have l:∀ {i b:Nat},aG (iW ks ob obK') (kB ks ac.length ac 0 ap ac) i b->(∃ j,i=dP ks ac.length j/\aG obK' ap j b)\/((∀ j,j<ap.length->dP ks ac.length j≠i)/\aG ob ac i b):=by
  rintro i b ⟨c,hs,K,G,e3,e4⟩;rcases cls (Ab.1 K).1 with ⟨j,z,rfl⟩ | ⟨C,d⟩
  .obtain ⟨L,D,g1,A,g3,g4,_,g5,_⟩:=Z (Aa z);rw [g3] at K;rw [g4] at e3;cases K;cases e3;rw [ownsE] at G;exact .inl ⟨j,rfl,(cN (Aa z) g1).2 ⟨G,by rw [<-g5 G];exact e4⟩⟩
  .obtain ⟨o1,o2⟩:=P C d;rw [o1] at K;rw [o2] at e3;exact .inr ⟨d,c,hs,K,G,e3,e4⟩
 have hle:dE ob (iW ks ob obK'):=by
  intro i hs C;have N:=(Ab.1 C).1;cases hq:pos i 0 ks with
  | none=>
   refine ⟨hs,?_,Cn _⟩;unfold iW;rw [Ag q_,Bf,Dn N];simp [hq,C]
  | some j=>
   refine ⟨hs++(obK'.getD j []).drop 1,?_,⟨_,rfl⟩⟩;unfold iW;rw [Ag q_,Bf,Dn N];simp [hq,C]
 have f:∀ {i b:Nat},(∀ j,j<ap.length->dP ks ac.length j≠i)->aG ob ac i b->(∀ j,¬ aG (eO 0 ob ac 0 ks) (iD 0 ks ac) j b)/\b<w.heap.size:=by intro i b d n;refine ⟨λ j z=>?_,h.lt i b n⟩;obtain ⟨k,hk',ha'⟩:=c2 j b z;have:=h.inj i k b n ha';subst this;exact d j (by have:=(Ab.1 hk').1;omega) (iH hk')
 refine ⟨⟨h'.imm,by rw [hEl,s1],λ i c r=>?_,λ i b n=>?_,λ i i' b n hb=>?_⟩,⟨s.imm,λ b o y hy=>?_,hle,s.os,s.tape,s.output,s.size,λ b hb hn=>s.keep b hb λ j z=>?_,λ i b n=>?_⟩,λ i hs hd F=>?_⟩
 .rcases cls (Ab.1 r).1 with ⟨j,z,rfl⟩ | ⟨C,d⟩
  .obtain ⟨L,D,g1,A,g3,g4,g5,g6,g7⟩:=Z (Aa z);rw [g3] at r;cases r;refine ⟨D,g4,?_⟩;have one0:∀ {p:Value},L=[p]->L.length=1->(match ks[j]? with | some k=>eS (aC ac k) | none=>0)=0\/True:=λ_ _=>.inr trivial;have single:∀ {b:Nat} {p:Value},L=[p]->((∃ q,p= .pointer (some ⟨q,0,none⟩))\/(∃ q,p= .map (some q)))->D=[p]:=by
    intro b p e hp;have hcur:(match ks[j]? with | some k=>eS (aC ac k) | none=>0)=0:=by
     cases hq:ks[j]? with
     | none=>rfl
     | some k=>
      have H:=g7 0 p (by rw [e];rfl);have Y:=k1 j k hq;obtain ⟨W,hhk,m⟩:=h.obj k _ (fG Y);have hl:=h.histLen Y hhk;have Q:(eO 0 ob ac 0 ks)[j]? =some (iI 0 j (aC ac k) W):=by rw [gM,hq];simp [hhk]
      obtain ⟨hs3,K,t,G⟩:=s.hs j _ Q;rw [g1] at K;cases K;have hc1:(iI 0 j (aC ac k) W).length=1:=by rw [rD hl];simp
      have hc0:(iI 0 j (aC ac k) W)[0]? =W[eS (aC ac k)]?:=wN hl (by rw [mH];simp);have a:W[eS (aC ac k)]? =some p:=by
       rw [<-hc0];have:L[0]? =some p:=by rw [e];rfl
       rw [<-G,Ag o_] at this;exact this
      show eS (aC ac k)=0;cases r:aC ac k with
      | row g sz e xs=>
       rw [r] at m a;obtain ⟨_,v',u,cv,J,_⟩:=m;simp only [eS] at a;rw [u] at a;cases a;rcases dD J with ⟨q,_⟩ | ⟨_,_,q,_⟩<;>rcases hp with ⟨b,hp⟩ | ⟨b,hp⟩<;>(rw [q] at hp;cases hp)
      | tail g sz e=>
       rw [r] at m a;obtain ⟨_,v',u,n',cv,J,_⟩:=m;simp only [eS] at a;rw [u] at a;cases a;rcases dD J with ⟨q,_⟩ | ⟨_,_,q,_⟩<;>rcases hp with ⟨b,hp⟩ | ⟨b,hp⟩<;>(rw [q] at hp;cases hp)
      | bun g I=>
       rw [r] at m a;obtain ⟨_,bs,u,_⟩:=m;simp only [eS] at a;rw [u] at a;cases a;rcases hp with ⟨b,hp⟩ | ⟨b,hp⟩<;>cases hp
      | _=>rfl
    rw [hcur,e] at g5;have H:=g7 0 p (by rw [e];rfl);have hG:kC ks ac j 0=0:=by unfold kC;rw [mU];omega
    rw [hG] at H
    match D,g5,H with
    | [x],_,H=>simp at H;rw [H]
   have B:∀ g,L.length=g+1->D.length=kC ks ac j g+1:=λ g hg=>by
    rw [g5,hg];unfold kC;rw [mU];cases ks[j]? with
    | none=>simp
    | some k=>simp;omega
   cases r:ap[j] with
   | dead=>exact trivial
   | cells T cs=>
    rw [r] at A;obtain ⟨b,rfl,U,cv,u,J,a4,a5⟩:=A;obtain ⟨m1,m2⟩:=bX (h.embV (M':=M') hk s.hs hcl 4) J a5;exact ⟨b,single (b:=b) rfl (.inl ⟨b,rfl⟩),U,cv,u,m1,a4,m2⟩
   | fcells cs=>
    rw [r] at A;obtain ⟨b,rfl,U⟩:=A;exact ⟨b,single (b:=b) rfl (.inl ⟨b,rfl⟩),U⟩
   | row g sz e xs=>
    rw [r] at A;obtain ⟨U,v,u,J⟩:=A;exact ⟨B g U,v,g7 g v u,J⟩
   | frow g sz xs=>
    rw [r] at A;obtain ⟨v,u,J⟩:=A;exact ⟨v,g7 g v u,J⟩
   | tail g sz e=>
    rw [r] at A;obtain ⟨U,v,u,J⟩:=A;exact ⟨B g U,v,g7 g v u,J⟩
   | mp ag es=>
    rw [r] at A;obtain ⟨b,rfl,U,u⟩:=A;exact ⟨b,single (b:=b) rfl (.inr ⟨b,rfl⟩),U,u⟩
   | bun g I=>
    rw [r] at A;obtain ⟨U,v,u,J⟩:=A;exact ⟨B g U,v,g7 g _ u,J⟩
  .obtain ⟨o1,o2⟩:=P C d;rw [o1] at r;obtain ⟨hs,F,m⟩:=h.obj i c r;refine ⟨hs,by rw [o2];exact F,m.mono s.imm hle (λ b p1 p2 o hno y hy=>?_) (λ b c' p1 p2 hc'=>?_)⟩
   .obtain ⟨n1,n2⟩:=f d ((cN r F).2 ⟨p1,p2⟩);rcases s.new b o y hy with q | q | ⟨j,q⟩
    .exact hno y q
    .omega
    .exact n1 j q
   .obtain ⟨n1,n2⟩:=f d ((cN r F).2 ⟨p1,p2⟩);rw [s.keep b n2 n1];exact hc'
 .rcases l n with ⟨j,_,n⟩ | ⟨_,n⟩
  .exact h'.lt j b n
  .exact Ey (h.lt i b n) s.size
 .have S:∀ {i j:Nat},(∀ j,j<ap.length->dP ks ac.length j≠i)->aG ob ac i b->aG obK' ap j b->False:=by
   intro i j d n hb;obtain ⟨n1,n2⟩:=f d n;rcases s.fresh j b hb with ⟨j',q⟩ | q
   .exact n1 j' q
   .omega
  rcases l n with ⟨j,K,R⟩ | ⟨d,R⟩<;>rcases l hb with ⟨j',G,O⟩ | ⟨hne',O⟩
  .rw [K,G,h'.inj j j' b R O]
  .exact (S hne' O R).elim
  .exact (S d R O).elim
  .exact h.inj i i' b R O
 .rcases s.new b o y hy with q | q | ⟨j,q⟩
  .exact .inl q
  .omega
  .obtain ⟨k,_,n⟩:=c2 j b q;exact .inr (.inr ⟨k,n⟩)
 .obtain ⟨k,_,n⟩:=c2 j b z;exact hn k n
 .rcases l n with ⟨j,_,n⟩ | ⟨_,n⟩
  .rcases s.fresh j b n with ⟨j',q⟩ | q
   .obtain ⟨k,_,ha'⟩:=c2 j' b q;exact .inl ⟨k,ha'⟩
   omega
  .exact .inl ⟨i,n⟩
 .have C:=(Ab.1 hd).1;have d:∀ j,j<ap.length->dP ks ac.length j≠i:=by
   intro j z e;by_cases V:j<ks.length
   .have X:=Aa V;rw [iH X] at e;have Y:=k1 j _ X;rw [e,gB hd] at Y;cases Y
   .rw [jG o_] at e;omega
  obtain ⟨o1,o2⟩:=P C d;rw [o1,o2];exact ⟨hd,F⟩
end
section
variable {M M':Imm} {ob ob':Hs} {ac obs1 obs1' ap:List ab} {w w':World}
def R7 (obs1 ac:List ab):Prop:=obs1.length=ac.length/\∀ (k:Nat),obs1[k]? =ac[k]?\/obs1[k]? =some .dead
def R7.alive (h:R7 obs1 ac) {k b:Nat} (f:aG ob obs1 k b):aG ob ac k b:=by
 obtain ⟨c,hs,a,d,e,g⟩:=f;rcases h.2 k with q | q
 .rw [q] at a;exact ⟨c,hs,a,d,e,g⟩
 .rw [q] at a;cases a;cases d
def Mem.weak (h:Mem M ob ac w) (a:R7 obs1 ac):Mem M ob obs1 w:=by
 refine ⟨h.imm,h.len.trans a.1.symm,λ k c d=>?_,λ k b f=>h.lt k b (a.alive f),λ i j b f g=>h.inj i j b (a.alive f) (a.alive g)⟩;rcases a.2 k with q | q
 .rw [q] at d;exact h.obj k c d
 .rw [q] at d;cases d;have e:k<ob.length:=by rw [h.len,<-a.1];grind
  exact ⟨ob[k],Aa e,trivial⟩
def Mem.revive (h:Mem M ob ac w) (x:R7 obs1 ac) (d:Ext M ob obs1 w M' ob' obs1' w') (hs:cH ob obs1 ob' obs1') (z:Mem M' ob' obs1' w') (hl:ap.length=obs1'.length)
  (D:∀ (k:Nat) c,ap[k]? =some c->obs1'[k]? =some c\/(obs1[k]? =some .dead/\(∃ hs,ob[k]? =some hs/\hs≠[])/\ac[k]? =some c)):
  Mem M' ob' ap w'/\Ext M ob ac w M' ob' ap w'/\cH ob ac ob' ap:=by
 have a:∀ {k b:Nat},aG ob' ap k b->aG ob' obs1' k b\/(obs1[k]? =some .dead/\aG ob ac k b):=by
  rintro k b ⟨c,hs',v,F,O,Q⟩;rcases D k c v with q | ⟨m,⟨f,n,C⟩,A⟩
  .exact .inl ⟨c,hs',q,F,O,Q⟩
  .have:=((hs k f m n).1 C).2;rw [O] at this;cases this;exact .inr ⟨m,c,hs',A,F,n,Q⟩
 have l:∀ {k b:Nat},obs1[k]? =some .dead->aG ob ac k b->∀ j,¬ aG ob obs1 j b:=by intro k b W e j B;have:=h.inj k j b e (x.alive B);subst this;obtain ⟨c,_,v,F,_⟩:=B;rw [W] at v;cases v;cases F
 refine ⟨⟨z.imm,z.len.trans hl.symm,λ k c T=>?_,λ k b e=>?_,λ i j b e G=>?_⟩,⟨d.imm,λ b o y I=>?_,d.hs,d.os,d.tape,d.output,d.size,λ b G S=>d.keep b G λ j B=>S j (x.alive B),λ k b e=>?_⟩,λ k hs' h1 P=>⟨λ h3=>?_,λ h3 U=>?_⟩⟩
 .rcases D k c T with q | ⟨m,⟨f,n,C⟩,A⟩
  .exact z.obj k c q
  .obtain ⟨V,v,K⟩:=h.obj k c A;rw [n] at v;cases v;refine ⟨f,((hs k f m n).1 C).2,K.mono d.imm d.hs (λ b J H o N y I=>?_) (λ b c' J H L=>?_)⟩
   .have e:aG ob ac k b:=(cN A n).2 ⟨J,H⟩;rcases d.new b o y I with q | q | ⟨j,q⟩
    .exact N y q
    .have:=h.lt k b e;omega
    .exact l m e j q
   .have e:aG ob ac k b:=(cN A n).2 ⟨J,H⟩;rw [d.keep b (h.lt k b e) (l m e)];exact L
 .rcases a e with q | ⟨_,q⟩
  .exact z.lt k b q
  .exact Ey (h.lt k b q) d.size
 .have g:∀ {i j:Nat},aG ob' obs1' i b->obs1[j]? =some .dead->aG ob ac j b->False:=λ{i j} p q r=>by
   rcases d.fresh i b p with ⟨Y,t⟩ | t
   .exact l q r Y t
   .have:=h.lt j b r;omega
  rcases a e with q | ⟨m,q⟩<;>rcases a G with r | ⟨Z,r⟩
  .exact z.inj i j b q r
  .exact (g q Z r).elim
  .exact (g r m q).elim
  .exact h.inj i j b q r
 .rcases d.new b o y I with q | q | ⟨j,q⟩
  .exact .inl q
  .omega
  .exact .inr (.inr ⟨j,x.alive q⟩)
 .rcases a e with q | ⟨_,q⟩
  .rcases d.fresh k b q with ⟨j,t⟩ | t
   .exact .inl ⟨j,x.alive t⟩
   omega
  .exact .inl ⟨k,q⟩
 .have u:obs1[k]? =some .dead:=by
   rcases x.2 k with q | q
   .grind
   .exact q
  obtain ⟨R,X⟩:=(hs k hs' u P).1 h3;refine ⟨?_,X⟩;have s:k<ap.length:=by rw [hl];exact (Ab.1 R).1
  rcases D k _ (Aa s) with q | ⟨_,_,q⟩
  .rw [R] at q;rw [Aa s,<-q]
  .rw [h1] at q;rw [Aa s,<-q]
 .have u:obs1[k]? =some .dead:=by
   rcases x.2 k with q | q
   .grind
   .exact q
  rcases D k _ U with q | ⟨_,⟨f,n,C⟩,_⟩
  .exact (hs k hs' u P).2 h3 q
  grind
end
def aP (P:Program) (t:TypeId):Bool:=match P.underlying t with | some (.struct _) | some (.array _ _)=>true | _=>false
def oH (P:Program):List Field->List (Nat×Nat×Bool)->Prop
 | [],[]=>True
 | f::fs,(off,sz,ag)::r=>f.offset=off/\(P.info? f.type).map (·.size)=some sz/\(P.underlying f.type).isSome=true/\aP P f.type=ag/\oH P fs r
 | _,_=>False
def tY (P:Program) (t:Nat) (a:Bool) (size:Nat):TK->Prop
 | .int k=>P.underlying t=some (.int k)/\a=false/\size=1
 | .bool=>P.underlying t=some .bool/\a=false/\size=1
 | .str=>P.underlying t=some .string/\a=false/\size=1
 | .strct j=>(∃ c,P.underlying t=some (.struct c)/\oH P c.toList j)/\a=true
 | .arr n b h=>(∃ e,P.underlying t=some (.array n e)/\(P.info? e).map (·.size)=some b/\(P.underlying e).isSome=true/\aP P e=h)/\a=true
 | .slc e b g=>(P.underlying t=some (.slice e)/\∃ i z,P.info? e=some i/\i.size=b/\i.bytes=g/\i.zero=some z/\z.cells.size=b/\z.cells.toList.all (·.oneCell')=true)/\a=false/\size=1
 | .ptr e=>P.underlying t=some (.pointer e)/\a=false/\size=1
 | .iface=>(∃ f,P.underlying t=some (.interface f))/\a=false/\size=1
 | .mp k e=>P.underlying t=some (.map k e)/\a=false/\size=1
 | .other=>(∃ d,P.underlying t=some d/\(∀ f,d≠ .interface f))/\aP P t=a
structure TIOK (P:Program) (t:Nat) (ti:TI):Prop where
 info:∃ i z,P.info? t=some i/\i.size=ti.size/\i.zero=some z/\z.cells.size=ti.size/\Rep (λ_ _ _=>False) [] z ti.zero/\z.cells.toList.all (·.oneCell')=true/\ti.zero≠ .undef
 kind:tY P t ti.agg ti.size ti.kind
def aKT (P:Program) (t n:Nat):Prop:=∀ (w:World) (x y:Operand) (xs ys:List aa) (vs us:List Value) (c:Bool),ceq xs ys=some c->xs.length=n->
 cA (λ_ _ _=>False) [] vs xs->cA (λ_ _ _=>False) [] us ys->
 (∀ op,(eqGuard op t x y (.agg vs.toArray) (.agg us.toArray)).run P w= .ok () w)/\(Op.equal t (.agg vs.toArray) (.agg us.toArray)).run P w= .ok c w
def J9 (P:Program) (t n:Nat):Prop:=∀ (w:World) (a b:List Int),a.length=n->b.length=n->(Op.equal t (fP true a) (fP true b)).run P w= .ok (decide (a=b)) w/\∀ c,(Ht c 10000 t (fP true a)).run P w= .ok () w
def SA (P:Program) (t n:Nat):Prop:=aKT P t n/\J9 P t n
structure ae (E:Env):Prop where
 mix:E.P.follows .mixedOrders=true
 tab:∀ t ti,cU E.T t=some ti->TIOK E.P t ti
 mth:∀ t name g,aBM E.mt t name=some g->∀ v w,(method (E.P.types.size+Made.depth) t v name).run E.P w= .ok (g,v) w
 fl:∀ t,0<zY E.fl t->SA E.P t (zY E.fl t)
def tY.isAgg {P:Program} {t:Nat} {g:Bool} {size:Nat} {k:TK} (h:tY P t g size k):(P.underlying t).isSome=true/\aP P t=g:=by
 cases k with
 | strct m=>obtain ⟨⟨f,h1,_⟩,c⟩:=h;simp [aP,h1,c]
 | arr n i j=>obtain ⟨⟨f,h1,_⟩,c⟩:=h;simp [aP,h1,c]
 | slc e a b=>obtain ⟨⟨h1,_⟩,c,_⟩:=h;simp [aP,h1,c]
 | iface=>obtain ⟨⟨l,h1⟩,c,_⟩:=h;simp [aP,h1,c]
 | other=>obtain ⟨⟨d,h1,_⟩,c⟩:=h;grind
 | _=>obtain ⟨h1,c,_⟩:=h;simp [aP,h1,c]
def wW {P:Program} {t:Nat} (h:(P.underlying t).isSome=true) (w:World):(isAgg t).run P w= .ok (aP P t) w:=by obtain ⟨d,a⟩:=Da.1 h;unfold isAgg;simp only [Bg,run_underlying a,Aq,aP,a];cases d<;>rfl
def af {P:Program} {t:Nat} {s:Nat} (h:(P.info? t).map (·.size)=some s) (w:World):(sizeOf t).run P w= .ok s w:=by obtain ⟨i,a,rfl⟩:=Cd.1 h;simp [sizeOf,typeInfo,a]
def TIOK.size? {P:Program} {t:Nat} {a:TI} (h:TIOK P t a):(P.info? t).map (·.size)=some a.size:=by
 obtain ⟨i,z,c,b,_⟩:=h.info
 grind
def oH.get {P:Program}:∀ {a:List Field} {b:List (Nat×Nat×Bool)},oH P a b->∀ {i:Nat} {off sz:Nat} {c:Bool},nth b i=some (off,sz,c)->
  ∃ f,a[i]? =some f/\f.offset=off/\(P.info? f.type).map (·.size)=some sz/\(P.underlying f.type).isSome=true/\aP P f.type=c
 | [],[],_,i,_,_,_,hn=>by cases i<;>cases hn
 | [],_::_,h,_,_,_,_,_=>h.elim
 | _::_,[],h,_,_,_,_,_=>h.elim
 | f::a,(off',sz',ag')::b,h,i,off,sz,c,hn=>by
  obtain ⟨h1,e,h3,j,d⟩:=h;cases i with
  | zero=>cases hn;exact ⟨f,rfl,h1,e,h3,j⟩
  | succ i=>
   obtain ⟨g,k,r⟩:=d.get (show nth b i=_ from hn);exact ⟨g,by simp;omega,r⟩
def jJ {M:Imm} {ob:Hs} {z:Value} {a:aa} (h:Rep (λ_ _ _=>False) [] z a):Rep M ob z a:=h.mono (λ_ _ _ h=>h.elim) (C6 ob)
def Sd (VS:aa->List ab->Prop) (CS:Fn->List aa->Prop) (PS:aa->Prop) (ac:List ab) (base:Nat):OR->Prop
 | .no=>True
 | .val v=>VS v ac
 | .mkf fn d cs=>VS (.func fn d cs) ac
 | .need p r=>p->Sd VS CS PS ac base r
 | .alt p v w=>(p->VS v ac)/\VS w ac
 | .idx n f=>∀ i:Nat,n=(i:Int)->Sd VS CS PS ac base (f i)
 | .elem xs i f=>∀ x,xs[i]? =some x->Sd VS CS PS ac base (f x)
 | .byte l i=>∀ c,l[i]? =some c->VS (.int .u8 (c.toNat:Int)) ac
 | .text xs=>∀ l:List UInt8,xs=l.map ub->(l.length:Int)<=9223372036854775807->VS (.str l) ac
 | .find es key f=>Sd VS CS PS ac base (f (bR es key))
 | .born x v=>VS v (bJ ac base x)
 | .upd k x v=>VS v (bJ ac k x)
 | .nilq xs a=>∃ b:Bool,(b=true->xs=[])/\VS (.bool (if a then !b else b)) ac
 | .call f args=>CS f args
 | .pan v=>PS v
def Sd.mono {VS e:aa->List ab->Prop} {CS j:Fn->List aa->Prop} {PS g:aa->Prop} {ac:List ab} {base:Nat} (h1:∀ v o,VS v o->e v o) (d:∀ f a,CS f a->j f a) (h3:∀ v,PS v->g v):
  ∀ {r:OR},Sd VS CS PS ac base r->Sd e j g ac base r
 | .no,_=>trivial
 | .val v,h=>h1 _ _ h
 | .mkf fn fs cs,h=>h1 _ _ h
 | .need p r,h=>λ hp=>Sd.mono h1 d h3 (h hp)
 | .alt p v w,h=>⟨λ hp=>h1 _ _ (h.1 hp),h1 _ _ h.2⟩
 | .idx n f,h=>λ i s=>Sd.mono h1 d h3 (h i s)
 | .elem xs i f,h=>λ x t=>Sd.mono h1 d h3 (h x t)
 | .byte l i,h=>λ c q=>h1 _ _ (h c q)
 | .text xs,h=>λ l hl m=>h1 _ _ (h l hl m)
 | .find es key f,h=>Sd.mono (r:=f (bR es key)) h1 d h3 h
 | .born x v,h=>h1 _ _ h
 | .upd k x v,h=>h1 _ _ h
 | .nilq xs neg,⟨b,m,h⟩=>⟨b,m,h1 _ _ h⟩
 | .call f args,h=>d _ _ h
 | .pan v,h=>h3 _ h
def PV (P:Program) (M:Imm) (ob:Hs) (w:World) (s:Sem Value) (ac:List ab) (v:aa) (o:List ab):Prop:=o=ac/\∃ u,s.run P w= .ok u w/\Rep M ob u v
abbrev PS0 (P:Program) (M:Imm) (ob:Hs) (w:World) (s:Sem Value) (ac:List ab) (base:Nat) (r:OR):Prop:=Sd (PV P M ob w s ac) (λ_ _=>False) (λ_=>False) ac base r
def PS0.bind {P:Program} {M:Imm} {ob:Hs} {w:World} {s:Sem Value} {ac:List ab} {base:Nat} {f:aa->aa} (a:∀ v u,Rep M ob u v->Rep M ob u (f v)):∀ {r:OR},PS0 P M ob w s ac base r->PS0 P M ob w s ac base (r.bind λ v=>.val (f v))
 | .no,_=>trivial
 | .val v,⟨h1,u,h2,h3⟩=>⟨h1,u,h2,a _ _ h3⟩
 | .mkf fn fs cs,_=>trivial
 | .need p r,h=>λ hp=>PS0.bind a (r:=r) (h hp)
 | .alt p v w,_=>trivial
 | .idx n f',h=>λ i c=>PS0.bind a (r:=f' i) (h i c)
 | .elem xs i f',h=>λ x b=>PS0.bind a (r:=f' x) (h x b)
 | .byte l i,_=>trivial
 | .text xs,_=>trivial
 | .find es key f',_=>trivial
 | .born x v,_=>trivial
 | .upd k x v,_=>trivial
 | .nilq xs neg,_=>trivial
 | .call f' args,_=>trivial
 | .pan v,_=>trivial
structure VS1 (P:Program) (ρv:Operand->Value) (op:Op) (ty:TypeId) (M:Imm) (ob:Hs) (ac:List ab) (w:World) (v:aa) (ap:List ab) (u:Value) (w':World) (M':Imm) (ob':Hs):Prop where
 run:∀ d pos after g,(execOp ρv ⟨d,op,ty,pos,after,g⟩).run P w= .ok (.value u) w'\/((execOp ρv ⟨d,op,ty,pos,after,g⟩).run P w= .ok .skip w'/\u=undef)
 ext:Ext M ob ac w M' ob' ap w'
 mem:Mem M' ob' ap w'
 still:cH ob ac ob' ap
 rep:Rep M' ob' u v
def VS (P:Program) (ρv:Operand->Value) (op:Op) (ty:TypeId) (M:Imm) (ob:Hs) (ac:List ab) (w:World) (v:aa) (ap:List ab):Prop:=∃ u w' M' ob',VS1 P ρv op ty M ob ac w v ap u w' M' ob'
def CS (P:Program) (ρv:Operand->Value) (op:Op) (ty:TypeId) (M:Imm) (ob:Hs) (w:World) (f:Fn) (args:List aa):Prop:=
 ∃ b:List Value,cA M ob b args/\∀ d pos a g,(execOp ρv ⟨d,op,ty,pos,a,g⟩).run P w=(D2 f b.toArray).run P w
def PS (P:Program) (ρv:Operand->Value) (op:Op) (ty:TypeId) (M:Imm) (w:World) (v:aa):Prop:=
 ∃ u,(∀ d pos a g,(execOp ρv ⟨d,op,ty,pos,a,g⟩).run P w= .halt (.panic u) w)/\Rep M [] u v
abbrev cB (P:Program) (ρv:Operand->Value) (op:Op) (ty:TypeId) (M:Imm) (ob:Hs) (ac:List ab) (w:World) (base:Nat) (r:OR):Prop:=
 Sd (VS P ρv op ty M ob ac w) (CS P ρv op ty M ob w) (PS P ρv op ty M w) ac base r
def cB.pv {P:Program} {ρv:Operand->Value} {op:Op} {ty:TypeId} {M:Imm} {ob:Hs} {ac:List ab} {w:World} {base:Nat} {r:OR} {s:Sem Value} (hm:Mem M ob ac w)
  (c:∀ d pos a g,execOp ρv ⟨d,op,ty,pos,a,g⟩=(s >>= λ v=>Pure.pure (.value v))) (h:PS0 P M ob w s ac base r):cB P ρv op ty M ob ac w base r:=
 Sd.mono (λ v o ⟨h1,u,b,h3⟩=>⟨u,w,M,ob,λ d pos a g=>.inl (by simp_all),h1▸Ext.refl _ _ _ _,h1▸hm,h1▸cH.refl _ _,h3⟩) (λ_ _ h=>h.elim) (λ_ h=>h.elim) h
def XV {k:IntKind} {n:Int} (h:aGk k n=true):inR k n:=by
 unfold aGk at h;split at h
 .rename_i m;have:=Ck h;rw [show Int.ofNat m=(m:Int) from rfl];constructor
  .cases k<;>simp only [cJ]<;>omega
  .cases k<;>simp only [aIb,bE] at * <;>omega
 .rename_i m;have:m<aB2 k:=by simp_all
  constructor
  .cases k<;>simp only [aB2,cJ] at * <;>omega
  .cases k<;>simp only [bE]<;>omega
def aF1 (l:List UInt8):aBS l=l.length:=by
 induction l with
 | nil=>rfl
 | cons c r a=>simp [aBS,a]
def jK {k:IntKind} {n:Int} (h:inR k n):k.wrap n=n:=by unfold inR cJ bE at h;unfold IntKind.wrap;cases k<;>simp only [IntKind.bits,IntKind.signed] at * <;>simp at * <;>omega
def jQ (k:IntKind) (n:Int):inR k (k.wrap n):=by unfold inR cJ bE IntKind.wrap;cases k<;>simp only [IntKind.bits,IntKind.signed]<;>simp<;>(try split)<;>omega
def aB9 {k:IntKind} {x y:Int} (h:inR k x):inR k (x.tmod y):=by
 obtain ⟨h1,g⟩:=h;have f:cJ k<=0:=by cases k<;>decide
 have c:0<=bE k:=by cases k<;>decide
 by_cases d:0<=x
 .have a:=Int.tmod_nonneg y d;have b:x.tmod y<=x:=by have:=Int.natAbs_tmod x y;have:=Mf x.natAbs y.natAbs;omega
  exact ⟨by omega,by omega⟩
 .have e:x.tmod y= -((-x).tmod y):=by simp
  have a:=Int.tmod_nonneg y (show 0<= -x by omega);have b:(-x).tmod y<= -x:=by have:=Int.natAbs_tmod (-x) y;have:=Mf (-x).natAbs y.natAbs;omega
  exact ⟨by omega,by omega⟩
def aCa {k:IntKind} {x:Int} (p:Nat) (h:inR k x):inR k (x.fdiv (2 ^ p)):=by
 obtain ⟨h1,d⟩:=h;have c:cJ k<=0:=by cases k<;>decide
 have b:0<=bE k:=by cases k<;>decide
 have hp:(0:Int)<2 ^ p:=Int.pow_pos d_;have a:(1:Int)<=2 ^ p:=o_;rw [Ea _ o_];generalize (2:Int) ^ p=q at hp a;constructor
 .refine Int.le_ediv_of_mul_le hp ?_;have:cJ k*q<=cJ k*1:=Int.mul_le_mul_of_nonpos_left c a;omega
 .refine Int.ediv_le_of_le_mul hp ?_;have:bE k*1<=bE k*q:=Ko a b;omega
def vS {k a:IntKind} (h:aB5 k a=true):k=a:=by cases k<;>cases a<;>first | rfl | cases h
def sdc {VS:aa->List ab->Prop} {CS:Fn->List aa->Prop} {PS:aa->Prop} {ac:List ab} {base:Nat} {b:Bool} {r:OR} (h:b=true->Sd VS CS PS ac base r):Sd VS CS PS ac base (bif b then r else .no):=by
 cases b with
 | true=>exact h rfl
 | false=>exact trivial
section
variable {P:Program} {E:Env} {M:Imm} {ob:Hs} {ac:List ab} {w:World} {base:Nat}
def rA (v:Value):Rep M ob v (aHp v):=by
 unfold aHp;split
 .exact .bool _
 .rename_i k n;cases h:aGk k n with
  | true=>exact .int _ _ (XV h)
  | false=>exact .undef _
 .rename_i s;cases h:Fw (aBS s.data.toList) 1000000 with
  | true=>
   have:=Ck h;rw [aF1] at this;obtain ⟨⟨l⟩⟩:=s;exact .str l (by grind)
  | false=>exact .undef _
 .exact .nilslice
 .exact .nilptr
 .exact .nilmap
 .exact .nilfunc
 .exact .nilif
 .exact .undef _
def DQ {op:BinOp} {t:TypeId} {k:IntKind} {x y n:Int} (a:(binOp op t (.int k x) (.int k y)).run P w= .ok (.int k (k.wrap n)) w):
  PS0 P M ob w (binOp op t (.int k x) (.int k y)) ac base (DR k n):=
 ⟨λ hp=>⟨rfl,_,by rw [a,jK hp],.int _ _ hp⟩,rfl,_,a,.int _ _ (jQ _ _)⟩
def aKm {op:BinOp} {t:TypeId} {k:IntKind} {x y:Int} (g:inR k x):PS0 P M ob w (binOp op t (.int k x) (.int k y)) ac base (aMa op k x y):=by
 have c:∀ {op:BinOp} {n:Int},(binOp op t (.int k x) (.int k y)).run P w= .ok (.int k n) w->inR k n->PS0 P M ob w (binOp op t (.int k x) (.int k y)) ac base (.val (.int k n)):=λ h1 h=>⟨rfl,_,h1,.int _ _ h⟩
 have a:∀ {op:BinOp} {b:Bool},(binOp op t (.int k x) (.int k y)).run P w= .ok (.bool b) w->PS0 P M ob w (binOp op t (.int k x) (.int k y)) ac base (.val (.bool b)):=λ h1=>⟨rfl,_,h1,.bool _⟩
 have d:∀ op,inR k (dF op k x y):=λ op=>by unfold dF;cases op<;>exact jQ _ _
 cases op with
 | add=>exact DQ (by rw [binOp_add];rfl)
 | sub=>exact DQ (by rw [binOp_sub];rfl)
 | mul=>exact DQ (by rw [binOp_mul];rfl)
 | quo=>
  intro f;have e:(binOp .quo t (.int k x) (.int k y)).run P w= .ok (.int k (k.wrap (x.tdiv y))) w:=by rw [binOp_quo];simp only [Op.intDiv,if_neg f];rfl
  exact ⟨λ hp=>⟨rfl,_,by rw [e,jK hp],.int _ _ hp⟩,rfl,_,e,.int _ _ (jQ _ _)⟩
 | rem=>
  intro f;exact c (by rw [binOp_rem];simp only [Op.intDiv,if_neg f];rfl) (aB9 g)
 | and=>exact c (by rw [binOp_and];rfl) (d .and)
 | or=>exact c (by rw [binOp_or];rfl) (d .or)
 | xor=>exact c (by rw [binOp_xor];rfl) (d .xor)
 | andNot=>exact c (by rw [binOp_andNot];rfl) (d .andNot)
 | shl=>exact trivial
 | shr=>exact trivial
 | eql=>exact a (by rw [binOp_eql];rfl)
 | neq=>exact a (by rw [binOp_neq];rfl)
 | lss=>exact a (by rw [binOp_lss];rfl)
 | leq=>exact a (by rw [binOp_leq];rfl)
 | gtr=>exact a (by rw [binOp_gtr];rfl)
 | geq=>exact a (by rw [binOp_geq];rfl)
def dK (l:List UInt8):(⟨l.toArray⟩:ByteArray).toList=l:=by simp
def P5 (l:List UInt8) (i j:Nat):(⟨l.toArray⟩:ByteArray).extract i j=⟨((l.take j).drop i).toArray⟩:=by
 have h:=Lib.extract_data ⟨l.toArray⟩ i j;have:((⟨l.toArray⟩:ByteArray).extract i j).data=((l.take j).drop i).toArray:=by rw [<-Array.toList_inj,h];simp [List.drop_take]
 cases a:(⟨l.toArray⟩:ByteArray).extract i j with
 | mk d=>grind
def wR {M':Imm} {ob':Hs}:∀ {xs ys:List aa} {c:Bool},ceq xs ys=some c->∀ {vs:List Value},cA M ob vs xs->cA M' ob' vs xs:=by
 intro xs;induction xs with
 | nil=>intro ys c _ vs h;exact ⟨h.1,λ i v a _ l=>by simp at l⟩
 | cons x xs m=>
  intro ys c h vs d;cases ys with
  | nil=>cases x<;>cases h
  | cons y ys=>
   cases x with
   | int k a=>
    cases y with
    | int p b=>
     simp only [ceq] at h;obtain ⟨_,n⟩:=eP h;cases j:ceq xs ys with
     | none=>grind
     | some o=>
      match vs,d with
      | [],d=>exact absurd d.1 s_
      | v::vs,d=>
       have g:=m j (vs:=vs) ⟨by simpa using d.1,λ i u b f e=>d.2 (i+1) u b (by grind) q_⟩;refine ⟨by simpa using d.1,λ i u b f e=>?_⟩;cases i with
       | zero=>
        simp at f e;subst f e;have:=(d.2 0 v _ rfl rfl).int_inv;rw [this.1];exact .int _ _ this.2
       | succ i=>exact g.2 i u b (by simpa using f) (by simpa using e)
    | _=>cases h
   | _=>cases h
def OE:∀ {xs ys:List aa} {c:Bool},ceq xs ys=some c->∃ e,ceq ys xs=some e:=by
 intro xs;induction xs with
 | nil=>intro ys c h;cases ys with
  | nil=>grind
  | cons y ys=>cases h
 | cons x xs i=>
  intro ys c h;cases ys with
  | nil=>cases x<;>cases h
  | cons y ys=>
   cases x with
   | int k a=>
    cases y with
    | int m b=>
     simp only [ceq] at h;obtain ⟨f,l⟩:=eP h;have:=vS f;subst this;cases g:ceq xs ys with
     | none=>grind
     | some e=>
      obtain ⟨d,j⟩:=i g;exact ⟨(b==a)&&d,by simp only [ceq,f,cond_true,j]⟩
    | _=>cases h
   | _=>cases h
def wX {P:Program} {w:World} {t e:TypeId} {a:Addr} {j:TypeInfo} (d:Nat) (h:P.underlying t=some (.pointer e)) (b:P.info? e=some j):(Op.equalIn (d+1) t (.pointer (some a)) (.pointer (some a))).run P w= .ok true w:=by by_cases hz:j.size=0<;>simp [Op.equalIn,run_underlying h,sizeOf,typeInfo,b,hz,run_sameAddr_same]
def aJT {P:Program} {t e:TypeId} (h:P.underlying t=some (.pointer e)):P.underlying t=some (.pointer (P.pointee t)):=by simp [Program.pointee,h]
abbrev JO (op:BinOp) (t:TypeId) (x y:Operand) (vx vy:Value):Sem Value:=eqGuard op t x y vx vy >>= λ_=>binOp op t vx vy
def aH7 {s s':Sem Value} (h:∀ {r},s'.run P w=r->s.run P w=r) {r:OR} (k:PS0 P M ob w s' ac base r):PS0 P M ob w s ac base r:=
 Sd.mono (λ_ _ ⟨h1,u,a,h3⟩=>⟨h1,u,h a,h3⟩) (λ_ _ h=>h) (λ_ h=>h) k
def aBl {op:BinOp} {t:TypeId} {x y:Operand} {b a:Value} {c:Bool} (h1:∀ op,eqGuard op t x y b a=Pure.pure ()) (d:∀ op,op= .eql\/op= .neq->binOp op t b a=(Op.equal t b a >>= λ r=>Pure.pure (.bool (if op= .eql then r else !r))))
  (h3:(Op.equal t b a).run P w= .ok c w):PS0 P M ob w (JO op t x y b a) ac base (vG op c):=by
 unfold vG;split
 .refine ⟨rfl,.bool c,?_,.bool c⟩;simp only [JO,h1,d _ (.inl rfl)];simp only [Bg,Bw,Aq,h3,if_true]
 .refine ⟨rfl,.bool (!c),?_,.bool _⟩;simp only [JO,h1,d _ (.inr rfl)];simp only [Bg,Bw,Aq,h3];rfl
 .exact trivial
def aJs {op:BinOp} {t:TypeId} {x y:Operand} {b a:Value} {c:Bool} {xs:List aa} (h1:∀ op,eqGuard op t x y b a=Pure.pure ()) (e:∀ op,op= .eql\/op= .neq->binOp op t b a=(Op.equal t b a >>= λ r=>Pure.pure (.bool (if op= .eql then r else !r))))
  (h3:(Op.equal t b a).run P w= .ok c w) (d:c=true->xs=[]):PS0 P M ob w (JO op t x y b a) ac base (aJt op xs):=by
 have:=aBl (M:=M) (ob:=ob) (ac:=ac) (base:=base) (op:=op) h1 e h3;unfold aJt;unfold vG at this;split
 .exact ⟨c,d,this⟩
 .exact ⟨c,d,this⟩
 .exact trivial
def qK {P:Program} (w:World) (d:Nat) (t u:TypeId) (x:Value) (h:P.underlying t=some (.interface (P.methodsAt t))):(Op.equalIn (d+1) t .nilIface (.iface u x)).run P w= .ok false w:=by simp [Op.equalIn,run_underlying h]
def aKp (hE:ae E) {og:Nat->ab} {op:BinOp} {t:TypeId} {x y:Operand} {u v:Value} {a b:aa} (m:Rep M ob u a) (l:Rep M ob v b):PS0 E.P M ob w (JO op t x y u v) ac base (aKq E og (isC x||isC y) op t a b):=by
 unfold aKq;split
 .rename_i k x' H F;obtain ⟨rfl,J⟩:=m.int_inv;obtain ⟨rfl,X⟩:=l.int_inv;have C:∀ op,(eqGuard op t x y (.int k x') (.int H F))=Pure.pure ():=λ op=>by cases op<;>rfl
  refine aH7 (s':=binOp op t (.int k x') (.int H F)) (λ h=>by grind) ?_;split
  .intro T;have e:(binOp .shl t (.int k x') (.int H F)).run E.P w= .ok (.int k (k.wrap (x'*2 ^ min F.toNat k.bits))) w:=by rw [binOp_shl];simp only [Op.shift];simp;omega
   refine ⟨λ⟨G,S⟩=>⟨rfl,_,?_,.int _ _ S⟩,rfl,_,e,.int _ _ (jQ _ _)⟩;rw [e,Gp G,jK S]
  .rintro ⟨T,G⟩;refine ⟨rfl,_,?_,.int _ _ (aCa _ J)⟩;rw [binOp_shr];simp only [Op.shift];rw [if_neg o_,Gp G];rfl
  .refine sdc λ f=>?_;have:=vS f;subst this;exact aKm J
 .rename_i l1 l2;obtain ⟨rfl,J⟩:=m.str_inv;obtain ⟨rfl,X⟩:=l.str_inv;have C:∀ op,(eqGuard op t x y (.string ⟨l1.toArray⟩) (.string ⟨l2.toArray⟩))=Pure.pure ():=λ op=>by cases op<;>rfl
  refine aH7 (s':=binOp op t (.string ⟨l1.toArray⟩) (.string ⟨l2.toArray⟩)) (λ h=>by grind) ?_;split
  .intro T;refine ⟨rfl,.string ⟨(l1++l2).toArray⟩,?_,.str _ (by grind)⟩;rw [binOp_string_add];rw [run_string_add_sum w _ _ (by rw [oW,oW];omega),ByteArray.mk_append_mk]
  .exact ⟨rfl,_,by rw [binOp_string_eql,dK,dK];rfl,.bool _⟩
  .exact ⟨rfl,_,by rw [binOp_string_neq,dK,dK];rfl,.bool _⟩
  .exact ⟨rfl,_,by rw [binOp_string_lss,dK,dK];rfl,.bool _⟩
  .exact ⟨rfl,_,by rw [binOp_string_leq,dK,dK];rfl,.bool _⟩
  .exact ⟨rfl,_,by rw [binOp_string_gtr,dK,dK];rfl,.bool _⟩
  .exact ⟨rfl,_,by rw [binOp_string_geq,dK,dK];rfl,.bool _⟩
  .exact trivial
 .rename_i xs ys;refine sdc λ C=>?_;obtain ⟨hf1,K⟩:=aU C;have Q:0<zY E.fl t:=by simp_all
  have s:=aB K;rw [wQ] at s;obtain ⟨vs,rfl,hl,R⟩:=m.agg_inv;obtain ⟨us,rfl,z,B⟩:=l.agg_inv;split
  .rename_i c i;obtain ⟨W,p⟩:=OE i;obtain ⟨N,I⟩:=(hE.fl t Q).1 w x y _ _ vs us c i s (wR i ⟨hl,R⟩) (wR p ⟨z,B⟩);refine ⟨rfl,.bool c,?_,.bool c⟩;simp only [JO,Bg,N,Aq,binOp,I,Bw]
  .rename_i c i;obtain ⟨W,p⟩:=OE i;obtain ⟨N,I⟩:=(hE.fl t Q).1 w x y _ _ vs us c i s (wR i ⟨hl,R⟩) (wR p ⟨z,B⟩);refine ⟨rfl,.bool (!c),?_,.bool _⟩;simp only [JO,Bg,N,Aq,binOp,I,Bw]
  .exact trivial
 .split
  .exact trivial
  .rename_i n Y;have d:=(hE.tab t n Y).kind
   have two:∀ {u v:Value},(∀ op,eqGuard op t x y u v=Pure.pure ())->(∀ op,op= .eql\/op= .neq->binOp op t u v=(Op.equal t u v >>= λ r=>Pure.pure (.bool (if op= .eql then r else !r))))->
     ∀ {c:Bool},(Op.equal t u v).run E.P w= .ok c w->PS0 E.P M ob w (JO op t x y u v) ac base (vG op c):=λ h1 A _ h3=>aBl h1 A h3
   split
   .have f:=‹n.kind=TK.bool›;rw [f] at d;obtain rfl:=m.bool_inv;obtain rfl:=l.bool_inv;exact two (λ op=>by cases op<;>rfl) (λ op g=>by rcases g with rfl | rfl<;>rfl) (run_equal_bool w t _ _ d.1)
   .have f:=‹n.kind=TK.slc _ _ _›;rw [f] at d;have:=m.untok.2;obtain rfl:u= .slice none 0 0:=this;cases l;exact two (λ op=>by cases op<;>rfl) (λ op g=>by rcases g with rfl | rfl<;>rfl) (run_equal_slice_nil w t _ none 0 0 d.1.1)
   .have f:=‹n.kind=TK.slc _ _ _›;rw [f] at d;cases m;cases l;exact two (λ op=>by cases op<;>rfl) (λ op g=>by rcases g with rfl | rfl<;>rfl) (run_equal_slice_nil w t _ none 0 0 d.1.1)
   .have f:=‹n.kind=TK.slc _ _ _›;rw [f] at d;obtain ⟨a,c,rfl,h0,_⟩:=m.slice_inv;cases l;exact aJs (λ op=>by cases op<;>rfl) (λ op g=>by rcases g with rfl | rfl<;>rfl) (run_equal_slice_nil w t _ a _ c d.1.1) (λ e=>(h0 (by cases a<;>first | rfl | cases e)).1)
   .have f:=‹n.kind=TK.ptr _›;rw [f] at d;cases m;cases l;exact two (λ op=>by cases op<;>rfl) (λ op g=>by rcases g with rfl | rfl<;>rfl) (run_equal_pointer_nil w t _ (aJT d.1))
   .have f:=‹n.kind=TK.ptr _›;rw [f] at d;obtain ⟨b,rfl,_⟩:=m.ref_inv;cases l;exact two (λ op=>by cases op<;>rfl) (λ op g=>by rcases g with rfl | rfl<;>rfl) (run_equal_pointer_nil w t _ (aJT d.1))
   .have f:=‹n.kind=TK.ptr _›;rw [f] at d;obtain ⟨b,o,rfl,_⟩:=m.ptr_inv;cases l;exact two (λ op=>by cases op<;>rfl) (λ op g=>by rcases g with rfl | rfl<;>rfl) (run_equal_pointer_nil w t _ (aJT d.1))
   .have f:=‹n.kind=TK.ptr _›;rw [f] at d;split
    .rename_i Z L;refine sdc λ C=>?_;obtain ⟨h1,A⟩:=aU C;have h1:=aB h1;have A:=aB A;subst h1 A;obtain ⟨b,rfl,V⟩:=m.ref_inv;obtain ⟨b',rfl,D⟩:=l.ref_inv;rw [V] at D;cases D;obtain ⟨j,U,_⟩:=Cd.1 (hE.tab _ Z L).size?;refine two (λ op=>by cases op<;>rfl) (λ op g=>by rcases g with rfl | rfl<;>rfl) (c:=true) ?_;exact wX 9999 d.1 U
    .exact trivial
   .have f:=‹n.kind=TK.iface›;rw [f] at d;obtain ⟨O,q⟩:=d.1;cases m;cases l;refine sdc λ hl=>two (λ op=>?_) (λ op g=>by rcases g with rfl | rfl<;>rfl) (run_equal_nil_nil w t (by simp only [Program.methodsAt,q]));cases op<;>first | rfl | (cases x<;>first | rfl | (cases y<;>first | rfl | cases hl))
   .have f:=‹n.kind=TK.iface›;rw [f] at d;obtain ⟨O,q⟩:=d.1;cases m;cases l;exact two (λ op=>by cases op<;>rfl) (λ op g=>by rcases g with rfl | rfl<;>rfl) (run_equal_held_nil w t _ _ (by simp only [Program.methodsAt,q]))
   .have f:=‹n.kind=TK.iface›;rw [f] at d;obtain ⟨O,q⟩:=d.1;cases m;cases l;exact two (λ op=>by cases op<;>rfl) (λ op g=>by rcases g with rfl | rfl<;>rfl) (qK w 9999 t _ _ (by simp only [Program.methodsAt,q]))
   .exact trivial
end
end Go.AW
