/-
  The engine, second make, first part: abstract values, what each operation comes to, memory. Over any program.
-/
import Derived.WalkKit
import Derived.WalkLawsBesides
import Derived.RangeFuncLeaves
import Derived.OrdersIn
import Derived.TacticsIn
import Derived.Deep.AppendSrc
import Derived.Lib.Strings
import Derived.LaidEql
set_option linter.all false
open Array renaming getElem?_eq_some_iff->Fc,length_toList->Iu,toList_append->Ml,toList_map->Jv
open Bool renaming and_eq_true->Ag,not_eq_true'->Eb,or_eq_true->Hr
open Go.Builtin renaming append_->Cq,firstCells->Ch,zeroCells->Cf
open Go.Instr renaming checkKey->Hl
open Go.Region renaming binds->Jm
open Go.Result renaming andThen_ok->Ao
open Go.Sem renaming run_bind->Bf,run_pure->Ca
open Go.Value renaming int->Ea,ownBlock->Gf,slice->Gt
open Go.World renaming block_lt_of_cell?->Cr,cell?_of_block->Cx,ownsRow_nil->Hg
open Int renaming fdiv_eq_ediv_of_nonneg->Gy
open List renaming append_assoc->Aj,append_nil->Bc,cons_append->Cm,drop_eq_nil_of_le->Ae,eq_nil_of_length_eq_zero->Av,ext_getElem?->Ek,getElem?_append_left->Af,getElem?_append_right->Ak,getElem?_cons_succ->Eu,getElem?_drop->Bv,getElem?_eq_getElem->Ab,getElem?_eq_none->Bh,getElem?_eq_some_iff->Ad,getElem?_map->Bj,getElem?_of_mem->Cs,getElem?_range->Dm,getElem?_replicate->Ew,getElem?_set_ne->Aw,getElem?_set_self->Ap,getElem?_take->Gb,getElem?_take_of_lt->Bg,getElem_mem->Bb,getLast?_append->Mi,getLast?_eq_getElem?->Lc,getLast?_eq_some_getLast->Kj,length->Mh,length_append->Ay,length_drop->Fh,length_pos_iff->Gp,length_take->Fz,map_cons->Bp,mem_append->Az,mem_cons->Au,mem_map->Ce,mem_of_getElem?->Aq,mem_of_mem_drop->Fe,mem_of_mem_take->Cy,mem_range->Ji,nil_append->Bm,nodup_cons->Cg,nodup_nil->Gg,prefix_refl->Cl,range->Dh,replicate->Ai,size_toArray->Gj,take_left->Kz,take_zero->Hi
open Nat renaming add_assoc->Kb,add_mul->Bx,add_sub_cancel->Gx,add_sub_cancel_left->Hk,add_zero->Em,beq->Ar,beq_refl->Ms,ble->Fq,blt->Fi,div_add_mod->Fu,div_eq_of_lt->Jr,div_lt_iff_lt_mul->Dd,div_one->Ho,eq_zero_or_pos->Fm,le_div_iff_mul_le->Ha,le_of_ble_eq_true->Ci,le_refl->Ba,le_trans->Co,lor->Mr,lt_of_lt_of_le->Ef,lt_or_ge->Mp,min_eq_left->Hq,mod_le->Kx,mod_lt->Dz,mod_one->Ki,mul_add_div->Iy,mul_comm->Dj,mul_le_mul_right->Cd,zero_add->Bw,zero_le->Cn
open Option renaming getD_some->Jw,isSome_iff_exists->Da,map_eq_some_iff->Cp,map_some->Lz
open Option.some renaming injEq->Fj
namespace Go.AW
open Go.RowKit
theorem _root_.o_ {P:Prop} (h:P:=by omega):P:=h
theorem _root_.d_ {P:Prop} (h:P:=by decide):P:=h
theorem _root_.s_ {P:Prop} (h:P:=by simp):P:=h
theorem _root_.q_ {P:Prop} (h:P:=by simp;omega):P:=h
def bO:IntKind->Int
 | .i8=> -128 | .i16=> -32768 | .i32=> -2147483648 | .i64=> -9223372036854775808 | _=>0
def bA:IntKind->Int
 | .i8=>127 | .i16=>32767 | .i32=>2147483647 | .i64=>9223372036854775807
 | .u8=>255 | .u16=>65535 | .u32=>4294967295 | .u64=>18446744073709551615
def inR (k:IntKind) (n:Int):Prop:=bO k<=n/\n<=bA k
inductive Tk where
 | no | nil | full | own (k g:Nat)
inductive AVal where
 | undef
 | bool (b:Bool)
 | int (k:IntKind) (n:Int)
 | str (l:List UInt8)
 | slice (sz:Nat) (xs:List AVal) (t:Tk)
 | agg (cs:List AVal)
 | tup (vs:List AVal)
 | ptr (cs:List AVal)
 | ref (k off:Nat)
 | eref (k g i sz off:Nat)
 | csl (k off len sz:Nat)
 | row (k g:Nat)
 | sub (k g lo len sz:Nat)
 | rowc (k g c:Nat)
 | pre (k g n c sz:Nat)
 | mref (k:Nat)
 | nilptr | nilslice | nilmap | nilfunc | nilif
 | hsl (a:Option Addr) (n c:Nat)
 | func (fn:Fn) (first caps:List AVal)
 | iface (t:TypeId) (v:AVal)
def AVal.cells:AVal->List AVal
 | .agg cs=>cs
 | v=>[v]
abbrev Imm:=Nat->Nat->AVal->Prop
def NoM (M:Imm) (b o:Nat):Prop:=∀ x,¬ M b o x
abbrev Hs:=List (List Value)
def at' (ob:Hs) (k g:Nat):Option Value:=(ob[k]?).bind fun hs=>hs[g]?
def dE (ob ob':Hs):Prop:=∀ (k:Nat) hs,ob[k]? =some hs->∃ hs',ob'[k]? =some hs'/\hs<+:hs'
theorem dE.refl (ob:Hs):dE ob ob:=fun _ hs h=>⟨hs,h,Cl _⟩
theorem dE.trans {a b c:Hs} (h:dE a b) (k:dE b c):dE a c:=fun i hs d=>by
 obtain ⟨h1,l,j⟩:=h i hs d
 obtain ⟨e,g,f⟩:=k i h1 l
 exact ⟨e,g,j.trans f⟩
theorem dE.at {ob ob':Hs} (h:dE ob ob') {k g:Nat} {v:Value} (a:at' ob k g=some v):at' ob' k g=some v:=by
 unfold at' at *
 cases b:ob[k]? with
 | none=>grind
 | some hs=>
  rw [b] at a
  obtain ⟨hs',e,p⟩:=h k hs b
  rw [e]
  simp only [Option.bind_some] at a⊢
  obtain ⟨t,rfl⟩:=p
  rw [Af (Ad.1 a).1]
  exact a
def sO (ob:Hs) (v:Value):Tk->Prop
 | .no=>True
 | .nil=>v= .slice none 0 0
 | .full=>∃ a n,v= .slice a n n
 | .own k g=>at' ob k g=some v
theorem sO.mono {ob ob':Hs} (a:dE ob ob') {v:Value} {t:Tk} (h:sO ob v t):sO ob' v t:=by
 cases t with
 | own k g=>exact a.at h
 | _=>exact h
inductive Rep (M:Imm) (ob:Hs):Value->AVal->Prop
 | undef (v):Rep M ob v .undef
 | bool (b):Rep M ob (.bool b) (.bool b)
 | int (k n) (h:inR k n):Rep M ob (.int k n) (.int k n)
 | str (l:List UInt8) (h:(l.length:Int)<=9223372036854775807):Rep M ob (.string ⟨l.toArray⟩) (.str l)
 | agg (vs:List Value) (as:List AVal) (hl:vs.length=as.length) (h:∀ (i:Nat) v a,vs[i]? =some v->as[i]? =some a->Rep M ob v a):Rep M ob (.agg vs.toArray) (.agg as)
 | tup (vs:List Value) (as:List AVal) (hl:vs.length=as.length) (h:∀ (i:Nat) v a,vs[i]? =some v->as[i]? =some a->Rep M ob v a):Rep M ob (.tuple vs.toArray) (.tup as)
 | ptr (b o:Nat) (cs:List AVal) (h:∀ (j:Nat) c,cs[j]? =some c->M b (o+j) c):Rep M ob (.pointer (some ⟨b,o,none⟩)) (.ptr cs)
 | ref (k off b:Nat) (h:at' ob k 0=some (.pointer (some ⟨b,0,none⟩))):Rep M ob (.pointer (some ⟨b,off,none⟩)) (.ref k off)
 | eref (k g i sz off b n c:Nat) (h:at' ob k g=some (.slice (some ⟨b,0,none⟩) n c)):Rep M ob (.pointer (some ⟨b,i*sz+off,none⟩)) (.eref k g i sz off)
 | csl (k off len sz b:Nat) (h:at' ob k 0=some (.pointer (some ⟨b,0,none⟩))) (hm:(len:Int)<=9223372036854775807):Rep M ob (.slice (some ⟨b,off,none⟩) len len) (.csl k off len sz)
 | row (k g:Nat) (a:Option Addr) (n c:Nat) (h:at' ob k g=some (.slice a n c)):Rep M ob (.slice a n c) (.row k g)
 | sub (k g lo len sz b n c:Nat) (h:at' ob k g=some (.slice (some ⟨b,0,none⟩) n c)) (hl:lo<c) (hn:lo+len<=n) (hc:n<=c) (hm:(n:Int)<=9223372036854775807):Rep M ob (.slice (some ⟨b,lo*sz,none⟩) len (c-lo)) (.sub k g lo len sz)
 | sub0 (k g lo sz:Nat) (a a':Option Addr) (n c:Nat) (h:at' ob k g=some (.slice a n c)) (hl:lo=n) (hc:n=c):Rep M ob (.slice a' 0 0) (.sub k g lo 0 sz)
 | rowc (k g c:Nat) (a:Option Addr) (n:Nat) (h:at' ob k g=some (.slice a n c)) (hm:(c:Int)<=9223372036854775807):Rep M ob (.slice a n c) (.rowc k g c)
 | pre (k g n c sz b len:Nat) (h:at' ob k g=some (.slice (some ⟨b,0,none⟩) len c)) (hc:0<c) (hn:n<=len) (hl:len<=c) (hm:(c:Int)<=9223372036854775807):Rep M ob (.slice (some ⟨b,0,none⟩) n c) (.pre k g n c sz)
 | mref (k b:Nat) (h:at' ob k 0=some (.map (some b))):Rep M ob (.map (some b)) (.mref k)
 | nilptr:Rep M ob (.pointer none) .nilptr
 | nilslice:Rep M ob (.slice none 0 0) .nilslice
 | nilmap:Rep M ob (.map none) .nilmap
 | nilfunc:Rep M ob .nilFunc .nilfunc
 | nilif:Rep M ob .nilIface .nilif
 | hsl (a:Option Addr) (n c:Nat):Rep M ob (.slice a n c) (.hsl a n c)
 | slnil (sz:Nat) (t:Tk) (ht:sO ob (.slice none 0 0) t):Rep M ob (.slice none 0 0) (.slice sz [] t)
 | slemp (sz:Nat) (t:Tk) (a:Addr) (cap:Nat) (ht:sO ob (.slice (some a) 0 cap) t):Rep M ob (.slice (some a) 0 cap) (.slice sz [] t)
 | sl (sz b o n cap:Nat) (xs:List AVal) (t:Tk) (hn:xs.length=n) (hc:n<=cap) (hm:(n:Int)<=9223372036854775807) (hz:∀ x∈xs,x.cells.length=sz)
   (h:∀ (i j:Nat) x c,xs[i]? =some x->x.cells[j]? =some c->M b (o+i*sz+j) c) (ht:sO ob (.slice (some ⟨b,o,none⟩) n cap) t):Rep M ob (.slice (some ⟨b,o,none⟩) n cap) (.slice sz xs t)
 | func (fn:Fn) (fs cs:List Value) (fa ca:List AVal) (hf:fs.length=fa.length) (hc:cs.length=ca.length)
   (h1:∀ (i:Nat) v a,fs[i]? =some v->fa[i]? =some a->Rep M ob v a) (h2:∀ (i:Nat) v a,cs[i]? =some v->ca[i]? =some a->Rep M ob v a):
   Rep M ob (.func fn fs.toArray cs.toArray) (.func fn fa ca)
 | iface (t:TypeId) (v:Value) (a:AVal) (h:Rep M ob v a):Rep M ob (.iface t v) (.iface t a)
theorem Rep.mono {M M':Imm} {ob ob':Hs} (s:∀ b o x,M b o x->M' b o x) (d:dE ob ob') {v:Value} {a:AVal} (h:Rep M ob v a):Rep M' ob' v a:=by
 induction h with
 | undef v=>exact .undef v
 | bool b=>exact .bool b
 | int k n h=>exact .int k n h
 | str l h=>exact .str l h
 | agg vs as hl _ m=>exact .agg vs as hl m
 | tup vs as hl _ m=>exact .tup vs as hl m
 | ptr b o cs h=>exact .ptr b o cs fun j c e=>s _ _ _ (h j c e)
 | ref k off b h=>exact .ref k off b (d.at h)
 | eref k g i sz off b n c h=>exact .eref k g i sz off b n c (d.at h)
 | csl k off len sz b h hm=>exact .csl k off len sz b (d.at h) hm
 | row k g a n c h=>exact .row k g a n c (d.at h)
 | sub k g lo len sz b n c h hl p e hm=>exact .sub k g lo len sz b n c (d.at h) hl p e hm
 | sub0 k g lo sz a A n c h hl e=>exact .sub0 k g lo sz a A n c (d.at h) hl e
 | rowc k g c a n h hm=>exact .rowc k g c a n (d.at h) hm
 | pre k g n c sz b len h e p hl hm=>exact .pre k g n c sz b len (d.at h) e p hl hm
 | mref k b h=>exact .mref k b (d.at h)
 | nilptr=>exact .nilptr
 | nilslice=>exact .nilslice
 | nilmap=>exact .nilmap
 | nilfunc=>exact .nilfunc
 | nilif=>exact .nilif
 | hsl a n c=>exact .hsl a n c
 | slnil sz t f=>exact .slnil sz t (f.mono d)
 | slemp sz t a cap f=>exact .slemp sz t a cap (f.mono d)
 | sl sz b o n cap xs t p e hm hz h f=>exact .sl sz b o n cap xs t p e hm hz (fun i j x c C y=>s _ _ _ (h i j x c C y)) (f.mono d)
 | func fn w cs u z B e _ _ r q=>exact .func fn w cs u z B e r q
 | iface t v a _ m=>exact .iface t v a m
theorem NE (ob:Hs):dE [] ob:=fun k hs h=>by simp at h
theorem Rep.pure {M:Imm} {ob:Hs} {v:Value} {a:AVal} (h:Rep M [] v a):Rep M ob v a:=h.mono (fun _ _ _ h=>h) (NE ob)
theorem Rep.monoM {M M':Imm} {ob:Hs} {v:Value} {a:AVal} (h:Rep M ob v a) (c:∀ b o x,M b o x->M' b o x):Rep M' ob v a:=h.mono c (dE.refl _)
structure BInv where
 inv:Imm->List Nat->World->Prop
 mono:∀ {M M':Imm} {bs:List Nat} {w w':World},(∀ b o x,M b o x->M' b o x)->(∀ b,b∈bs->∀ o,NoM M b o->NoM M' b o)->(∀ b c,b∈bs->w.heap[b]? =some c->w'.heap[b]? =some c)->inv M bs w->inv M' bs w'
def CW:Obj->Bool
 | .deferred _=>true
 | _=>false
def eZ (bs:List Nat):Value:=.tuple (bs.map fun b=>Value.map (some b)).toArray
inductive AObj where
 | dead
 | cells (T:TypeId) (cs:List AVal)
 | fcells (cs:List AVal)
 | row (g sz:Nat) (e:TypeId) (xs:List AVal)
 | frow (g sz:Nat) (xs:List AVal)
 | tail (g sz:Nat) (e:TypeId)
 | mp (ag:Bool) (es:List (List Int×AVal))
 | bun (g:Nat) (I:BInv)
def aI9:Value->Option Nat
 | .map (some b)=>some b
 | _=>none
def JV:Value->List Nat
 | .pointer (some a)=>[a.block]
 | .slice (some a) _ _=>[a.block]
 | .map (some b)=>[b]
 | .tuple vs=>vs.toList.filterMap aI9
 | _=>[]
def blk (hs:List Value):List Nat:=match hs.getLast? with | some v=>JV v | none=>[]
theorem AU {hs:List Value} {bs:List Nat} (h:hs.getLast? =some (eZ bs)):blk hs=bs:=by
 unfold blk
 rw [h]
 show (bs.map fun b=>Value.map (some b)).filterMap aI9=bs
 clear h
 induction bs with
 | nil=>rfl
 | cons b r a=>simp only [Bp,List.filterMap_cons,aI9,a]
theorem dX {b c:Nat}:b∈([c]:List Nat)↔c=b:=by grind
def AObj.owns:AObj->Bool
 | .dead | .fcells _ | .frow _ _ _=>false
 | _=>true
def aK (sz:Nat) (xs:List AVal) (q:Nat):Option AVal:=(xs[q / sz]?).bind fun x=>x.cells[q % sz]?
def SG (w:World) (v:Value):Prop:=∀ b,v.ownBlock=some b->∀ a T c,w.heap[b]? =some (.cells a T c)->∀ u∈a.toList,u.oneCell'=true
def dD (M:Imm) (w:World) (v:Value) (sz:Nat) (e:TypeId) (xs:List AVal):Prop:=
 ∃ cv,w.ownsRow 0 e sz v xs.length cv/\(∀ u∈cv,u.oneCell'=true)/\(∀ x∈xs,x.cells.length=sz)/\
  (∀ (q:Nat) c,aK sz xs q=some c->∃ u,cv[q]? =some u/\Rep M [] u c)/\(∀ b,v.ownBlock=some b->∀ o,NoM M b o)/\SG w v
def fP (a:Bool) (l:List Int):Value:=if a then .agg (l.map (Ea .i64)).toArray else .int .i64 (l.headD 0)
def ZJ (M:Imm) (w:World) (b:Nat) (d:Bool) (es:List (List Int×AVal)):Prop:=
 ∃ (c:List MapEntry) (a:Nat),w.heap[b]? =some (.map c.toArray a)/\c.length=es.length/\(∀ (i:Nat) x y,c[i]? =some x->es[i]? =some y->x.key=fP d y.1/\(d=false->y.1.length=1)/\Rep M [] x.val y.2)/\
  (∀ (i:Nat) x,c[i]? =some x->x.born<a)/\∀ (i j:Nat) x y,c[i]? =some x->c[j]? =some y->x.born=y.born->i=j
def gK (M:Imm) (ob:Hs) (w:World) (hs:List Value):AObj->Prop
 | .dead=>True
 | .cells T cs=>∃ b,hs=[.pointer (some ⟨b,0,none⟩)]/\(∀ o,NoM M b o)/\∃ (cv:List Value),w.heap[b]? =some (.cells cv.toArray T (0,0))/\cv.length=cs.length/\(∀ v∈cv,v.oneCell'=true)/\
   ∀ (i:Nat) v a,cv[i]? =some v->cs[i]? =some a->Rep M ob v a
 | .fcells cs=>∃ b,hs=[.pointer (some ⟨b,0,none⟩)]/\∀ (j:Nat) c,cs[j]? =some c->M b j c
 | .row g sz e xs=>hs.length=g+1/\∃ v,hs[g]? =some v/\dD M w v sz e xs
 | .frow g sz xs=>∃ v,hs[g]? =some v/\Rep M [] v (.slice sz xs .no)
 | .tail g sz e=>hs.length=g+1/\∃ v,hs[g]? =some v/\∃ n cv,w.ownsRow 0 e sz v n cv/\∀ b,v.ownBlock=some b->∀ o,n*sz<=o->NoM M b o
 | .mp d es=>∃ b,hs=[.map (some b)]/\(∀ o,NoM M b o)/\ZJ M w b d es
 | .bun g I=>hs.length=g+1/\∃ bs,hs[g]? =some (eZ bs)/\(∀ b,b∈bs->∃ o,w.heap[b]? =some o/\CW o=false)/\I.inv M bs w
def aM (ob:Hs) (obs:List AObj) (k b:Nat):Prop:=∃ c hs,obs[k]? =some c/\c.owns=true/\ob[k]? =some hs/\b∈blk hs
structure Mem (M:Imm) (ob:Hs) (obs:List AObj) (w:World):Prop where
 imm:∀ b o x,M b o x->∃ v,w.cell? ⟨b,o,none⟩=some v/\v.oneCell'=true/\Rep M [] v x
 len:ob.length=obs.length
 obj:∀ (k:Nat) c,obs[k]? =some c->∃ hs,ob[k]? =some hs/\gK M ob w hs c
 lt:∀ k b,aM ob obs k b->b<w.heap.size
 inj:∀ k k' b,aM ob obs k b->aM ob obs k' b->k=k'
structure Ext (M:Imm) (ob:Hs) (obs:List AObj) (w:World) (M':Imm) (ob':Hs) (obs':List AObj) (w':World):Prop where
 imm:∀ b o x,M b o x->M' b o x
 new:∀ b o x,M' b o x->M b o x\/w.heap.size<=b\/∃ k,aM ob obs k b
 hs:dE ob ob'
 os:w'.os=w.os
 tape:w'.tape=w.tape
 output:w'.output=w.output
 size:w.heap.size<=w'.heap.size
 keep:∀ b,b<w.heap.size->(∀ k,¬ aM ob obs k b)->w'.heap[b]? =w.heap[b]?
 fresh:∀ k b,aM ob' obs' k b->(∃ k',aM ob obs k' b)\/w.heap.size<=b
theorem Ext.refl (M:Imm) (ob:Hs) (obs:List AObj) (w:World):Ext M ob obs w M ob obs w where
 imm _ _ _ h:=h
 new _ _ _ h:=.inl h
 hs:=dE.refl _
 os:=rfl
 tape:=rfl
 output:=rfl
 size:=Ba _
 keep _ _ _:=rfl
 fresh k _ h:=.inl ⟨k,h⟩
theorem Ext.trans {M M1 M2:Imm} {ob ob1 ob2:Hs} {obs obs1 obs2:List AObj} {w w1 w2:World} (h:Ext M ob obs w M1 ob1 obs1 w1) (k:Ext M1 ob1 obs1 w1 M2 ob2 obs2 w2):
  Ext M ob obs w M2 ob2 obs2 w2 where
 imm b o x hx:=k.imm _ _ _ (h.imm _ _ _ hx)
 new b o x hx:=by
  rcases k.new b o x hx with h1 | h1 | ⟨i,hi⟩
  .exact h.new b o x h1
  .exact .inr (.inl (Co h.size h1))
  .rcases h.fresh i b hi with h2 | h2
   .grind
   omega
 hs:=h.hs.trans k.hs
 os:=k.os.trans h.os
 tape:=k.tape.trans h.tape
 output:=k.output.trans h.output
 size:=Co h.size k.size
 keep b hb ho:=by
  rw [<-h.keep b hb ho]
  refine k.keep b (Ef hb h.size) fun i hi=>?_
  rcases h.fresh i b hi with ⟨j,hj⟩ | h2
  .grind
  .omega
 fresh i b hi:=by
  rcases k.fresh i b hi with ⟨j,hj⟩ | h1
  .exact h.fresh j b hj
  .exact .inr (Co h.size h1)
def cH (ob:Hs) (obs:List AObj) (ob':Hs) (obs':List AObj):Prop:=∀ (k:Nat) hs,obs[k]? =some .dead->ob[k]? =some hs->
 (hs≠[]->obs'[k]? =some .dead/\ob'[k]? =some hs)/\(hs=[]->obs'[k]? =some .dead->ob'[k]? =some [])
theorem cH.refl (ob:Hs) (obs:List AObj):cH ob obs ob obs:=fun _ _ h1 a=>⟨fun _=>⟨h1,a⟩,fun e _=>e▸a⟩
theorem Ext.below {M M':Imm} {ob':Hs} {obs':List AObj} {w w':World} (h:Ext M [] [] w M' ob' obs' w'):Below w.heap.size w w':=
 ⟨h.os,h.tape,h.output,h.size,fun b a=>h.keep b a fun k ⟨c,hs,h1,_⟩=>by simp at h1⟩
theorem eU {w:World} {b:Nat} {x:Obj} (a:w.heap[b]? =some x):b<w.heap.size:=(Fc.1 a).1
theorem dD.mono {M M':Imm} {w w':World} {v:Value} {sz:Nat} {e:TypeId} {xs:List AVal} (h:dD M w v sz e xs) (s:∀ b o x,M b o x->M' b o x)
  (z:∀ b,v.ownBlock=some b->(∀ o,NoM M b o)->∀ o,NoM M' b o) (k:∀ b c,v.ownBlock=some b->w.heap[b]? =some c->w'.heap[b]? =some c):dD M' w' v sz e xs:=by
 obtain ⟨cv,⟨h1,f⟩,h3,m,n,B,A⟩:=h
 refine ⟨cv,⟨h1,?_⟩,h3,m,fun q c j=>?_,fun b e=>z b e (B b e),fun b e d T C j=>?_⟩
 .rcases f with f | ⟨g,cap,d,a,y,i,r⟩
  .exact .inl f
  .exact .inr ⟨g,cap,d,a,y,k g _ (by rw [a];rfl) i,r⟩
 .obtain ⟨u,p,t⟩:=n q c j
  exact ⟨u,p,t.monoM s⟩
 .rcases f with ⟨rfl,_⟩ | ⟨g,cap,l,a,_,i,_⟩
  .cases e
  .rw [a] at e
   cases e
   have:=k g _ (by rw [a];rfl) i
   rw [j] at this
   cases this
   exact A g (by rw [a];rfl) _ _ _ i
theorem gK.mono {M M':Imm} {ob ob':Hs} {w w':World} {hs:List Value} {x:AObj} (h:gK M ob w hs x) (s:∀ b o x,M b o x->M' b o x) (B:dE ob ob')
  (u:∀ b,x.owns=true->b∈blk hs->∀ o,NoM M b o->NoM M' b o) (q:∀ b c,x.owns=true->b∈blk hs->w.heap[b]? =some c->w'.heap[b]? =some c):gK M' ob' w' hs x:=by
 have f:∀ {g:Nat} {v:Value},hs.length=g+1->hs[g]? =some v->blk hs=JV v:=fun {g v} hl C=>by
  unfold blk
  rw [Lc,hl,Gx,C]
 have t:∀ {v:Value} {b:Nat},v.ownBlock=some b->b∈JV v:=fun {v b} h=>by
  unfold Gf at h
  split at h
  .cases h;simp [JV]
  .cases h
 have k:∀ {v:Value} {b:Nat},blk hs=JV v->v.ownBlock=some b->b∈blk hs:=fun {v b} h1 d=>by rw [h1];exact t d
 cases x with
 | dead=>trivial
 | cells T cs=>
  obtain ⟨b,rfl,h1,cv,d,h3,m,p⟩:=h
  exact ⟨b,rfl,fun o=>u b rfl (dX.2 rfl) o (h1 o),cv,q b _ rfl (dX.2 rfl) d,h3,m,fun i v a C Q=>(p i v a C Q).mono s B⟩
 | fcells cs=>
  obtain ⟨b,rfl,h1⟩:=h
  exact ⟨b,rfl,fun j c P=>s _ _ _ (h1 j c P)⟩
 | row g sz e xs=>
  obtain ⟨h1,v,d,h3⟩:=h
  exact ⟨h1,v,d,h3.mono s (fun b e z o=>u b rfl (k (f h1 d) e) o (z o)) (fun b c e=>q b c rfl (k (f h1 d) e))⟩
 | frow g sz xs=>
  obtain ⟨v,h1,d⟩:=h
  exact ⟨v,h1,d.monoM s⟩
 | tail g sz e=>
  obtain ⟨h1,v,d,n,cv,⟨h3,m⟩,p⟩:=h
  refine ⟨h1,v,d,n,cv,⟨h3,?_⟩,fun b e o B=>u b rfl (k (f h1 d) e) o (p b e o B)⟩
  rcases m with m | ⟨G,cap,A,H,K,L,r⟩
  .exact .inl m
  .exact .inr ⟨G,cap,A,H,K,q G _ rfl (k (f h1 d) (by rw [H];rfl)) L,r⟩
 | mp R es=>
  obtain ⟨b,rfl,h1,N,J,d,h3,m,p⟩:=h
  exact ⟨b,rfl,fun o=>u b rfl (dX.2 rfl) o (h1 o),N,J,q b _ rfl (dX.2 rfl) d,h3,fun i x y F D=>⟨(m i x y F D).1,(m i x y F D).2.1,(m i x y F D).2.2.monoM s⟩,p⟩
 | bun g I=>
  obtain ⟨h1,bs,d,h3,m⟩:=h
  have e:blk hs=bs:=by rw [<-AU (hs:=[eZ bs]) rfl];exact f h1 d
  refine ⟨h1,bs,d,fun b l=>?_,I.mono s (fun b l=>u b rfl (by rw [e];exact l)) (fun b c l=>q b c rfl (by rw [e];exact l)) m⟩
  obtain ⟨o,p,O⟩:=h3 b l
  exact ⟨o,q b _ rfl (by rw [e];exact l) p,O⟩
theorem Mem.same {M:Imm} {ob:Hs} {obs:List AObj} {w w':World} (h:Mem M ob obs w) (hs:w.heap.size<=w'.heap.size)
  (i:∀ b,b<w.heap.size->w'.heap[b]? =w.heap[b]?):Mem M ob obs w':=by
 refine ⟨fun b o x m=>?_,h.len,fun k c d=>?_,fun k b f=>Ef (h.lt k b f) hs,h.inj⟩
 .obtain ⟨v,j,l⟩:=h.imm b o x m
  exact ⟨v,(Cx (w:=w) (a:=⟨b,o,none⟩) (i b (Cr w _ j))).trans j,l⟩
 .obtain ⟨hs',e,g⟩:=h.obj k c d
  exact ⟨hs',e,g.mono (fun _ _ _ h=>h) (dE.refl _) (fun _ _ _ _ h=>h) (fun b c _ _ d=>(i b (eU d)).trans d)⟩
theorem Mem.noImm {M:Imm} {ob:Hs} {obs:List AObj} {w:World} (h:Mem M ob obs w) {b:Nat} (d:w.heap.size<=b) (o:Nat):NoM M b o:=by
 intro x a
 obtain ⟨v,c,_⟩:=h.imm b o x a
 have:=Cr w _ c
 grind
inductive TK where
 | int (k:IntKind) | bool | str | strct (fs:List (Nat×Nat×Bool)) | arr (n esz:Nat) (eagg:Bool) | slc (e esz ebytes:Nat) | ptr (e:Nat) | iface | mp (k e:Nat) | other
structure TI where
 kind:TK
 size:Nat
 agg:Bool
 zero:AVal
abbrev Tab:=List (Nat×TI)
def cR:Tab->Nat->Option TI
 | [],_=>none
 | (i,x)::r,n=>bif Ar i n then some x else cR r n
abbrev aDX:=List (Nat×String×Nat)
def aBW:aDX->Nat->String->Option Nat
 | [],_,_=>none
 | (i,s,f)::r,n,m=>bif (Ar i n&&s==m) then some f else aBW r n m
structure Env where
 P:Program
 T:Tab
 mt:aDX
 fl:List (Nat×Nat)
 own:List Nat
 rws:List Nat
 bl:List Nat
 df:List (Nat×List AVal)
 rd:Option Nat:=none
def tL (n:Nat):List Nat->Bool
 | []=>false
 | x::r=>Ar x n||tL n r
def aW:List (Nat×AVal)->Nat->AVal
 | [],_=>.undef
 | (i,v)::r,n=>bif Ar i n then v else aW r n
def gS:List (Nat×AVal)->Nat->AVal->List (Nat×AVal)
 | [],n,x=>[(n,x)]
 | (i,v)::r,n,x=>bif Ar i n then (n,x)::r else (i,v)::gS r n x
def aE:List AObj->Nat->AObj
 | [],_=>.dead
 | x::_,0=>x
 | _::r,n+1=>aE r n
def bJ:List AObj->Nat->AObj->List AObj
 | [],0,y=>[y]
 | [],n+1,y=>.dead::bJ [] n y
 | _::r,0,y=>y::r
 | x::r,n+1,y=>x::bJ r n y
def aP:List AObj->Nat
 | []=>0
 | _::r=>aP r+1
def kJ:Nat->List AVal->List AVal
 | 0,l=>l
 | _+1,[]=>[]
 | n+1,_::l=>kJ n l
def lV:Nat->List AVal->Option (List AVal)
 | 0,_=>some []
 | _+1,[]=>none
 | n+1,c::l=>match lV n l with | some r=>some (c::r) | none=>none
def RP:List AVal->List AVal->Option (List AVal)
 | [],l=>some l
 | _::_,[]=>none
 | c::r,_::l=>match RP r l with | some x=>some (c::x) | none=>none
def nF:Nat->List AVal->List AVal->Option (List AVal)
 | 0,new,l=>RP new l
 | _+1,_,[]=>none
 | n+1,new,c::l=>match nF n new l with | some x=>some (c::x) | none=>none
def N2:List AVal->Nat
 | []=>0
 | _::r=>N2 r+1
def nth {α:Type}:List α->Nat->Option α
 | [],_=>none
 | x::_,0=>some x
 | _::r,n+1=>nth r n
def ZA:List AVal->List AVal->List AVal
 | [],l=>l
 | c::r,l=>c::ZA r l
def dP (f:AVal->AVal):List AVal->List AVal
 | []=>[]
 | c::r=>f c::dP f r
def aHq:IntKind->Nat
 | .i8=>127 | .i16=>32767 | .i32=>2147483647 | .i64=>9223372036854775807
 | .u8=>255 | .u16=>65535 | .u32=>4294967295 | .u64=>18446744073709551615
def aCb:IntKind->Nat
 | .i8=>128 | .i16=>32768 | .i32=>2147483648 | .i64=>9223372036854775808 | _=>0
def aFN (k:IntKind):Int->Bool
 | .ofNat m=>Fq m (aHq k)
 | .negSucc m=>Fi m (aCb k)
def aB2:List UInt8->Nat
 | []=>0
 | _::r=>aB2 r+1
def aGH:Value->AVal
 | .bool b=>.bool b
 | .int k n=>bif aFN k n then .int k n else .undef
 | .string s=>bif Fq (aB2 s.data.toList) 1000000 then .str s.data.toList else .undef
 | .slice none 0 0=>.nilslice
 | .pointer none=>.nilptr
 | .map none=>.nilmap
 | .nilFunc=>.nilfunc
 | .nilIface=>.nilif
 | _=>.undef
def ev (fr:List (Nat×AVal)):Operand->AVal
 | .tmp t=>aW fr t
 | .const v=>aGH v
 | .func f=>.func (.func f) [] []
 | .global _=>.undef
def one:AVal->Bool
 | .undef | .agg _ | .tup _=>false
 | _=>true
def oO:List AVal->Bool
 | []=>true
 | c::r=>one c&&oO r
def CK:AVal->Bool
 | .undef=>false
 | _=>true
def pureV (og:Nat->AObj):Nat->AVal->AVal
 | 0,_=>.undef
 | n+1,v=>match v with
  | .slice sz xs _=>.slice sz xs .no
  | .agg cs=>.agg (dP (pureV og n) cs)
  | .tup cs=>.tup (dP (pureV og n) cs)
  | .func fn a cs=>.func fn (dP (pureV og n) a) (dP (pureV og n) cs)
  | .iface t v=>.iface t (pureV og n v)
  | .ref k off=>(match og k with | .fcells cs=>.ptr (kJ off cs) | _=>.undef)
  | .csl k off len sz=>(match og k with | .fcells cs=>bif Ar sz 1 then (match lV len (kJ off cs) with | some l=>bif oO l then .slice 1 l .full else .undef | none=>.undef) else .undef | _=>.undef)
  | .row k g=>(match og k with | .frow g' sz xs=>bif Ar g g' then .slice sz xs .no else .undef | _=>.undef)
  | .sub k g lo len sz=>(match og k with | .frow g' sz' xs=>bif Ar g g'&&Ar sz sz' then .slice sz ((xs.drop lo).take len) .no else .undef | _=>.undef)
  | .eref _ _ _ _ _=>.undef
  | .rowc _ _ _=>.undef
  | .pre _ _ _ _ _=>.undef
  | .mref _=>.undef
  | v=>v
def foldO (f:List AObj->AVal->List AObj):List AObj->List AVal->List AObj
 | obs,[]=>obs
 | obs,c::r=>foldO f (f obs c) r
def frz1 (obs:List AObj) (k:Nat):List AObj:=match aE obs k with
 | .cells _ cs=>bJ obs k (.fcells (dP (pureV (aE obs) 4) cs))
 | _=>obs
def frzR (obs:List AObj) (k g:Nat):List AObj:=match aE obs k with
 | .row a sz _ xs=>bif Ar g a then bJ obs k (.frow g sz xs) else obs
 | _=>obs
def frzV:Nat->List AObj->AVal->List AObj
 | 0,obs,_=>obs
 | n+1,obs,v=>match v with
  | .agg cs=>foldO (frzV n) obs cs
  | .tup cs=>foldO (frzV n) obs cs
  | .func _ a cs=>foldO (frzV n) (foldO (frzV n) obs a) cs
  | .iface _ v=>frzV n obs v
  | .ref k _=>(match aE obs k with | .cells _ cs=>frz1 (foldO (frzV n) obs cs) k | _=>obs)
  | .csl k _ _ _=>(match aE obs k with | .cells _ cs=>frz1 (foldO (frzV n) obs cs) k | _=>obs)
  | .row k g=>frzR obs k g
  | .sub k g _ _ _=>frzR obs k g
  | _=>obs
def frzL (obs:List AObj) (l:List AVal):List AObj:=foldO (frzV 6) obs l
def frzs:List Nat->List AObj->List AObj
 | [],obs=>obs
 | k::r,obs=>frzs r (match aE obs k with
  | .row g _ _ _=>frzR obs k g
  | .cells _ _=>frzV 6 obs (.ref k 0)
  | _=>obs)
inductive OR where
 | no
 | val (v:AVal)
 | mkf (fn:Fn) (fs cs:List AVal)
 | need (p:Prop) (r:OR)
 | alt (p:Prop) (v w:AVal)
 | idx (n:Int) (k:Nat->OR)
 | elem (xs:List AVal) (i:Nat) (k:AVal->OR)
 | byte (l:List UInt8) (i:Nat)
 | text (xs:List AVal)
 | find (es:List (List Int×AVal)) (key:List Int) (k:Option AVal->OR)
 | born (x:AObj) (v:AVal)
 | upd (k:Nat) (x:AObj) (v:AVal)
 | nilq (xs:List AVal) (neg:Bool)
 | call (f:Fn) (args:List AVal)
 | pan (v:AVal)
def OR.bind:OR->(AVal->OR)->OR
 | .val v,k=>k v
 | .need p r,k=>.need p (r.bind k)
 | .elem xs i f,k=>.elem xs i fun x=>(f x).bind k
 | .idx n f,k=>.idx n fun i=>(f i).bind k
 | _,_=>.no
def eX:BinOp->IntKind->Int->Int->Int
 | op,k,x,y=>
  let a:=BitVec.ofInt k.bits x
  let b:=BitVec.ofInt k.bits y
  match op with
  | .and=>k.wrap (a &&& b).toNat
  | .or=>k.wrap (a ||| b).toNat
  | .xor=>k.wrap (a ^^^ b).toNat
  | _=>k.wrap (a &&& ~~~b).toNat
def DU (k:IntKind) (n:Int):OR:=.alt (inR k n) (.int k n) (.int k (k.wrap n))
def aCe:IntKind->IntKind->Bool
 | .i8,.i8 | .i16,.i16 | .i32,.i32 | .i64,.i64 | .u8,.u8 | .u16,.u16 | .u32,.u32 | .u64,.u64=>true
 | _,_=>false
def aLs (op:BinOp) (k:IntKind) (x y:Int):OR:=
 match op with
 | .add=>DU k (x+y)
 | .sub=>DU k (x-y)
 | .mul=>DU k (x*y)
 | .quo=>.need (y≠0) (.alt (inR k (x.tdiv y)) (.int k (x.tdiv y)) (.int k (k.wrap (x.tdiv y))))
 | .rem=>.need (y≠0) (.val (.int k (x.tmod y)))
 | .and=>.val (.int k (eX .and k x y))
 | .or=>.val (.int k (eX .or k x y))
 | .xor=>.val (.int k (eX .xor k x y))
 | .andNot=>.val (.int k (eX .andNot k x y))
 | .eql=>.val (.bool (x==y))
 | .neq=>.val (.bool (x !=y))
 | .lss=>.val (.bool (decide (x<y)))
 | .leq=>.val (.bool (decide (x<=y)))
 | .gtr=>.val (.bool (decide (y<x)))
 | .geq=>.val (.bool (decide (y<=x)))
 | _=>.no
def ceq:List AVal->List AVal->Option Bool
 | [],[]=>some true
 | .int k a::r,.int k' b::s=>bif aCe k k' then (match ceq r s with | some c=>some ((a==b)&&c) | none=>none) else none
 | _,_=>none
def zV:List (Nat×Nat)->Nat->Nat
 | [],_=>0
 | (i,n)::r,t=>bif Ar i t then n else zV r t
def xC (op:BinOp) (c:Bool):OR:=
 match op with
 | .eql=>.val (.bool c)
 | .neq=>.val (.bool (!c))
 | _=>.no
def aIW (op:BinOp) (xs:List AVal):OR:=
 match op with
 | .eql=>.nilq xs false
 | .neq=>.nilq xs true
 | _=>.no
def isC:Operand->Bool
 | .const _=>true
 | _=>false
def aJU (E:Env) (og:Nat->AObj) (d:Bool) (op:BinOp) (t:Nat) (a b:AVal):OR:=
 match a,b with
 | .int k x,.int k' y=>
  (match op with
  | .shl=>.need (0<=y) (.alt (y.toNat<=k.bits/\inR k (x*2 ^ y.toNat)) (.int k (x*2 ^ y.toNat)) (.int k (k.wrap (x*2 ^ (min y.toNat k.bits)))))
  | .shr=>.need (0<=y/\y.toNat<=k.bits) (.val (.int k (x.fdiv (2 ^ y.toNat))))
  | op=>bif aCe k k' then aLs op k x y else .no)
 | .str x,.str y=>
  (match op with
  | .add=>.need (((x.length+y.length:Nat):Int)<=9223372036854775807) (.val (.str (x++y)))
  | .eql=>.val (.bool (x==y))
  | .neq=>.val (.bool (!(x==y)))
  | .lss=>.val (.bool (Op.bytesLess x y))
  | .leq=>.val (.bool (Op.bytesLess x y||x==y))
  | .gtr=>.val (.bool (!(Op.bytesLess x y||x==y)))
  | .geq=>.val (.bool (!Op.bytesLess x y))
  | _=>.no)
 | .agg xs,.agg ys=>
  bif Fi 0 (zV E.fl t)&&Ar (N2 xs) (zV E.fl t) then
   (match op,ceq xs ys with
   | .eql,some c=>.val (.bool c)
   | .neq,some c=>.val (.bool (!c))
   | _,_=>.no)
  else .no
 | a,b=>match cR E.T t with
  | none=>.no
  | some f=>match f.kind,a,b with
   | .bool,.bool x,.bool y=>xC op (x==y)
   | .slc _ _ _,.slice _ _ .nil,.nilslice=>xC op true
   | .slc _ _ _,.nilslice,.nilslice=>xC op true
   | .slc _ _ _,.slice _ xs _,.nilslice=>aIW op xs
   | .ptr _,.nilptr,.nilptr=>xC op true
   | .ptr _,.ref _ _,.nilptr=>xC op false
   | .ptr _,.ptr _,.nilptr=>xC op false
   | .ptr e,.ref k o,.ref k' o'=>(match cR E.T e with
    | some _=>bif Ar k k'&&Ar o o' then xC op true else .no
    | none=>.no)
   | .iface,.nilif,.nilif=>bif d then xC op true else .no
   | .iface,.iface _ _,.nilif=>xC op false
   | _,_,_=>.no
def mk (a:TI) (l:List AVal):Option AVal:=
 bif a.agg then some (.agg l) else match l with
  | [c]=>some c
  | _=>none
def fin (a:TI) (l:Option (List AVal)):OR:=
 match l with
 | none=>.no
 | some l=>match mk a l with
  | none=>.no
  | some v=>.val v
def aC4 (E:Env) (og:Nat->AObj) (t:Nat) (a:AVal):OR:=
 match cR E.T t with
 | none=>.no
 | some b=>match a with
  | .ptr cs=>fin b (lV b.size cs)
  | .ref k off=>(match og k with
   | .cells _ cs=>fin b (lV b.size (kJ off cs))
   | .fcells cs=>fin b (lV b.size (kJ off cs))
   | _=>.no)
  | .eref k g i sz off=>(match og k with
   | .row d c _ xs=>bif Ar g d&&Ar sz c then .elem xs i fun x=>fin b (lV b.size (kJ off x.cells)) else .no
   | _=>.no)
  | _=>.no
def aHn:List AVal->AVal
 | [c]=>c
 | _=>.undef
def aIF (x:AVal) (cs:List AVal):AVal:=
 match x with
 | .agg _=>.agg cs
 | _=>aHn cs
def QZ (E:Env) (og:Nat->AObj) (t:Nat) (a v:AVal):OR:=
 match cR E.T t with
 | none=>.no
 | some c=>
  bif oO v.cells&&Ar (N2 v.cells) c.size then
   match a with
   | .ref k off=>(match og k with
    | .cells T cs=>(match nF off v.cells cs with
     | some cs=>.upd k (.cells T cs) .undef
     | none=>.no)
    | _=>.no)
   | .eref k g i sz off=>(match og k with
    | .row d b e xs=>
     bif ((Ar g d&&Ar sz b)&&Fq 1 sz)&&oO (pureV og 4 v).cells then
            (bif Ar off 0&&Ar c.size sz then .need (i<xs.length) (.upd k (.row g sz e (xs.set i (pureV og 4 v))) .undef)
            else .elem xs i fun x=>match nF off (pureV og 4 v).cells x.cells with
             | some cs=>.upd k (.row g sz e (xs.set i (aIF x cs))) .undef
             | none=>.no)
     else .no
    | _=>.no)
   | _=>.no
  else .no
def Q9 (E:Env) (s:Nat) (a:AVal) (f:Nat):OR:=
 match cR E.T s with
 | some {kind:=.strct fs,..}=>(match nth fs f with
  | none=>.no
  | some (off,sz,ag)=>match a with
   | .agg cs=>(match lV sz (kJ off cs) with
    | none=>.no
    | some l=>bif ag then .val (.agg l) else match l with
     | [c]=>.val c
     | _=>.no)
   | _=>.no)
 | _=>.no
def tX (E:Env) (s:Nat) (a:AVal) (f:Nat):OR:=
 match cR E.T s with
 | some {kind:=.strct fs,..}=>(match nth fs f with
  | none=>.no
  | some (off,sz,_)=>
   bif Ar sz 0 then .no else
   match a with
   | .ptr cs=>.val (.ptr (kJ off cs))
   | .ref k x=>.val (.ref k (x+off))
   | .eref k g i z x=>.val (.eref k g i z (x+off))
   | _=>.no)
 | _=>.no
def tW (E:Env) (og:Nat->AObj) (t:Nat) (a i:AVal):OR:=
 match cR E.T t,i with
 | some ti,.int _ n=>(match ti.kind with
  | .slc _ b _=>(match a with
   | .slice sz xs _=>bif Ar sz b then .idx n fun i=>.elem xs i fun x=>.val (.ptr x.cells) else .no
   | .row k g=>(match og k with
    | .row c sz _ xs=>bif Ar g c&&Ar sz b then .idx n fun i=>.need (i<xs.length) (.val (.eref k g i sz 0)) else .no
    | .frow c sz xs=>bif Ar g c&&Ar sz b then .idx n fun i=>.elem xs i fun x=>.val (.ptr x.cells) else .no
    | _=>.no)
   | .sub k g lo len sz=>(match og k with
    | .row c d _ _=>bif (Ar g c&&Ar sz d)&&Ar sz b then .idx n fun i=>.need (i<len) (.val (.eref k g (lo+i) sz 0)) else .no
    | _=>.no)
   | _=>.no)
  | .arr len b _=>(match a with
   | .ref k off=>.need (0<=n/\n.toNat<len) (.val (.ref k (off+n.toNat*b)))
   | .ptr cs=>.need (0<=n/\n.toNat<len) (.val (.ptr (kJ (n.toNat*b) cs)))
   | _=>.no)
  | _=>.no)
 | _,_=>.no
def Q8 (E:Env) (t:Nat) (a i:AVal):OR:=
 match a,i with
 | .str l,.int _ n=>(match cR E.T t with
  | some {kind:=.str,..}=>.idx n fun i=>.byte l i
  | _=>.no)
 | .agg cs,.int _ n=>(match cR E.T t with
  | some {kind:=.arr len esz ag,..}=>(match lV esz (kJ (n.toNat*esz) cs) with
   | some l=>bif ag then .need (0<=n/\n<len) (.val (.agg l)) else (match l with | [c]=>.need (0<=n/\n<len) (.val c) | _=>.no)
   | none=>.no)
  | _=>.no)
 | _,_=>.no
def DO (place:Nat->Option (Nat×Nat)):List AVal->List (Nat×AVal)->Option (List AVal)
 | cs,[]=>some cs
 | cs,(i,v)::r=>match place i with
  | none=>none
  | some (off,sz)=>bif CK v&&Ar (N2 v.cells) sz then (match nF off v.cells cs with | some cs=>DO place cs r | none=>none) else none
def RC (E:Env) (t:Nat) (a:List (Nat×AVal)):OR:=
 match cR E.T t with
 | some b=>(match b.kind,b.zero with
  | .strct fs,.agg z=>(match DO (fun i=>(nth fs i).map fun f=>(f.1,f.2.1)) z a with
   | some cs=>.val (.agg cs)
   | none=>.no)
  | .arr _ esz _,.agg z=>(match DO (fun i=>some (i*esz,esz)) z a with
   | some cs=>.val (.agg cs)
   | none=>.no)
  | _,_=>.no)
 | _=>.no
def pD (hint base sz:Nat) (e:TypeId) (xs:List AVal):OR:=
 match hint with
 | 2=>.born (.row 0 sz e xs) (.row base 0)
 | _=>.born (.tail 0 sz e) (.slice sz xs (.own base 0))
def DP (og:Nat->AObj) (a:Nat):Nat->List (Nat×AVal)->Option (List AVal)
 | _,[]=>some []
 | n,(i,v)::r=>(fun v=>bif Ar i n&&Ar (N2 v.cells) a&&oO v.cells then (match DP og a (n+1) r with | some l=>some (v::l) | none=>none) else none) (pureV og 4 v)
def aBo:List (Nat×AVal)->Nat
 | []=>0
 | _::r=>aBo r+1
def mR (E:Env) (hint base:Nat) (og:Nat->AObj) (t len:Nat) (a:List (Nat×AVal)):OR:=
 match cR E.T t with
 | some {kind:=.slc e esz _,..}=>
  bif Ar (aBo a) len&&Fq (len*esz) 1000&&Fq 1 esz then
   match DP og esz 0 a with
   | some xs=>(match hint with | 0=>.val (.slice esz xs .full) | h=>pD h base esz e xs)
   | none=>.no
  else .no
 | _=>.no
def evL (ρ:Operand->AVal):List (Nat×Operand)->List (Nat×AVal)
 | []=>[]
 | (i,x)::r=>(i,ρ x)::evL ρ r
def evO (ρ:Operand->AVal):List Operand->List AVal
 | []=>[]
 | x::r=>ρ x::evO ρ r
def bnd:Option AVal->(Option Nat->OR)->OR
 | none,k=>k none
 | some (.int _ n),k=>.idx n fun i=>k (some i)
 | some _,_=>.no
def Q0 (E:Env) (og:Nat->AObj) (t:Nat) (a:AVal) (lo c d:Option AVal):OR:=
 match cR E.T t with
 | none=>.no
 | some e=>match a with
  | .str l=>(match e.kind,d with
   | .str,none=>bnd lo fun lo=>bnd c fun c=>match lo,c with
    | none,none=>.val (.str l)
    | some x,none=>.need (x<=l.length) (.val (.str (l.drop x)))
    | none,some y=>.need (y<=l.length) (.val (.str (l.take y)))
    | some x,some y=>.need (x<=y/\y<=l.length) (.val (.str ((l.take y).drop x)))
   | _,_=>.no)
  | .slice sz xs _=>(match e.kind with
   | .slc _ b _=>bif Ar sz b then
     (bnd lo fun lo=>bnd c fun c=>bnd d fun d=>match d with
     | none=>(match lo,c with
            | none,none=>.val (.slice sz xs .no)
            | some x,none=>.need (x<=xs.length) (.val (.slice sz (xs.drop x) .no))
            | none,some y=>.need (y<=xs.length) (.val (.slice sz (xs.take y) .no))
            | some x,some y=>.need (x<=y/\y<=xs.length) (.val (.slice sz ((xs.take y).drop x) .no)))
     | some m=>(match lo,c with
            | none,some y=>.need (y<=xs.length/\m=y) (.val (.slice sz (xs.take y) .full))
            | _,_=>.no))
    else .no
   | _=>.no)
  | .row k g=>(match e.kind,d,og k with
   | .slc _ b _,none,.row g' sz _ xs=>bif Ar g g'&&Ar sz b then
     (bnd lo fun lo=>bnd c fun c=>match lo,c with
     | none,none=>.val (.row k g)
     | some x,none=>.need (x<=xs.length) (.val (.sub k g x (xs.length-x) sz))
     | none,some y=>.need (y<=xs.length) (.val (.sub k g 0 y sz))
     | some x,some y=>.need (x<=y/\y<=xs.length) (.val (.sub k g x (y-x) sz)))
    else .no
   | _,_,_=>.no)
  | .sub k g f len sz=>(match e.kind,d,og k with
   | .slc _ b _,none,.row g' sz' _ xs=>bif (Ar g g'&&Ar sz sz')&&Ar sz b then
     (bnd lo fun lo=>bnd c fun c=>match lo,c with
     | none,none=>.val (.sub k g f len sz)
     | some x,none=>.need (x<=len) (.val (.sub k g (f+x) (len-x) sz))
     | none,some y=>.need (f+y<=xs.length) (.val (.sub k g f y sz))
     | some x,some y=>.need (x<=y/\f+y<=xs.length) (.val (.sub k g (f+x) (y-x) sz)))
    else .no
   | _,_,_=>.no)
  | .ref k off=>(match e.kind,lo,c,d with
   | .arr len b _,none,none,none=>.need ((len:Int)<=9223372036854775807) (.val (.csl k off len b))
   | _,_,_,_=>.no)
  | .ptr cs=>(match e.kind,lo,c,d with
   | .arr len 1 false,none,none,none=>(match lV len cs with
    | some l=>bif oO l then .need ((len:Int)<=9223372036854775807) (.val (.slice 1 l .full)) else .no
    | none=>.no)
   | _,_,_,_=>.no)
  | _=>.no
def ub (c:UInt8):AVal:=.int .u8 c.toNat
def aEu (og:Nat->AObj):AVal->Option (Nat×List AVal)
 | .slice sz xs _=>some (sz,xs)
 | .row k g=>(match og k with
  | .row a sz _ xs=>bif Ar g a then some (sz,xs) else none
  | .frow a sz xs=>bif Ar g a then some (sz,xs) else none
  | _=>none)
 | .sub k g lo len sz=>(match og k with
  | .row a b _ xs=>bif Ar g a&&Ar sz b then some (sz,(xs.drop lo).take len) else none
  | _=>none)
 | _=>none
def aAg (E:Env) (og:Nat->AObj) (a b:Nat) (x:AVal):Option (List AVal):=
 match x with
 | .str l=>(match cR E.T b with | some {kind:=.str,..}=>bif Ar a 1 then some (l.map ub) else none | _=>none)
 | .nilslice=>(match cR E.T b with | some {kind:=.slc _ _ _,..}=>some [] | _=>none)
 | x=>match cR E.T b,aEu og x with
  | some {kind:=.slc _ _ _,..},some (sz,xs)=>bif Ar sz a then some xs else none
  | _,_=>none
def aC9 (E:Env) (og:Nat->AObj) (s d:Nat) (a:AVal):OR:=
 match cR E.T s,cR E.T d with
 | some ts,some td=>(match td.kind,a with
  | .int k,.int _ n=>.alt (inR k n) (.int k n) (.int k (k.wrap n))
  | .str,.str l=>(match ts.kind with | .str=>.val (.str l) | _=>.no)
  | .slc e 1 _,.str l=>(match ts.kind,cR E.T e with
   | .str,some {kind:=.int .u8,..}=>.val (.slice 1 (l.map ub) .no)
   | _,_=>.no)
  | .str,a=>(match ts.kind,aEu og a with
   | .slc e 1 _,some (1,xs)=>(match cR E.T e with
    | some {kind:=.int .u8,..}=>.text xs
    | _=>.no)
   | _,_=>.no)
  | _,_=>.no)
 | _,_=>.no
def aJP (E:Env) (og:Nat->AObj) (t:Nat) (a:AVal):OR:=
 match cR E.T t with
 | none=>.no
 | some c=>match c.kind,a with
  | .str,.str l=>.val (.int .i64 l.length)
  | .slc _ _ _,.slice _ xs _=>.val (.int .i64 xs.length)
  | .slc _ _ _,.nilslice=>.val (.int .i64 0)
  | .slc _ _ _,.csl _ _ len _=>.val (.int .i64 len)
  | .slc _ _ _,.hsl _ n _=>.need ((n:Int)<=9223372036854775807) (.val (.int .i64 n))
  | .slc _ _ _,.row k g=>(match og k with
   | .row b _ _ xs=>bif Ar g b then .val (.int .i64 xs.length) else .no
   | .frow b _ xs=>bif Ar g b then .val (.int .i64 xs.length) else .no
   | _=>.no)
  | .slc _ _ _,.sub _ _ _ len _=>.val (.int .i64 len)
  | .arr n _ _,_=>.need ((n:Int)<=9223372036854775807) (.val (.int .i64 n))
  | _,_=>.no
def zU (n a:Nat):Prop:=n<=maxLen/\n*a<=140737488355328
def sD (E:Env) (hint base:Nat) (og:Nat->AObj) (t f:Nat) (s x:AVal):OR:=
 match cR E.T t with
 | some {kind:=.slc e esz eb,..}=>
  bif Fq 1 esz then
   match aAg E og esz f x with
   | none=>.no
   | some ys=>(match s with
    | .slice sz xs d=>(match d with
     | .own k g=>(match og k with
      | .tail c a b=>bif ((Ar g c&&Ar sz a)&&Ar sz esz)&&Ar e b then .need (zU (xs.length+ys.length) eb) (.upd k (.tail (g+1) esz e) (.slice esz (xs++ys) (.own k (g+1)))) else .no
      | _=>.no)
     | .nil=>bif Ar sz esz then .need (zU ys.length eb) (pD hint base esz e ys) else .no
     | .full=>bif Ar sz esz then .need (zU (xs.length+ys.length) eb) (match hint with | 0=>.val (.slice esz (xs++ys) .no) | h=>.need (ys≠[]) (pD h base esz e (xs++ys))) else .no
     | .no=>.no)
    | .nilslice=>.need (zU ys.length eb) (pD hint base esz e ys)
    | .row k g=>(match og k with
     | .row c sz b xs=>bif (Ar g c&&Ar sz esz)&&Ar e b then .need (zU (xs.length+ys.length) eb) (.upd k (.row (g+1) sz e (xs++ys)) (.row k (g+1))) else .no
     | _=>.no)
    | .sub k g lo len sz=>(match og k with
     | .row c a b xs=>bif ((Ar g c&&Ar sz a)&&Ar sz esz)&&Ar e b then
       .need (lo+len+ys.length<=xs.length) (.upd k (.row g sz e (xs.take (lo+len)++ys++xs.drop (lo+len+ys.length))) (.sub k g lo (len+ys.length) sz)) else .no
     | _=>.no)
    | _=>.no)
  else .no
 | _=>.no
def aC8 (E:Env) (og:Nat->AObj) (t f:Nat) (d x:AVal):OR:=
 match cR E.T t with
 | some {kind:=.slc e esz _,..}=>
  bif Fq 1 esz then
   match aAg E og esz f x with
   | none=>.no
   | some ys=>(match d with
    | .row k g=>(match og k with
     | .row b sz c xs=>bif Ar g b&&Ar sz esz then .upd k (.row g sz c (ys.take xs.length++xs.drop ys.length)) (.int .i64 (min ys.length xs.length:Nat)) else .no
     | _=>.no)
    | .sub k g lo len sz=>(match og k with
     | .row b a c xs=>bif (Ar g b&&Ar sz a)&&Ar sz esz then
       .upd k (.row g sz c (xs.take lo++ys.take len++xs.drop (lo+min ys.length len))) (.int .i64 (min ys.length len:Nat)) else .no
     | _=>.no)
    | _=>.no)
  else .no
 | _=>.no
def RB (E:Env) (og:Nat->AObj) (t:Nat) (d:AVal):OR:=
 match cR E.T t with
 | some {kind:=.slc e esz _,..}=>(match cR E.T e with
  | some b=>bif Fq 1 esz&&CK (pureV (fun _=>.dead) 4 b.zero) then (match d with
   | .sub k g lo len sz=>(match og k with
    | .row c a f xs=>bif (Ar g c&&Ar sz a)&&Ar sz esz then
            .upd k (.row g sz f (xs.take lo++Ai len (pureV (fun _=>.dead) 4 b.zero)++xs.drop (lo+len))) (.tup []) else .no
    | _=>.no)
   | _=>.no) else .no
  | none=>.no)
 | _=>.no
def VG (E:Env) (hint base:Nat) (t:Nat) (n c:AVal):OR:=
 match cR E.T t,n,c with
 | some {kind:=.slc e esz f,..},.int _ a,.int _ b=>(match cR E.T e with
  | some d=>bif Fq 1 esz&&CK (pureV (fun _=>.dead) 4 d.zero) then
    .idx a fun i=>.need (a=b/\(f:Int)*b<=281474976710656/\i<=maxLen) (.born (.row 0 esz e (Ai i (pureV (fun _=>.dead) 4 d.zero))) (.row base 0))
   else .no
  | none=>.no)
 | _,_,_=>.no
def NB:List AVal->Option (List Int)
 | []=>some []
 | .int .i64 n::r=>(match NB r with | some l=>some (n::l) | none=>none)
 | _=>none
def F7 (E:Env) (k:Nat) (a:Bool) (v:AVal):Option (List Int):=
 match a with
 | false=>(match cR E.T k with
  | some {kind:=.int .i64,..}=>(match v with | .int .i64 n=>some [n] | _=>none)
  | _=>none)
 | true=>(match cR E.T k with
  | some _=>(match v with
   | .agg cs=>(match NB cs with
    | some l=>bif Fi 0 (zV E.fl k)&&Ar (N2 cs) (zV E.fl k) then some l else none
    | none=>none)
   | _=>none)
  | none=>none)
def dQ:List (List Int×AVal)->List Int->Option AVal
 | [],_=>none
 | (k,v)::r,x=>if k=x then some v else dQ r x
def zR:List (List Int×AVal)->List Int->AVal->List (List Int×AVal)
 | [],x,y=>[(x,y)]
 | (k,v)::r,x,y=>if k=x then (x,y)::r else (k,v)::zR r x y
def ER:List (List Int×AVal)->List Int->List (List Int×AVal)
 | [],_=>[]
 | (k,v)::r,x=>if k=x then r else (k,v)::ER r x
def AM (a:Bool) (es:List (List Int×AVal)) (key:List Int) (r:OR):OR:=
 match a with
 | false=>r
 | true=>.need (∀ p∈es,p.1.length=key.length) r
def JH (E:Env) (og:Nat->AObj) (t:Nat) (m k:AVal) (ok:Bool):OR:=
 match cR E.T t,m with
 | some {kind:=.mp kt e,..},.mref j=>(match cR E.T e,og j with
  | some te,.mp ag es=>(match F7 E kt ag k with
   | some key=>AM ag es key (.find es key fun o=>match o with
    | some v=>.val (bif ok then .tup [v,.bool true] else v)
    | none=>.val (bif ok then .tup [te.zero,.bool false] else te.zero))
   | none=>.no)
  | _,_=>.no)
 | _,_=>.no
def Q7 (E:Env) (og:Nat->AObj) (t:Nat) (m k v:AVal):OR:=
 match cR E.T t,m with
 | some {kind:=.mp kt _,..},.mref j=>(match og j with
  | .mp a es=>(match F7 E kt a k with
   | some key=>(fun v=>bif CK v then AM a es key (.upd j (.mp a (zR es key v)) .undef) else .no) (pureV og 4 v)
   | none=>.no)
  | _=>.no)
 | _,_=>.no
def JG (E:Env) (og:Nat->AObj) (t:Nat) (m k:AVal):OR:=
 match cR E.T t,m with
 | some {kind:=.mp kt _,..},.mref j=>(match og j with
  | .mp a es=>(match F7 E kt a k with
   | some key=>AM a es key (.upd j (.mp a (ER es key)) (.tup []))
   | none=>.no)
  | _=>.no)
 | _,_=>.no
def BC (E:Env) (ty:Nat):AVal->AVal
 | .nilslice=>(match cR E.T ty with | some {kind:=.slc _ esz _,..}=>.slice esz [] .nil | _=>.nilslice)
 | v=>v
def lU (E:Env) (hint base:Nat) (og:Nat->AObj) (ρ:Operand->AVal) (op:Op) (ty:TypeId):OR:=
 match op with
 | .move x=>.val (ρ x)
 | .assign x=>(match hint with
  | 0=>.val (BC E ty (ρ x))
  | h=>match BC E ty (ρ x) with
   | .slice p xs t=>(match t with
    | .nil=>(match xs with
          | []=>(match cR E.T ty with | some {kind:=.slc e esz' _,..}=>bif Ar p esz'&&Fq 1 p then pD h base p e [] else .no | _=>.no)
          | _::_=>.no)
    | t=>.val (.slice p xs t))
   | v=>.val v)
 | .pick c a b=>(match ρ c with
  | .bool true=>.val (ρ a)
  | .bool false=>.val (ρ b)
  | _=>.no)
 | .alloc t=>(match cR E.T t with
  | some j=>bif oO j.zero.cells then .born (.cells t j.zero.cells) (.ref base 0) else .no
  | none=>.no)
 | .box t x=>(fun v=>bif oO v.cells then .born (.cells t v.cells) (.ref base 0) else .no) (ρ x)
 | .build t w=>RC E t (evL ρ w.toList)
 | .buildSlice t n w=>mR E hint base og t n (evL ρ w.toList)
 | .load t a=>(aC4 E og t (ρ a)).bind fun v=>.val (BC E t v)
 | .store t a x=>QZ E og t (ρ a) (BC E t (ρ x))
 | .nilCheck x=>(match ρ x with
  | .ref k off=>.val (.ref k off)
  | .eref k g i sz off=>.val (.eref k g i sz off)
  | .ptr cs=>.val (.ptr cs)
  | .func (.func f) o cs=>.val (.func (.func f) o cs)
  | .func (.yield f) o cs=>.val (.func (.yield f) o cs)
  | .iface t v=>.val (.iface t v)
  | _=>.no)
 | .binOp op t x y _=>aJU E og (isC x||isC y) op t (ρ x) (ρ y)
 | .unOp op _ x=>(match op,ρ x with
  | .not,.bool b=>.val (.bool (!b))
  | .neg,.int k n=>DU k (0-n)
  | .xor,.int k n=>.val (.int k (eX .xor k (if k.signed then -1 else k.max) n))
  | _,_=>.no)
 | .convert s d x=>aC9 E og s d (ρ x)
 | .makeSlice t n c=>VG E hint base t (ρ n) (ρ c)
 | .makeInterface t x=>(match cR E.T t with
  | some j=>(match j.kind with | .iface=>.no | _=>.val (.iface t (ρ x)))
  | none=>.no)
 | .makeFunc fn o cs=>.mkf fn (evO ρ o.toList) (evO ρ cs.toList)
 | .slice t x lo B A=>Q0 E og t (ρ x) (lo.map ρ) (B.map ρ) (A.map ρ)
 | .fieldAddr t x f=>tX E t (ρ x) f
 | .field t x f=>(Q9 E t (ρ x) f).bind fun v=>.val (BC E ty v)
 | .indexAddr t x i=>tW E og t (ρ x) (ρ i)
 | .index t x i=>Q8 E t (ρ x) (ρ i)
 | .extract x i=>(match ρ x with
  | .tup vs=>(match nth vs i with | some v=>.val v | none=>.no)
  | _=>.no)
 | .panic x=>(match ρ x with
  | .iface t v=>(fun v=>bif CK v then .pan (.iface t v) else .no) (pureV og 3 v)
  | _=>.no)
 | .typeAssert x _ t ok=>(match cR E.T t,ρ x with
  | some j,.iface u v=>(match j.kind with
   | .iface=>.no
   | _=>bif Ar u t then .val (bif ok then .tup [v,.bool true] else v) else (bif ok then .val (.tup [j.zero,.bool false]) else .no))
  | some j,.nilif=>(match j.kind with
   | .iface=>.no
   | _=>bif ok then .val (.tup [j.zero,.bool false]) else .no)
  | _,_=>.no)
 | .makeMap t none=>(match cR E.T t with
  | some {kind:=.mp k _,..}=>(match cR E.T k with
   | some z=>.born (.mp z.agg []) (.mref base)
   | none=>.no)
  | _=>.no)
 | .lookup t m k ok=>JH E og t (ρ m) (ρ k) ok
 | .mapUpdate t m k v=>Q7 E og t (ρ m) (ρ k) (ρ v)
 | .call c=>(match c.callee with
  | .value f=>(match ρ f with
   | .func (.func g) o cs=>.call (.func g) (ZA (ZA o (evO ρ c.args.toList)) cs)
   | .func (.yield l) o _=>.call (.yield l) (ZA o (evO ρ c.args.toList))
   | _=>.no)
  | .invoke r q=>(match ρ r with
   | .iface t v=>(match aBW E.mt t q with
    | some g=>.call (.func g) (v::evO ρ c.args.toList)
    | none=>.no)
   | _=>.no)
  | .builtin b=>(match b,c.args.toList,c.argTypes.toList with
   | .len,[x],[t]=>aJP E og t (ρ x)
   | .min,[x,y],_=>(match ρ x,ρ y with | .int k a,.int k' b=>bif aCe k k' then .val (.int k (min a b)) else .no | _,_=>.no)
   | .max,[x,y],_=>(match ρ x,ρ y with | .int k a,.int k' b=>bif aCe k k' then .val (.int k (max a b)) else .no | _,_=>.no)
   | .append,[x,y],[t,t2]=>sD E hint base og t t2 (ρ x) (ρ y)
   | .copy,[x,y],[t,t2]=>aC8 E og t t2 (ρ x) (ρ y)
   | .clear,[x],[t]=>RB E og t (ρ x)
   | .delete,[m,k],[t,_]=>JG E og t (ρ m) (ρ k)
   | _,_,_=>.no))
 | _=>.no
def nrm:AVal->AVal
 | .rowc k g _=>.row k g
 | .pre k g n _ sz=>.sub k g 0 n sz
 | v=>v
def aJS (E:Env) (hint:Nat) (og:Nat->AObj) (t k g c:Nat) (h:AVal):OR:=
 match cR E.T t,og k,h with
 | some {kind:=.slc _ esz _,..},.row g' sz e xs,.int _ n=>bif (Ar g g'&&Ar sz esz)&&Fq 1 sz then
   .idx n fun y=>(match hint with
    | 0=>.need (y<=xs.length/\0<c) (.val (.pre k g y c sz))
    | _=>.need (xs.length<=y/\y<=c) (.upd k (.row (g+1) sz e (xs++Ai (y-xs.length) (.agg (Ai sz .undef)))) (.row k (g+1))))
  else .no
 | _,_,_=>.no
def aC7 (E:Env) (og:Nat->AObj) (t k g:Nat) (l h m:AVal):OR:=
 match cR E.T t,og k,l,h,m with
 | some {kind:=.slc _ esz _,..},.row g' sz _ xs,.int _ a,.int _ b,.int _ c=>bif Ar g g'&&Ar sz esz then
   .idx a fun x=>.idx b fun y=>.idx c fun z=>.need ((x<=y/\y<=z)/\z<=xs.length) (.val .undef)
  else .no
 | _,_,_,_,_=>.no
def VF (E:Env) (base:Nat) (og:Nat->AObj) (t k g n c sz:Nat) (m:AVal):OR:=
 match cR E.T t,og k,m with
 | some {kind:=.slc e esz eb,..},.row g' sz' e' xs,.int .i64 a=>(match cR E.T e with
  | some b=>bif ((Ar g g'&&Ar sz sz')&&(Ar sz esz&&Ar e e'))&&(Fq 1 esz&&CK (pureV (fun _=>.dead) 4 b.zero)) then
    .idx a fun y=>.need (c<n+y/\zU (n+y) eb) (.born (.row 0 esz e (xs.take n++Ai y (pureV (fun _=>.dead) 4 b.zero))) (.row base 0))
   else .no
  | none=>.no)
 | _,_,_=>.no
def kU (E:Env) (hint base:Nat) (og:Nat->AObj) (ρ:Operand->AVal) (op:Op):Option OR:=
 match op with
 | .move x=>some (.val (ρ x))
 | .assign x=>(match ρ x with
  | .rowc k g c=>some (.val (.rowc k g c))
  | _=>none)
 | .slice t x none (some h) none=>(match ρ x with
  | .rowc k g c=>some (aJS E hint og t k g c (ρ h))
  | _=>none)
 | .slice t x (some l) (some h) (some m)=>(match ρ x with
  | .row k g=>some (aC7 E og t k g (ρ l) (ρ h) (ρ m))
  | _=>none)
 | .call c=>(match c.callee with
  | .builtin .cap=>(match c.args.toList,c.argTypes.toList with
   | [x],[t]=>(match ρ x,cR E.T t with
    | .rowc _ _ n,some {kind:=.slc _ _ _,..}=>some (.val (.int .i64 n))
    | _,_=>none)
   | _,_=>none)
  | .builtin .append=>(match c.args.toList,c.argTypes.toList with
   | [x,y],[t,t2]=>(match ρ x,cR E.T t2 with
    | .pre k g n c sz,some {kind:=.int _,..}=>some (VF E base og t k g n c sz (ρ y))
    | _,_=>none)
   | _,_=>none)
  | _=>none)
 | _=>none
def eop (E:Env) (hint base:Nat) (og:Nat->AObj) (ρ:Operand->AVal) (op:Op) (ty:TypeId):OR:=
 match kU E hint base og ρ op with
 | some r=>r
 | none=>lU E hint base og (fun x=>nrm (ρ x)) op ty
def KDL (f:AVal->(AVal->Prop)->Prop):List AVal->(List AVal->Prop)->Prop
 | [],k=>k []
 | c::r,k=>f c fun c=>KDL f r fun r=>k (c::r)
def KD:Nat->AVal->(AVal->Prop)->Prop
 | 0,v,k=>k v
 | n+1,v,k=>match v with
  | .undef=>k .undef
  | .bool b=>k (.bool b)
  | .int i n=>k (.int i n)
  | .str l=>k (.str l)
  | .slice sz xs t=>(match t with | .no=>k (.slice sz xs .no) | .nil=>k (.slice sz xs .nil) | .full=>k (.slice sz xs .full) | .own a b=>k (.slice sz xs (.own a b)))
  | .agg cs=>KDL (KD n) cs fun cs=>k (.agg cs)
  | .tup cs=>KDL (KD n) cs fun cs=>k (.tup cs)
  | .ptr cs=>k (.ptr cs)
  | .ref a b=>k (.ref a b)
  | .eref a b c d e=>k (.eref a b c d e)
  | .csl a b c d=>k (.csl a b c d)
  | .row a b=>k (.row a b)
  | .sub a b c d e=>k (.sub a b c d e)
  | .rowc a b c=>k (.rowc a b c)
  | .pre a b c d e=>k (.pre a b c d e)
  | .mref a=>k (.mref a)
  | .nilptr=>k .nilptr
  | .nilslice=>k .nilslice
  | .nilmap=>k .nilmap
  | .nilfunc=>k .nilfunc
  | .nilif=>k .nilif
  | .hsl a n c=>k (.hsl a n c)
  | .func fn f cs=>k (.func fn f cs)
  | .iface t v=>KD n v fun v=>k (.iface t v)
theorem J5 {f:AVal->(AVal->Prop)->Prop} (b:∀ v k,f v k=k v) (l:List AVal):∀ (k:List AVal->Prop),KDL f l k=k l:=by
 induction l with
 | nil=>intro k;rfl
 | cons c r a=>intro k;simp only [KDL,b,a]
theorem mV (n:Nat):∀ (v:AVal) (k:AVal->Prop),KD n v k=k v:=by
 induction n with
 | zero=>intro v k;rfl
 | succ n a=>
  intro v k
  cases v<;>simp only [KD,J5 a,a]
  grind
def OD (x:AObj) (k:AObj->Prop):Prop:=
 match x with
 | .dead=>k .dead
 | .cells T cs=>KDL (KD 3) cs fun cs=>k (.cells T cs)
 | .fcells cs=>KDL (KD 3) cs fun cs=>k (.fcells cs)
 | .row g sz e xs=>k (.row g sz e xs)
 | .frow g sz xs=>k (.frow g sz xs)
 | .tail g sz e=>k (.tail g sz e)
 | .mp a es=>k (.mp a es)
 | .bun g I=>k (.bun g I)
theorem aDW (x:AObj) (k:AObj->Prop):OD x k=k x:=by cases x<;>simp only [OD,J5 (mV 3)]
def ODL:List AObj->(List AObj->Prop)->Prop
 | [],k=>k []
 | c::r,k=>OD c fun c=>ODL r fun r=>k (c::r)
theorem rK (l:List AObj):∀ (k:List AObj->Prop),ODL l k=k l:=by
 induction l with
 | nil=>intro k;rfl
 | cons c r a=>intro k;simp only [ODL,aDW,a]
def B2:List (Nat×AVal)->Nat->AVal->(List (Nat×AVal)->Prop)->Prop
 | [],n,x,k=>k [(n,x)]
 | (i,v)::r,n,x,k=>bif Ar i n then k ((n,x)::r) else B2 r n x fun r=>k ((i,v)::r)
theorem mL (l:List (Nat×AVal)) (n:Nat) (x:AVal):∀ (k:List (Nat×AVal)->Prop),B2 l n x k=k (gS l n x):=by
 induction l with
 | nil=>intro k;rfl
 | cons c r a=>intro k;obtain ⟨i,v⟩:=c;simp only [B2,gS,a];grind
def pos (k:Nat):Nat->List Nat->Option Nat
 | _,[]=>none
 | j,x::r=>bif Ar x k then some j else pos k (j+1) r
def eD:AObj->Nat
 | .row g _ _ _=>g
 | .tail g _ _=>g
 | .bun g _=>g
 | _=>0
def gm (n0 j a g:Nat):Option Nat:=
 bif Ar g a then some (bif Fi j n0 then (bif Ar a 0 then 0 else 1) else 0) else (bif Fi j n0&&Ar g 0 then some 0 else none)
def cvtV (n0:Nat) (ks:List Nat) (og:Nat->AObj):Nat->AVal->AVal
 | 0,_=>.undef
 | n+1,v=>match v with
  | .slice sz xs t=>(match t with
   | .full=>.slice sz xs .full
   | .nil=>(match ks with | []=>.slice sz xs .no | _::_=>.slice sz xs .nil)
   | .own k g=>(match pos k 0 ks with
    | some j=>(match gm n0 j (eD (og k)) g with | some g=>.slice sz xs (.own j g) | none=>.slice sz xs .no)
    | none=>.slice sz xs .no)
   | _=>.slice sz xs .no)
  | .agg cs=>.agg (dP (cvtV n0 ks og n) cs)
  | .tup cs=>.tup (dP (cvtV n0 ks og n) cs)
  | .func fn a cs=>.func fn (dP (cvtV n0 ks og n) a) (dP (cvtV n0 ks og n) cs)
  | .iface t v=>.iface t (cvtV n0 ks og n v)
  | .ref k off=>(match pos k 0 ks with
   | some j=>(match gm n0 j (eD (og k)) 0 with | some _=>.ref j off | none=>.undef)
   | none=>pureV og 1 (.ref k off))
  | .csl k off len sz=>(match pos k 0 ks with
   | some j=>(match gm n0 j (eD (og k)) 0 with | some _=>.csl j off len sz | none=>.undef)
   | none=>pureV og 1 (.csl k off len sz))
  | .row k g=>(match pos k 0 ks with
   | some j=>(match gm n0 j (eD (og k)) g with | some g=>.row j g | none=>.undef)
   | none=>pureV og 1 (.row k g))
  | .sub k g lo len sz=>(match pos k 0 ks with
   | some j=>(match gm n0 j (eD (og k)) g with | some g=>.sub j g lo len sz | none=>.undef)
   | none=>pureV og 1 (.sub k g lo len sz))
  | .mref k=>(match pos k 0 ks with | some j=>(match gm n0 j (eD (og k)) 0 with | some _=>.mref j | none=>.undef) | none=>.undef)
  | .eref _ _ _ _ _=>.undef
  | .rowc _ _ _=>.undef
  | .pre _ _ _ _ _=>.undef
  | v=>v
def RM (n0:Nat) (ks:List Nat) (obs:List AObj) (j:Nat):AObj->AObj
 | .cells T cs=>.cells T (dP (cvtV n0 ks (aE obs) 4) cs)
 | .row g sz e xs=>.row (match gm n0 j g g with | some g=>g | none=>0) sz e xs
 | .tail g sz e=>.tail (match gm n0 j g g with | some g=>g | none=>0) sz e
 | .bun g I=>.bun (match gm n0 j g g with | some g=>g | none=>0) I
 | o=>o
def yH (n0:Nat) (ks:List Nat) (obs:List AObj):Nat->List Nat->List AObj
 | _,[]=>[]
 | j,k::r=>RM n0 ks obs j (aE obs k)::yH n0 ks obs (j+1) r
def iE (n0:Nat) (ks:List Nat) (obs:List AObj):List AObj:=yH n0 ks obs 0 ks
def mB:List Nat->List AObj->Bool
 | [],_=>true
 | k::r,obs=>(aE obs k).owns&& !tL k r&&mB r obs
def upto:Nat->Nat->List Nat
 | _,0=>[]
 | j,n+1=>j::upto (j+1) n
def jZ:Nat->Nat->List Nat->Bool
 | 0,_,_=>true
 | n+1,j,k::r=>Ar k j&&jZ n (j+1) r
 | _+1,_,[]=>false
def dN (ks:List Nat) (base j:Nat):Nat:=match nth ks j with | some k=>k | none=>base+(j-(olenN ks))
where olenN:List Nat->Nat
 | []=>0
 | _::r=>olenN r+1
def kF (ks:List Nat) (obs:List AObj) (j g:Nat):Nat:=match nth ks j with | some k=>eD (aE obs k)+g | none=>g
def embV (ks:List Nat) (base:Nat) (obs:List AObj):Nat->AVal->AVal
 | 0,_=>.undef
 | n+1,v=>match v with
  | .slice sz xs t=>(match t with
   | .own j g=>.slice sz xs (.own (dN ks base j) (kF ks obs j g))
   | t=>.slice sz xs t)
  | .agg cs=>.agg (dP (embV ks base obs n) cs)
  | .tup cs=>.tup (dP (embV ks base obs n) cs)
  | .func fn a cs=>.func fn (dP (embV ks base obs n) a) (dP (embV ks base obs n) cs)
  | .iface t v=>.iface t (embV ks base obs n v)
  | .ref j off=>.ref (dN ks base j) off
  | .csl j off len sz=>.csl (dN ks base j) off len sz
  | .row j g=>.row (dN ks base j) (kF ks obs j g)
  | .sub j g lo len sz=>.sub (dN ks base j) (kF ks obs j g) lo len sz
  | .mref j=>.mref (dN ks base j)
  | .eref _ _ _ _ _=>.undef
  | .rowc _ _ _=>.undef
  | .pre _ _ _ _ _=>.undef
  | v=>v
def sM (ks:List Nat) (base:Nat) (obs:List AObj) (j:Nat):AObj->AObj
 | .cells T cs=>.cells T (dP (embV ks base obs 4) cs)
 | .row g sz e xs=>.row (kF ks obs j g) sz e xs
 | .frow g sz xs=>.frow (kF ks obs j g) sz xs
 | .tail g sz e=>.tail (kF ks obs j g) sz e
 | .bun g I=>.bun (kF ks obs j g) I
 | o=>o
def kD (ks:List Nat) (base:Nat) (obs:List AObj):Nat->List AObj->List AObj->List AObj
 | _,[],l=>l
 | j,o::r,l=>kD ks base obs (j+1) r (bJ l (dN ks base j) (sM ks base obs j o))
inductive Res where
 | ret (a:AVal)
 | pan (a:AVal)
def yD (M:Imm) (ob:Hs):Ending->Res->Prop
 | .returned v,.ret a=>Rep M ob v a
 | .panicked ch,.pan a=>∃ v,ch=[{v,recovered:=false}]/\Rep M ob v a
 | _,_=>False
def cA (M:Imm) (ob:Hs) (vs:List Value) (as:List AVal):Prop:=
 vs.length=as.length/\∀ (i:Nat) v a,vs[i]? =some v->as[i]? =some a->Rep M ob v a
def kA (P:Program) (f:FuncId) (a:Array Value) (w:World) (R:Ending->World->Prop):Prop:=
 ((callFunc f a).run P w= .ok (.enter f a) w/\Calls P f a w R)\/∃ u w',(callFunc f a).run P w= .ok (.value u) w'/\R (.returned u) w'
def ZI (P:Program) (l:Nat) (b:Array Value) (w:World) (R:Ending->World->Prop):Prop:=
 ∃ f tmps as a,(Instr.yield l b).run P w= .ok (.round l f tmps as a) w/\RoundIn Fence.wide 0 P l f tmps as a w R
def D7:Fn->Array Value->Sem Next
 | .func f,va=>callFunc f va
 | .yield l,va=>Instr.yield l va
 | _,va=>callFunc 0 va
@[reducible] def cW (P:Program) (f:Fn) (va:Array Value) (w:World) (R:Ending->World->Prop):Prop:=
 match f with
 | .func f=>kA P f va w R
 | .yield l=>ZI P l va w R
 | _=>False
def bM (P:Program) (f:Fn) (args:List AVal) (obs:List AObj) (r:Res) (obs':List AObj):Prop:=
 ∀ M ob w a,Mem M ob obs w->cA M ob a args->
  cW P f a.toArray w fun e w'=>∃ M' ob',Ext M ob obs w M' ob' obs' w'/\Mem M' ob' obs' w'/\yD M' ob' e r
abbrev aA (P:Program) (f:FuncId) (args:List AVal) (obs:List AObj) (r:Res) (obs':List AObj):Prop:=bM P (.func f) args obs r obs'
inductive CallG (P:Program) (f:Fn) (args:List AVal) (obs:List AObj) (K:AVal->List AObj->Prop) (Kp:AVal->List AObj->Prop):Prop
 | pure (r:AVal) (new:List AObj) (h:bM P f (dP (cvtV 0 [] (aE (frzL obs args)) 5) args) [] (.ret r) new) (k:K (embV [] (aP obs) (frzL obs args) 5 r) (kD [] (aP obs) (frzL obs args) 0 new (frzL obs args)))
 | eff (fz ks:List Nat) (r:AVal) (obs':List AObj) (hk:mB ks (frzs fz obs)=true) (h:bM P f (dP (cvtV 0 ks (aE (frzs fz obs)) 5) args) (iE 0 ks (frzs fz obs)) (.ret r) obs')
   (k:K (embV ks (aP (frzs fz obs)) (frzs fz obs) 5 r) (kD ks (aP (frzs fz obs)) (frzs fz obs) 0 obs' (frzs fz obs)))
 | effp (fz ks:List Nat) (r:AVal) (obs':List AObj) (hk:mB ks (frzs fz obs)=true) (h:bM P f (dP (cvtV 0 ks (aE (frzs fz obs)) 5) args) (iE 0 ks (frzs fz obs)) (.pan r) obs')
   (k:Kp (embV ks (aP (frzs fz obs)) (frzs fz obs) 5 r) (kD ks (aP (frzs fz obs)) (frzs fz obs) 0 obs' (frzs fz obs)))
 | pan (r:AVal) (h:bM P f (dP (cvtV 0 [] (aE (frzL obs args)) 5) args) [] (.pan r) []) (k:Kp r (frzL obs args))
inductive CallD (P:Program) (f:Fn) (args:List AVal) (so:Bool) (seen:List AObj) (base:Nat) (obs:List AObj) (K:AVal->List AObj->Prop) (Kp:AVal->List AObj->Prop):Prop
 | pure (r:AVal) (new:List AObj) (h:bM P f (dP (cvtV 0 [] (aE seen) 5) args) [] (.ret r) new) (k:K (embV [] base seen 5 r) (kD [] base seen 0 new obs)):CallD P f args so seen base obs K Kp
 | sole (h:so=true) (h:CallG P f args obs K Kp):CallD P f args so seen base obs K Kp
def orF (P:Program) (obs:List AObj) (K:AVal->List AObj->Prop) (Kp:AVal->List AObj->Prop):OR->Prop
 | .no=>False
 | .val v=>K v obs
 | .mkf fn d cs=>K (.func fn d cs) obs
 | .need p r=>p/\orF P obs K Kp r
 | .alt p v w=>(p/\K v obs)\/K w obs
 | .idx n f=>∃ i:Nat,n=(i:Int)/\orF P obs K Kp (f i)
 | .elem xs i f=>∃ x,xs[i]? =some x/\orF P obs K Kp (f x)
 | .byte l i=>∃ c,l[i]? =some c/\K (.int .u8 (c.toNat:Int)) obs
 | .text xs=>∃ l:List UInt8,xs=l.map ub/\(l.length:Int)<=9223372036854775807/\K (.str l) obs
 | .find es key f=>∃ o,dQ es key=o/\orF P obs K Kp (f o)
 | .born x v=>K v (bJ obs (aP obs) x)
 | .upd k x v=>K v (bJ obs k x)
 | .nilq xs a=>∀ b:Bool,(b=true->xs=[])->K (.bool (if a then !b else b)) obs
 | .call f args=>CallG P f args obs K Kp
 | .pan v=>Kp v obs
def nd:AObj->Bool
 | .dead=>false
 | _=>true
def orD (P:Program) (d e bl:Bool) (a obs:List AObj) (base:Nat) (K:AVal->List AObj->Prop) (Kp:AVal->List AObj->Prop):OR->Prop
 | .val v=>K v obs
 | .mkf fn h cs=>K (.func fn h cs) obs
 | .need p r=>p/\orD P d e bl a obs base K Kp r
 | .alt p v w=>(p/\K v obs)\/K w obs
 | .idx n f=>∃ i:Nat,n=(i:Int)/\orD P d e bl a obs base K Kp (f i)
 | .elem xs i f=>∃ x,xs[i]? =some x/\orD P d e bl a obs base K Kp (f x)
 | .byte l i=>∃ c,l[i]? =some c/\K (.int .u8 (c.toNat:Int)) obs
 | .text xs=>∃ l:List UInt8,xs=l.map ub/\(l.length:Int)<=9223372036854775807/\K (.str l) obs
 | .find es key f=>∃ o,dQ es key=o/\orD P d e bl a obs base K Kp (f o)
 | .born x v=>(match bl with | true=>False | false=>K v (bJ obs base x))
 | .upd k x v=>(match (d||(e&&nd (aE a k))) with | true=>K v (bJ obs k x) | false=>False)
 | .nilq xs g=>(match d with | true=>∀ b:Bool,(b=true->xs=[])->K (.bool (if g then !b else b)) obs | false=>False)
 | .call f args=>(match bl with | true=>False | false=>CallD P f args d a base obs K Kp)
 | .pan v=>(match d with | true=>Kp v obs | false=>False)
 | .no=>False
def cC (all:List Oper) (ρ:Operand->AVal) (g:Option (Nat×Bool)):Option Bool:=
 match g with
 | none=>some true
 | some (j,want)=>match nth all j with
  | some p=>match p.dst with
   | some d=>match ρ (.tmp d) with
    | .bool b=>some (b==want)
    | .tup []=>some false
    | _=>none
   | none=>none
  | none=>none
def vQ (n:Nat):List Oper->Bool
 | []=>false
 | o::r=>(match o.guard with | some (j,_)=>Ar j n | none=>false)||vQ n r
def eT (E:Env):Option Nat->Nat
 | none=>0
 | some d=>bif tL d E.own then 1 else bif tL d E.rws then 2 else 0
def mX (fr:List (Nat×AVal)):Option Nat->AVal->List (Nat×AVal)
 | none,_=>fr
 | some d,v=>gS fr d v
def wrP (rest:List Oper) (n:Nat) (d:Option Nat) (fr:List (Nat×AVal)) (v:AVal) (k:List (Nat×AVal)->Prop):Prop:=
 match d with
 | none=>k fr
 | some d=>bif vQ n rest then (match v with
   | .bool b=>(b=true->k (gS fr d (.bool true)))/\(b=false->k (gS fr d (.bool false)))
   | _=>False)
  else k (gS fr d v)
def eM (E:Env) (all:List Oper) (K:List (Nat×AVal)->List AObj->Prop) (Kp:(Nat->AVal)->AVal->List AObj->Prop):Nat->List Oper->List (Nat×AVal)->List AObj->Prop
 | _,[],fr,obs=>K fr obs
 | n,p::rest,fr,obs=>match cC all (ev fr) p.guard with
  | none=>False
  | some false=>eM E all K Kp (n+1) rest (mX fr p.dst (.tup [])) obs
  | some true=>orF E.P obs (fun v obs=>wrP rest n p.dst fr v fun fr=>eM E all K Kp (n+1) rest fr obs) (Kp (aW fr))
    (eop E (eT E p.dst) (aP obs) (aE obs) (ev fr) p.op p.type)
def gU (p:Oper):List Nat:=(p.after.toList.filter (Jm .any)).map (·.on)
def cL (m i:Nat):Bool:=Ar (Nat.land (Nat.shiftRight m i) 1) 1
def dG:List Nat->Nat->Nat
 | [],_=>0
 | x::_,0=>x
 | _::r,n+1=>dG r n
def iT (tab:List Nat):List Nat->Nat
 | []=>0
 | i::r=>Mr (Mr (Nat.shiftLeft 1 i) (dG tab i)) (iT tab r)
def iP:List Nat->List Oper->List Nat
 | tab,[]=>tab
 | tab,p::r=>iP (tab++[iT tab (gU p)]) r
def aKK (n:Nat) (k:Nat->Prop):Prop:=match n with | 0=>k 0 | m+1=>k (m+1)
theorem aFn (n:Nat) (k:Nat->Prop):aKK n k=k n:=by cases n<;>rfl
def S9:List Nat->Nat->(List Nat->Prop)->Prop
 | [],m,k=>k [m]
 | x::r,m,k=>S9 r m fun r=>k (x::r)
theorem aAi (l:List Nat) (m:Nat):∀ (k:List Nat->Prop),S9 l m k=k (l++[m]):=by
 induction l with
 | nil=>intro k;rfl
 | cons x r a=>intro k;simp only [S9,a,Cm]
def VW:List Nat->List Oper->(List Nat->Prop)->Prop
 | tab,[],k=>k tab
 | tab,p::r,k=>aKK (iT tab (gU p)) fun m=>S9 tab m fun tab=>VW tab r k
theorem aDH (l:List Oper):∀ (tab:List Nat) (k:List Nat->Prop),VW tab l k=k (iP tab l):=by
 induction l with
 | nil=>intro tab k;rfl
 | cons p r a=>intro tab k;simp only [VW,iP,aFn,aAi,a]
def loose (tab:List Nat) (i j:Nat):Bool:=!Ar i j&& !cL (dG tab j) i&& !cL (dG tab i) j
def NF (tab:List Nat) (j t:Nat):Nat->List Oper->Bool
 | _,[]=>false
 | i,p::r=>(match p.dst with | some d=>Ar d t&&loose tab i j | none=>false)||NF tab j t (i+1) r
def evH (tab:List Nat) (all:List Oper) (j:Nat) (fr:List (Nat×AVal)):Operand->AVal
 | .tmp t=>bif NF tab j t 0 all then .undef else aW fr t
 | x=>ev fr x
def pR:List Nat->List AObj->List AObj
 | [],obs=>obs
 | k::r,obs=>pR r (bJ obs k .dead)
def EU (tab:List Nat) (j:Nat):List (Nat×Nat)->List Nat
 | []=>[]
 | (i,k)::r=>bif cL (dG tab j) i then EU tab j r else k::EU tab j r
def sole (tab:List Nat) (j:Nat):Nat->List Oper->Bool
 | _,[]=>true
 | i,_::r=>!loose tab i j&&sole tab j (i+1) r
def blD (E:Env):Option Nat->Bool
 | none=>false
 | some d=>tL d E.bl
def FE (E:Env) (tab:List Nat) (j:Nat):Nat->List Oper->Bool
 | _,[]=>true
 | i,p::r=>(!loose tab i j||blD E p.dst)&&FE E tab j (i+1) r
def soN (E:Env) (tab:List Nat) (all:List Oper) (n:Nat) (d:Option Nat):Bool:=sole tab n 0 all&& !blD E d
def uoN (E:Env) (tab:List Nat) (all:List Oper) (n:Nat) (d:Option Nat):Bool:=FE E tab n 0 all&& !blD E d
def pH (E:Env) (tab:List Nat) (n:Nat) (br:List (Nat×Nat)) (obs:List AObj) (d:Option Nat):List AObj:=bif blD E d then [] else pR (EU tab n br) obs
def born (j base:Nat):List AObj->List (Nat×Nat)->List (Nat×Nat)
 | [],br=>br
 | _::r,br=>(j,base)::born j (base+1) r br
def hJ:Nat->List AObj->List AObj
 | 0,l=>l
 | _+1,[]=>[]
 | n+1,_::l=>hJ n l
def iN (E:Env) (all:List Oper) (tab:List Nat) (K:List (Nat×AVal)->List AObj->Prop) (Kp:(Nat->AVal)->AVal->List AObj->Prop):Nat->List Oper->List (Nat×Nat)->List (Nat×AVal)->List AObj->Prop
 | _,[],_,fr,obs=>K fr obs
 | n,p::rest,br,fr,obs=>
  match cC all (evH tab all n fr) p.guard with
  | none=>False
  | some false=>iN E all tab K Kp (n+1) rest br (mX fr p.dst (.tup [])) obs
  | some true=>orD E.P (soN E tab all n p.dst) (uoN E tab all n p.dst) (blD E p.dst) (pH E tab n br obs p.dst) obs (aP obs) (fun v obs'=>wrP rest n p.dst fr v fun fr=>iN E all tab K Kp (n+1) rest (born n (aP obs) (hJ (aP obs) obs') br) fr obs') (Kp (aW fr))
     (eop E (eT E p.dst) (aP obs) (aE (pH E tab n br obs p.dst)) (evH tab all n fr) p.op p.type)
inductive KI where
 | code (c:Code) | inB (id:Nat) | inL (c:Code) | beginR
def DK (id:Nat):List KI->Option (List KI)
 | []=>none
 | .inB i::r=>bif Ar i id then some r else DK id r
 | _::r=>DK id r
inductive Goal where
 | pure (r:Res)
 | full (n0:Nat) (r:Res) (obs':List AObj)
 | keep (n0:Nat) (r:Res) (obs':List AObj)
def aID (E:Env) (obs:List AObj) (fr:List (Nat×AVal)):ResultVar->Option AVal
 | .tmp t=>some (aW fr t)
 | .cell t ty=>match cR E.T ty,aW fr t with
  | some ti,.ref k off=>match aE obs k with
   | .cells _ cs=>match lV ti.size (kJ off cs) with | some l=>mk ti l | none=>none
   | _=>none
  | _,_=>none
def aA1 (E:Env) (obs:List AObj) (fr:List (Nat×AVal)):List ResultVar->Option (List AVal)
 | []=>some []
 | r::rs=>match aID E obs fr r,aA1 E obs fr rs with
  | some v,some vs=>some (v::vs)
  | _,_=>none
def aA2 (E:Env) (obs:List AObj) (a:List ResultVar) (fr:List (Nat×AVal)):Option AVal:=
 match aA1 E obs fr a with
 | some [v]=>some v
 | some vs=>some (.tup vs)
 | none=>none
def aLE (n:Nat):Tk->Bool
 | .own k _=>Fi k n
 | _=>true
def EA (f:AVal->Bool):List AVal->Bool
 | []=>true
 | c::r=>f c&&EA f r
def bel (n:Nat):Nat->AVal->Bool
 | 0,_=>false
 | m+1,a=>match a with
  | .slice _ _ t=>aLE n t
  | .agg cs=>EA (bel n m) cs
  | .tup cs=>EA (bel n m) cs
  | .ref k _=>Fi k n
  | .eref k _ _ _ _=>Fi k n
  | .csl k _ _ _=>Fi k n
  | .row k _=>Fi k n
  | .sub k _ _ _ _=>Fi k n
  | .rowc k _ _=>Fi k n
  | .pre k _ _ _ _=>Fi k n
  | .mref k=>Fi k n
  | .func _ b cs=>EA (bel n m) b&&EA (bel n m) cs
  | .iface _ v=>bel n m v
  | _=>true
def E1 (n:Nat):List AObj->Bool
 | []=>true
 | .cells _ cs::r=>EA (bel n 5) cs&&E1 n r
 | _::r=>E1 n r
def aDF (n:Nat):List (Nat×AVal)->Bool
 | []=>true
 | (_,v)::r=>bel n 5 v&&aDF n r
def nT:Nat->List AObj->List AObj
 | 0,_=>[]
 | _+1,[]=>[]
 | n+1,x::r=>x::nT n r
def NT (g:Goal) (a:AVal->Res) (v:AVal) (obs:List AObj):Prop:=
 match g with
 | .pure r=>a (cvtV 0 [] (aE (frzL obs [v])) 5 v)=r
 | .full n0 r obs'=>∃ b ks,(mB ks (frzs b obs)=true/\jZ n0 0 ks=true)/\a (cvtV n0 ks (aE (frzs b obs)) 5 v)=r/\iE n0 ks (frzs b obs)=obs'
 | .keep n0 r obs'=>(bel n0 5 v=true/\E1 n0 (nT n0 obs)=true)/\a v=r/\nT n0 obs=obs'
def Goal.n0:Goal->Nat
 | .pure _=>0
 | .full n _ _=>n
 | .keep n _ _=>n
def dC (fn:Func):Code:=fn.body.getD .skip
def BM:Nat->Code->List KI->List KI ⊕ Nat
 | n,.seq a b,ks=>match BM n a (.code b::ks) with | .inl r=>.inl r | .inr n=>BM n b ks
 | n,.cond _ a b,ks=>match BM n a ks with | .inl r=>.inl r | .inr n=>BM n b ks
 | n,.block id b,ks=>BM n b (.inB id::ks)
 | 0,.loop b,ks=>.inl (.code b:: .inL b::ks)
 | n+1,.loop b,ks=>BM n b (.inL b::ks)
 | n,_,_=>.inr n
def stk (fn:Func) (n:Nat):List KI:=match BM n (dC fn) [] with | .inl r=>r | .inr _=>[]
def frA:Nat->List AVal->List (Nat×AVal)
 | _,[]=>[]
 | n,a::r=>(n,a)::frA (n+1) r
def mM:List Nat->List (Nat×AVal)->List (Nat×AVal)
 | [],_=>[]
 | t::r,fr=>(t,aW fr t)::mM r fr
structure RI where
 all:List Oper
 dr:Bool
 tab:List Nat
 ks:List KI
inductive St where
 | code (ks:List KI) (fr:List (Nat×AVal)) (obs:List AObj)
 | head (ks:List KI) (fr:List (Nat×AVal)) (obs:List AObj)
 | mid (R:RI) (n:Nat) (rest:List Oper) (br:List (Nat×Nat)) (fr:List (Nat×AVal)) (obs:List AObj)
 | pend (R:RI) (n:Nat) (d:Option Nat) (rest:List Oper) (br:List (Nat×Nat)) (fr:List (Nat×AVal)) (obs:List AObj) (r:OR)
 | got (R:RI) (n:Nat) (d:Option Nat) (rest:List Oper) (br:List (Nat×Nat)) (fr:List (Nat×AVal)) (len:Nat) (obs:List AObj) (v:AVal)
 | leave (p:Option AVal) (fr:List (Nat×AVal)) (obs:List AObj)
def aC0 (g:Goal) (a:AVal->Res) (v:AVal) (obs:List AObj):Prop:=
 match g with
 | .pure r=>KD 5 (cvtV 0 [] (aE (frzL obs [v])) 5 v) fun y=>a y=r
 | .full n0 r obs'=>∃ b ks,(mB ks (frzs b obs)=true/\jZ n0 0 ks=true)/\KD 5 (cvtV n0 ks (aE (frzs b obs)) 5 v) fun y=>ODL (iE n0 ks (frzs b obs)) fun os=>a y=r/\os=obs'
 | .keep n0 r obs'=>(bel n0 5 v=true/\E1 n0 (nT n0 obs)=true)/\ODL (nT n0 obs) fun os=>a v=r/\os=obs'
theorem JF (g:Goal) (a:AVal->Res) (v:AVal) (obs:List AObj):aC0 g a v obs=NT g a v obs:=by
 cases g<;>simp only [aC0,NT,mV,rK]
def aIT (E:Env) (g:Goal) (J:St->Prop) (fr:List (Nat×AVal)) (v:AVal) (obs:List AObj):Prop:=match E.rd with
 | some _=>False
 | none=>match E.df with
  | []=>NT g .pan v obs
  | _::_=>J (.leave (some v) fr obs)
def aEY (E:Env) (fn:Func) (g:Goal) (J:St->Prop) (b:Bool) (fr:List (Nat×AVal)) (obs:List AObj):Prop:=match E.rd with
 | some _=>aC0 g .ret (.bool b) obs
 | none=>match E.df with
  | []=>(match aA2 E obs fn.results.toList fr with | some v=>KD 5 v fun v=>aC0 g .ret v obs | none=>False)
  | _::_=>J (.leave none fr obs)
def aKT:List Oper->Bool
 | [p]=>(match p.op with | .defer _=>true | _=>false)
 | _=>false
def bP (E:Env) (fn:Func) (g:Goal) (J:St->Prop):Nat->St->Prop
 | 0,s=>J s
 | n+1,.head ks fr obs=>bP E fn g J n (.code ks fr obs)
 | _+1,.leave p fr obs=>J (.leave p fr obs)
 | _+1,.code [] fr obs=>aEY E fn g J true fr obs
 | n+1,.code (k::ks) fr obs=>(match k with
  | .inB _=>bP E fn g J n (.code ks fr obs)
  | .inL b=>J (.head (.code b:: .inL b::ks) fr obs)
  | .beginR=>J (.code (.beginR::ks) fr obs)
  | .code q=>match q with
   | .skip=>bP E fn g J n (.code ks fr obs)
   | .seq a b=>bP E fn g J n (.code (.code a:: .code b::ks) fr obs)
   | .block id b=>bP E fn g J n (.code (.code b:: .inB id::ks) fr obs)
   | .loop b=>J (.head (.code b:: .inL b::ks) fr obs)
   | .exit id=>(match DK id ks with
    | some ks=>bP E fn g J n (.code ks fr obs)
    | none=>False)
   | .ret=>aEY E fn g J false fr obs
   | .rangeFunc x u as t=>J (.code (.code (.rangeFunc x u as t)::ks) fr obs)
   | .cond x a b=>(match ev fr x with
    | .bool p=>(p=true->J (.code (.code a::ks) fr obs))/\(p=false->J (.code (.code b::ks) fr obs))
    | _=>False)
   | .region id ops dr=>(match aKT ops.toList with
    | true=>J (.code (.code (.region id ops dr)::ks) fr obs)
    | false=>(match dr with
     | false=>bP E fn g J n (.mid ⟨ops.toList,false,[],ks⟩ 0 ops.toList [] fr obs)
     | true=>VW [] ops.toList fun tab=>bP E fn g J n (.mid ⟨ops.toList,true,tab,ks⟩ 0 ops.toList [] fr obs)))
   | _=>False)
 | n+1,.mid R _ [] _ fr obs=>bP E fn g J n (.code R.ks fr obs)
 | n+1,.mid R i (p::rest) br fr obs=>(match R.dr with
  | false=>(match cC R.all (ev fr) p.guard with
   | none=>False
   | some false=>(match p.dst with | none=>bP E fn g J n (.mid R (i+1) rest br fr obs) | some d=>B2 fr d (.tup []) fun fr=>bP E fn g J n (.mid R (i+1) rest br fr obs))
   | some true=>bP E fn g J n (.pend R i p.dst rest br fr obs (eop E (eT E p.dst) (aP obs) (aE obs) (ev fr) p.op p.type)))
  | true=>(match cC R.all (evH R.tab R.all i fr) p.guard with
   | none=>False
   | some false=>(match p.dst with | none=>bP E fn g J n (.mid R (i+1) rest br fr obs) | some d=>B2 fr d (.tup []) fun fr=>bP E fn g J n (.mid R (i+1) rest br fr obs))
   | some true=>ODL (pH E R.tab i br obs p.dst) fun e=>bP E fn g J n (.pend R i p.dst rest br fr obs (eop E (eT E p.dst) (aP obs) (aE e) (evH R.tab R.all i fr) p.op p.type))))
 | n+1,.pend R i d rest br fr obs r=>(match r with
  | .no=>False
  | .val v=>KD 4 v fun v=>bP E fn g J n (.got R i d rest br fr (aP obs) obs v)
  | .mkf f h cs=>KDL (KD 3) h fun h=>KDL (KD 3) cs fun cs=>bP E fn g J n (.got R i d rest br fr (aP obs) obs (.func f h cs))
  | .need p r=>p/\J (.pend R i d rest br fr obs r)
  | .alt p v w=>(p/\J (.got R i d rest br fr (aP obs) obs v))\/J (.got R i d rest br fr (aP obs) obs w)
  | .idx m f=>∃ x:Nat,m=(x:Int)/\J (.pend R i d rest br fr obs (f x))
  | .elem xs m f=>∃ x,xs[m]? =some x/\J (.pend R i d rest br fr obs (f x))
  | .byte l m=>∃ c,l[m]? =some c/\J (.got R i d rest br fr (aP obs) obs (.int .u8 (c.toNat:Int)))
  | .text xs=>∃ l:List UInt8,xs=l.map ub/\(l.length:Int)<=9223372036854775807/\J (.got R i d rest br fr (aP obs) obs (.str l))
  | .find es key f=>∃ o,dQ es key=o/\J (.pend R i d rest br fr obs (f o))
  | .born x v=>(match (R.dr&&blD E d) with
   | true=>False
   | false=>OD x fun x=>ODL (bJ obs (aP obs) x) fun obs'=>KD 4 v fun v=>bP E fn g J n (.got R i d rest br fr (aP obs) obs' v))
  | .upd k x v=>(match (!R.dr||(soN E R.tab R.all i d||(uoN E R.tab R.all i d&&nd (aE (pH E R.tab i br obs d) k)))) with
   | true=>OD x fun x=>ODL (bJ obs k x) fun obs'=>KD 4 v fun v=>bP E fn g J n (.got R i d rest br fr (aP obs) obs' v)
   | false=>False)
  | .nilq xs j=>(match (!R.dr||soN E R.tab R.all i d) with
   | true=>∀ b:Bool,(b=true->xs=[])->J (.got R i d rest br fr (aP obs) obs (.bool (if j then !b else b)))
   | false=>False)
  | .call f args=>KDL (KD 5) args fun args=>(match R.dr with
   | false=>CallG E.P f args obs (fun v obs'=>J (.got R i d rest br fr (aP obs) obs' v)) (aIT E g J fr)
   | true=>match blD E d with
    | true=>False
    | false=>ODL (pH E R.tab i br obs d) fun e=>CallD E.P f args (soN E R.tab R.all i d) e (aP obs) obs (fun v obs'=>J (.got R i d rest br fr (aP obs) obs' v)) (aIT E g J fr))
  | .pan v=>(match (!R.dr||soN E R.tab R.all i d) with
   | true=>KD 5 v fun v=>(match E.rd with | some _=>False | none=>match E.df with | []=>aC0 g .pan v obs | _::_=>J (.leave (some v) fr obs))
   | false=>False))
 | n+1,.got R i d rest br fr len obs v=>KD 4 v fun v=>ODL obs fun obs=>(match d with
  | none=>bP E fn g J n (.mid R (i+1) rest (bif R.dr then born i len (hJ len obs) br else br) fr obs)
  | some d=>bif vQ i rest then (match v with
    | .bool b=>(b=true->B2 fr d (.bool true) fun fr=>J (.mid R (i+1) rest (bif R.dr then born i len (hJ len obs) br else br) fr obs))/\
      (b=false->B2 fr d (.bool false) fun fr=>J (.mid R (i+1) rest (bif R.dr then born i len (hJ len obs) br else br) fr obs))
    | _=>False)
   else B2 fr d v fun fr=>bP E fn g J n (.mid R (i+1) rest (bif R.dr then born i len (hJ len obs) br else br) fr obs))
theorem D8 {i n:Nat} (h:¬ i=n):Ar i n=false:=by
 cases a:Ar i n with
 | false=>rfl
 | true=>simp_all
theorem aC {i n:Nat} (h:Ar i n=true):i=n:=Nat.eq_of_beq_eq_true h
theorem aU {a b:Bool} (h:(a&&b)=true):a=true/\b=true:=by grind
theorem bI (l:List AObj):aP l=l.length:=by
 induction l with
 | nil=>rfl
 | cons x r a=>simp [aP,a]
theorem vG {l:List AObj}:∀ {n:Nat},n<l.length->l[n]? =some (aE l n):=by
 induction l with
 | nil=>simp
 | cons x r a=>intro n h;cases n with
  | zero=>rfl
  | succ n=>simpa [aE] using a (n:=n) (by grind)
theorem bG {l:List AObj}:∀ {n:Nat} {x:AObj},aE l n=x->x≠ .dead->l[n]? =some x:=by
 induction l with
 | nil=>intro n x h a;exact absurd h.symm (by simpa [aE] using a)
 | cons y r b=>intro n x h a;cases n with
  | zero=>simpa [aE] using h
  | succ n=>simpa using b (n:=n) h a
theorem fX {l:List AObj}:∀ {n:Nat} {x:AObj},l[n]? =some x->aE l n=x:=by
 induction l with
 | nil=>simp
 | cons y r a=>intro n x h;cases n with
  | zero=>simpa [aE] using h
  | succ n=>exact a (n:=n) (by simp_all)
theorem gG {l:List AObj}:∀ {n:Nat} (x:AObj),n<l.length->bJ l n x=l.set n x:=by
 induction l with
 | nil=>simp
 | cons y r a=>intro n x h;cases n with
  | zero=>rfl
  | succ n=>simp only [bJ,List.set_cons_succ];grind
theorem MH (l:List AObj) (x:AObj):bJ l l.length x=l++[x]:=by
 induction l with
 | nil=>rfl
 | cons y r a=>simp [bJ,a]
theorem lW (n:Nat):∀ (l:List AVal),kJ n l=l.drop n:=by
 induction n with
 | zero=>intro l;rfl
 | succ n a=>intro l;cases l with
  | nil=>rfl
  | cons c r=>simpa [kJ] using a r
theorem jC {n:Nat}:∀ {l r:List AVal},lV n l=some r->r.length=n/\∀ (i:Nat) c,r[i]? =some c->l[i]? =some c:=by
 induction n with
 | zero=>intro l r h;cases h;simp
 | succ n f=>
  intro l r h
  cases l with
  | nil=>cases h
  | cons c l=>
   simp only [lV] at h
   split at h
   .rename_i g b
    cases h
    obtain ⟨h1,e⟩:=f b
    refine ⟨by simp [h1],fun i d a=>?_⟩
    cases i with
    | zero=>simpa using a
    | succ i=>simpa using e i d (by simpa using a)
   .cases h
theorem YX:∀ {new l r:List AVal},RP new l=some r->new.length<=l.length/\r.length=l.length/\∀ (i:Nat),r[i]? =if i<new.length then new[i]? else l[i]?:=by
 intro new
 induction new with
 | nil=>intro l r h;cases h;simp
 | cons c new e=>
  intro l r h
  cases l with
  | nil=>cases h
  | cons d l=>
   simp only [RP] at h
   split at h
   .rename_i x b
    cases h
    obtain ⟨h1,a,h3⟩:=e b
    refine ⟨by simp;omega,by simp [a],fun i=>?_⟩
    cases i with
    | zero=>simp
    | succ i=>simpa using h3 i
   .cases h
theorem jY {off:Nat}:∀ {new l r:List AVal},nF off new l=some r->off+new.length<=l.length/\r.length=l.length/\∀ (i:Nat),r[i]? =if off<=i/\i<off+new.length then new[i-off]? else l[i]?:=by
 induction off with
 | zero=>
  intro new l r h
  obtain ⟨h1,a,h3⟩:=YX (show RP new l=some r by cases l<;>exact h)
  grind
 | succ n e=>
  intro new l r h
  cases l with
  | nil=>cases h
  | cons c l=>
   simp only [nF] at h
   split at h
   .rename_i x d
    cases h
    obtain ⟨h1,a,h3⟩:=e d
    refine ⟨by simp;omega,by simp [a],fun i=>?_⟩
    cases i with
    | zero=>simp
    | succ i=>
     simp only [Eu,h3 i]
     by_cases b:n<=i/\i<n+new.length
     .rw [if_pos b,if_pos ⟨by omega,by omega⟩]
      simp
     .rw [if_neg b,if_neg o_]
   .cases h
theorem wC (l:List AVal):N2 l=l.length:=by
 induction l with
 | nil=>rfl
 | cons c r a=>simp [N2,a]
theorem mZ {α:Type} (l:List α):∀ (n:Nat),nth l n=l[n]?:=by
 induction l with
 | nil=>intro n;rfl
 | cons x r a=>intro n;cases n with
  | zero=>rfl
  | succ n=>simpa [nth] using a n
theorem lK {α:Type} {l:List α} {n:Nat} {x:α} (h:nth l n=some x):l[n]? =some x:=by rw [<-mZ];exact h
theorem JY (a b:List AVal):ZA a b=a++b:=by
 induction a with
 | nil=>rfl
 | cons c r d=>simp [ZA,d]
theorem IW (f:AVal->AVal) (l:List AVal):dP f l=l.map f:=by
 induction l with
 | nil=>rfl
 | cons c r a=>simp [dP,a]
theorem lM {n:Nat}:∀ {l:List Nat},tL n l=true↔n∈l
 | []=>by simp [tL]
 | x::r=>by
  simp only [tL,Hr,lM (l:=r),Au]
  constructor
  .rintro (h | h)
   .simp_all
   grind
  .rintro (h | h)
   .simp_all
   grind
theorem rY (fr:List (Nat×AVal)) (n m:Nat) (x:AVal):aW (gS fr n x) m=if m=n then x else aW fr m:=by
 induction fr with
 | nil=>
  simp only [gS,aW]
  by_cases h:m=n
  .simp_all
  .rw [D8 (fun e=>h e.symm),if_neg h];rfl
 | cons p r b=>
  obtain ⟨i,v⟩:=p
  simp only [gS]
  cases a:Ar i n with
  | true=>
   have:=aC a
   subst this
   simp only [cond_true,aW]
   by_cases h:m=i
   .grind
   .rw [D8 (fun e=>h e.symm),if_neg h];rfl
  | false=>
   simp only [cond_false,aW,b]
   grind
theorem bH (b o j:Nat):(⟨b,o,none⟩:Addr).add j=⟨b,o+j,none⟩:=by
 unfold Addr.add;simp
theorem dZ {α:Type} {b:Bool} {x:Option α} {r:α} (h:(bif b then x else none)=some r):b=true/\x=some r:=by
 grind
section
variable {M:Imm} {ob:Hs} {obs:List AObj} {w:World}
theorem Rep.int_inv {v:Value} {k:IntKind} {n:Int} (h:Rep M ob v (.int k n)):v= .int k n/\inR k n:=by cases h with | int _ _ h=>grind
theorem Rep.bool_inv {v:Value} {b:Bool} (h:Rep M ob v (.bool b)):v= .bool b:=by cases h;rfl
theorem Rep.str_inv {v:Value} {l:List UInt8} (h:Rep M ob v (.str l)):v= .string ⟨l.toArray⟩/\(l.length:Int)<=9223372036854775807:=by cases h with | str _ h=>grind
theorem Rep.agg_inv {v:Value} {as:List AVal} (h:Rep M ob v (.agg as)):∃ vs:List Value,v= .agg vs.toArray/\vs.length=as.length/\∀ (i:Nat) u a,vs[i]? =some u->as[i]? =some a->Rep M ob u a:=by
 cases h with | agg vs as hl h=>grind
theorem Rep.tup_inv {v:Value} {as:List AVal} (h:Rep M ob v (.tup as)):∃ vs:List Value,v= .tuple vs.toArray/\vs.length=as.length/\∀ (i:Nat) u a,vs[i]? =some u->as[i]? =some a->Rep M ob u a:=by
 cases h with | tup vs as hl h=>grind
theorem Rep.ptr_inv {v:Value} {cs:List AVal} (h:Rep M ob v (.ptr cs)):∃ b o,v= .pointer (some ⟨b,o,none⟩)/\∀ (j:Nat) c,cs[j]? =some c->M b (o+j) c:=by
 cases h with | ptr b o cs h=>grind
theorem Rep.ref_inv {v:Value} {k off:Nat} (h:Rep M ob v (.ref k off)):∃ b,v= .pointer (some ⟨b,off,none⟩)/\at' ob k 0=some (.pointer (some ⟨b,0,none⟩)):=by
 cases h with | ref k off b h=>grind
theorem Rep.iface_inv {v:Value} {t:TypeId} {a:AVal} (h:Rep M ob v (.iface t a)):∃ u,v= .iface t u/\Rep M ob u a:=by
 cases h with | iface _ v _ h=>grind
theorem Rep.row_inv {v:Value} {k g:Nat} (h:Rep M ob v (.row k g)):∃ a n c,v= .slice a n c/\at' ob k g=some (.slice a n c):=by
 cases h with | row _ _ a n c h=>grind
theorem Rep.untok {v:Value} {sz:Nat} {xs:List AVal} {t:Tk} (h:Rep M ob v (.slice sz xs t)):Rep M ob v (.slice sz xs .no)/\sO ob v t:=by
 cases h with
 | slnil sz t c=>exact ⟨.slnil sz .no trivial,c⟩
 | slemp sz t a cap c=>exact ⟨.slemp sz .no a cap trivial,c⟩
 | sl sz b o n cap xs t e d hm hz h c=>exact ⟨.sl sz b o n cap xs .no e d hm hz h trivial,c⟩
theorem Rep.tok {v:Value} {sz:Nat} {xs:List AVal} {t:Tk} (h:Rep M ob v (.slice sz xs .no)) (c:sO ob v t):Rep M ob v (.slice sz xs t):=by
 cases h with
 | slnil sz _=>exact .slnil sz t c
 | slemp sz _ a cap _=>exact .slemp sz t a cap c
 | sl sz b o n cap xs _ e d hm hz h _=>exact .sl sz b o n cap xs t e d hm hz h c
theorem Rep.slice_pure {v:Value} {sz:Nat} {xs:List AVal} (h:Rep M ob v (.slice sz xs .no)):Rep M [] v (.slice sz xs .no):=by
 cases h with
 | slnil sz _=>exact .slnil sz .no trivial
 | slemp sz _ a cap _=>exact .slemp sz .no a cap trivial
 | sl sz b o n cap xs _ d c hm hz h _=>exact .sl sz b o n cap xs .no d c hm hz h trivial
theorem Rep.slice_inv {v:Value} {sz:Nat} {xs:List AVal} {t:Tk} (h:Rep M ob v (.slice sz xs t)):∃ a c,v= .slice a xs.length c/\(a=none->xs=[]/\c=0)/\(xs≠[]->xs.length<=c)/\(xs.length:Int)<=9223372036854775807:=by
 cases h with
 | slnil sz t d=>grind
 | slemp sz t a cap d=>grind
 | sl sz b o n cap xs t f e hm hz h d=>subst f;exact ⟨_,cap,rfl,fun h=>(by cases h),fun _=>e,hm⟩
theorem Rep.sl_inv {v:Value} {sz:Nat} {xs:List AVal} {t:Tk} (h:Rep M ob v (.slice sz xs t)):(v= .slice none 0 0/\xs=[])\/(∃ a cap,v= .slice (some a) 0 cap/\xs=[])\/
  ∃ b o cap,v= .slice (some ⟨b,o,none⟩) xs.length cap/\xs.length<=cap/\(xs.length:Int)<=9223372036854775807/\(∀ x∈xs,x.cells.length=sz)/\∀ (i j:Nat) x c,xs[i]? =some x->x.cells[j]? =some c->M b (o+i*sz+j) c:=by
 cases h with
 | slnil sz t d=>simp
 | slemp sz t a cap d=>exact .inr (.inl ⟨a,cap,rfl,rfl⟩)
 | sl sz b o n cap xs t f e hm hz h d=>subst f;exact .inr (.inr ⟨b,o,cap,rfl,e,hm,hz,h⟩)
theorem Rep.cells {v:Value} {a:AVal} (h:Rep M ob v a) (f:a≠ .undef):v.cells.toList.length=a.cells.length/\∀ (i:Nat) u c,v.cells.toList[i]? =some u->a.cells[i]? =some c->Rep M ob u c:=by
 have d:∀ {v:Value} {a:AVal},Rep M ob v a->v.cells= #[v]->a.cells=[a]->v.cells.toList.length=a.cells.length/\∀ (i:Nat) u c,v.cells.toList[i]? =some u->a.cells[i]? =some c->Rep M ob u c:=by
  intro v a h A x
  rw [A,x]
  refine ⟨rfl,fun i u c f e=>?_⟩
  cases i with
  | zero=>grind
  | succ i=>simp at f
 cases h with
 | undef v=>exact absurd rfl f
 | agg vs as hl h=>exact ⟨by simpa [Value.cells,AVal.cells] using hl,fun i u c f e=>h i u c (by simpa [Value.cells] using f) (by simpa [AVal.cells] using e)⟩
 | row k g a n c h=>exact d (.row k g a n c h) rfl rfl
 | bool b=>exact d (.bool b) rfl rfl
 | int k n w=>exact d (.int k n w) rfl rfl
 | str l hl=>exact d (.str l hl) rfl rfl
 | tup vs as hl h=>exact d (.tup vs as hl h) rfl rfl
 | ptr b o cs h=>exact d (.ptr b o cs h) rfl rfl
 | ref k off b h=>exact d (.ref k off b h) rfl rfl
 | eref k g i sz off b n c h=>exact d (.eref k g i sz off b n c h) rfl rfl
 | csl k off len sz b h hm=>exact d (.csl k off len sz b h hm) rfl rfl
 | sub k g lo len sz b n c h hl m e hm=>exact d (.sub k g lo len sz b n c h hl m e hm) rfl rfl
 | sub0 k g lo sz a y n c h hl e=>exact d (.sub0 k g lo sz a y n c h hl e) rfl rfl
 | rowc k g c a n h hm=>exact d (.rowc k g c a n h hm) rfl rfl
 | pre k g n c sz b len h e m hl hm=>exact d (.pre k g n c sz b len h e m hl hm) rfl rfl
 | mref k b h=>exact d (.mref k b h) rfl rfl
 | nilptr=>exact d .nilptr rfl rfl
 | nilslice=>exact d .nilslice rfl rfl
 | nilmap=>exact d .nilmap rfl rfl
 | nilfunc=>exact d .nilfunc rfl rfl
 | nilif=>exact d .nilif rfl rfl
 | hsl a n c=>exact d (.hsl a n c) rfl rfl
 | slnil sz t j=>exact d (.slnil sz t j) rfl rfl
 | slemp sz t a cap j=>exact d (.slemp sz t a cap j) rfl rfl
 | sl sz b o n cap xs t m e hm hz h j=>exact d (.sl sz b o n cap xs t m e hm hz h j) rfl rfl
 | func fn q cs p s z e h1 r=>exact d (.func fn q cs p s z e h1 r) rfl rfl
 | iface t v a h=>exact d (.iface t v a h) rfl rfl
theorem Rep.one {v:Value} {a:AVal} (h:Rep M ob v a) (h1:one a=true):v.oneCell'=true:=by
 cases h<;>first | rfl | (simp [AW.one] at h1)
theorem lJ {l:List AVal} (h:oO l=true):∀ (i:Nat) c,l[i]? =some c->one c=true:=by
 induction l with
 | nil=>simp
 | cons d r b=>
  simp only [oO,Ag] at h
  intro i c a
  cases i with
  | zero=>grind
  | succ i=>exact b h.2 i c (by simpa using a)
theorem nV {c:AVal} (h:AW.one c=true):c.cells=[c]:=by cases c<;>first | rfl | cases h
theorem Rep.cells_one {v:Value} {a:AVal} (h:Rep M ob v a) (h1:oO a.cells=true):v.cells.toList.length=a.cells.length/\(∀ u∈v.cells.toList,u.oneCell'=true)/\∀ (i:Nat) u c,v.cells.toList[i]? =some u->a.cells[i]? =some c->Rep M ob u c:=by
 have d:a≠ .undef:=fun e=>by subst e;simp [AVal.cells,oO,AW.one] at h1
 obtain ⟨g,h3⟩:=h.cells d
 refine ⟨g,fun u hm=>?_,h3⟩
 obtain ⟨i,f⟩:=Cs hm
 have b:i<a.cells.length:=by grind
 exact (h3 i u _ f (Ab b)).one (lJ h1 i _ (Ab b))
end
theorem cI {ob:Hs} {obs:List AObj} {k:Nat} {x:AObj} {hs:List Value} (h1:obs[k]? =some x) (a:ob[k]? =some hs) {b:Nat}:aM ob obs k b↔x.owns=true/\b∈blk hs:=by
 constructor
 .rintro ⟨c,hs',h,f,g,e⟩
  grind
 .rintro ⟨h3,d⟩
  exact ⟨x,hs,h1,h3,a,d⟩
theorem Mem.turn {M M':Imm} {ob:Hs} {obs:List AObj} {w w':World} (h:Mem M ob obs w) {k:Nat} {x x':AObj} {hs hs':List Value} (V:obs[k]? =some x) (J:ob[k]? =some hs) (hp:hs<+:hs') (hd:x= .dead->hs=[])
  (X:∀ b o y,M b o y->M' b o y) (z:∀ b o y,M' b o y->M b o y\/(x.owns=true/\b∈blk hs)\/w.heap.size<=b)
  (C:∀ b o y,M' b o y->∃ v,w'.cell? ⟨b,o,none⟩=some v/\v.oneCell'=true/\Rep M' [] v y)
  (heap:∀ b,b<w.heap.size->¬ (x.owns=true/\b∈blk hs)->w'.heap[b]? =w.heap[b]?)
  (S:w'.os=w.os) (B:w'.tape=w.tape) (G:w'.output=w.output) (s:w.heap.size<=w'.heap.size)
  (I:dE ob (ob.set k hs')->gK M' (ob.set k hs') w' hs' x') (hb:x'.owns=true->∀ b,b∈blk hs'->((x.owns=true/\b∈blk hs)\/w.heap.size<=b)/\b<w'.heap.size) (Q:x'≠ .dead:=by intro h;cases h):
  Mem M' (ob.set k hs') (obs.set k x') w'/\Ext M ob obs w M' (ob.set k hs') (obs.set k x') w'/\cH ob obs (ob.set k hs') (obs.set k x'):=by
 have O:k<obs.length:=(Ad.1 V).1
 have D:k<ob.length:=(Ad.1 J).1
 have u:dE ob (ob.set k hs'):=fun i l hl=>by
  by_cases f:i=k
  .subst f
   rw [J] at hl
   cases hl
   exact ⟨hs',Ap D,hp⟩
  .exact ⟨l,by rw [Aw (fun e=>f e.symm)];exact hl,Cl _⟩
 have n:∀ {i:Nat},i≠k->(obs.set k x')[i]? =obs[i]?/\(ob.set k hs')[i]? =ob[i]?:=fun {i} f=>
  ⟨Aw (fun e=>f e.symm),Aw (fun e=>f e.symm)⟩
 have p:(obs.set k x')[k]? =some x':=Ap O
 have m:(ob.set k hs')[k]? =some hs':=Ap D
 have d:∀ {i b:Nat},aM (ob.set k hs') (obs.set k x') i b->(i≠k/\aM ob obs i b)\/(i=k/\((x.owns=true/\b∈blk hs)\/w.heap.size<=b)/\b<w'.heap.size):=fun {i b} a=>by
  by_cases f:i=k
  .subst f
   have:=(cI p m).1 a
   exact .inr ⟨rfl,hb this.1 b this.2⟩
  .obtain ⟨c,l,K,R,Y,e4⟩:=a
   rw [(n f).1] at K
   rw [(n f).2] at Y
   exact .inl ⟨f,c,l,K,R,Y,e4⟩
 have r:∀ {b:Nat},x.owns=true/\b∈blk hs->aM ob obs k b:=fun a=>(cI V J).2 a
 refine ⟨⟨C,by simp [h.len],fun i c H=>?_,fun i b a=>?_,fun i j b a A=>?_⟩,⟨X,fun b o y T=>?_,u,S,B,G,s,fun b A hn=>heap b A fun a=>hn k (r a),fun i b a=>?_⟩,fun i l h1 t=>⟨fun h3=>?_,fun h3 W=>?_⟩⟩
 .by_cases f:i=k
  .subst f
   rw [p] at H
   cases H
   exact ⟨hs',m,I u⟩
  .rw [(n f).1] at H
   obtain ⟨l,hl,ho⟩:=h.obj i c H
   have F:∀ b,c.owns=true->b∈blk l->¬ (x.owns=true/\b∈blk hs)/\b<w.heap.size:=fun b h1 t=>by
    have a:aM ob obs i b:=(cI H hl).2 ⟨h1,t⟩
    exact ⟨fun hk=>f (h.inj i k b a (r hk)),h.lt i b a⟩
   refine ⟨l,by rw [(n f).2];exact hl,ho.mono X u (fun b h1 t o L y T=>?_) (fun b c' h1 t N=>?_)⟩
   .obtain ⟨U,Z⟩:=F b h1 t
    rcases z b o y T with q | q | q
    .exact L y q
    .exact U q
    .omega
   .obtain ⟨U,Z⟩:=F b h1 t
    rw [heap b Z U]
    exact N
 .rcases d a with ⟨_,a⟩ | ⟨_,_,P⟩
  .exact Ef (h.lt i b a) s
  .exact P
 .rcases d a with ⟨_,a⟩ | ⟨K,a,_⟩<;>rcases d A with ⟨_,g⟩ | ⟨R,g,_⟩
  .exact h.inj i j b a g
  .rcases g with g | g
   .rw [R];exact h.inj i k b a (r g)
   .have:=h.lt i b a;omega
  .rcases a with a | a
   .rw [K];exact h.inj k j b (r a) g
   .have:=h.lt j b g;omega
  omega
 .rcases z b o y T with q | q | q
  .exact .inl q
  .exact .inr (.inr ⟨k,r q⟩)
  omega
 .rcases d a with ⟨_,a⟩ | ⟨_,a | a,_⟩
  .exact .inl ⟨i,a⟩
  .exact .inl ⟨k,r a⟩
  omega
 .have f:i≠k:=fun e=>by
   subst e
   rw [V] at h1
   rw [J] at t
   cases h1
   simp_all
  rw [(n f).1,(n f).2]
  exact ⟨h1,t⟩
 .by_cases f:i=k
  .subst f
   rw [p] at W
   cases W
   rw [m]
   have:=I u
   exact absurd rfl Q
  .rw [(n f).2]
   exact h3▸t
theorem Mem.more {M M':Imm} {ob:Hs} {obs:List AObj} {w w':World} (h:Mem M ob obs w) (t:∀ b o y,M b o y->M' b o y) (d:∀ b o y,M' b o y->M b o y\/w.heap.size<=b)
  (f:∀ b o y,M' b o y->∃ v,w'.cell? ⟨b,o,none⟩=some v/\v.oneCell'=true/\Rep M' [] v y) (heap:∀ b,b<w.heap.size->w'.heap[b]? =w.heap[b]?)
  (n:w'.os=w.os) (e:w'.tape=w.tape) (g:w'.output=w.output) (a:w.heap.size<=w'.heap.size):Mem M' ob obs w'/\Ext M ob obs w M' ob obs w':=by
 refine ⟨⟨f,h.len,fun i c r=>?_,fun i b s=>Ef (h.lt i b s) a,h.inj⟩,⟨t,fun b o y p=>?_,dE.refl _,n,e,g,a,fun b u _=>heap b u,fun i b s=>.inl ⟨i,s⟩⟩⟩
 .obtain ⟨l,hl,x⟩:=h.obj i c r
  refine ⟨l,hl,x.mono t (dE.refl _) (fun b h1 m o j y p=>?_) (fun b z h1 m k=>?_)⟩
  .have:=h.lt i b ((cI r hl).2 ⟨h1,m⟩)
   rcases d b o y p with q | q
   .exact j y q
   .omega
  .rw [heap b (h.lt i b ((cI r hl).2 ⟨h1,m⟩))]
   exact k
 .rcases d b o y p with q | q
  .exact .inl q
  omega
theorem Mem.extend {M:Imm} {ob:Hs} {obs:List AObj} {w:World} (h:Mem M ob obs w) (n:Nat):
  Mem M (ob++Ai n []) (obs++Ai n .dead) w/\Ext M ob obs w M (ob++Ai n []) (obs++Ai n .dead) w/\cH ob obs (ob++Ai n []) (obs++Ai n .dead):=by
 have part:∀ {i:Nat} {c:AObj},(obs++Ai n .dead)[i]? =some c->(i<obs.length/\obs[i]? =some c)\/(obs.length<=i/\c= .dead/\i-obs.length<n):=fun {i c} f=>by
  by_cases d:i<obs.length
  .rw [Af d] at f;grind
  .rw [Ak o_,Ew] at f
   grind
 have left:∀ {i:Nat},i<obs.length->(ob++Ai n ([]:List Value))[i]? =ob[i]?:=fun {i} d=>Af (by rw [h.len];exact d)
 have g:dE ob (ob++Ai n []):=fun i l hl=>⟨l,by rw [Af (Ad.1 hl).1];exact hl,Cl _⟩
 have a:∀ {i b:Nat},aM (ob++Ai n []) (obs++Ai n .dead) i b->aM ob obs i b:=fun {i b} ⟨c,l,o,e2,e3,e4⟩=>by
  rcases part o with ⟨d,o⟩ | ⟨_,rfl,_⟩
  .rw [left d] at e3;exact ⟨c,l,o,e2,e3,e4⟩
  .cases e2
 refine ⟨⟨h.imm,by simp [h.len],fun i c f=>?_,fun i b k=>h.lt i b (a k),fun i j b k q=>h.inj i j b (a k) (a q)⟩,⟨fun _ _ _ h=>h,fun _ _ _ h=>.inl h,g,rfl,rfl,rfl,Ba _,fun _ _ _=>rfl,fun i b k=>.inl ⟨i,a k⟩⟩,fun i l h1 p=>?_⟩
 .rcases part f with ⟨d,f⟩ | ⟨d,rfl,m⟩
  .obtain ⟨l,hl,r⟩:=h.obj i c f
   exact ⟨l,by rw [left d];exact hl,r.mono (fun _ _ _ h=>h) g (fun _ _ _ _ h=>h) (fun _ _ _ _ h=>h)⟩
  .refine ⟨[],?_,trivial⟩
   rw [Ak (by rw [h.len];exact d),Ew,if_pos (by rw [h.len];exact m)]
 .have d:=(Ad.1 h1).1
  exact ⟨fun _=>⟨by rw [Af d];exact h1,by rw [left d];exact p⟩,fun e _=>by rw [left d];exact e▸p⟩
theorem HC {sz:Nat} {xs:List AVal} {i j:Nat} {x c:AVal} (d:xs[i]? =some x) (e:x.cells[j]? =some c) (hz:x.cells.length=sz):aK sz xs (i*sz+j)=some c:=by
 have a:j<sz:=by grind
 have h1:(i*sz+j) / sz=i:=by
  rw [Dj,Iy o_,Jr a,Em]
 have b:(i*sz+j) % sz=j:=by rw [Dj,Nat.mul_add_mod,Nat.mod_eq_of_lt a]
 simp [aK,h1,b,d,e]
theorem fS {sz:Nat} {xs:List AVal} {o:Nat} {c:AVal} (h:aK sz xs o=some c):∃ x,xs[o / sz]? =some x/\x.cells[o % sz]? =some c:=by
 unfold aK at h
 cases a:xs[o / sz]? with
 | none=>grind
 | some x=>exact ⟨x,rfl,by grind⟩
theorem fH {sz:Nat} {xs:List AVal} {q:Nat} {c:AVal} (hs:0<sz) (h:aK sz xs q=some c):q<xs.length*sz:=by
 obtain ⟨x,a,_⟩:=fS h
 exact (Dd hs).1 (Ad.1 a).1
theorem xY {sz:Nat} {xs:List AVal} {q:Nat} (hs:0<sz) (hz:∀ x∈xs,x.cells.length=sz) (h:q<xs.length*sz):∃ c,aK sz xs q=some c:=by
 have a:q / sz<xs.length:=(Dd hs).2 h
 have b:xs[q / sz]? =some xs[q / sz]:=Ab a
 have d:q % sz<(xs[q / sz]).cells.length:=by rw [hz _ (Bb a)];exact Dz _ hs
 exact ⟨_,by unfold aK;rw [b];exact Ab d⟩
theorem cG {sz:Nat} {xs ys:List AVal} {o:Nat} (hs:0<sz) (h:o<xs.length*sz):aK sz (xs++ys) o=aK sz xs o:=by
 have a:o / sz<xs.length:=(Dd hs).2 h
 simp [aK,Af a]
theorem cB {sz:Nat} {xs ys:List AVal} {o:Nat} (hs:0<sz) (h:xs.length*sz<=o):aK sz (xs++ys) o=aK sz ys (o-xs.length*sz):=by
 have b:xs.length<=o / sz:=(Ha hs).2 h
 obtain ⟨q,rfl⟩:=Nat.exists_eq_add_of_le h
 have h1:(xs.length*sz+q) / sz=xs.length+q / sz:=by rw [Dj,Iy hs]
 have a:(xs.length*sz+q) % sz=q % sz:=by simp
 simp only [aK,h1,a,Hk]
 rw [Ak o_]
 simp
theorem mS {sz n:Nat} {xs:List AVal} {q:Nat} (hs:0<sz) (h:q<n*sz):aK sz (xs.take n) q=aK sz xs q:=by
 have a:q / sz<n:=(Dd hs).2 h
 simp [aK,Bg a]
theorem zA {sz n:Nat} {xs:List AVal} {q:Nat} (hs:0<sz):aK sz (xs.drop n) q=aK sz xs (n*sz+q):=by
 have h1:(n*sz+q) / sz=n+q / sz:=by rw [Dj,Iy hs]
 have a:(n*sz+q) % sz=q % sz:=by simp
 simp [aK,h1,a,Bv]
theorem EZ {sz i:Nat} {xs ys:List AVal} (hs:0<sz) (d:i+ys.length<=xs.length) {q:Nat} {c:AVal} (h:aK sz (xs.take i++ys++xs.drop (i+ys.length)) q=some c):
  (i*sz<=q/\q<i*sz+ys.length*sz/\aK sz ys (q-i*sz)=some c)\/((q<i*sz\/i*sz+ys.length*sz<=q)/\aK sz xs q=some c):=by
 have hl:(xs.take i).length=i:=by simp;omega
 have a:(xs.take i++ys).length=i+ys.length:=by simp;omega
 by_cases h1:q<i*sz
 .right
  refine ⟨.inl h1,?_⟩
  rw [Aj,cG hs (by grind),mS hs h1] at h
  exact h
 .by_cases b:q<i*sz+ys.length*sz
  .left
   rw [cG hs (by rw [a,Bx];exact b),cB hs (by grind),hl] at h
   grind
  .right
   refine ⟨.inr o_,?_⟩
   rw [cB hs (by rw [a,Bx];omega),zA hs,a] at h
   have:(i+ys.length)*sz+(q-(i+ys.length)*sz)=q:=by rw [Bx];omega
   simp_all
theorem fB {α:Type} (cv vs:List α) (off:Nat) (h:off+vs.length<=cv.length):(cv.take off++vs++cv.drop (off+vs.length)).length=cv.length/\
  ∀ (i:Nat),(cv.take off++vs++cv.drop (off+vs.length))[i]? =if off<=i/\i<off+vs.length then vs[i-off]? else cv[i]?:=by
 refine ⟨by simp;omega,fun i=>?_⟩
 by_cases h1:i<off
 .rw [Aj,Af q_,if_neg o_,Bg h1]
 .by_cases a:i<off+vs.length
  .rw [if_pos ⟨by omega,a⟩,Aj,Ak q_,Af q_]
   congr 1
   simp;omega
  .rw [if_neg o_,Ak q_,Bv]
   congr 1
   simp;omega
section
variable {M:Imm} {ob:Hs} {obs:List AObj} {w:World}
theorem eB {hs:List Value} {g:Nat} {v:Value} (hl:hs.length=g+1) (a:hs[g]? =some v):blk hs=JV v:=by
 unfold blk
 rw [Lc,hl,Gx,a]
theorem mU {hs:List Value} {v:Value} {b:Nat} (h:blk hs=v.ownBlock.toList) (e:v.ownBlock=some b):b∈blk hs:=by grind
theorem vF {hs:List Value} {v:Value} {b:Nat} (h:blk hs=v.ownBlock.toList) (e:b∈blk hs):v.ownBlock=some b:=by grind
theorem eG {w:World} {e:TypeId} {sz n:Nat} {v:Value} {cv:List Value} (h:w.ownsRow 0 e sz v n cv):JV v=v.ownBlock.toList:=by
 rcases h.2 with ⟨rfl,_⟩ | ⟨g,cap,a,rfl,_⟩<;>rfl
theorem bZ {k g:Nat} {hs:List Value} (h:ob[k]? =some hs):at' ob k g=hs[g]?:=by simp [at',h]
theorem Mem.rowOf (h:Mem M ob obs w) {k g sz:Nat} {e:TypeId} {xs:List AVal} (c:obs[k]? =some (.row g sz e xs)):∃ hs v,ob[k]? =some hs/\hs.length=g+1/\hs[g]? =some v/\at' ob k g=some v/\dD M w v sz e xs/\blk hs=v.ownBlock.toList:=by
 obtain ⟨hs,h1,a,v,h3,b⟩:=h.obj k _ c
 refine ⟨hs,v,h1,a,h3,(bZ h1).trans h3,b,(eB a h3).trans ?_⟩
 obtain ⟨cv,d,_⟩:=b
 exact eG d
theorem Mem.rowTurn (h:Mem M ob obs w) {k g sz:Nat} {e:TypeId} {xs:List AVal} (H:obs[k]? =some (.row g sz e xs)) {hs:List Value} {v:Value} (I:ob[k]? =some hs) (N:hs[g]? =some v)
  {w':World} {n:Nat} {hs':List Value} {t:Value} {xs':List AVal} (hp:hs<+:hs') (m:hs'.length=n+1) (s:hs'[n]? =some t) (F:dD M w' t sz e xs')
  (heap:∀ b,b<w.heap.size->v.ownBlock≠some b->w'.heap[b]? =w.heap[b]?) (B:w'.os=w.os) (j:w'.tape=w.tape) (r:w'.output=w.output) (i:w.heap.size<=w'.heap.size)
  (K:∀ b,t.ownBlock=some b->v.ownBlock=some b\/w.heap.size<=b):
  Mem M (ob.set k hs') (obs.set k (.row n sz e xs')) w'/\Ext M ob obs w M (ob.set k hs') (obs.set k (.row n sz e xs')) w'/\cH ob obs (ob.set k hs') (obs.set k (.row n sz e xs')):=by
 obtain ⟨P,Q,J,R,G,_,p,f⟩:=h.rowOf H
 rw [I] at J
 cases J
 rw [N] at G
 cases G
 obtain ⟨cv,C,_,_,_,z,_⟩:=p
 obtain ⟨cv',c,_⟩:=id F
 have l:∀ b o y,M b o y->v.ownBlock≠some b:=fun b o y x e=>z b e o y x
 refine h.turn H I hp (fun e=>by cases e) (fun _ _ _ h=>h) (fun _ _ _ h=>.inl h) (fun b o y x=>?_) (fun b A O=>heap b A fun e=>O ⟨rfl,mU f e⟩) B j r i (fun _=>?_) (fun _ b d=>?_)
 .obtain ⟨u,D,h1,L⟩:=h.imm b o y x
  exact ⟨u,(Cx (w:=w) (a:=⟨b,o,none⟩) (heap b (Cr w _ D) (l b o y x))).trans D,h1,L⟩
 .exact ⟨m,t,s,F⟩
 .have d:=vF ((eB m s).trans (eG c)) d
  refine ⟨?_,(c.lt b d).2⟩
  rcases K b d with q | q
  .exact .inl ⟨rfl,mU f q⟩
  omega
theorem fQ {α:Type} {l:List α} {k:Nat} {x:α} (h:l[k]? =some x):l.set k x=l:=by
 apply Ek
 intro i
 by_cases a:i=k
 .subst a
  rw [Ap (Ad.1 h).1,h]
 .rw [Aw (fun e=>a e.symm)]
theorem dD.write {v:Value} {sz:Nat} {e:TypeId} {xs xs':List AVal} (h:dD M w v sz e xs) {b n cap:Nat} (K:v= .slice (some ⟨b,0,none⟩) n cap) (hs:0<sz) {p:Nat} {news:List Value} (hp:p+news.length<=xs.length*sz)
  (h1:∀ u∈news,u.oneCell'=true) (hl:xs'.length=xs.length) (hz:∀ x∈xs',x.cells.length=sz)
  (Q:∀ q c,aK sz xs' q=some c->(p<=q/\q<p+news.length/\∃ u,news[q-p]? =some u/\Rep M [] u c)\/((q<p\/p+news.length<=q)/\aK sz xs q=some c)):
  ∃ a,w.heap[b]? =some (.cells a e (0,0))/\p+news.length<=a.size/\dD M (w.setRow b (a.toList.take p++news++a.toList.drop (p+news.length)).toArray) v sz e xs':=by
 subst K
 obtain ⟨cv,⟨U,O⟩,h3,R,D,P,L⟩:=h
 rcases O with ⟨s,_⟩ | ⟨g,B,a,s,_,o,N,F,z,G⟩
 .cases s
 cases s
 have H:xs.length*sz<=a.size:=by rw [z];exact Cd _ N
 have m:p+news.length<=a.toList.length:=by simp;omega
 obtain ⟨y,C⟩:=fB a.toList news p m
 have l:∀ q,q<xs.length*sz->cv[q]? =a.toList[q]?:=fun q d=>by rw [<-G,Bg d]
 refine ⟨a,o,by omega,(a.toList.take p++news++a.toList.drop (p+news.length)).take (xs.length*sz),⟨by rw [hl,Fz,y,Iu];simp;omega,.inr ⟨b,cap,_,by rw [hl],Cn _,setRow_heap w b a _ e _ o,by omega,F,?_,by rw [hl]⟩⟩,fun u f=>?_,hz,fun q c d=>?_,P,fun V I t T S k u f=>?_⟩
 .rw [Gj,y,Iu,z]
 .obtain ⟨q,d⟩:=Cs f
  rw [Gb] at d
  split at d
  .rename_i i
   rw [C] at d
   split at d
   .exact h1 u (Aq d)
   .rw [<-l q i] at d
    exact h3 u (Aq d)
  .cases d
 .have i:=fH hs d
  rw [hl] at i
  rw [Bg i,C]
  rcases Q q c d with ⟨A,r,u,f,J⟩ | ⟨A,r⟩
  .rw [if_pos ⟨A,r⟩];exact ⟨u,f,J⟩
  .rw [if_neg o_,<-l q i]
   exact D q c r
 .cases I
  rw [setRow_heap w b a _ e _ o] at k
  cases k
  have j:∀ u∈a.toList,u.oneCell'=true:=L b rfl _ _ _ o
  simp only [Az] at f
  rcases f with (f | f) | f
  .exact j u (Cy f)
  .exact h1 u f
  .exact j u (Fe f)
theorem Mem.rowWrite {P:Program} (h:Mem M ob obs w) {k g sz:Nat} {e:TypeId} {xs xs':List AVal} (o:obs[k]? =some (.row g sz e xs)) {b n cap:Nat} (A:at' ob k g=some (.slice (some ⟨b,0,none⟩) n cap)) (hs:0<sz)
  {p:Nat} {news:List Value} (hp:p+news.length<=xs.length*sz) (h1:∀ u∈news,u.oneCell'=true) (hl:xs'.length=xs.length) (hz:∀ x∈xs',x.cells.length=sz)
  (C:∀ q c,aK sz xs' q=some c->(p<=q/\q<p+news.length/\∃ u,news[q-p]? =some u/\Rep M [] u c)\/((q<p\/p+news.length<=q)/\aK sz xs q=some c)):
  ∃ w',(storeCells ⟨b,p,none⟩ news).run P w= .ok () w'/\Mem M ob (obs.set k (.row g sz e xs')) w'/\Ext M ob obs w M ob (obs.set k (.row g sz e xs')) w'/\cH ob obs ob (obs.set k (.row g sz e xs')):=by
 obtain ⟨i,v,s,z,l,m,a,j⟩:=h.rowOf o
 rw [A] at m
 cases m
 obtain ⟨d,t,D,y⟩:=a.write rfl hs hp h1 hl hz C
 have hst:=run_storeCells_at P b p e news 0 d w t o_ h1
 simp only [Em] at hst
 refine ⟨_,hst,?_⟩
 have:=h.rowTurn (hs':=i) o s l (Cl _) z l y (fun r _ B=>setRow_other w b r _ (fun e=>B (by simp [Gf,e]))) rfl rfl rfl s_ (fun r f=>.inl f)
 rw [fQ s] at this
 exact this
end
theorem tZ (w:World) (o:Obj):(w.alloc o).heap.size=w.heap.size+1:=by
 simp
structure Grown (M:Imm) (w w':World) (sz:Nat) (e:TypeId) (v:Value) (xs:List AVal):Prop where
 own:∃ cv,w'.ownsRow 0 e sz v xs.length cv/\(∀ u∈cv,u.oneCell'=true)/\∀ (q:Nat) c,aK sz xs q=some c->∃ u,cv[q]? =some u/\Rep M [] u c
 pos:0<sz
 hz:∀ x∈xs,x.cells.length=sz
 blk:∀ b,v.ownBlock=some b->w.heap.size<=b
 heap:∀ b,b<w.heap.size->w'.heap[b]? =w.heap[b]?
 os:w'.os=w.os
 tape:w'.tape=w.tape
 output:w'.output=w.output
 size:w.heap.size<=w'.heap.size
 oneb:SG w' v
section
variable {M:Imm} {ob:Hs} {obs:List AObj} {w w':World} {sz:Nat} {e:TypeId} {v:Value} {xs:List AVal}
theorem fC {w:World} {n:Nat} {cv:List Value} (h:w.ownsRow 0 e sz v n cv) {b:Nat} (c:v.ownBlock=some b) {q:Nat} {u:Value} (a:cv[q]? =some u):w.cell? ⟨b,q,none⟩=some u:=by
 have:=h.cells (g:=b) c q u a
 rwa [bH,Bw] at this
theorem cZ {w:World} {n:Nat} {cv:List Value} (h:w.ownsRow 0 e sz v n cv):(v= .slice none 0 0/\n=0)\/∃ b cap,v= .slice (some ⟨b,0,none⟩) n cap/\v.ownBlock=some b/\n<=cap/\cap<=maxLen:=by
 rcases h.2 with h | ⟨g,cap,f,a,_,_,c,d,_⟩
 .exact .inl h
 .exact .inr ⟨g,cap,a,by rw [a];rfl,c,d⟩
def gL (M:Imm) (v:Value) (sz:Nat) (xs:List AVal):Imm:=fun b o x=>M b o x\/(v.ownBlock=some b/\aK sz xs o=some x)
theorem jS {w:World} {cv:List Value} (h:w.ownsRow 0 e sz v xs.length cv) (hz:∀ x∈xs,x.cells.length=sz) {t:Tk} (a:sO ob v t):Rep (gL M v sz xs) ob v (.slice sz xs t):=by
 rcases cZ h with ⟨rfl,k⟩ | ⟨b,cap,n,f,g,l⟩
 .have:xs=[]:=Av k
  subst this
  exact .slnil sz t a
 .subst n
  refine .sl sz b 0 xs.length cap xs t rfl g (by simp only [maxLen] at l;omega) hz (fun i j x c d m=>.inr ⟨f,?_⟩) a
  rw [Bw]
  exact HC d m (hz x (Aq d))
theorem Grown.imm (g:Grown M w w' sz e v xs) (h:Mem M ob obs w):∀ b o y,gL M v sz xs b o y->∃ u,w'.cell? ⟨b,o,none⟩=some u/\u.oneCell'=true/\Rep (gL M v sz xs) [] u y:=by
 obtain ⟨cv,h1,k,h3⟩:=g.own
 intro b o y d
 rcases d with d | ⟨f,d⟩
 .obtain ⟨u,c,i,j⟩:=h.imm b o y d
  exact ⟨u,(Cx (w:=w) (a:=⟨b,o,none⟩) (g.heap b (Cr w _ c))).trans c,i,j.monoM fun _ _ _ h=>.inl h⟩
 .obtain ⟨u,c,l⟩:=h3 o y d
  exact ⟨u,fC h1 f c,k u (Aq c),l.monoM fun _ _ _ h=>.inl h⟩
theorem Grown.more (g:Grown M w w' sz e v xs) (h:Mem M ob obs w):Mem (gL M v sz xs) ob obs w'/\Ext M ob obs w (gL M v sz xs) ob obs w':=
 h.more (fun _ _ _ h=>.inl h) (fun b o y a=>by
  rcases a with a | ⟨c,_⟩
  .grind
  .exact .inr (g.blk b c)) (g.imm h) g.heap g.os g.tape g.output g.size
theorem Grown.row (g:Grown M w w' sz e v xs) (h:Mem M ob obs w) {k:Nat} (h1:obs[k]? =some .dead) (m:ob[k]? =some []):
  Mem M (ob.set k [v]) (obs.set k (.row 0 sz e xs)) w'/\Ext M ob obs w M (ob.set k [v]) (obs.set k (.row 0 sz e xs)) w'/\cH ob obs (ob.set k [v]) (obs.set k (.row 0 sz e xs)):=by
 obtain ⟨cv,f,p,n⟩:=g.own
 refine h.turn h1 m ⟨[v],rfl⟩ (fun _=>rfl) (fun _ _ _ h=>h) (fun _ _ _ h=>.inl h) (fun b o y q=>?_) (fun b c _=>g.heap b c) g.os g.tape g.output g.size (fun _=>⟨rfl,v,rfl,cv,f,p,g.hz,n,fun b c o=>h.noImm (g.blk b c) o,g.oneb⟩) (fun _ b c=>?_)
 .obtain ⟨u,i,j,l⟩:=h.imm b o y q
  exact ⟨u,(Cx (w:=w) (a:=⟨b,o,none⟩) (g.heap b (Cr w _ i))).trans i,j,l⟩
 .have d:v.ownBlock=some b:=vF (hs:=[v]) (eG f) c
  exact ⟨.inr (g.blk b d),(f.lt b d).2⟩
theorem Grown.tail (g:Grown M w w' sz e v xs) (h:Mem M ob obs w) {k:Nat} (h1:obs[k]? =some .dead) (j:ob[k]? =some []):
  Mem (gL M v sz xs) (ob.set k [v]) (obs.set k (.tail 0 sz e)) w'/\Ext M ob obs w (gL M v sz xs) (ob.set k [v]) (obs.set k (.tail 0 sz e)) w'/\cH ob obs (ob.set k [v]) (obs.set k (.tail 0 sz e))/\
   Rep (gL M v sz xs) (ob.set k [v]) v (.slice sz xs (.own k 0)):=by
 obtain ⟨cv,i,p,m⟩:=g.own
 have l:k<ob.length:=(Ad.1 j).1
 have a:=h.turn (M':=gL M v sz xs) (w':=w') (x':=.tail 0 sz e) (hs':=[v]) h1 j ⟨[v],rfl⟩ (fun _=>rfl) (fun _ _ _ h=>.inl h) (fun b o y c=>by
  rcases c with c | ⟨d,_⟩
  .grind
  .exact .inr (.inr (g.blk b d))) (g.imm h) (fun b d _=>g.heap b d) g.os g.tape g.output g.size
  (fun _=>⟨rfl,v,rfl,_,cv,i,fun b d o n y c=>by
   rcases c with c | ⟨_,c⟩
   .exact h.noImm (g.blk b d) o y c
   .have:=fH g.pos c;omega⟩)
  (fun _ b d=>by
   have f:v.ownBlock=some b:=vF (hs:=[v]) (eG i) d
   exact ⟨.inr (g.blk b f),(i.lt b f).2⟩)
 refine ⟨a.1,a.2.1,a.2.2,jS i g.hz ?_⟩
 show at' _ k 0=some v
 rw [bZ (Ap l)]
 rfl
end
theorem CF (w:World):SG w (.slice none 0 0):=fun b a=>by cases a
theorem jF {z:Array Value} {n:Nat} (hz:z.toList.all (·.oneCell')=true):∀ u∈(Cf z n).toList,u.oneCell'=true:=by
 intro u b
 simp only [Cf,Jv,Ce] at b
 obtain ⟨i,d,rfl⟩:=b
 have a:0<z.size:=by
  refine Nat.pos_of_ne_zero fun e=>?_
  simp_all
 have c:i % z.size<z.size:=Dz _ a
 simp_all
theorem oP {w:World} {cs:List Value} {n c:Nat} {T:TypeId} (h:∀ u∈cs,u.oneCell'=true):SG (w.alloc (.cells cs.toArray T)) (.slice (some ⟨w.heap.size,0,none⟩) n c):=by
 intro b a e g i d u f
 cases a
 rw [heap_alloc_new w _] at d
 grind
theorem iF {P:Program} (w:World) (t K ty e:TypeId) (i:TypeInfo) (z:Value) (M:P.underlying t=some (.slice e)) (N:P.info? e=some i) (hz:i.zero=some z) (hz1:z.cells.toList.all (·.oneCell')=true)
  (T:z.cells.size=i.size) (v:Value) (n:Nat) (a:List Value) (d:w.ownsRow 0 e i.size v n a) (U:∀ u∈a,u.oneCell'=true) (x:Value) (m:Nat) (news:List Value) (hs:Src P i.size K x m news w)
  (F:n+m<=maxLen) (s:(n+m)*i.bytes<=140737488355328):
  ∃ G w',(Cq #[t,K] ty #[v,x]).run P w= .ok G w'/\w'.ownsRow 0 e i.size G (n+m) (a++news)/\w'.os=w.os/\w'.tape=w.tape/\w'.output=w.output/\w.heap.size<=w'.heap.size/\
   ((G.ownBlock=v.ownBlock/\∀ b,v.ownBlock≠some b->w'.heap[b]? =w.heap[b]?)\/(G.ownBlock=some w.heap.size/\∀ b,b<w.heap.size->w'.heap[b]? =w.heap[b]?))/\(SG w v->SG w' G):=by
 have f:(a++news).length=(n+m)*i.size:=by rw [Ay,d.1,hs.newsLen,Bx]
 have h63':n+m<=4611686018427387904\/True:=.inr trivial
 have y:∀ (q:Nat),q<n+m->
   (w.drew.alloc (.cells ((a++news).toArray++Cf z.cells (grownCap w (n+m) q e-(n+m))) e)).ownsRow 0 e i.size
    (.slice (some ⟨w.heap.size,0,none⟩) (n+m) (grownCap w (n+m) q e)) (n+m) (a++news):=by
  intro q ho
  have Q:=grownCap_ge w (n+m) q e
  have D:grownCap w (n+m) q e<=maxLen:=grownCap_le_maxLen w (n+m) q e F
  refine ⟨f,.inr ⟨w.heap.size,_,_,rfl,Cn _,heap_alloc_new w.drew _,Q,D,?_,?_⟩⟩
  .simp only [Array.size_append,Gj,size_zeroCells,T,f,<-Bx]
   simp_all
  .simp only [Ml]
   rw [<-f]
   exact Kz
 have r:∀ (k n' c':Nat),SG (w.drew.alloc (.cells ((a++news).toArray++Cf z.cells k) e)) (.slice (some ⟨w.heap.size,0,none⟩) n' c'):=by
  intro k n' c'
  have:(a++news).toArray++Cf z.cells k=((a++news)++(Cf z.cells k).toList).toArray:=by simp
  rw [this]
  refine oP (w:=w.drew) fun u c=>?_
  rcases Az.1 c with c | c
  .rcases Az.1 c with c | c
   .exact U u c
   .exact hs.one u c
  .exact jF hz1 u c
 have H:∀ o,w.heap.size<=(w.drew.alloc o).heap.size:=fun o=>by simp
 have L:((n+m:Nat):Int)<=9223372036854775807:=by simp only [maxLen] at F;omega
 rcases d.2 with ⟨rfl,rfl⟩ | ⟨g,cap,l,rfl,_,O,hnc,D,S,C⟩
 .have hx:a=[]:=Av (by simpa using d.1)
  subst hx
  by_cases hm:m=0
  .subst hm
   have hn:news=[]:=Av (by simpa using hs.newsLen)
   subst hn
   refine ⟨.slice none 0 0,w,?_,Hg w 0 e i.size,rfl,rfl,rfl,Ba _,.inl ⟨rfl,fun _ _=>rfl⟩,fun h=>h⟩
   rcases hs.kind with ⟨e',I⟩ | I<;>simp [Cq,run_underlying M,run_underlying I,sizeOf,typeInfo,N,hs.len,hs.cells]
  .have J:=run_append_grow_src (P:=P) w t K ty e i z M N hz none 0 0 [] (by rfl) x m news hs o_ L (growslice_fits o_ s)
   exact ⟨_,_,J,y 0 o_,rfl,rfl,rfl,H _,.inr ⟨rfl,fun b B=>heap_alloc_old w.drew _ B⟩,fun _=>r _ _ _⟩
 .by_cases p:n+m<=cap
  .have Y:n*i.size+news.length<=l.size:=by rw [hs.newsLen,S,<-Bx];exact Cd _ p
   have hst:=run_storeCells_at P g (n*i.size) e news 0 l w O o_ hs.one
   simp only [Em] at hst
   have V:(⟨g,0,none⟩:Addr).add (n*i.size)=⟨g,n*i.size,none⟩:=by rw [bH,Bw]
   have J:(Cq #[t,K] ty #[.slice (some ⟨g,0,none⟩) n cap,x]).run P w= .ok (.slice (some ⟨g,0,none⟩) (n+m) cap) (w.setRow g (l.toList.take (n*i.size)++news++l.toList.drop (n*i.size+news.length)).toArray):=by
    rcases hs.kind with ⟨e',I⟩ | I<;>simp [Cq,run_underlying M,run_underlying I,sizeOf,typeInfo,N,hs.len,p,hs.cells,V,hst]
   refine ⟨_,_,J,⟨f,.inr ⟨g,cap,_,rfl,Cn _,setRow_heap w g l _ e _ O,p,D,?_,?_⟩⟩,rfl,rfl,rfl,by simp,.inl ⟨rfl,fun b B=>setRow_other w g b _ (fun e=>B (by simp [Gf,e]))⟩,fun R b B Z T' fz hc u c=>?_⟩
   .simp only [Gj,Ay,Fz,Fh,Iu]
    omega
   .rw [C,<-f]
    exact Kz
   .cases B
    rw [setRow_heap w g l _ e _ O] at hc
    cases hc
    have A:∀ u∈l.toList,u.oneCell'=true:=R g rfl _ _ _ O
    simp only [Az] at c
    rcases c with (c | c) | c
    .exact A u (Cy c)
    .exact hs.one u c
    .exact A u (Fe c)
  .have W:∀ (j:Nat) u,a[j]? =some u->w.cell? ((⟨g,0,none⟩:Addr).add j)=some u:=d.cells (g:=g) rfl
   have X:(Ch i.size n (.slice (some ⟨g,0,none⟩) n cap)).run P w.drew= .ok a.toArray w.drew:=run_firstCells_some w.drew i.size n ⟨g,0,none⟩ n cap a d.1 q_
   have J:=run_append_grow_src (P:=P) w t K ty e i z M N hz (some ⟨g,0,none⟩) n cap a X x m news hs o_ L (growslice_fits o_ s)
   exact ⟨_,_,J,y cap o_,rfl,rfl,rfl,H _,.inr ⟨rfl,fun b B=>heap_alloc_old w.drew _ B⟩,fun _=>r _ _ _⟩
section
variable {M:Imm} {ob:Hs} {obs:List AObj} {w:World}
structure SrcA (P:Program) (M:Imm) (w:World) (sz:Nat) (tx:TypeId) (x:Value) (ys:List AVal):Prop where
 src:∃ news,Src P sz tx x ys.length news w/\∀ (q:Nat) c,aK sz ys q=some c->∃ u,news[q]? =some u/\Rep M [] u c
 hz:∀ y∈ys,y.cells.length=sz
 pre:∀ m,m<=ys.length->∃ news:List Value,(Ch sz m x).run P w= .ok news.toArray w/\news.length=m*sz/\(∀ u∈news,u.oneCell'=true)/\∀ (q:Nat) c,q<m*sz->aK sz ys q=some c->∃ u,news[q]? =some u/\Rep M [] u c
theorem Mem.appendRow {P:Program} (h:Mem M ob obs w) {t S ty e:TypeId} {i:TypeInfo} {z:Value} (ht:P.underlying t=some (.slice e)) (hi:P.info? e=some i) (hz:i.zero=some z) (hz1:z.cells.toList.all (·.oneCell')=true)
  (Q:z.cells.size=i.size) (p:0<i.size) {k g:Nat} {xs ys:List AVal} (Y:obs[k]? =some (.row g i.size e xs)) {v x:Value} (hv:at' ob k g=some v) (hs:SrcA P M w i.size S x ys)
  (N:xs.length+ys.length<=maxLen) (m:(xs.length+ys.length)*i.bytes<=140737488355328):
  ∃ a w' ob',(Cq #[t,S] ty #[v,x]).run P w= .ok a w'/\Mem M ob' (obs.set k (.row (g+1) i.size e (xs++ys))) w'/\Ext M ob obs w M ob' (obs.set k (.row (g+1) i.size e (xs++ys))) w'/\
   cH ob obs ob' (obs.set k (.row (g+1) i.size e (xs++ys)))/\Rep M ob' a (.row k (g+1)):=by
 obtain ⟨n,v0,Z,V,e3,X,H,W⟩:=h.rowOf Y
 rw [hv] at X
 cases X
 obtain ⟨cv,L,T,o3,o4,o5,o6⟩:=H
 obtain ⟨⟨news,U,s2⟩,s3⟩:=hs
 obtain ⟨a,w',hr,s,R,C,J,r,d,B⟩:=iF (P:=P) w t S ty e i z ht hi hz hz1 Q v xs.length cv L T x ys.length news U N m
 have f:∀ b,a.ownBlock=some b->v.ownBlock=some b\/w.heap.size<=b:=fun b D=>by
  rcases d with ⟨q,_⟩ | ⟨q,_⟩
  .exact .inl (q▸D)
  .rw [q] at D;cases D;omega
 have A:dD M w' a i.size e (xs++ys):=by
  refine ⟨cv++news,by simp;omega,fun u F=>?_,fun y I=>?_,fun q c K=>?_,fun b D o=>?_,B o6⟩
  .rcases Az.1 F with F | F
   .exact T u F
   .exact U.one u F
  .rcases Az.1 I with I | I
   .exact o3 y I
   .exact s3 y I
  .by_cases j:q<xs.length*i.size
   .rw [cG p j] at K
    rw [Af (by rw [L.1];exact j)]
    exact o4 q c K
   .rw [cB p o_] at K
    rw [Ak (by rw [L.1];omega),L.1]
    exact s2 _ c K
  .rcases f b D with q | q
   .exact o5 b q o
   .exact h.noImm q o
 have O:(n++[a]).length=g+1+1:=by simp [V]
 have G:(n++[a])[g+1]? =some a:=by rw [<-V];simp
 have:=h.rowTurn (hs':=n++[a]) Y Z e3 ⟨[a],rfl⟩ O G A (fun b j hn=>by
  rcases d with ⟨_,q⟩ | ⟨_,q⟩
  .exact q b hn
  .exact q b j) R C J r f
 refine ⟨a,w',_,hr,this.1,this.2.1,this.2.2,?_⟩
 have hk:k<ob.length:=(Ad.1 Z).1
 have l:at' (ob.set k (n++[a])) k (g+1)=some a:=by rw [bZ (Ap hk)];exact G
 rcases cZ s with ⟨q,_⟩ | ⟨b,cap,q,_⟩
 .rw [q] at l⊢;exact .row _ _ _ _ _ l
 .rw [q] at l⊢;exact .row _ _ _ _ _ l
theorem LH {v:Value} {sz:Nat} {xs:List AVal} {e:TypeId} {n:Nat} {cv:List Value} (f:Rep M ob v (.slice sz xs .no)) (d:w.ownsRow 0 e sz v n cv):n=xs.length:=by
 obtain ⟨a,c,rfl,h1,_⟩:=f.slice_inv
 rcases cZ d with ⟨q,g⟩ | ⟨b,cap,q,_⟩
 .grind
 grind
theorem Mem.appendTail {P:Program} (h:Mem M ob obs w) {t tx ty e:TypeId} {i:TypeInfo} {z:Value} (ht:P.underlying t=some (.slice e)) (hi:P.info? e=some i) (hz:i.zero=some z) (hz1:z.cells.toList.all (·.oneCell')=true)
  (hzs:z.cells.size=i.size) (A:0<i.size) {k g:Nat} {xs ys:List AVal} (S:obs[k]? =some (.tail g i.size e)) {v x:Value} (hv:Rep M ob v (.slice i.size xs (.own k g))) (hs:SrcA P M w i.size tx x ys)
  (h63:xs.length+ys.length<=maxLen) (L:(xs.length+ys.length)*i.bytes<=140737488355328):
  ∃ B w' M' ob',(Cq #[t,tx] ty #[v,x]).run P w= .ok B w'/\Mem M' ob' (obs.set k (.tail (g+1) i.size e)) w'/\Ext M ob obs w M' ob' (obs.set k (.tail (g+1) i.size e)) w'/\
   cH ob obs ob' (obs.set k (.tail (g+1) i.size e))/\Rep M' ob' B (.slice i.size (xs++ys) (.own k (g+1))):=by
 obtain ⟨V,hvt⟩:=hv.untok
 have Y:at' ob k g=some v:=hvt
 obtain ⟨I,e1,e2,v0,e3,n,cv,C,o5⟩:=h.obj k _ S
 have e4:I[g]? =some v:=by rw [<-bZ e1];exact Y
 rw [e4] at e3
 cases e3
 have hn:=LH V C
 subst hn
 obtain ⟨⟨news,s1,s2⟩,s3⟩:=hs
 -- the old row's cells
 have hold:(∀ x∈xs,x.cells.length=i.size)/\(∀ u∈cv,u.oneCell'=true)/\(∀ (q:Nat) c,aK i.size xs q=some c->∃ u,cv[q]? =some u/\Rep M [] u c)/\∀ b,v.ownBlock=some b->b<w.heap.size/\∀ (q:Nat) u,cv[q]? =some u->w.cell? ⟨b,q,none⟩=some u:=by
  have r:∀ b,v.ownBlock=some b->∀ (q:Nat) u,cv[q]? =some u->w.cell? ⟨b,q,none⟩=some u:=fun b d q u m=>fC C d m
  cases V with
  | slnil sz t' W=>
   have:cv=[]:=Av (by simpa using C.1)
   subst this
   exact ⟨fun x S=>by simp at S,fun u m=>by simp at m,fun q c s=>by simp [aK] at s,fun b d=>⟨(C.lt b d).2,r b d⟩⟩
  | slemp sz t' a cap W=>
   have:cv=[]:=Av (by simpa using C.1)
   subst this
   exact ⟨fun x S=>by simp at S,fun u m=>by simp at m,fun q c s=>by simp [aK] at s,fun b d=>⟨(C.lt b d).2,r b d⟩⟩
  | sl sz b o n cap xs t' hn hc hm N hM W=>
   have ho:o=0:=by
    rcases cZ C with ⟨q,_⟩ | ⟨b',cap',q,_⟩
    .cases q
    .cases q;rfl
   subst ho
   have p:∀ q,q<xs.length*i.size->∃ u c,cv[q]? =some u/\aK i.size xs q=some c/\u.oneCell'=true/\Rep M [] u c:=fun q s=>by
    obtain ⟨c,hc⟩:=xY A N s
    obtain ⟨y,f,hyc⟩:=fS hc
    have T:=hM _ _ y c f hyc
    have hqq:0+q / i.size*i.size+q % i.size=q:=by rw [Bw,Dj];exact Fu q _
    rw [hqq] at T
    obtain ⟨u,m,h1,F⟩:=h.imm b q c T
    have j:q<cv.length:=by rw [C.1];exact s
    have:=r b rfl q _ (Ab j)
    rw [m] at this
    cases this
    exact ⟨_,c,Ab j,hc,h1,F⟩
   refine ⟨N,fun u m=>?_,fun q c s=>?_,fun b d=>⟨(C.lt b d).2,r b d⟩⟩
   .obtain ⟨q,s⟩:=Cs m
    obtain ⟨u',c,h1,_,F,_⟩:=p q (by have:=(Ad.1 s).1;rw [C.1] at this;exact this)
    rw [s] at h1
    cases h1
    exact F
   .obtain ⟨u,c',h1,F,_,h3⟩:=p q (fH A s)
    rw [s] at F
    cases F
    exact ⟨u,h1,h3⟩
 obtain ⟨N,o2,o4,o6⟩:=hold
 obtain ⟨B,w',X,l,hos,R,hout,O,H,honeb⟩:=iF (P:=P) w t tx ty e i z ht hi hz hz1 hzs v xs.length cv C o2 x ys.length news s1 h63 L
 have D:∀ b,B.ownBlock=some b->v.ownBlock=some b\/w.heap.size<=b:=fun b d=>by
  rcases H with ⟨q,_⟩ | ⟨q,_⟩
  .exact .inl (q▸d)
  .rw [q] at d;cases d;omega
 have J:∀ b,b<w.heap.size->v.ownBlock≠some b\/B.ownBlock≠some b->w'.heap[b]? =w.heap[b]?:=fun b d hne=>by
  rcases H with ⟨e1,F⟩ | ⟨_,F⟩
  .exact F b (by rcases hne with h | h;exact h;rw [<-e1];exact h)
  .exact F b d
 have hzz:∀ y∈xs++ys,y.cells.length=i.size:=fun y f=>by
  rcases Az.1 f with f | f
  .exact N y f
  .exact s3 y f
 have K:∀ (q:Nat) c,aK i.size (xs++ys) q=some c->∃ u,(cv++news)[q]? =some u/\u.oneCell'=true/\Rep M [] u c:=fun q c s=>by
  by_cases j:q<xs.length*i.size
  .rw [cG A j] at s
   obtain ⟨u,m,X⟩:=o4 q c s
   exact ⟨u,by rw [Af (by rw [C.1];exact j)];exact m,o2 u (Aq m),X⟩
  .rw [cB A o_] at s
   obtain ⟨u,m,X⟩:=s2 _ c s
   exact ⟨u,by rw [Ak (by rw [C.1];omega),C.1];exact m,s1.one u (Aq m),X⟩
 have G:blk I=v.ownBlock.toList:=(eB e2 e4).trans (eG C)
 have U:(I++[B]).length=g+1+1:=by simp [e2]
 have Q:(I++[B])[g+1]? =some B:=by rw [<-e2];simp
 have Z:∀ b o y,B.ownBlock=some b->M b o y->v.ownBlock=some b/\o<xs.length*i.size:=fun b o y d f=>by
  rcases D b d with q | q
  .refine ⟨q,?_⟩
   rcases Mp o (xs.length*i.size) with j | hge
   .exact j
   .exact absurd f (o5 b q o hge y)
  .exact absurd f (h.noImm q o y)
 have p:=h.turn (M':=gL M B i.size (xs++ys)) (w':=w') (x':=.tail (g+1) i.size e) (hs':=I++[B]) S e1 ⟨[B],rfl⟩ (fun e=>by cases e) (fun _ _ _ h=>.inl h) (fun b o y f=>by
   rcases f with f | ⟨d,_⟩
   .exact .inl f
   .rcases D b d with q | q
    .exact .inr (.inl ⟨rfl,mU G q⟩)
    omega) (fun b o y f=>by
   rcases f with f | ⟨d,f⟩
   .obtain ⟨u,m,h1,F⟩:=h.imm b o y f
    refine ⟨u,?_,h1,F.monoM fun _ _ _ h=>.inl h⟩
    by_cases d:B.ownBlock=some b
    .obtain ⟨q1,q2⟩:=Z b o y d f
     have j:o<cv.length:=by rw [C.1];exact q2
     have:=(o6 b q1).2 o _ (Ab j)
     rw [m] at this
     cases this
     exact fC l d (by rw [Af j];simp)
    .exact (Cx (w:=w) (a:=⟨b,o,none⟩) (J b (Cr w _ m) (.inr d))).trans m
   .obtain ⟨u,m,h1,F⟩:=K o y f
    exact ⟨u,fC l d m,h1,F.monoM fun _ _ _ h=>.inl h⟩)
  (fun b j hn=>J b j (.inl fun e=>hn ⟨rfl,mU G e⟩)) hos R hout O
  (fun _=>⟨U,B,Q,_,cv++news,l,fun b d o ho y f=>by
   rcases f with f | ⟨_,f⟩
   .have:=(Z b o y d f).2
    rw [Bx] at ho;omega
   .have:=fH A f
    rw [Ay] at this;omega⟩)
  (fun _ b d=>by
   have hb':B.ownBlock=some b:=vF ((eB U Q).trans (eG l)) d
   refine ⟨?_,(l.lt b hb').2⟩
   rcases D b hb' with q | q
   .exact .inl ⟨rfl,mU G q⟩
   omega)
 refine ⟨B,w',_,_,X,p.1,p.2.1,p.2.2,jS q_ hzz ?_⟩
 show at' _ k (g+1)=some B
 rw [bZ (Ap (Ad.1 e1).1)]
 exact Q
theorem append_nil {P:Program} (h:Mem M ob obs w) {t r ty e:TypeId} {i:TypeInfo} {z:Value} (y:P.underlying t=some (.slice e)) (C:P.info? e=some i) (hz:i.zero=some z) (hz1:z.cells.toList.all (·.oneCell')=true)
  (o:z.cells.size=i.size) (k:0<i.size) {ys:List AVal} {x:Value} (hs:SrcA P M w i.size r x ys) (u:ys.length<=maxLen) (n:ys.length*i.bytes<=140737488355328):
  ∃ m w',(Cq #[t,r] ty #[.slice none 0 0,x]).run P w= .ok m w'/\Grown M w w' i.size e m ys:=by
 obtain ⟨⟨news,s,v⟩,A⟩:=hs
 obtain ⟨m,w',B,c,p,g,l,d,a,f⟩:=iF (P:=P) w t r ty e i z y C hz hz1 o _ 0 [] (Hg w 0 e i.size) s_ x ys.length news s o_ q_
 rw [Bw,Bm] at c
 refine ⟨m,w',B,⟨news,c,s.one,v⟩,k,A,fun b j=>?_,fun b j=>?_,p,g,l,d,f (CF w)⟩
 .rcases a with ⟨q,_⟩ | ⟨q,_⟩
  .rw [q] at j;cases j
  .rw [q] at j;cases j;omega
 .rcases a with ⟨_,q⟩ | ⟨_,q⟩
  .exact q b (by simp [Gf])
  .exact q b j
end
section
variable {M:Imm} {ob:Hs} {obs:List AObj} {w:World}
theorem Mem.sliceCells (h:Mem M ob obs w) {sz b o:Nat} {xs:List AVal} (hs:0<sz) (hz:∀ x∈xs,x.cells.length=sz)
  (hm:∀ (i j:Nat) x c,xs[i]? =some x->x.cells[j]? =some c->M b (o+i*sz+j) c):
  ∃ vs:List Value,vs.length=xs.length*sz/\(∀ (j:Nat) u,vs[j]? =some u->w.cell? ⟨b,o+j,none⟩=some u)/\(∀ u∈vs,u.oneCell'=true)/\
   ∀ (q:Nat) c,aK sz xs q=some c->∃ u,vs[q]? =some u/\Rep M [] u c:=by
 have key:∀ q,q<xs.length*sz->∃ u,w.cell? ⟨b,o+q,none⟩=some u/\u.oneCell'=true/\∀ c,aK sz xs q=some c->Rep M [] u c:=by
  intro q e
  obtain ⟨c,n⟩:=xY hs hz e
  obtain ⟨x,r,l⟩:=fS n
  have p:o+q / sz*sz+q % sz=o+q:=by have:=Fu q sz;rw [Dj] at this;omega
  obtain ⟨v,a,h1,k⟩:=h.imm _ _ _ (hm _ _ _ _ r l)
  rw [p] at a
  exact ⟨v,a,h1,fun s f=>by rw [n] at f;cases f;exact k⟩
 refine ⟨(Dh (xs.length*sz)).map fun q=>(w.cell? ⟨b,o+q,none⟩).getD undef,by simp,fun j u d=>?_,fun u d=>?_,fun q c e=>?_⟩
 .simp only [Bj] at d
  by_cases m:j<xs.length*sz
  .obtain ⟨v,a,_⟩:=key j m
   simp [Dm m,a] at d
   rw [a,d]
  .rw [Bh q_] at d
   simp at d
 .simp only [Ce,Ji] at d
  obtain ⟨q,e,rfl⟩:=d
  obtain ⟨v,a,h1,_⟩:=key q e
  simp [a,h1]
 .have g:=fH hs e
  obtain ⟨v,a,_,k⟩:=key q g
  exact ⟨v,by simp only [Bj,Dm g,Lz,a,Jw],k c e⟩
theorem B4 {P:Program} {sz c m:Nat} {n:Nat} (hm:m<=0) {ys:List AVal}:∃ news:List Value,(Ch sz m (.slice none n c)).run P w= .ok news.toArray w/\news.length=m*sz/\(∀ u∈news,u.oneCell'=true)/\∀ (q:Nat) c,q<m*sz->aK sz ys q=some c->∃ u,news[q]? =some u/\Rep M [] u c:=by
 have:m=0:=o_
 subst this
 exact ⟨[],rfl,by simp,fun u a=>by simp at a,fun q c b=>by simp at b⟩
theorem L6 {P:Program} {sz n c m:Nat} {a:Addr} {ys:List AVal} {vs:List Value} (hm:m*sz<=vs.length) (k:∀ (j:Nat) u,vs[j]? =some u->w.cell? (a.add j)=some u) (h1:∀ u∈vs,u.oneCell'=true)
  (i:∀ (q:Nat) c,aK sz ys q=some c->∃ u,vs[q]? =some u/\Rep M [] u c):
  ∃ news:List Value,(Ch sz m (.slice (some a) n c)).run P w= .ok news.toArray w/\news.length=m*sz/\(∀ u∈news,u.oneCell'=true)/\∀ (q:Nat) c,q<m*sz->aK sz ys q=some c->∃ u,news[q]? =some u/\Rep M [] u c:=by
 have hl:(vs.take (m*sz)).length=m*sz:=by simp;omega
 have e:Ch sz m (.slice (some a) n c)=loadCells a (m*sz):=rfl
 have:=run_loadCells_list (P:=P) w a (vs.take (m*sz)) (fun j v b=>by
  rw [Gb] at b
  split at b
  .exact k j v b
  .cases b)
 rw [hl] at this
 refine ⟨vs.take (m*sz),by grind,hl,fun u f=>h1 u (Cy f),fun q c h g=>?_⟩
 obtain ⟨u,f,d⟩:=i q c g
 exact ⟨u,by rw [Bg h];exact f,d⟩
theorem L5 {P:Program} {sz c m n:Nat} {a:Addr} (hm:m<=0) {ys:List AVal}:∃ news:List Value,(Ch sz m (.slice (some a) n c)).run P w= .ok news.toArray w/\news.length=m*sz/\(∀ u∈news,u.oneCell'=true)/\∀ (q:Nat) c,q<m*sz->aK sz ys q=some c->∃ u,news[q]? =some u/\Rep M [] u c:=by
 have:m=0:=o_
 subst this
 have e:Ch sz 0 (.slice (some a) n c)=loadCells a (0*sz):=rfl
 have:=run_loadCells_list (P:=P) w a [] (fun j v b=>by simp at b)
 simp_all
theorem SrcA.ofSlice {P:Program} (h:Mem M ob obs w) {sz:Nat} (hs:0<sz) {p v:TypeId} (f:P.underlying p=some (.slice v)) {x:Value} {ys:List AVal} {t:Tk} (A:Rep M ob x (.slice sz ys t)):SrcA P M w sz p x ys:=by
 cases A with
 | slnil sz t i=>exact ⟨⟨[],Src.ofNil w f 0,fun q c e=>by simp [aK] at e⟩,fun y g=>by simp at g,fun m hm=>B4 hm⟩
 | slemp sz t a cap i=>exact ⟨⟨[],Src.ofSlice w f a 0 cap [] s_ (fun j u d=>by simp at d) (fun u r=>by simp at r),fun q c e=>by simp [aK] at e⟩,fun y g=>by simp at g,fun m hm=>L5 hm⟩
 | sl sz b o n cap xs t z B hm hz s i=>
  subst z
  obtain ⟨vs,l1,l2,k,l⟩:=h.sliceCells hs hz s
  exact ⟨⟨vs,Src.ofSlice w f ⟨b,o,none⟩ _ cap vs l1 (fun j u d=>by rw [bH];exact l2 j u d) k,l⟩,hz,fun m hm=>L6 (vs:=vs) (by rw [l1];exact Cd _ hm) (fun j u d=>by rw [bH];exact l2 j u d) k l⟩
theorem SrcA.ofRow {P:Program} (h:Mem M ob obs w) {k g sz:Nat} {e:TypeId} {xs:List AVal} (hs:0<sz) (U:obs[k]? =some (.row g sz e xs)) {A L:TypeId} (z:P.underlying A=some (.slice L)) {v:Value} (R:at' ob k g=some v)
  {lo len:Nat} (hl:lo+len<=xs.length) {x:Value} (t:∀ b n c,v= .slice (some ⟨b,0,none⟩) n c->len≠0->∃ l,x= .slice (some ⟨b,lo*sz,none⟩) len l) (s:len=0->∃ a l,x= .slice a 0 l):SrcA P M w sz A x ((xs.drop lo).take len):=by
 obtain ⟨V,X,_,_,_,I,p,_⟩:=h.rowOf U
 rw [R] at I
 cases I
 obtain ⟨cv,B,N,K,S,W⟩:=p
 have hz:∀ y∈(xs.drop lo).take len,y.cells.length=sz:=fun y T=>K y (Fe (Cy T))
 have f:((xs.drop lo).take len).length=len:=by simp;omega
 suffices hsuf:(∃ news,Src P sz A x len news w/\∀ (q:Nat) c,aK sz ((xs.drop lo).take len) q=some c->∃ u,news[q]? =some u/\Rep M [] u c)/\
   ∀ m,m<=len->∃ news:List Value,(Ch sz m x).run P w= .ok news.toArray w/\news.length=m*sz/\(∀ u∈news,u.oneCell'=true)/\∀ (q:Nat) c,q<m*sz->aK sz ((xs.drop lo).take len) q=some c->∃ u,news[q]? =some u/\Rep M [] u c by
  exact ⟨by rw [f];exact hsuf.1,hz,fun m hm=>hsuf.2 m o_⟩
 by_cases D:len=0
 .subst D
  obtain ⟨a,l,rfl⟩:=s rfl
  cases a with
  | none=>exact ⟨⟨[],Src.ofNil w z l,fun q c r=>by simp [aK] at r⟩,fun m hm=>B4 hm⟩
  | some a=>exact ⟨⟨[],Src.ofSlice w z a 0 l [] s_ (fun j u d=>by simp at d) (fun u o=>by simp at o),fun q c r=>by simp [aK] at r⟩,fun m hm=>L5 hm⟩
 .rcases cZ B with ⟨q,Y⟩ | ⟨b,cap,q,O,_⟩
  .omega
  .obtain ⟨l,rfl⟩:=t b _ cap q D
   have C:(lo+len)*sz<=cv.length:=by rw [B.1];exact Cd _ hl
   have H:((cv.drop (lo*sz)).take (len*sz)).length=len*sz:=by rw [Fz,Fh];rw [Bx] at C;omega
   have F:∀ (j:Nat) u,((cv.drop (lo*sz)).take (len*sz))[j]? =some u->w.cell? ((⟨b,lo*sz,none⟩:Addr).add j)=some u:=fun j u d=>by
    rw [Gb] at d
    split at d
    .rw [Bv] at d
     rw [bH]
     exact fC B O d
    .cases d
   have G:∀ u∈(cv.drop (lo*sz)).take (len*sz),u.oneCell'=true:=fun u o=>N u (Fe (Cy o))
   have J:∀ (j:Nat) c,aK sz ((xs.drop lo).take len) j=some c->∃ u,((cv.drop (lo*sz)).take (len*sz))[j]? =some u/\Rep M [] u c:=fun j c d=>by
    have i:=fH hs d
    rw [f] at i
    rw [mS hs i,zA hs] at d
    obtain ⟨u,o,Q⟩:=S _ c d
    exact ⟨u,by rw [Bg i,Bv];exact o,Q⟩
   exact ⟨⟨_,Src.ofSlice w z _ _ _ _ H F G,J⟩,fun m hm=>L6 (by rw [H];exact Cd _ hm) F G J⟩
theorem oS (l:List UInt8):(⟨l.toArray⟩:ByteArray).size=l.length:=by rfl
theorem vD (c:UInt8):Rep M ob (.int .u8 c.toNat) (ub c):=.int _ _ ⟨by simp only [bO];omega,by simp only [bA];have:=c.toNat_lt;omega⟩
theorem SV (l:List UInt8):∀ y∈l.map ub,y.cells.length=1:=fun y a=>by obtain ⟨c,_,rfl⟩:=Ce.1 a;rfl
theorem xX (l:List UInt8) (q:Nat):aK 1 (l.map ub) q=(l[q]?).map ub:=by
 unfold aK
 rw [Ho,Ki,Bj]
 cases l[q]?<;>rfl
theorem SrcA.ofStr {P:Program} {g:TypeId} (j:P.underlying g=some .string) (l:List UInt8):SrcA P M w 1 g (.string ⟨l.toArray⟩) (l.map ub):=by
 have f:∀ (q:Nat) c,aK 1 (l.map ub) q=some c->∃ b,l[q]? =some b/\c=ub b:=fun q c a=>by
  rw [xX] at a
  obtain ⟨b,d,rfl⟩:=Cp.1 a
  grind
 refine ⟨⟨byteCells ⟨l.toArray⟩,?_,fun q c a=>?_⟩,SV l,fun m hm=>⟨(l.take m).map fun b=>Ea .u8 b.toNat,?_,by grind,fun u h=>by obtain ⟨_,_,rfl⟩:=Ce.1 h;rfl,fun q c a i=>?_⟩⟩
 .have:=Src.ofString (P:=P) w j ⟨l.toArray⟩
  rw [oS] at this
  grind
 .rw [xX] at a
  obtain ⟨b,d,rfl⟩:=Cp.1 a
  exact ⟨.int .u8 b.toNat,by simp [byteCells,d],vD b⟩
 .have e:(Ch 1 m (.string ⟨l.toArray⟩)).run P w= .ok (((⟨l.toArray⟩:ByteArray).extract 0 m).data.map fun b=>Ea .u8 b.toNat) w:=rfl
  rw [e]
  simp
 .obtain ⟨b,d,rfl⟩:=f q c i
  rw [Nat.mul_one] at a
  exact ⟨.int .u8 b.toNat,by rw [Bj,Bg a,d];rfl,vD b⟩
theorem ON {P:Program} (h:Mem M ob obs w) {t L ty e:TypeId} {i:TypeInfo} {z:Value} (G:P.underlying t=some (.slice e)) (Z:P.info? e=some i) (hz:i.zero=some z) (hz1:z.cells.toList.all (·.oneCell')=true)
  (U:z.cells.size=i.size) (g:0<i.size) {xs ys:List AVal} {v x:Value} (hv:Rep M ob v (.slice i.size xs .full)) (hs:SrcA P M w i.size L x ys)
  (I:xs.length+ys.length<=maxLen) (p:(xs.length+ys.length)*i.bytes<=140737488355328):
  ∃ V w',(Cq #[t,L] ty #[v,x]).run P w= .ok V w'/\((ys=[]/\V=v/\w'=w)\/(ys≠[]/\Grown M w w' i.size e V (xs++ys))):=by
 obtain ⟨A,⟨a,n,O⟩⟩:=hv.untok
 obtain ⟨⟨news,D,s2⟩,s3⟩:=hs
 obtain ⟨a',c,N,h0,h1,_⟩:=A.slice_inv
 subst O
 cases N
 have X:((xs.length+ys.length:Nat):Int)<=9223372036854775807:=by simp only [maxLen] at I;omega
 by_cases m:ys=[]
 .subst m
  refine ⟨_,w,?_,.inl ⟨rfl,rfl,rfl⟩⟩
  have hn:news=[]:=Av (by simpa using D.newsLen)
  subst hn
  have F:Src P i.size L x 0 [] w:=D
  cases a with
  | none=>rcases F.kind with ⟨e',H⟩ | H<;>simp [Cq,run_underlying G,run_underlying H,sizeOf,typeInfo,Z,F.len,F.cells]
  | some a=>rcases F.kind with ⟨e',H⟩ | H<;>simp [Cq,run_underlying G,run_underlying H,sizeOf,typeInfo,Z,F.len,F.cells,storeCells]
 .have T:0<ys.length:=Gp.2 m
  have pre:(∀ x∈xs,x.cells.length=i.size)/\∃ d:List Value,d.length=xs.length*i.size/\(Ch i.size xs.length (.slice a xs.length xs.length)).run P w.drew= .ok d.toArray w.drew/\(∀ u∈d,u.oneCell'=true)/\
    ∀ (q:Nat) c,aK i.size xs q=some c->∃ u,d[q]? =some u/\Rep M [] u c:=by
   have s:xs=[]->(∀ x∈xs,x.cells.length=i.size)/\∃ d:List Value,d.length=xs.length*i.size/\(Ch i.size xs.length (.slice a xs.length xs.length)).run P w.drew= .ok d.toArray w.drew/\(∀ u∈d,u.oneCell'=true)/\
     ∀ (q:Nat) c,aK i.size xs q=some c->∃ u,d[q]? =some u/\Rep M [] u c:=by
    intro W
    subst W
    refine ⟨fun x W=>by simp at W,[],by simp,?_,fun u f=>by simp at f,fun q c C=>by simp [aK] at C⟩
    cases a<;>simp [Ch,loadCells,loadCellsFrom]
   generalize B:Gt a xs.length xs.length=v at A
   cases A with
   | slnil sz t G=>have q:=s rfl;rw [B] at q;exact q
   | slemp sz t a cap G=>have q:=s rfl;rw [B] at q;exact q
   | sl sz b o n cap xs t hn hc hm r hM G=>
    injection B with v1 v2 v3
    subst v1
    obtain ⟨d,J,Y,K,Q⟩:=h.sliceCells g r hM
    exact ⟨r,d,J,run_firstCells_some w.drew i.size _ ⟨b,o,none⟩ _ _ d J (fun j u hj=>by rw [bH];simpa using Y j u hj),K,Q⟩
  obtain ⟨r,d,J,Y,K,Q⟩:=pre
  have hr:=run_append_grow_src (P:=P) w t L ty e i z G Z hz a xs.length xs.length d Y x ys.length news D o_ X (growslice_fits o_ p)
  have hge:=grownCap_ge w (xs.length+ys.length) xs.length e
  have hcm:grownCap w (xs.length+ys.length) xs.length e<=maxLen:=grownCap_le_maxLen w (xs.length+ys.length) xs.length e I
  have l:(d++news).length=(xs.length+ys.length)*i.size:=by rw [Ay,J,D.newsLen,Bx]
  refine ⟨_,_,hr,.inr ⟨m,⟨d++news,⟨by rw [l,Ay],.inr ⟨w.heap.size,_,_,by simp,Cn _,heap_alloc_new w.drew _,by simp;omega,hcm,?_,?_⟩⟩,fun u f=>?_,fun q c C=>?_⟩,g,fun y m=>?_,fun b R=>?_,fun b R=>heap_alloc_old w.drew _ R,rfl,rfl,rfl,by simp,?_⟩⟩
  .simp only [Array.size_append,Gj,size_zeroCells,U,l,<-Bx]
   congr 1
   omega
  .rw [Ay]
   simp only [Ml]
   rw [<-l]
   exact Kz
  .rcases Az.1 f with f | f
   .exact K u f
   .exact D.one u f
  .by_cases S:q<xs.length*i.size
   .rw [cG g S] at C
    rw [Af o_]
    exact Q q c C
   .rw [cB g o_] at C
    rw [Ak o_,J]
    exact s2 _ c C
  .rcases Az.1 m with m | m
   .exact r y m
   .exact s3 y m
  .simp only [Gf,Fj] at R
   omega
  .have:∀ k,(d++news).toArray++Cf z.cells k=((d++news)++(Cf z.cells k).toList).toArray:=fun k=>by simp
   rw [this]
   refine oP (w:=w.drew) fun u f=>?_
   rcases Az.1 f with f | f
   .rcases Az.1 f with f | f
    .exact K u f
    .exact D.one u f
   .exact jF hz1 u f
theorem Grown.ofAlloc {sz:Nat} {e:TypeId} {xs:List AVal} {cv:List Value} (a:0<sz) (f:cv.length=xs.length*sz) (h1:∀ u∈cv,u.oneCell'=true) (hz:∀ x∈xs,x.cells.length=sz) (hm:xs.length<=maxLen)
  (g:∀ (q:Nat) c,aK sz xs q=some c->∃ u,cv[q]? =some u/\Rep M [] u c):Grown M w (w.alloc (.cells cv.toArray e)) sz e (.slice (some ⟨w.heap.size,0,none⟩) xs.length xs.length) xs:=by
 refine ⟨⟨cv,⟨f,.inr ⟨w.heap.size,xs.length,cv.toArray,rfl,Cn _,heap_alloc_new w _,Ba _,hm,by omega,by grind⟩⟩,h1,g⟩,a,hz,fun b d=>?_,fun b d=>heap_alloc_old w _ d,rfl,rfl,rfl,by simp,oP h1⟩
 simp only [Gf,Fj] at d
 omega
theorem Mem.bornCells (h:Mem M ob obs w) {k:Nat} (h1:obs[k]? =some .dead) (g:ob[k]? =some []) {cv:List Value} {cs:List AVal} (T:TypeId) (hl:cv.length=cs.length) (c:∀ v∈cv,v.oneCell'=true)
  (n:∀ (i:Nat) v a,cv[i]? =some v->cs[i]? =some a->Rep M ob v a):
  Mem M (ob.set k [.pointer (some ⟨w.heap.size,0,none⟩)]) (obs.set k (.cells T cs)) (w.alloc (.cells cv.toArray T))/\Ext M ob obs w M (ob.set k [.pointer (some ⟨w.heap.size,0,none⟩)]) (obs.set k (.cells T cs)) (w.alloc (.cells cv.toArray T))/\
   cH ob obs (ob.set k [.pointer (some ⟨w.heap.size,0,none⟩)]) (obs.set k (.cells T cs))/\Rep M (ob.set k [.pointer (some ⟨w.heap.size,0,none⟩)]) (.pointer (some ⟨w.heap.size,0,none⟩)) (.ref k 0):=by
 have m:k<ob.length:=(Ad.1 g).1
 have:=h.turn (M':=M) (w':=w.alloc (.cells cv.toArray T)) (x':=.cells T cs) (hs':=[.pointer (some ⟨w.heap.size,0,none⟩)]) h1 g ⟨_,rfl⟩ (fun _=>rfl) (fun _ _ _ h=>h) (fun _ _ _ h=>.inl h) (fun b o y q=>by
   obtain ⟨u,f,j,l⟩:=h.imm b o y q
   exact ⟨u,(Cx (w:=w) (a:=⟨b,o,none⟩) (heap_alloc_old w _ (Cr w _ f))).trans f,j,l⟩)
  (fun b d _=>heap_alloc_old w _ d) rfl rfl rfl s_ (fun e=>⟨_,rfl,fun o=>h.noImm (Ba _) o,cv,heap_alloc_new w _,hl,c,fun i v a p r=>(n i v a p r).mono (fun _ _ _ h=>h) e⟩)
  (fun _ b d=>by
   have:w.heap.size=b:=dX.1 d
   simp;omega)
 refine ⟨this.1,this.2.1,this.2.2,.ref k 0 _ ?_⟩
 rw [bZ (Ap m)]
 rfl
theorem Mem.bornMap (h:Mem M ob obs w) {k:Nat} (h1:obs[k]? =some .dead) (g:ob[k]? =some []) (d:Bool):
  Mem M (ob.set k [.map (some w.heap.size)]) (obs.set k (.mp d [])) (w.alloc (.map #[] 0))/\Ext M ob obs w M (ob.set k [.map (some w.heap.size)]) (obs.set k (.mp d [])) (w.alloc (.map #[] 0))/\
   cH ob obs (ob.set k [.map (some w.heap.size)]) (obs.set k (.mp d []))/\Rep M (ob.set k [.map (some w.heap.size)]) (.map (some w.heap.size)) (.mref k):=by
 have n:k<ob.length:=(Ad.1 g).1
 have:=h.turn (M':=M) (w':=w.alloc (.map #[] 0)) (x':=.mp d []) (hs':=[.map (some w.heap.size)]) h1 g ⟨_,rfl⟩ (fun _=>rfl) (fun _ _ _ h=>h) (fun _ _ _ h=>.inl h) (fun b o y p=>by
   obtain ⟨u,f,l,m⟩:=h.imm b o y p
   exact ⟨u,(Cx (w:=w) (a:=⟨b,o,none⟩) (heap_alloc_old w _ (Cr w _ f))).trans f,l,m⟩)
  (fun b e _=>heap_alloc_old w _ e) rfl rfl rfl s_ (fun q=>⟨_,rfl,fun o=>h.noImm (Ba _) o,[],0,heap_alloc_new w _,rfl,fun i x y c=>by simp at c,fun i x c=>by simp at c,fun i j x y c=>by simp at c⟩)
  (fun _ b e=>by
   have:w.heap.size=b:=dX.1 e
   simp_all)
 refine ⟨this.1,this.2.1,this.2.2,.mref k _ ?_⟩
 rw [bZ (Ap n)]
 rfl
theorem Mem.cellsTurn (h:Mem M ob obs w) {k:Nat} {T:TypeId} {cs cs':List AVal} (t:obs[k]? =some (.cells T cs)) {b:Nat} (q:at' ob k 0=some (.pointer (some ⟨b,0,none⟩))) {cv':List Value} (hl:cv'.length=cs'.length) (h1:∀ u∈cv',u.oneCell'=true)
  (B:∀ (i:Nat) v a,cv'[i]? =some v->cs'[i]? =some a->Rep M ob v a):
  Mem M ob (obs.set k (.cells T cs')) (w.setRow b cv'.toArray)/\Ext M ob obs w M ob (obs.set k (.cells T cs')) (w.setRow b cv'.toArray)/\cH ob obs ob (obs.set k (.cells T cs')):=by
 obtain ⟨hs,p,c,j,f,cv,r,_⟩:=h.obj k _ t
 have:c=b:=by rw [bZ p,j] at q;simpa using q
 subst this
 have g:=fQ (l:=ob) p
 have:=h.turn (M':=M) (w':=w.setRow c cv'.toArray) (x':=.cells T cs') (hs':=hs) t p (Cl _) (fun e=>by cases e) (fun _ _ _ h=>h) (fun _ _ _ h=>.inl h) (fun b o y s=>by
   obtain ⟨u,A,x,z⟩:=h.imm b o y s
   have m:b≠c:=fun e=>by subst e;exact f o y s
   exact ⟨u,(Cx (w:=w) (a:=⟨b,o,none⟩) (setRow_other w c b _ m)).trans A,x,z⟩)
  (fun b _ D=>setRow_other w c b _ fun e=>D ⟨rfl,by subst e;rw [j];exact dX.2 rfl⟩) rfl rfl rfl s_ (fun n=>⟨c,j,f,cv',setRow_heap w c _ _ T _ r,hl,h1,fun i v a C F=>(B i v a C F).mono (fun _ _ _ h=>h) n⟩)
  (fun _ b d=>⟨.inl ⟨rfl,d⟩,by
   have:c=b:=by rw [j] at d;exact dX.1 d
   subst this
   have:=eU r
   simp;omega⟩)
 rw [g] at this
 exact this
end
section
variable {M:Imm} {ob:Hs} {obs:List AObj} {w:World}
theorem bT {M':Imm} {ob':Hs} {f:AVal->AVal} (g:∀ v a,Rep M ob v a->Rep M' ob' v (f a)) {as:List AVal} {vs:List Value} (hl:vs.length=as.length) (h:∀ (i:Nat) v a,vs[i]? =some v->as[i]? =some a->Rep M ob v a):
  vs.length=(dP f as).length/\∀ (i:Nat) v a,vs[i]? =some v->(dP f as)[i]? =some a->Rep M' ob' v a:=by
 rw [IW]
 refine ⟨by grind,fun i v a e c=>?_⟩
 rw [Bj] at c
 obtain ⟨b,d,rfl⟩:=Cp.1 c
 grind
theorem wG {k g:Nat} {v:Value} {hs:List Value} (h1:ob[k]? =some hs) (a:at' ob k g=some v):hs[g]? =some v:=by rw [<-bZ h1];exact a
theorem aIe {b o n sz:Nat} {xs:List AVal} (k:xs.length=n) (hm:(n:Int)<=9223372036854775807) (hz:∀ x∈xs,x.cells.length=sz) (h:∀ (i j:Nat) x c,xs[i]? =some x->x.cells[j]? =some c->M b (o+i*sz+j) c)
  {lo len d:Nat} (hl:lo+len<=n) (g:len<=d) {t:Tk} (f:sO ob (.slice (some ⟨b,o+lo*sz,none⟩) len d) t):Rep M ob (.slice (some ⟨b,o+lo*sz,none⟩) len d) (.slice sz ((xs.drop lo).take len) t):=by
 refine .sl sz b _ len d _ t q_ g o_ (fun x a=>hz x (Fe (Cy a))) (fun i j x c a e=>?_) f
 rw [Gb] at a
 split at a
 .rw [Bv] at a
  have:=h (lo+i) j x c a e
  rwa [Bx,<-Kb] at this
 .cases a
theorem Mem.pureV (h:Mem M ob obs w):∀ (n:Nat) (v:Value) (a:AVal),Rep M ob v a->Rep M [] v (pureV (aE obs) n a):=by
 intro n
 induction n with
 | zero=>intro v a _;exact .undef v
 | succ n z=>
  intro v a d
  cases d with
  | undef v=>exact .undef v
  | bool b=>exact .bool b
  | int k n d=>exact .int k n d
  | str l hl=>exact .str l hl
  | agg vs as hl d=>
   obtain ⟨h1,f⟩:=bT (z) hl d
   exact .agg vs _ h1 f
  | tup vs as hl d=>
   obtain ⟨h1,f⟩:=bT (z) hl d
   exact .tup vs _ h1 f
  | ptr b o cs d=>exact .ptr b o cs d
  | ref k off b m=>
   simp only [AW.pureV]
   split
   .rename_i cs p
    obtain ⟨hs,h1,I,f,h3⟩:=h.obj k _ (bG p s_)
    have:=wG h1 m
    rw [f] at this
    simp at this
    subst this
    exact .ptr _ _ _ fun j c e=>by rw [lW,Bv] at e;simp_all
   .exact .undef _
  | eref k g i sz off b n c m=>exact .undef _
  | rowc k g c a n h hm=>exact .undef _
  | pre k g n c sz b len h e B hl hm=>exact .undef _
  | csl k off len sz b m hm=>
   simp only [AW.pureV]
   split
   .rename_i cs p
    cases u:Ar sz 1 with
    | false=>exact .undef _
    | true=>
     simp only [cond_true]
     split
     .rename_i l hl
      cases H:oO l with
      | false=>exact .undef _
      | true=>
       simp only [cond_true]
       obtain ⟨hs,h1,I,f,h3⟩:=h.obj k _ (bG p s_)
       have:=wG h1 m
       rw [f] at this
       simp at this
       subst this
       obtain ⟨l1,l2⟩:=jC hl
       refine .sl 1 _ off len len l .full l1 (Ba _) hm (fun x C=>?_) (fun i j x c C e=>?_) ⟨_,_,rfl⟩
       .obtain ⟨i,R⟩:=Cs C
        rw [nV (lJ H i x R)];rfl
       .rw [nV (lJ H i x C)] at e
        cases j with
        | succ j=>simp at e
        | zero=>
         simp at e
         subst e
         have:=l2 i x C
         rw [lW,Bv] at this
         have:=h3 _ x this
         grind
     .exact .undef _
   .exact .undef _
  | row k g a n c m=>
   simp only [AW.pureV]
   split
   .rename_i y sz xs p
    cases u:Ar g y with
    | false=>exact .undef _
    | true=>
     have:=aC u
     subst this
     simp only [cond_true]
     obtain ⟨hs,h1,O,f,h3⟩:=h.obj k _ (bG p s_)
     have:=wG h1 m
     grind
   .exact .undef _
  | sub k g lo len sz b n c m hl B e hm=>
   simp only [AW.pureV]
   split
   .rename_i y s xs p
    cases u:(Ar g y&&Ar sz s) with
    | false=>exact .undef _
    | true=>
     obtain ⟨r,A⟩:=aU u
     have:=aC r
     have:=aC A
     subst_vars
     simp only [cond_true]
     obtain ⟨hs,h1,O,f,h3⟩:=h.obj k _ (bG p s_)
     have:=wG h1 m
     rw [f] at this
     cases this
     rcases h3.sl_inv with ⟨q,_⟩ | ⟨a,cap,q,A⟩ | ⟨I,V,J,q,K,Q,hz,P⟩
     .cases q
     .injection q with _ q3 _
      have:len=0:=o_
      subst this
      rw [Hi]
      exact .slemp _ _ _ _ trivial
     .injection q with r A q3
      injection r with r
      injection r with r q4 _
      subst r q4
      have:=aIe (ob:=[]) (t:=.no) A.symm hm hz P B (show len<=c-lo by omega) trivial
      rw [Bw] at this
      exact this
   .exact .undef _
  | sub0 k g lo sz _ a n c m hl e=>
   simp only [AW.pureV]
   split
   .rename_i y s xs p
    cases u:(Ar g y&&Ar sz s) with
    | false=>exact .undef _
    | true=>
     simp only [cond_true,Hi]
     cases a with
     | none=>exact .slnil _ _ trivial
     | some a=>exact .slemp _ _ _ _ trivial
   .exact .undef _
  | mref k b m=>exact .undef _
  | nilptr=>exact .nilptr
  | nilslice=>exact .nilslice
  | nilmap=>exact .nilmap
  | nilfunc=>exact .nilfunc
  | nilif=>exact .nilif
  | hsl a n c=>exact .hsl a n c
  | slnil sz t G=>exact .slnil sz .no trivial
  | slemp sz t a cap G=>exact .slemp sz .no a cap trivial
  | sl sz b o n cap xs t B e hm hz d G=>exact .sl sz b o n cap xs .no B e hm hz d trivial
  | func fn L cs T U S e D F=>
   obtain ⟨h1,f⟩:=bT (z) S D
   obtain ⟨h3,N⟩:=bT (z) e F
   exact .func fn L cs _ _ h1 h3 f N
  | iface t v a d=>exact .iface t v _ (z v a d)
theorem aR {k:Nat} {x y:AObj} (h:obs[k]? =some x):bJ obs k y=obs.set k y:=gG y (Ad.1 h).1
def oG (M:Imm) (ob:Hs) (obs:List AObj) (w:World) (obs':List AObj):Prop:=∃ M',Mem M' ob obs' w/\Ext M ob obs w M' ob obs' w/\(∀ k:Nat,obs[k]? =some .dead->obs'[k]? =some .dead)/\obs'.length=obs.length
theorem oG.refl (h:Mem M ob obs w):oG M ob obs w obs:=⟨M,h,Ext.refl _ _ _ _,fun _ h=>h,rfl⟩
theorem oG.trans {a b:List AObj} (h:oG M ob obs w a) (k:∀ M',Mem M' ob a w->oG M' ob a w b):oG M ob obs w b:=by
 obtain ⟨n,h1,e,h3,l⟩:=h
 obtain ⟨f,j,c,m,g⟩:=k n h1
 exact ⟨f,j,e.trans c,fun i d=>m i (h3 i d),g.trans l⟩
theorem Mem.frzR (h:Mem M ob obs w) (k g:Nat):oG M ob obs w (AW.frzR obs k g):=by
 unfold AW.frzR
 split
 .rename_i z sz e xs t
  cases p:Ar g z with
  | false=>exact .refl h
  | true=>
   have:=aC p
   subst this
   simp only [cond_true]
   have l:=bG t s_
   rw [aR l]
   obtain ⟨hs,v,n,F,B,G,⟨cv,m,s,r,C,D⟩,d⟩:=h.rowOf l
   have a:=h.turn (M':=gL M v sz xs) (w':=w) (x':=.frow g sz xs) (hs':=hs) l n (Cl _) (fun e=>by cases e) (fun _ _ _ h=>.inl h) (fun b o y c=>by
     rcases c with c | ⟨j,_⟩
     .grind
     .exact .inr (.inl ⟨rfl,mU d j⟩)) (fun b o y c=>by
     rcases c with c | ⟨j,c⟩
     .obtain ⟨u,f,h1,q⟩:=h.imm b o y c
      exact ⟨u,f,h1,q.monoM fun _ _ _ h=>.inl h⟩
     .obtain ⟨u,f,x⟩:=C o y c
      exact ⟨u,fC m j f,s u (Aq f),x.monoM fun _ _ _ h=>.inl h⟩) (fun _ _ _=>rfl) rfl rfl rfl (Ba _)
    (fun _=>⟨v,B,jS m r trivial⟩) (fun e=>by cases e)
   rw [fQ n] at a
   exact ⟨_,a.1,a.2.1,fun i A=>by rw [Aw (fun e=>by grind)];exact A,by simp⟩
 .exact .refl h
theorem Mem.frz1 (h:Mem M ob obs w) (k:Nat):oG M ob obs w (AW.frz1 obs k):=by
 unfold AW.frz1
 split
 .rename_i cs B
  have l:=bG B s_
  rw [aR l]
  obtain ⟨hs,q,n,m,r,cv,D,F,t,A⟩:=h.obj k _ l
  have p:cv.length=(dP (AW.pureV (aE obs) 4) cs).length/\∀ (i:Nat) v a,cv[i]? =some v->(dP (AW.pureV (aE obs) 4) cs)[i]? =some a->Rep M [] v a:=bT (h.pureV 4) F A
  let M':Imm:=fun b o y=>M b o y\/(b=n/\(dP (AW.pureV (aE obs) 4) cs)[o]? =some y)
  have d:=h.turn (M':=M') (w':=w) (x':=.fcells (dP (AW.pureV (aE obs) 4) cs)) (hs':=hs) l q (Cl _) (fun e=>by cases e) (fun _ _ _ h=>.inl h) (fun b o y f=>by
    rcases f with f | ⟨rfl,_⟩
    .exact .inl f
    .exact .inr (.inl ⟨rfl,by rw [m];exact dX.2 rfl⟩)) (fun b o y f=>by
    rcases f with f | ⟨rfl,f⟩
    .obtain ⟨u,x,h1,z⟩:=h.imm b o y f
     exact ⟨u,x,h1,z.monoM fun _ _ _ h=>.inl h⟩
    .have g:o<cv.length:=by rw [p.1];exact (Ad.1 f).1
     exact ⟨cv[o],by rw [cell_of_row w b _ _ _ (0,0) D];simp [g],t _ (Bb g),(p.2 o _ y (Ab g) f).monoM fun _ _ _ h=>.inl h⟩) (fun _ _ _=>rfl) rfl rfl rfl (Ba _)
   (fun _=>⟨n,m,fun j c s=>.inr ⟨rfl,s⟩⟩) (fun e=>by cases e)
  rw [fQ q] at d
  exact ⟨_,d.1,d.2.1,fun i C=>by rw [Aw (fun e=>by simp_all)];exact C,by simp⟩
 .exact .refl h
theorem Mem.foldO {f:List AObj->AVal->List AObj} (b:∀ (M:Imm) (obs:List AObj) (a:AVal),Mem M ob obs w->oG M ob obs w (f obs a)):∀ (l:List AVal) (M:Imm) (obs:List AObj),Mem M ob obs w->oG M ob obs w (foldO f obs l)
 | [],_,_,h=>.refl h
 | c::r,M,obs,h=>(b M obs c h).trans fun M' d=>Mem.foldO b r M' _ d
theorem Mem.frzV:∀ (n:Nat) (M:Imm) (obs:List AObj) (a:AVal),Mem M ob obs w->oG M ob obs w (frzV n obs a):=by
 intro n
 induction n with
 | zero=>intro M obs a h;exact .refl h
 | succ n d=>
  intro M obs a h
  cases a
  case agg cs=>exact Mem.foldO d _ _ _ h
  case tup cs=>exact Mem.foldO d _ _ _ h
  case func fn fs cs=>exact (Mem.foldO d _ _ _ h).trans fun M' e=>Mem.foldO d _ _ _ e
  case iface t v=>exact d _ _ _ h
  case ref k off=>
   simp only [AW.frzV]
   split
   .exact (Mem.foldO d _ _ _ h).trans fun M' e=>e.frz1 k
   .exact .refl h
  case csl k a b c=>
   simp only [AW.frzV]
   split
   .exact (Mem.foldO d _ _ _ h).trans fun M' e=>e.frz1 k
   .exact .refl h
  case row k g=>exact h.frzR k g
  case sub k g a b c=>exact h.frzR k g
  all_goals exact .refl h
theorem Mem.frzL (l:List AVal) (h:Mem M ob obs w):oG M ob obs w (frzL obs l):=Mem.foldO (Mem.frzV 6) l M obs h
theorem Mem.frzs:∀ (l:List Nat) (M:Imm) (obs:List AObj),Mem M ob obs w->oG M ob obs w (frzs l obs)
 | [],_,_,h=>.refl h
 | k::r,M,obs,h=>by
  unfold AW.frzs
  split
  .exact (h.frzR _ _).trans fun M' a=>Mem.frzs r M' _ a
  .exact (Mem.frzV 6 M obs _ h).trans fun M' a=>Mem.frzs r M' _ a
  .exact Mem.frzs r M _ h
end
theorem L7 {k:Nat}:∀ {ks:List Nat} {j i:Nat},pos k j ks=some i->j<=i/\ks[i-j]? =some k
 | [],j,i,h=>by cases h
 | x::r,j,i,h=>by
  simp only [pos] at h
  cases a:Ar x k with
  | true=>
   simp_all
  | false=>
   rw [a] at h
   obtain ⟨h1,b⟩:=L7 (ks:=r) h
   refine ⟨by omega,?_⟩
   rw [show i-j=(i-(j+1))+1 from by omega]
   simp_all
theorem TS {k i:Nat} {ks:List Nat} (h:pos k 0 ks=some i):ks[i]? =some k:=by simpa using (L7 h).2
theorem nY {obs:List AObj}:∀ {ks:List Nat},mB ks obs=true->(∀ (j k:Nat),ks[j]? =some k->(aE obs k).owns=true)/\ks.Nodup
 | [],_=>⟨fun j k h=>by simp at h,Gg⟩
 | x::r,h=>by
  simp only [mB,Ag,Eb] at h
  obtain ⟨⟨h1,a⟩,h3⟩:=h
  obtain ⟨b,c⟩:=nY h3
  refine ⟨fun j k d=>?_,Cg.2 ⟨fun hm=>?_,c⟩⟩
  .cases j with
   | zero=>grind
   | succ j=>exact b j k (by simp_all)
  .rw [lM.2 hm] at a;cases a
theorem FV {l:List Nat} (h:l.Nodup):∀ {i j b:Nat},l[i]? =some b->l[j]? =some b->i=j:=by
 induction l with
 | nil=>simp
 | cons x r d=>
  intro i j b a c
  rw [Cg] at h
  cases i with
  | zero=>cases j with
   | zero=>rfl
   | succ j=>simp at a c;subst a;exact absurd (Aq c) h.1
  | succ i=>cases j with
   | zero=>simp at a c;subst c;exact absurd (Aq a) h.1
   | succ j=>simp at a c;rw [d h.2 a c]
theorem fE {obs:List AObj} {k:Nat} (h:(aE obs k).owns=true):obs[k]? =some (aE obs k):=by
 refine bG rfl fun e=>?_
 rw [e] at h
 cases h
def iM (n0 j:Nat) (o:AObj) (hs:List Value):List Value:=
 if 0<eD o then (if j<n0 then hs.take 1 else [])++hs.drop (eD o) else hs
def dY (n0:Nat) (ob:Hs) (obs:List AObj):Nat->List Nat->Hs
 | _,[]=>[]
 | j,k::r=>iM n0 j (aE obs k) (ob.getD k [])::dY n0 ob obs (j+1) r
theorem gI {n0:Nat} {ob:Hs} {obs:List AObj}:∀ {ks:List Nat} {j i:Nat},(dY n0 ob obs j ks)[i]? =(ks[i]?).map fun k=>iM n0 (j+i) (aE obs k) (ob.getD k [])
 | [],j,i=>by simp [dY]
 | k::r,j,i=>by
  cases i with
  | zero=>simp [dY]
  | succ i=>simp only [dY,Eu,gI (ks:=r)];grind
theorem rB {n0:Nat} {ob:Hs} {obs:List AObj}:∀ {ks:List Nat} {j:Nat},(dY n0 ob obs j ks).length=ks.length
 | [],j=>rfl
 | k::r,j=>by simp [dY,rB (ks:=r)]
theorem KV {n0:Nat} {a:List Nat} {obs:List AObj}:∀ {ks:List Nat} {j i:Nat},(yH n0 a obs j ks)[i]? =(ks[i]?).map fun k=>RM n0 a obs (j+i) (aE obs k)
 | [],j,i=>by simp [yH]
 | k::r,j,i=>by
  cases i with
  | zero=>simp [yH]
  | succ i=>simp only [yH,Eu,KV (ks:=r)];grind
theorem nK {n0:Nat} {a:List Nat} {obs:List AObj}:∀ {ks:List Nat} {j:Nat},(yH n0 a obs j ks).length=ks.length
 | [],j=>rfl
 | k::r,j=>by simp [yH,nK (ks:=r)]
theorem UU {n0 j c g d:Nat} (h:gm n0 j c g=some d):(g=c/\d=(if j<n0 then (if c=0 then 0 else 1) else 0))\/(g≠c/\j<n0/\g=0/\d=0):=by
 unfold gm at h
 have i:∀ a b:Nat,Ar a b=decide (a=b):=fun a b=>by
  by_cases e:a=b
  .simp_all
  .rw [D8 e];simp [e]
 have hl:∀ a b:Nat,Fi a b=decide (a<b):=fun a b=>by
  by_cases e:a<b
  .simp_all
  .have:Fi a b=false:=by
    cases k:Fi a b with
    | false=>rfl
    | true=>simp_all;omega
   grind
 simp only [i,hl] at h
 by_cases h1:g=c
 .simp only [h1,decide_true,cond_true,Fj] at h
  grind
 .simp only [h1,decide_false,cond_false] at h
  by_cases f:j<n0<;>by_cases h3:g=0<;>simp [f,h3] at h
  omega
theorem mO (n0 j g:Nat):gm n0 j g g=some (if j<n0 then (if g=0 then 0 else 1) else 0):=by
 unfold gm
 simp only [Nat.beq_eq_true_eq,Ms,cond_true,Fj]
 by_cases a:j<n0
 .simp_all
 .have:Fi j n0=false:=by
   cases b:Fi j n0 with
   | false=>rfl
   | true=>simp_all;omega
  grind
section
variable {M:Imm} {ob:Hs} {obs:List AObj} {w:World}
theorem Mem.histLen (h:Mem M ob obs w) {k:Nat} {hs:List Value} (d:(aE obs k).owns=true) (f:ob[k]? =some hs):hs.length=eD (aE obs k)+1:=by
 obtain ⟨hs',e,a⟩:=h.obj k _ (fE d)
 rw [f] at e
 cases e
 cases c:aE obs k with
 | dead=>rw [c] at d;cases d
 | fcells cs=>rw [c] at d;cases d
 | frow g sz xs=>rw [c] at d;cases d
 | cells T cs=>rw [c] at a;obtain ⟨b,rfl,_⟩:=a;rfl
 | row g sz e xs=>rw [c] at a;exact a.1
 | tail g sz e=>rw [c] at a;exact a.1
 | mp i es=>rw [c] at a;obtain ⟨b,rfl,_⟩:=a;rfl
 | bun g I=>rw [c] at a;exact a.1
theorem wB {n0 j g c:Nat} {o:AObj} {hs:List Value} (hl:hs.length=eD o+1) (d:gm n0 j (eD o) g=some c):(iM n0 j o hs)[c]? =hs[g]?:=by
 unfold iM
 rcases UU d with ⟨rfl,rfl⟩ | ⟨h1,e,rfl,rfl⟩
 .by_cases b:0<eD o
  .rw [if_pos b]
   by_cases a:j<n0
   .rw [if_pos a,if_pos a,if_neg o_,Ak q_]
    simp_all
   .rw [if_neg a,if_neg a]
    simp
  simp_all
 .have b:0<eD o:=o_
  simp_all
theorem xU {n0 j:Nat} {o:AObj} {hs:List Value} (hl:hs.length=eD o+1):(iM n0 j o hs).getLast? =hs.getLast?:=by
 unfold iM
 by_cases b:0<eD o
 .rw [if_pos b]
  rw [Mi,List.getLast?_drop,if_neg o_]
  have a:hs≠[]:=fun e=>by grind
  rw [Kj a]
  rfl
 grind
theorem rC {n0 j:Nat} {o:AObj} {hs:List Value} (hl:hs.length=eD o+1):(iM n0 j o hs).length=(if j<n0 then (if eD o=0 then 0 else 1) else 0)+1:=by
 unfold iM
 by_cases b:0<eD o
 .rw [if_pos b]
  by_cases a:j<n0
  .simp_all;omega
  .rw [if_neg a,if_neg a];simp;omega
 grind
theorem Mem.cutAt (h:Mem M ob obs w) {n0:Nat} {ks:List Nat} (m:mB ks obs=true) {k j g d:Nat} {v:Value} (hp:pos k 0 ks=some j) (i:gm n0 j (eD (aE obs k)) g=some d) (l:at' ob k g=some v):
  at' (dY n0 ob obs 0 ks) j d=some v:=by
 have f:=TS hp
 have c:=(nY m).1 j k f
 have b:k<ob.length:=by rw [h.len];exact (Ad.1 (fE c)).1
 have a:ob[k]? =some ob[k]:=Ab b
 have hl:=h.histLen c a
 have e:(dY n0 ob obs 0 ks)[j]? =some (iM n0 j (aE obs k) ob[k]):=by
  rw [gI,f]
  simp [a]
 rw [bZ e,wB hl i]
 exact wG a l
theorem Mem.cvtV (h:Mem M ob obs w) {n0:Nat} {ks:List Nat} (r:mB ks obs=true):∀ (n:Nat) (v:Value) (a:AVal),Rep M ob v a->Rep M (dY n0 ob obs 0 ks) v (cvtV n0 ks (aE obs) n a):=by
 intro n
 induction n with
 | zero=>intro v a _;exact .undef v
 | succ n z=>
  intro v a p
  have B:∀ {n0 j c x:Nat},gm n0 j c 0=some x->x=0:=fun {n0 j c x} d=>by
   rcases UU d with ⟨e,rfl⟩ | ⟨_,_,_,rfl⟩
   .grind
   .rfl
  have tok:∀ {v:Value} {sz:Nat} {xs:List AVal} {t:Tk},Rep M ob v (.slice sz xs t)->Rep M (dY n0 ob obs 0 ks) v (AW.cvtV n0 ks (aE obs) (n+1) (.slice sz xs t)):=by
   intro v sz xs t p
   obtain ⟨K,C⟩:=p.untok
   have m:Rep M (dY n0 ob obs 0 ks) v (.slice sz xs .no):=K.slice_pure.pure
   cases t with
   | no=>exact m
   | nil=>
    cases ks with
    | nil=>exact m
    | cons k ks=>exact m.tok C
   | full=>exact m.tok C
   | own k g=>
    simp only [AW.cvtV]
    split
    .rename_i j hp
     split
     .rename_i s d
      exact m.tok (show at' _ _ _=_ from h.cutAt r hp d C)
     .exact m
    .exact m
  cases p with
  | undef v=>exact .undef v
  | bool b=>exact .bool b
  | int k n p=>exact .int k n p
  | str l hl=>exact .str l hl
  | agg vs as hl p=>
   obtain ⟨h1,y⟩:=bT (z) hl p
   exact .agg vs _ h1 y
  | tup vs as hl p=>
   obtain ⟨h1,y⟩:=bT (z) hl p
   exact .tup vs _ h1 y
  | ptr b o cs p=>exact .ptr b o cs p
  | ref k off b f=>
   simp only [AW.cvtV]
   split
   .rename_i j hp
    split
    .rename_i x d
     have:=B d
     subst this
     exact .ref j off b (h.cutAt r hp d f)
    .exact .undef _
   .exact (h.pureV 1 _ _ (.ref k off b f)).pure
  | eref k g i sz off b n c f=>exact .undef _
  | rowc k g c a n h hm=>exact .undef _
  | pre k g n c sz b len h q A hl hm=>exact .undef _
  | csl k off len sz b f hm=>
   simp only [AW.cvtV]
   split
   .rename_i j hp
    split
    .rename_i x d
     have:=B d
     subst this
     exact .csl j off len sz b (h.cutAt r hp d f) hm
    .exact .undef _
   .exact (h.pureV 1 _ _ (.csl k off len sz b f hm)).pure
  | row k g a n c f=>
   simp only [AW.cvtV]
   split
   .rename_i j hp
    split
    .rename_i s d
     exact .row j s a n c (h.cutAt r hp d f)
    .exact .undef _
   .exact (h.pureV 1 _ _ (.row k g a n c f)).pure
  | sub k g lo len sz b n c f hl A q hm=>
   simp only [AW.cvtV]
   split
   .rename_i j hp
    split
    .rename_i s d
     exact .sub j s lo len sz b n c (h.cutAt r hp d f) hl A q hm
    .exact .undef _
   .exact (h.pureV 1 _ _ (.sub k g lo len sz b n c f hl A q hm)).pure
  | sub0 k g lo sz a G n c f hl q=>
   simp only [AW.cvtV]
   split
   .rename_i j hp
    split
    .rename_i s d
     exact .sub0 j s lo sz a G n c (h.cutAt r hp d f) hl q
    .exact .undef _
   .exact (h.pureV 1 _ _ (.sub0 k g lo sz a G n c f hl q)).pure
  | mref k b f=>
   simp only [AW.cvtV]
   split
   .rename_i j hp
    split
    .rename_i x d
     have:=B d
     subst this
     exact .mref j b (h.cutAt r hp d f)
    .exact .undef _
   .exact .undef _
  | nilptr=>exact .nilptr
  | nilslice=>exact .nilslice
  | nilmap=>exact .nilmap
  | nilfunc=>exact .nilfunc
  | nilif=>exact .nilif
  | hsl a n c=>exact .hsl a n c
  | slnil sz t u=>exact tok (.slnil sz t u)
  | slemp sz t a cap u=>exact tok (.slemp sz t a cap u)
  | sl sz b o n cap xs t A q hm hz p u=>exact tok (.sl sz b o n cap xs t A q hm hz p u)
  | func fn J cs L N I q D F=>
   obtain ⟨h1,y⟩:=bT (z) I D
   obtain ⟨h3,H⟩:=bT (z) q F
   exact .func fn J cs _ _ h1 h3 y H
  | iface t v a p=>exact .iface t v _ (z v a p)
theorem Mem.cvt (h:Mem M ob obs w) {n0:Nat} {ks:List Nat} (J:mB ks obs=true):
  Mem M (dY n0 ob obs 0 ks) (iE n0 ks obs) w/\(∀ j b,aM (dY n0 ob obs 0 ks) (iE n0 ks obs) j b->∃ k,ks[j]? =some k/\aM ob obs k b)/\
   (∀ j k b,ks[j]? =some k->aM ob obs k b->aM (dY n0 ob obs 0 ks) (iE n0 ks obs) j b):=by
 obtain ⟨y,Q⟩:=nY J
 have hist:∀ {j k:Nat},ks[j]? =some k->∃ hs,ob[k]? =some hs/\hs.length=eD (aE obs k)+1/\(dY n0 ob obs 0 ks)[j]? =some (iM n0 j (aE obs k) hs)/\(iE n0 ks obs)[j]? =some (RM n0 ks obs j (aE obs k))/\gK M ob w hs (aE obs k):=by
  intro j k a
  have H:=y j k a
  obtain ⟨hs,D,G⟩:=h.obj k _ (fE H)
  refine ⟨hs,D,h.histLen H D,?_,?_,G⟩
  .rw [gI,a];simp [D]
  .unfold iE;rw [KV,a];simp
 have f:∀ j o,(RM n0 ks obs j o).owns=o.owns:=fun j o=>by cases o<;>rfl
 have n:∀ j b,aM (dY n0 ob obs 0 ks) (iE n0 ks obs) j b->∃ k,ks[j]? =some k/\aM ob obs k b:=by
  rintro j b ⟨c,hs,F,R,K,L⟩
  have a:∃ k,ks[j]? =some k:=by
   have:j<ks.length:=by
    have:=(Ad.1 F).1
    unfold iE at this
    rwa [nK] at this
   exact ⟨_,Ab this⟩
  obtain ⟨k,a⟩:=a
  obtain ⟨hs',A,t,x,u,_⟩:=hist a
  rw [u] at F
  rw [x] at K
  cases F
  cases K
  refine ⟨k,a,(cI (fE (y j k a)) A).2 ⟨by rw [<-f j];exact R,?_⟩⟩
  unfold blk at L⊢
  rwa [xU t] at L
 have C:∀ j k b,ks[j]? =some k->aM ob obs k b->aM (dY n0 ob obs 0 ks) (iE n0 ks obs) j b:=by
  intro j k b a p
  obtain ⟨hs',A,t,x,u,_⟩:=hist a
  have:=(cI (fE (y j k a)) A).1 p
  refine (cI u x).2 ⟨by rw [f];exact this.1,?_⟩
  unfold blk
  rw [xU t]
  exact this.2
 refine ⟨⟨h.imm,by unfold iE;rw [rB,nK],fun j c l=>?_,fun j b p=>?_,fun i j b p B=>?_⟩,n,C⟩
 .have a:∃ k,ks[j]? =some k:=by
   have:j<ks.length:=by
    have:=(Ad.1 l).1
    unfold iE at this
    rwa [nK] at this
   exact ⟨_,Ab this⟩
  obtain ⟨k,a⟩:=a
  obtain ⟨hs,A,t,x,u,m⟩:=hist a
  rw [u] at l
  cases l
  refine ⟨_,x,?_⟩
  have hl:=rC (n0:=n0) (j:=j) t
  have s:=mO n0 j (eD (aE obs k))
  have d:=wB t s
  cases l:aE obs k with
  | dead=>exact trivial
  | fcells cs=>have:=y j k a;rw [l] at this;cases this
  | frow g sz xs=>have:=y j k a;rw [l] at this;cases this
  | cells T cs=>
   rw [l] at m
   obtain ⟨b,rfl,z,cv,q,r,U,P⟩:=m
   obtain ⟨N,O⟩:=bT (h.cvtV (n0:=n0) J 4) r P
   exact ⟨b,rfl,z,cv,q,N,U,O⟩
  | row g sz e xs=>
   rw [l] at m hl d
   obtain ⟨z,v,q,r⟩:=m
   simp only [RM,mO]
   exact ⟨hl,v,d.trans q,r⟩
  | tail g sz e=>
   rw [l] at m hl d
   obtain ⟨z,v,q,r⟩:=m
   simp only [RM,mO]
   exact ⟨hl,v,d.trans q,r⟩
  | mp W es=>
   rw [l] at m
   exact m
  | bun g I=>
   rw [l] at m hl d
   obtain ⟨z,v,q,r⟩:=m
   simp only [RM,mO]
   exact ⟨hl,v,d.trans q,r⟩
 .obtain ⟨k,_,p⟩:=n j b p
  exact h.lt k b p
 .obtain ⟨k,S,p⟩:=n i b p
  obtain ⟨V,a,B⟩:=n j b B
  have:=h.inj k V b p B
  subst this
  exact FV Q S a
end
theorem aBE (ks:List Nat):dN.olenN ks=ks.length:=by
 induction ks with
 | nil=>rfl
 | cons k r a=>simp [dN.olenN,a]
theorem iL {ks:List Nat} {base j k:Nat} (h:ks[j]? =some k):dN ks base j=k:=by simp [dN,mZ,h]
theorem jL {ks:List Nat} {base j:Nat} (h:ks.length<=j):dN ks base j=base+(j-ks.length):=by
 simp [dN,mZ,Bh h,aBE]
theorem aC2 {ks:List Nat} {base:Nat} (f:ks.Nodup) (d:∀ (j k:Nat),ks[j]? =some k->k<base) {i j:Nat} (h:dN ks base i=dN ks base j):i=j:=by
 by_cases c:i<ks.length<;>by_cases e:j<ks.length
 .have b:=Ab c
  have a:=Ab e
  rw [iL b,iL a] at h
  rw [<-h] at a
  exact FV f b a
 .have b:=Ab c
  rw [iL b,jL o_] at h
  have:=d i _ b
  omega
 .have a:=Ab e
  rw [iL a,jL o_] at h
  have:=d j _ a
  omega
 .rw [jL o_,jL o_] at h
  omega
theorem YS {ks:List Nat} {base:Nat} {obs:List AObj} (z:ks.Nodup) (m:∀ (j k:Nat),ks[j]? =some k->k<base):∀ (l:List AObj) (j:Nat) (a:List AObj),a.length=base+(j-ks.length)->
  (kD ks base obs j l a).length=base+(j+l.length-ks.length)/\(∀ (t:Nat) o,l[t]? =some o->(kD ks base obs j l a)[dN ks base (j+t)]? =some (sM ks base obs (j+t) o))/\
   ∀ i,(∀ t,t<l.length->dN ks base (j+t)≠i)->i<a.length->(kD ks base obs j l a)[i]? =a[i]?:=by
 intro l
 induction l with
 | nil=>intro j a hl;exact ⟨by simpa [kD] using hl,fun t o h=>by simp at h,fun i _ _=>rfl⟩
 | cons o r y=>
  intro j a hl
  simp only [kD]
  have f:(bJ a (dN ks base j) (sM ks base obs j o)).length=base+(j+1-ks.length)/\(bJ a (dN ks base j) (sM ks base obs j o))[dN ks base j]? =some (sM ks base obs j o)/\
    ∀ i,dN ks base j≠i->i<a.length->(bJ a (dN ks base j) (sM ks base obs j o))[i]? =a[i]?:=by
   by_cases p:j<ks.length
   .have u:=Ab p
    have d:=m j _ u
    rw [iL u,gG _ o_]
    exact ⟨by simp;omega,Ap o_,fun i c _=>Aw c⟩
   .rw [jL o_,<-hl,MH]
    exact ⟨by simp;omega,by simp,fun i _ c=>Af c⟩
  obtain ⟨s,q,x⟩:=f
  obtain ⟨v,w,n⟩:=y (j+1) _ s
  have d:dN ks base j<(bJ a (dN ks base j) (sM ks base obs j o)).length:=(Ad.1 q).1
  refine ⟨by rw [v];simp;omega,fun t A g=>?_,fun i c b=>?_⟩
  .cases t with
   | zero=>
    simp at g
    subst g
    show (kD ks base obs (j+1) r (bJ a (dN ks base j) (sM ks base obs j o)))[dN ks base j]? =some (sM ks base obs j o)
    rw [n _ (fun t _ e=>?_) d,q]
    have:=aC2 z m e
    omega
   | succ t=>
    have:=w t A (by simpa using g)
    rwa [show j+1+t=j+(t+1) from by omega] at this
  .rw [n i (fun t g=>?_) (by
    by_cases p:j<ks.length
    .rw [s];rw [hl] at b;omega
    omega),x i (c 0 s_) b]
   have:=c (t+1) q_
   rwa [show j+(t+1)=j+1+t from by omega] at this
def jA (ks:List Nat) (ob a:Hs):Hs:=
 (Dh ob.length).map (fun k=>match pos k 0 ks with | some j=>ob.getD k []++(a.getD j []).drop 1 | none=>ob.getD k [])++a.drop ks.length
theorem aBk {ks:List Nat} (a:ks.Nodup) {j k:Nat} (h:ks[j]? =some k):pos k 0 ks=some j:=by
 have b:∀ (ks:List Nat) (j i:Nat),ks.Nodup->ks[j]? =some k->pos k i ks=some (i+j):=by
  intro ks
  induction ks with
  | nil=>simp
  | cons x r d=>
   intro j i a h
   rw [Cg] at a
   simp only [pos]
   cases j with
   | zero=>simp at h;subst h;simp
   | succ j=>
    have c:r[j]? =some k:=by simpa using h
    have:¬ x=k:=fun e=>a.1 (e▸Aq c)
    rw [D8 this]
    simp only [cond_false]
    rw [d j (i+1) a.2 c]
    grind
 simpa using b ks j 0 a h
section
variable {M M':Imm} {ob obK':Hs} {obs obs':List AObj} {w w':World}
theorem Mem.embAt (h:Mem M ob obs w) {ks:List Nat} (u:mB ks obs=true) (n:dE (dY 0 ob obs 0 ks) obK') {j g:Nat} {v:Value} (l:at' obK' j g=some v):
  at' (jA ks ob obK') (dN ks obs.length j) (kF ks obs j g)=some v:=by
 obtain ⟨z,x⟩:=nY u
 have d:∃ hs,obK'[j]? =some hs/\hs[g]? =some v:=by
  unfold at' at l
  cases s:obK'[j]? with
  | none=>grind
  | some hs=>rw [s] at l;exact ⟨hs,rfl,l⟩
 obtain ⟨hs,f,m⟩:=d
 by_cases i:j<ks.length
 .have c:=Ab i
  have q:=z j _ c
  have a:ks[j]<ob.length:=by rw [h.len];exact (Ad.1 (fE q)).1
  have o:ob[ks[j]]? =some ob[ks[j]]:=Ab a
  have hl:=h.histLen q o
  have b:(dY 0 ob obs 0 ks)[j]? =some (iM 0 j (aE obs ks[j]) ob[ks[j]]):=by rw [gI,c];simp [o]
  obtain ⟨hs',r,t,y⟩:=n j _ b
  rw [f] at r
  cases r
  have A:(iM 0 j (aE obs ks[j]) ob[ks[j]]).length=1:=by rw [rC hl];simp
  have e:(iM 0 j (aE obs ks[j]) ob[ks[j]])[0]? =ob[ks[j]][eD (aE obs ks[j])]?:=wB hl (by rw [mO];simp)
  have p:(jA ks ob obK')[ks[j]]? =some (ob[ks[j]]++hs.drop 1):=by
   unfold jA
   rw [Af q_,Bj,Dm a]
   simp [aBk x c,o,f]
  rw [iL c,bZ p]
  have k:kF ks obs j g=eD (aE obs ks[j])+g:=by simp [kF,mZ,c]
  rw [k]
  cases g with
  | zero=>
   rw [Em,Af o_,<-e,<-m,<-y,Af o_]
  | succ g=>
   rw [Ak o_,Bv,<-m]
   congr 1
   omega
 .have p:(jA ks ob obK')[obs.length+(j-ks.length)]? =some hs:=by
   unfold jA
   rw [Ak (by simp;rw [h.len];omega),Bv,<-f]
   congr 1
   simp [h.len]
   omega
  rw [jL o_,bZ p]
  simpa [kF,mZ,Bh (show ks.length<=j by omega)] using m
theorem NU {M':Imm} {obK' f:Hs} {ks:List Nat} {base:Nat} {obs:List AObj} (p:∀ {j g:Nat} {v:Value},at' obK' j g=some v->at' f (dN ks base j) (kF ks obs j g)=some v)
  (x:∀ {j:Nat} {v:Value},at' obK' j 0=some v->(∃ b,v= .pointer (some ⟨b,0,none⟩))\/(∃ b,v= .map (some b))->at' f (dN ks base j) 0=some v):
  ∀ (n:Nat) (v:Value) (a:AVal),Rep M' obK' v a->Rep M' f v (embV ks base obs n a):=by
 intro n
 induction n with
 | zero=>intro v a _;exact .undef v
 | succ n u=>
  intro v a d
  have tok:∀ {v:Value} {sz:Nat} {xs:List AVal} {t:Tk},Rep M' obK' v (.slice sz xs t)->Rep M' f v (AW.embV ks base obs (n+1) (.slice sz xs t)):=by
   intro v sz xs t d
   obtain ⟨G,y⟩:=d.untok
   have m:Rep M' f v (.slice sz xs .no):=G.slice_pure.pure
   cases t with
   | no=>exact m
   | nil=>exact m.tok y
   | full=>exact m.tok y
   | own k g=>exact m.tok (show at' _ _ _=_ from p y)
  cases d with
  | undef v=>exact .undef v
  | bool b=>exact .bool b
  | int k n d=>exact .int k n d
  | str l hl=>exact .str l hl
  | agg vs as hl d=>
   obtain ⟨h1,r⟩:=bT (u) hl d
   exact .agg vs _ h1 r
  | tup vs as hl d=>
   obtain ⟨h1,r⟩:=bT (u) hl d
   exact .tup vs _ h1 r
  | ptr b o cs d=>exact .ptr b o cs d
  | ref k off b e=>exact .ref _ off b (x e (.inl ⟨b,rfl⟩))
  | eref k g i sz off b n c e=>exact .undef _
  | rowc k g c a n h hm=>exact .undef _
  | pre k g n c sz b len h q w hl hm=>exact .undef _
  | csl k off len sz b e hm=>exact .csl _ off len sz b (x e (.inl ⟨b,rfl⟩)) hm
  | row k g a n c e=>exact .row _ _ a n c (p e)
  | sub k g lo len sz b n c e hl w q hm=>exact .sub _ _ lo len sz b n c (p e) hl w q hm
  | sub0 k g lo sz a D n c e hl q=>exact .sub0 _ _ lo sz a D n c (p e) hl q
  | mref k b e=>exact .mref _ b (x e (.inr ⟨b,rfl⟩))
  | nilptr=>exact .nilptr
  | nilslice=>exact .nilslice
  | nilmap=>exact .nilmap
  | nilfunc=>exact .nilfunc
  | nilif=>exact .nilif
  | hsl a n c=>exact .hsl a n c
  | slnil sz t s=>exact tok (.slnil sz t s)
  | slemp sz t a cap s=>exact tok (.slemp sz t a cap s)
  | sl sz b o n cap xs t w q hm hz d s=>exact tok (.sl sz b o n cap xs t w q hm hz d s)
  | func fn B cs H I F q z A=>
   obtain ⟨h1,r⟩:=bT (u) F z
   obtain ⟨h3,C⟩:=bT (u) q A
   exact .func fn B cs _ _ h1 h3 r C
  | iface t v a d=>exact .iface t v _ (u v a d)
theorem Mem.embV (h:Mem M ob obs w) {ks:List Nat} (z:mB ks obs=true) (m:dE (dY 0 ob obs 0 ks) obK') (C:(dY 0 ob obs 0 ks).length=ks.length):∀ (n:Nat) (v:Value) (a:AVal),Rep M' obK' v a->
  Rep M' (jA ks ob obK') v (embV ks obs.length obs n a):=by
 have G:∀ {j:Nat} {v:Value},at' obK' j 0=some v->(∃ b,v= .pointer (some ⟨b,0,none⟩))\/(∃ b,v= .map (some b))->at' (jA ks ob obK') (dN ks obs.length j) 0=some v:=by
  intro j v r hs
  have:=h.embAt z m r
  by_cases t:j<ks.length
  .have B:=Ab t
   have p:eD (aE obs ks[j])=0:=by
    have D:=(nY z).1 j _ B
    obtain ⟨hs',F,d⟩:=h.obj _ _ (fE D)
    have f:(dY 0 ob obs 0 ks)[j]? =some (iM 0 j (aE obs ks[j]) hs'):=by rw [gI,B];simp [F]
    have hl:=h.histLen D F
    have s:(iM 0 j (aE obs ks[j]) hs')[0]? =hs'[eD (aE obs ks[j])]?:=wB hl (by rw [mO];simp)
    have c:at' (dY 0 ob obs 0 ks) j 0=some v:=by
     have J:(iM 0 j (aE obs ks[j]) hs').length=1:=by rw [rC hl];simp
     have x:=Ab (l:=iM 0 j (aE obs ks[j]) hs') (i:=0) o_
     generalize (iM 0 j (aE obs ks[j]) hs')[0]=u at x
     have:=m.at (ob:=dY 0 ob obs 0 ks) (k:=j) (g:=0) (v:=u) (by rw [bZ f];exact x)
     rw [r] at this
     cases this
     rw [bZ f];exact x
    rw [bZ f,s] at c
    cases p:aE obs ks[j] with
    | row g sz e xs=>
     rw [p] at d c
     obtain ⟨_,H,o,cv,A,_⟩:=d
     simp only [eD] at c
     rw [o] at c
     cases c
     rcases cZ A with ⟨q,_⟩ | ⟨_,_,q,_⟩<;>rcases hs with ⟨b,hs⟩ | ⟨b,hs⟩<;>(rw [q] at hs;cases hs)
    | tail g sz e=>
     rw [p] at d c
     obtain ⟨_,H,o,K,cv,A,_⟩:=d
     simp only [eD] at c
     rw [o] at c
     cases c
     rcases cZ A with ⟨q,_⟩ | ⟨_,_,q,_⟩<;>rcases hs with ⟨b,hs⟩ | ⟨b,hs⟩<;>(grind)
    | bun g I=>
     rw [p] at d c
     obtain ⟨_,bs,o,_⟩:=d
     simp only [eD] at c
     rw [o] at c
     cases c
     rcases hs with ⟨b,hs⟩ | ⟨b,hs⟩<;>cases hs
    | _=>rfl
   have y:kF ks obs j 0=0:=by simp [kF,mZ,B,p]
   grind
  .have y:kF ks obs j 0=0:=by simp [kF,mZ,Bh (show ks.length<=j by omega)]
   grind
 exact NU (fun r=>h.embAt z m r) G
theorem Mem.emb (h:Mem M ob obs w) {ks:List Nat} (hk:mB ks obs=true) (s:Ext M (dY 0 ob obs 0 ks) (iE 0 ks obs) w M' obK' obs' w') (h':Mem M' obK' obs' w'):
  Mem M' (jA ks ob obK') (kD ks obs.length obs 0 obs' obs) w'/\Ext M ob obs w M' (jA ks ob obK') (kD ks obs.length obs 0 obs' obs) w'/\∀ (i:Nat) hs,obs[i]? =some .dead->ob[i]? =some hs->(kD ks obs.length obs 0 obs' obs)[i]? =some .dead/\(jA ks ob obK')[i]? =some hs:=by
 obtain ⟨k1,k2⟩:=nY hk
 obtain ⟨c1,c2,c3⟩:=h.cvt (n0:=0) hk
 have hks:∀ (j k:Nat),ks[j]? =some k->k<obs.length:=fun j k z=>(Ad.1 (fE (k1 j k z))).1
 have hcl:(dY 0 ob obs 0 ks).length=ks.length:=rB
 have hm:ks.length<=obs'.length:=by
  rcases Fm ks.length with h0 | h0
  .omega
  .have:(dY 0 ob obs 0 ks)[ks.length-1]? =some (dY 0 ob obs 0 ks)[ks.length-1]:=Ab o_
   obtain ⟨hs',e,_⟩:=s.hs _ _ this
   have:=(Ad.1 e).1
   rw [h'.len] at this
   omega
 obtain ⟨s1,s2,s3⟩:=YS (base:=obs.length) (obs:=obs) k2 hks obs' 0 obs s_
 simp only [Bw] at s1 s2 s3
 have hEl:(jA ks ob obK').length=obs.length+(obs'.length-ks.length):=by
  unfold jA
  simp [h.len,h'.len]
 -- the objects gY the call:by number
 have cls:∀ {i:Nat},i<(kD ks obs.length obs 0 obs' obs).length->(∃ j,j<obs'.length/\i=dN ks obs.length j)\/(i<obs.length/\(∀ j,j<obs'.length->dN ks obs.length j≠i)):=by
  intro i C
  rw [s1] at C
  by_cases O:i<obs.length
  .by_cases hin:∃ j,j<obs'.length/\i=dN ks obs.length j
   .exact .inl hin
   .exact .inr ⟨O,fun j z e=>hin ⟨j,z,e.symm⟩⟩
  .refine .inl ⟨ks.length+(i-obs.length),by omega,?_⟩
   rw [jL o_]
   omega
 have V:∀ {i:Nat},i<obs.length->(∀ j,j<obs'.length->dN ks obs.length j≠i)->(kD ks obs.length obs 0 obs' obs)[i]? =obs[i]?/\(jA ks ob obK')[i]? =ob[i]?:=by
  intro i C d
  refine ⟨s3 i d C,?_⟩
  have R:i<ob.length:=by rw [h.len];exact C
  have hp:pos i 0 ks=none:=by
   cases hq:pos i 0 ks with
   | none=>rfl
   | some j=>
    have:=TS hq
    exact absurd (iL this) (d j (by have:=(Ad.1 this).1;omega))
  unfold jA
  rw [Af q_,Bj,Dm R]
  simp [hp,Ab R]
 have Z:∀ {j:Nat} {o:AObj},obs'[j]? =some o->∃ hs hs',obK'[j]? =some hs/\gK M' obK' w' hs o/\(kD ks obs.length obs 0 obs' obs)[dN ks obs.length j]? =some (sM ks obs.length obs j o)/\(jA ks ob obK')[dN ks obs.length j]? =some hs'/\
   hs'.length=(match ks[j]? with | some k=>eD (aE obs k) | none=>0)+hs.length/\(o.owns=true->blk hs'=blk hs)/\(∀ (g:Nat) v,hs[g]? =some v->hs'[kF ks obs j g]? =some v):=by
  intro j o z
  obtain ⟨hs,H,m⟩:=h'.obj j o z
  have hat:∀ (g:Nat) v,hs[g]? =some v->at' (jA ks ob obK') (dN ks obs.length j) (kF ks obs j g)=some v:=fun g v hg=>h.embAt hk s.hs (by rw [bZ H];exact hg)
  by_cases O:j<ks.length
  .have X:=Ab O
   have Y:=k1 j _ X
   have hko:ks[j]<ob.length:=by rw [h.len];exact (Ad.1 (fE Y)).1
   have hhb:ob[ks[j]]? =some ob[ks[j]]:=Ab hko
   have hl:=h.histLen Y hhb
   have W:(dY 0 ob obs 0 ks)[j]? =some (iM 0 j (aE obs ks[j]) ob[ks[j]]):=by rw [gI,X];simp [hhb]
   obtain ⟨G,L,t,F⟩:=s.hs j _ W
   rw [H] at L
   cases L
   have hc1:(iM 0 j (aE obs ks[j]) ob[ks[j]]).length=1:=by rw [rC hl];simp
   have hpos:1<=hs.length:=by rw [<-F];simp;omega
   have eE:(jA ks ob obK')[ks[j]]? =some (ob[ks[j]]++hs.drop 1):=by
    unfold jA
    rw [Af q_,Bj,Dm hko]
    simp [aBk k2 X,hhb,H]
   refine ⟨hs,_,H,m,s2 j o z,by rw [iL X];exact eE,by rw [X];simp;omega,fun _=>?_,fun g v hg=>?_⟩
   .unfold blk
    rw [Mi]
    by_cases h2:1<hs.length
    .rw [List.getLast?_drop,if_neg o_]
     have d:hs≠[]:=fun e=>by subst e;simp at hpos
     rw [Kj d]
     rfl
    .have:hs.drop 1=[]:=Ae o_
     rw [this]
     simp only [List.getLast?_nil,Option.none_or]
     have h1l:hs.length=1:=o_
     have ht:t=[]:=by
      have:=congrArg Mh F
      simp at this
      exact Av o_
     subst ht
     rw [Bc] at F
     rw [<-F,xU hl]
   .have:=hat g v hg
    rw [iL X,bZ eE] at this
    exact this
  .have hjl:j<obK'.length:=(Ad.1 H).1
   have eE:(jA ks ob obK')[obs.length+(j-ks.length)]? =some hs:=by
    unfold jA
    rw [Ak (by simp;rw [h.len];omega),Bv,<-H]
    congr 1
    simp [h.len]
    omega
   refine ⟨hs,hs,H,m,s2 j o z,by rw [jL o_];exact eE,by rw [Bh o_];simp,fun _=>rfl,fun g v hg=>?_⟩
   simpa [kF,mZ,Bh (show ks.length<=j by omega)] using hg
 have ownsE:∀ j o,(sM ks obs.length obs j o).owns=o.owns:=fun j o=>by cases o<;>rfl
 have l:∀ {i b:Nat},aM (jA ks ob obK') (kD ks obs.length obs 0 obs' obs) i b->(∃ j,i=dN ks obs.length j/\aM obK' obs' j b)\/((∀ j,j<obs'.length->dN ks obs.length j≠i)/\aM ob obs i b):=by
  rintro i b ⟨c,hs,L,F,e3,e4⟩
  rcases cls (Ad.1 L).1 with ⟨j,z,rfl⟩ | ⟨C,d⟩
  .obtain ⟨K,G,g1,B,g3,g4,_,g5,_⟩:=Z (Ab z)
   rw [g3] at L
   rw [g4] at e3
   cases L
   cases e3
   rw [ownsE] at F
   exact .inl ⟨j,rfl,(cI (Ab z) g1).2 ⟨F,by rw [<-g5 F];exact e4⟩⟩
  .obtain ⟨o1,o2⟩:=V C d
   rw [o1] at L
   rw [o2] at e3
   exact .inr ⟨d,c,hs,L,F,e3,e4⟩
 have hle:dE ob (jA ks ob obK'):=by
  intro i hs C
  have R:=(Ad.1 C).1
  cases hq:pos i 0 ks with
  | none=>
   refine ⟨hs,?_,Cl _⟩
   unfold jA
   rw [Af q_,Bj,Dm R]
   simp [hq,C]
  | some j=>
   refine ⟨hs++(obK'.getD j []).drop 1,?_,⟨_,rfl⟩⟩
   unfold jA
   rw [Af q_,Bj,Dm R]
   simp [hq,C]
 have f:∀ {i b:Nat},(∀ j,j<obs'.length->dN ks obs.length j≠i)->aM ob obs i b->(∀ j,¬ aM (dY 0 ob obs 0 ks) (iE 0 ks obs) j b)/\b<w.heap.size:=by
  intro i b d n
  refine ⟨fun j z=>?_,h.lt i b n⟩
  obtain ⟨k,hk',ha'⟩:=c2 j b z
  have:=h.inj i k b n ha'
  subst this
  exact d j (by have:=(Ad.1 hk').1;omega) (iL hk')
 refine ⟨⟨h'.imm,by rw [hEl,s1],fun i c r=>?_,fun i b n=>?_,fun i i' b n hb=>?_⟩,⟨s.imm,fun b o y hy=>?_,hle,s.os,s.tape,s.output,s.size,fun b hb hn=>s.keep b hb fun j z=>?_,fun i b n=>?_⟩,fun i hs hd H=>?_⟩
 .rcases cls (Ad.1 r).1 with ⟨j,z,rfl⟩ | ⟨C,d⟩
  .obtain ⟨K,G,g1,B,g3,g4,g5,g6,g7⟩:=Z (Ab z)
   rw [g3] at r
   cases r
   refine ⟨G,g4,?_⟩
   have one0:∀ {p:Value},K=[p]->K.length=1->(match ks[j]? with | some k=>eD (aE obs k) | none=>0)=0\/True:=fun _ _=>.inr trivial
   have single:∀ {b:Nat} {p:Value},K=[p]->((∃ q,p= .pointer (some ⟨q,0,none⟩))\/(∃ q,p= .map (some q)))->G=[p]:=by
    intro b p e hp
    have hcur:(match ks[j]? with | some k=>eD (aE obs k) | none=>0)=0:=by
     cases hq:ks[j]? with
     | none=>rfl
     | some k=>
      have J:=g7 0 p (by rw [e];rfl)
      have Y:=k1 j k hq
      obtain ⟨P,hhk,m⟩:=h.obj k _ (fE Y)
      have hl:=h.histLen Y hhk
      have W:(dY 0 ob obs 0 ks)[j]? =some (iM 0 j (aE obs k) P):=by rw [gI,hq];simp [hhk]
      obtain ⟨hs3,L,t,F⟩:=s.hs j _ W
      rw [g1] at L
      cases L
      have hc1:(iM 0 j (aE obs k) P).length=1:=by rw [rC hl];simp
      have hc0:(iM 0 j (aE obs k) P)[0]? =P[eD (aE obs k)]?:=wB hl (by rw [mO];simp)
      have a:P[eD (aE obs k)]? =some p:=by
       rw [<-hc0]
       have:K[0]? =some p:=by rw [e];rfl
       rw [<-F,Af o_] at this
       exact this
      show eD (aE obs k)=0
      cases r:aE obs k with
      | row g sz e xs=>
       rw [r] at m a
       obtain ⟨_,v',u,cv,D,_⟩:=m
       simp only [eD] at a
       rw [u] at a
       cases a
       rcases cZ D with ⟨q,_⟩ | ⟨_,_,q,_⟩<;>rcases hp with ⟨b,hp⟩ | ⟨b,hp⟩<;>(rw [q] at hp;cases hp)
      | tail g sz e=>
       rw [r] at m a
       obtain ⟨_,v',u,n',cv,D,_⟩:=m
       simp only [eD] at a
       rw [u] at a
       cases a
       rcases cZ D with ⟨q,_⟩ | ⟨_,_,q,_⟩<;>rcases hp with ⟨b,hp⟩ | ⟨b,hp⟩<;>(rw [q] at hp;cases hp)
      | bun g I=>
       rw [r] at m a
       obtain ⟨_,bs,u,_⟩:=m
       simp only [eD] at a
       rw [u] at a
       cases a
       rcases hp with ⟨b,hp⟩ | ⟨b,hp⟩<;>cases hp
      | _=>rfl
    rw [hcur,e] at g5
    have J:=g7 0 p (by rw [e];rfl)
    have hG:kF ks obs j 0=0:=by
     unfold kF
     rw [mZ]
     omega
    rw [hG] at J
    match G,g5,J with
    | [x],_,J=>simp at J;rw [J]
   have A:∀ g,K.length=g+1->G.length=kF ks obs j g+1:=fun g hg=>by
    rw [g5,hg]
    unfold kF
    rw [mZ]
    cases ks[j]? with
    | none=>simp
    | some k=>simp;omega
   cases r:obs'[j] with
   | dead=>exact trivial
   | cells T cs=>
    rw [r] at B
    obtain ⟨b,rfl,U,cv,u,D,a4,a5⟩:=B
    obtain ⟨m1,m2⟩:=bT (h.embV (M':=M') hk s.hs hcl 4) D a5
    exact ⟨b,single (b:=b) rfl (.inl ⟨b,rfl⟩),U,cv,u,m1,a4,m2⟩
   | fcells cs=>
    rw [r] at B
    obtain ⟨b,rfl,U⟩:=B
    exact ⟨b,single (b:=b) rfl (.inl ⟨b,rfl⟩),U⟩
   | row g sz e xs=>
    rw [r] at B
    obtain ⟨U,v,u,D⟩:=B
    exact ⟨A g U,v,g7 g v u,D⟩
   | frow g sz xs=>
    rw [r] at B
    obtain ⟨v,u,D⟩:=B
    exact ⟨v,g7 g v u,D⟩
   | tail g sz e=>
    rw [r] at B
    obtain ⟨U,v,u,D⟩:=B
    exact ⟨A g U,v,g7 g v u,D⟩
   | mp ag es=>
    rw [r] at B
    obtain ⟨b,rfl,U,u⟩:=B
    exact ⟨b,single (b:=b) rfl (.inr ⟨b,rfl⟩),U,u⟩
   | bun g I=>
    rw [r] at B
    obtain ⟨U,v,u,D⟩:=B
    exact ⟨A g U,v,g7 g _ u,D⟩
  .obtain ⟨o1,o2⟩:=V C d
   rw [o1] at r
   obtain ⟨hs,H,m⟩:=h.obj i c r
   refine ⟨hs,by rw [o2];exact H,m.mono s.imm hle (fun b p1 p2 o hno y hy=>?_) (fun b c' p1 p2 hc'=>?_)⟩
   .obtain ⟨n1,n2⟩:=f d ((cI r H).2 ⟨p1,p2⟩)
    rcases s.new b o y hy with q | q | ⟨j,q⟩
    .exact hno y q
    .omega
    .exact n1 j q
   .obtain ⟨n1,n2⟩:=f d ((cI r H).2 ⟨p1,p2⟩)
    rw [s.keep b n2 n1]
    exact hc'
 .rcases l n with ⟨j,_,n⟩ | ⟨_,n⟩
  .exact h'.lt j b n
  .exact Ef (h.lt i b n) s.size
 .have Q:∀ {i j:Nat},(∀ j,j<obs'.length->dN ks obs.length j≠i)->aM ob obs i b->aM obK' obs' j b->False:=by
   intro i j d n hb
   obtain ⟨n1,n2⟩:=f d n
   rcases s.fresh j b hb with ⟨j',q⟩ | q
   .exact n1 j' q
   .omega
  rcases l n with ⟨j,L,S⟩ | ⟨d,S⟩<;>rcases l hb with ⟨j',F,N⟩ | ⟨hne',N⟩
  .rw [L,F,h'.inj j j' b S N]
  .exact (Q hne' N S).elim
  .exact (Q d S N).elim
  .exact h.inj i i' b S N
 .rcases s.new b o y hy with q | q | ⟨j,q⟩
  .exact .inl q
  .omega
  .obtain ⟨k,_,n⟩:=c2 j b q
   exact .inr (.inr ⟨k,n⟩)
 .obtain ⟨k,_,n⟩:=c2 j b z
  exact hn k n
 .rcases l n with ⟨j,_,n⟩ | ⟨_,n⟩
  .rcases s.fresh j b n with ⟨j',q⟩ | q
   .obtain ⟨k,_,ha'⟩:=c2 j' b q
    exact .inl ⟨k,ha'⟩
   omega
  .exact .inl ⟨i,n⟩
 .have C:=(Ad.1 hd).1
  have d:∀ j,j<obs'.length->dN ks obs.length j≠i:=by
   intro j z e
   by_cases O:j<ks.length
   .have X:=Ab O
    rw [iL X] at e
    have Y:=k1 j _ X
    rw [e,fX hd] at Y
    cases Y
   .rw [jL o_] at e
    omega
  obtain ⟨o1,o2⟩:=V C d
  rw [o1,o2]
  exact ⟨hd,H⟩
end
section
variable {M M':Imm} {ob ob':Hs} {obs obs1 obs1' obs':List AObj} {w w':World}
def SD (obs1 obs:List AObj):Prop:=obs1.length=obs.length/\∀ (k:Nat),obs1[k]? =obs[k]?\/obs1[k]? =some .dead
theorem SD.alive (h:SD obs1 obs) {k b:Nat} (g:aM ob obs1 k b):aM ob obs k b:=by
 obtain ⟨c,hs,a,d,f,e⟩:=g
 rcases h.2 k with q | q
 .rw [q] at a;exact ⟨c,hs,a,d,f,e⟩
 .rw [q] at a;cases a;cases d
theorem Mem.weak (h:Mem M ob obs w) (a:SD obs1 obs):Mem M ob obs1 w:=by
 refine ⟨h.imm,h.len.trans a.1.symm,fun k c d=>?_,fun k b e=>h.lt k b (a.alive e),fun i j b e g=>h.inj i j b (a.alive e) (a.alive g)⟩
 rcases a.2 k with q | q
 .rw [q] at d;exact h.obj k c d
 .rw [q] at d
  cases d
  have f:k<ob.length:=by rw [h.len,<-a.1];grind
  exact ⟨ob[k],Ab f,trivial⟩
theorem Mem.revive (h:Mem M ob obs w) (x:SD obs1 obs) (d:Ext M ob obs1 w M' ob' obs1' w') (hs:cH ob obs1 ob' obs1') (z:Mem M' ob' obs1' w') (hl:obs'.length=obs1'.length)
  (D:∀ (k:Nat) c,obs'[k]? =some c->obs1'[k]? =some c\/(obs1[k]? =some .dead/\(∃ hs,ob[k]? =some hs/\hs≠[])/\obs[k]? =some c)):
  Mem M' ob' obs' w'/\Ext M ob obs w M' ob' obs' w'/\cH ob obs ob' obs':=by
 have a:∀ {k b:Nat},aM ob' obs' k b->aM ob' obs1' k b\/(obs1[k]? =some .dead/\aM ob obs k b):=by
  rintro k b ⟨c,hs',v,F,P,Q⟩
  rcases D k c v with q | ⟨m,⟨g,n,B⟩,A⟩
  .exact .inl ⟨c,hs',q,F,P,Q⟩
  .have:=((hs k g m n).1 B).2
   rw [P] at this
   cases this
   exact .inr ⟨m,c,hs',A,F,n,Q⟩
 have l:∀ {k b:Nat},obs1[k]? =some .dead->aM ob obs k b->∀ j,¬ aM ob obs1 j b:=by
  intro k b V e j C
  have:=h.inj k j b e (x.alive C)
  subst this
  obtain ⟨c,_,v,F,_⟩:=C
  rw [V] at v
  cases v
  cases F
 refine ⟨⟨z.imm,z.len.trans hl.symm,fun k c Y=>?_,fun k b e=>?_,fun i j b e H=>?_⟩,⟨d.imm,fun b o y K=>?_,d.hs,d.os,d.tape,d.output,d.size,fun b H W=>d.keep b H fun j C=>W j (x.alive C),fun k b e=>?_⟩,fun k hs' h1 O=>⟨fun h3=>?_,fun h3 S=>?_⟩⟩
 .rcases D k c Y with q | ⟨m,⟨g,n,B⟩,A⟩
  .exact z.obj k c q
  .obtain ⟨U,v,N⟩:=h.obj k c A
   rw [n] at v
   cases v
   refine ⟨g,((hs k g m n).1 B).2,N.mono d.imm d.hs (fun b L J o G y K=>?_) (fun b c' L J I=>?_)⟩
   .have e:aM ob obs k b:=(cI A n).2 ⟨L,J⟩
    rcases d.new b o y K with q | q | ⟨j,q⟩
    .exact G y q
    .have:=h.lt k b e;omega
    .exact l m e j q
   .have e:aM ob obs k b:=(cI A n).2 ⟨L,J⟩
    rw [d.keep b (h.lt k b e) (l m e)]
    exact I
 .rcases a e with q | ⟨_,q⟩
  .exact z.lt k b q
  .exact Ef (h.lt k b q) d.size
 .have f:∀ {i j:Nat},aM ob' obs1' i b->obs1[j]? =some .dead->aM ob obs j b->False:=fun {i j} p q r=>by
   rcases d.fresh i b p with ⟨T,t⟩ | t
   .exact l q r T t
   .have:=h.lt j b r;omega
  rcases a e with q | ⟨m,q⟩<;>rcases a H with r | ⟨Z,r⟩
  .exact z.inj i j b q r
  .exact (f q Z r).elim
  .exact (f r m q).elim
  .exact h.inj i j b q r
 .rcases d.new b o y K with q | q | ⟨j,q⟩
  .exact .inl q
  .omega
  .exact .inr (.inr ⟨j,x.alive q⟩)
 .rcases a e with q | ⟨_,q⟩
  .rcases d.fresh k b q with ⟨j,t⟩ | t
   .exact .inl ⟨j,x.alive t⟩
   omega
  .exact .inl ⟨k,q⟩
 .have s:obs1[k]? =some .dead:=by
   rcases x.2 k with q | q
   .grind
   .exact q
  obtain ⟨R,X⟩:=(hs k hs' s O).1 h3
  refine ⟨?_,X⟩
  have u:k<obs'.length:=by rw [hl];exact (Ad.1 R).1
  rcases D k _ (Ab u) with q | ⟨_,_,q⟩
  .rw [R] at q;rw [Ab u,<-q]
  .rw [h1] at q;rw [Ab u,<-q]
 .have s:obs1[k]? =some .dead:=by
   rcases x.2 k with q | q
   .grind
   .exact q
  rcases D k _ S with q | ⟨_,⟨g,n,B⟩,_⟩
  .exact (hs k hs' s O).2 h3 q
  grind
end
def aO (P:Program) (t:TypeId):Bool:=match P.underlying t with | some (.struct _) | some (.array _ _)=>true | _=>false
def oH (P:Program):List Field->List (Nat×Nat×Bool)->Prop
 | [],[]=>True
 | f::fs,(off,sz,ag)::r=>f.offset=off/\(P.info? f.type).map (·.size)=some sz/\(P.underlying f.type).isSome=true/\aO P f.type=ag/\oH P fs r
 | _,_=>False
def uD (P:Program) (t:Nat) (a:Bool) (size:Nat):TK->Prop
 | .int k=>P.underlying t=some (.int k)/\a=false/\size=1
 | .bool=>P.underlying t=some .bool/\a=false/\size=1
 | .str=>P.underlying t=some .string/\a=false/\size=1
 | .strct g=>(∃ c,P.underlying t=some (.struct c)/\oH P c.toList g)/\a=true
 | .arr n b h=>(∃ e,P.underlying t=some (.array n e)/\(P.info? e).map (·.size)=some b/\(P.underlying e).isSome=true/\aO P e=h)/\a=true
 | .slc e b j=>(P.underlying t=some (.slice e)/\∃ i z,P.info? e=some i/\i.size=b/\i.bytes=j/\i.zero=some z/\z.cells.size=b/\z.cells.toList.all (·.oneCell')=true)/\a=false/\size=1
 | .ptr e=>P.underlying t=some (.pointer e)/\a=false/\size=1
 | .iface=>(∃ f,P.underlying t=some (.interface f))/\a=false/\size=1
 | .mp k e=>P.underlying t=some (.map k e)/\a=false/\size=1
 | .other=>(∃ d,P.underlying t=some d/\(∀ f,d≠ .interface f))/\aO P t=a
structure TIOK (P:Program) (t:Nat) (ti:TI):Prop where
 info:∃ i z,P.info? t=some i/\i.size=ti.size/\i.zero=some z/\z.cells.size=ti.size/\Rep (fun _ _ _=>False) [] z ti.zero/\z.cells.toList.all (·.oneCell')=true/\ti.zero≠ .undef
 kind:uD P t ti.agg ti.size ti.kind
def aKj (P:Program) (t n:Nat):Prop:=∀ (w:World) (x y:Operand) (xs ys:List AVal) (vs us:List Value) (c:Bool),ceq xs ys=some c->xs.length=n->
 cA (fun _ _ _=>False) [] vs xs->cA (fun _ _ _=>False) [] us ys->
 (∀ op,(eqGuard op t x y (.agg vs.toArray) (.agg us.toArray)).run P w= .ok () w)/\(Op.equal t (.agg vs.toArray) (.agg us.toArray)).run P w= .ok c w
def J6 (P:Program) (t n:Nat):Prop:=∀ (w:World) (a b:List Int),a.length=n->b.length=n->(Op.equal t (fP true a) (fP true b)).run P w= .ok (decide (a=b)) w/\∀ c,(Hl c 10000 t (fP true a)).run P w= .ok () w
def SH (P:Program) (t n:Nat):Prop:=aKj P t n/\J6 P t n
structure EnvOK (E:Env):Prop where
 mix:E.P.follows .mixedOrders=true
 tab:∀ t ti,cR E.T t=some ti->TIOK E.P t ti
 mth:∀ t name g,aBW E.mt t name=some g->∀ v w,(method (E.P.types.size+Made.depth) t v name).run E.P w= .ok (g,v) w
 fl:∀ t,0<zV E.fl t->SH E.P t (zV E.fl t)
theorem uD.isAgg {P:Program} {t:Nat} {g:Bool} {size:Nat} {k:TK} (h:uD P t g size k):(P.underlying t).isSome=true/\aO P t=g:=by
 cases k with
 | strct j=>obtain ⟨⟨f,h1,_⟩,c⟩:=h;simp [aO,h1,c]
 | arr n i m=>obtain ⟨⟨f,h1,_⟩,c⟩:=h;simp [aO,h1,c]
 | slc e a b=>obtain ⟨⟨h1,_⟩,c,_⟩:=h;simp [aO,h1,c]
 | iface=>obtain ⟨⟨l,h1⟩,c,_⟩:=h;simp [aO,h1,c]
 | other=>obtain ⟨⟨d,h1,_⟩,c⟩:=h;grind
 | _=>obtain ⟨h1,c,_⟩:=h;simp [aO,h1,c]
theorem wO {P:Program} {t:Nat} (h:(P.underlying t).isSome=true) (w:World):(isAgg t).run P w= .ok (aO P t) w:=by
 obtain ⟨d,a⟩:=Da.1 h
 unfold isAgg
 simp only [Bf,run_underlying a,Ao,aO,a]
 cases d<;>rfl
theorem run_sizeOf {P:Program} {t:Nat} {s:Nat} (h:(P.info? t).map (·.size)=some s) (w:World):(sizeOf t).run P w= .ok s w:=by
 obtain ⟨i,a,rfl⟩:=Cp.1 h
 simp [sizeOf,typeInfo,a]
theorem TIOK.size? {P:Program} {t:Nat} {a:TI} (h:TIOK P t a):(P.info? t).map (·.size)=some a.size:=by
 obtain ⟨i,z,c,b,_⟩:=h.info
 grind
theorem oH.get {P:Program}:∀ {a:List Field} {b:List (Nat×Nat×Bool)},oH P a b->∀ {i:Nat} {off sz:Nat} {c:Bool},nth b i=some (off,sz,c)->
  ∃ f,a[i]? =some f/\f.offset=off/\(P.info? f.type).map (·.size)=some sz/\(P.underlying f.type).isSome=true/\aO P f.type=c
 | [],[],_,i,_,_,_,hn=>by cases i<;>cases hn
 | [],_::_,h,_,_,_,_,_=>h.elim
 | _::_,[],h,_,_,_,_,_=>h.elim
 | f::a,(off',sz',ag')::b,h,i,off,sz,c,hn=>by
  obtain ⟨h1,e,h3,j,d⟩:=h
  cases i with
  | zero=>cases hn;exact ⟨f,rfl,h1,e,h3,j⟩
  | succ i=>
   obtain ⟨g,k,r⟩:=d.get (show nth b i=_ from hn)
   exact ⟨g,by simp;omega,r⟩
theorem jO {M:Imm} {ob:Hs} {z:Value} {a:AVal} (h:Rep (fun _ _ _=>False) [] z a):Rep M ob z a:=h.mono (fun _ _ _ h=>h.elim) (NE ob)
def Sd (VS:AVal->List AObj->Prop) (CS:Fn->List AVal->Prop) (PS:AVal->Prop) (obs:List AObj) (base:Nat):OR->Prop
 | .no=>True
 | .val v=>VS v obs
 | .mkf fn d cs=>VS (.func fn d cs) obs
 | .need p r=>p->Sd VS CS PS obs base r
 | .alt p v w=>(p->VS v obs)/\VS w obs
 | .idx n f=>∀ i:Nat,n=(i:Int)->Sd VS CS PS obs base (f i)
 | .elem xs i f=>∀ x,xs[i]? =some x->Sd VS CS PS obs base (f x)
 | .byte l i=>∀ c,l[i]? =some c->VS (.int .u8 (c.toNat:Int)) obs
 | .text xs=>∀ l:List UInt8,xs=l.map ub->(l.length:Int)<=9223372036854775807->VS (.str l) obs
 | .find es key f=>Sd VS CS PS obs base (f (dQ es key))
 | .born x v=>VS v (bJ obs base x)
 | .upd k x v=>VS v (bJ obs k x)
 | .nilq xs a=>∃ b:Bool,(b=true->xs=[])/\VS (.bool (if a then !b else b)) obs
 | .call f args=>CS f args
 | .pan v=>PS v
theorem Sd.mono {VS j:AVal->List AObj->Prop} {CS g:Fn->List AVal->Prop} {PS e:AVal->Prop} {obs:List AObj} {base:Nat} (h1:∀ v o,VS v o->j v o) (d:∀ f a,CS f a->g f a) (h3:∀ v,PS v->e v):
  ∀ {r:OR},Sd VS CS PS obs base r->Sd j g e obs base r
 | .no,_=>trivial
 | .val v,h=>h1 _ _ h
 | .mkf fn fs cs,h=>h1 _ _ h
 | .need p r,h=>fun hp=>Sd.mono h1 d h3 (h hp)
 | .alt p v w,h=>⟨fun hp=>h1 _ _ (h.1 hp),h1 _ _ h.2⟩
 | .idx n f,h=>fun i q=>Sd.mono h1 d h3 (h i q)
 | .elem xs i f,h=>fun x s=>Sd.mono h1 d h3 (h x s)
 | .byte l i,h=>fun c t=>h1 _ _ (h c t)
 | .text xs,h=>fun l hl m=>h1 _ _ (h l hl m)
 | .find es key f,h=>Sd.mono (r:=f (dQ es key)) h1 d h3 h
 | .born x v,h=>h1 _ _ h
 | .upd k x v,h=>h1 _ _ h
 | .nilq xs neg,⟨b,m,h⟩=>⟨b,m,h1 _ _ h⟩
 | .call f args,h=>d _ _ h
 | .pan v,h=>h3 _ h
def PV (P:Program) (M:Imm) (ob:Hs) (w:World) (s:Sem Value) (obs:List AObj) (v:AVal) (o:List AObj):Prop:=o=obs/\∃ u,s.run P w= .ok u w/\Rep M ob u v
abbrev PS0 (P:Program) (M:Imm) (ob:Hs) (w:World) (s:Sem Value) (obs:List AObj) (base:Nat) (r:OR):Prop:=Sd (PV P M ob w s obs) (fun _ _=>False) (fun _=>False) obs base r
theorem PS0.bind {P:Program} {M:Imm} {ob:Hs} {w:World} {s:Sem Value} {obs:List AObj} {base:Nat} {f:AVal->AVal} (a:∀ v u,Rep M ob u v->Rep M ob u (f v)):∀ {r:OR},PS0 P M ob w s obs base r->PS0 P M ob w s obs base (r.bind fun v=>.val (f v))
 | .no,_=>trivial
 | .val v,⟨h1,u,h2,h3⟩=>⟨h1,u,h2,a _ _ h3⟩
 | .mkf fn fs cs,_=>trivial
 | .need p r,h=>fun hp=>PS0.bind a (r:=r) (h hp)
 | .alt p v w,_=>trivial
 | .idx n f',h=>fun i c=>PS0.bind a (r:=f' i) (h i c)
 | .elem xs i f',h=>fun x b=>PS0.bind a (r:=f' x) (h x b)
 | .byte l i,_=>trivial
 | .text xs,_=>trivial
 | .find es key f',_=>trivial
 | .born x v,_=>trivial
 | .upd k x v,_=>trivial
 | .nilq xs neg,_=>trivial
 | .call f' args,_=>trivial
 | .pan v,_=>trivial
structure VS1 (P:Program) (ρv:Operand->Value) (op:Op) (ty:TypeId) (M:Imm) (ob:Hs) (obs:List AObj) (w:World) (v:AVal) (obs':List AObj) (u:Value) (w':World) (M':Imm) (ob':Hs):Prop where
 run:∀ d pos after g,(execOp ρv ⟨d,op,ty,pos,after,g⟩).run P w= .ok (.value u) w'\/((execOp ρv ⟨d,op,ty,pos,after,g⟩).run P w= .ok .skip w'/\u=undef)
 ext:Ext M ob obs w M' ob' obs' w'
 mem:Mem M' ob' obs' w'
 still:cH ob obs ob' obs'
 rep:Rep M' ob' u v
def VS (P:Program) (ρv:Operand->Value) (op:Op) (ty:TypeId) (M:Imm) (ob:Hs) (obs:List AObj) (w:World) (v:AVal) (obs':List AObj):Prop:=∃ u w' M' ob',VS1 P ρv op ty M ob obs w v obs' u w' M' ob'
def CS (P:Program) (ρv:Operand->Value) (op:Op) (ty:TypeId) (M:Imm) (ob:Hs) (w:World) (f:Fn) (args:List AVal):Prop:=
 ∃ b:List Value,cA M ob b args/\∀ d pos a g,(execOp ρv ⟨d,op,ty,pos,a,g⟩).run P w=(D7 f b.toArray).run P w
def PS (P:Program) (ρv:Operand->Value) (op:Op) (ty:TypeId) (M:Imm) (w:World) (v:AVal):Prop:=
 ∃ u,(∀ d pos a g,(execOp ρv ⟨d,op,ty,pos,a,g⟩).run P w= .halt (.panic u) w)/\Rep M [] u v
abbrev bX (P:Program) (ρv:Operand->Value) (op:Op) (ty:TypeId) (M:Imm) (ob:Hs) (obs:List AObj) (w:World) (base:Nat) (r:OR):Prop:=
 Sd (VS P ρv op ty M ob obs w) (CS P ρv op ty M ob w) (PS P ρv op ty M w) obs base r
theorem bX.pv {P:Program} {ρv:Operand->Value} {op:Op} {ty:TypeId} {M:Imm} {ob:Hs} {obs:List AObj} {w:World} {base:Nat} {r:OR} {s:Sem Value} (hm:Mem M ob obs w)
  (c:∀ d pos a g,execOp ρv ⟨d,op,ty,pos,a,g⟩=(s >>= fun v=>Pure.pure (.value v))) (h:PS0 P M ob w s obs base r):bX P ρv op ty M ob obs w base r:=
 Sd.mono (fun v o ⟨h1,u,b,h3⟩=>⟨u,w,M,ob,fun d pos a g=>.inl (by simp_all),h1▸Ext.refl _ _ _ _,h1▸hm,h1▸cH.refl _ _,h3⟩) (fun _ _ h=>h.elim) (fun _ h=>h.elim) h
theorem X4 {k:IntKind} {n:Int} (h:aFN k n=true):inR k n:=by
 unfold aFN at h
 split at h
 .rename_i m
  have:=Ci h
  rw [show Int.ofNat m=(m:Int) from rfl]
  constructor
  .cases k<;>simp only [bO]<;>omega
  .cases k<;>simp only [aHq,bA] at * <;>omega
 .rename_i m
  have:m<aCb k:=by simp_all
  constructor
  .cases k<;>simp only [aCb,bO] at * <;>omega
  .cases k<;>simp only [bA]<;>omega
theorem aFD (l:List UInt8):aB2 l=l.length:=by
 induction l with
 | nil=>rfl
 | cons c r a=>simp [aB2,a]
theorem jP {k:IntKind} {n:Int} (h:inR k n):k.wrap n=n:=by
 unfold inR bO bA at h
 unfold IntKind.wrap
 cases k<;>simp only [IntKind.bits,IntKind.signed] at * <;>simp at * <;>omega
theorem lP (k:IntKind) (n:Int):inR k (k.wrap n):=by
 unfold inR bO bA IntKind.wrap
 cases k<;>simp only [IntKind.bits,IntKind.signed]<;>simp<;>(try split)<;>omega
theorem aCg {k:IntKind} {x y:Int} (h:inR k x):inR k (x.tmod y):=by
 obtain ⟨h1,f⟩:=h
 have g:bO k<=0:=by cases k<;>decide
 have c:0<=bA k:=by cases k<;>decide
 by_cases d:0<=x
 .have a:=Int.tmod_nonneg y d
  have b:x.tmod y<=x:=by
   have:=Int.natAbs_tmod x y
   have:=Kx x.natAbs y.natAbs
   omega
  exact ⟨by omega,by omega⟩
 .have e:x.tmod y= -((-x).tmod y):=by simp
  have a:=Int.tmod_nonneg y (show 0<= -x by omega)
  have b:(-x).tmod y<= -x:=by
   have:=Int.natAbs_tmod (-x) y
   have:=Kx (-x).natAbs y.natAbs
   omega
  exact ⟨by omega,by omega⟩
theorem aCh {k:IntKind} {x:Int} (p:Nat) (h:inR k x):inR k (x.fdiv (2 ^ p)):=by
 obtain ⟨h1,d⟩:=h
 have c:bO k<=0:=by cases k<;>decide
 have b:0<=bA k:=by cases k<;>decide
 have hp:(0:Int)<2 ^ p:=Int.pow_pos d_
 have a:(1:Int)<=2 ^ p:=o_
 rw [Gy _ o_]
 generalize (2:Int) ^ p=q at hp a
 constructor
 .refine Int.le_ediv_of_mul_le hp ?_
  have:bO k*q<=bO k*1:=Int.mul_le_mul_of_nonpos_left c a
  omega
 .refine Int.ediv_le_of_le_mul hp ?_
  have:bA k*1<=bA k*q:=Int.mul_le_mul_of_nonneg_left a b
  omega
theorem vP {k a:IntKind} (h:aCe k a=true):k=a:=by cases k<;>cases a<;>first | rfl | cases h
theorem sdc {VS:AVal->List AObj->Prop} {CS:Fn->List AVal->Prop} {PS:AVal->Prop} {obs:List AObj} {base:Nat} {b:Bool} {r:OR} (h:b=true->Sd VS CS PS obs base r):Sd VS CS PS obs base (bif b then r else .no):=by
 cases b with
 | true=>exact h rfl
 | false=>exact trivial
section
variable {P:Program} {E:Env} {M:Imm} {ob:Hs} {obs:List AObj} {w:World} {base:Nat}
theorem rA (v:Value):Rep M ob v (aGH v):=by
 unfold aGH
 split
 .exact .bool _
 .rename_i k n
  cases h:aFN k n with
  | true=>exact .int _ _ (X4 h)
  | false=>exact .undef _
 .rename_i s
  cases h:Fq (aB2 s.data.toList) 1000000 with
  | true=>
   have:=Ci h
   rw [aFD] at this
   obtain ⟨⟨l⟩⟩:=s
   exact .str l (by grind)
  | false=>exact .undef _
 .exact .nilslice
 .exact .nilptr
 .exact .nilmap
 .exact .nilfunc
 .exact .nilif
 .exact .undef _
theorem DT {op:BinOp} {t:TypeId} {k:IntKind} {x y n:Int} (a:(binOp op t (.int k x) (.int k y)).run P w= .ok (.int k (k.wrap n)) w):
  PS0 P M ob w (binOp op t (.int k x) (.int k y)) obs base (DU k n):=
 ⟨fun hp=>⟨rfl,_,by rw [a,jP hp],.int _ _ hp⟩,rfl,_,a,.int _ _ (lP _ _)⟩
theorem aJQ {op:BinOp} {t:TypeId} {k:IntKind} {x y:Int} (g:inR k x):PS0 P M ob w (binOp op t (.int k x) (.int k y)) obs base (aLs op k x y):=by
 have c:∀ {op:BinOp} {n:Int},(binOp op t (.int k x) (.int k y)).run P w= .ok (.int k n) w->inR k n->PS0 P M ob w (binOp op t (.int k x) (.int k y)) obs base (.val (.int k n)):=fun h1 h=>⟨rfl,_,h1,.int _ _ h⟩
 have a:∀ {op:BinOp} {b:Bool},(binOp op t (.int k x) (.int k y)).run P w= .ok (.bool b) w->PS0 P M ob w (binOp op t (.int k x) (.int k y)) obs base (.val (.bool b)):=fun h1=>⟨rfl,_,h1,.bool _⟩
 have d:∀ op,inR k (eX op k x y):=fun op=>by
  unfold eX
  cases op<;>exact lP _ _
 cases op with
 | add=>exact DT (by rw [binOp_add];rfl)
 | sub=>exact DT (by rw [binOp_sub];rfl)
 | mul=>exact DT (by rw [binOp_mul];rfl)
 | quo=>
  intro f
  have e:(binOp .quo t (.int k x) (.int k y)).run P w= .ok (.int k (k.wrap (x.tdiv y))) w:=by rw [binOp_quo];simp only [Op.intDiv,if_neg f];rfl
  exact ⟨fun hp=>⟨rfl,_,by rw [e,jP hp],.int _ _ hp⟩,rfl,_,e,.int _ _ (lP _ _)⟩
 | rem=>
  intro f
  exact c (by rw [binOp_rem];simp only [Op.intDiv,if_neg f];rfl) (aCg g)
 | and=>exact c (by rw [binOp_and];rfl) (d .and)
 | or=>exact c (by rw [binOp_or];rfl) (d .or)
 | xor=>exact c (by rw [binOp_xor];rfl) (d .xor)
 | andNot=>exact c (by rw [binOp_andNot];rfl) (d .andNot)
 | shl=>exact trivial
 | shr=>exact trivial
 | eql=>exact a (by rw [binOp_eql];rfl)
 | neq=>exact a (by rw [binOp_neq];rfl)
 | lss=>exact a (by rw [binOp_lss];rfl)
 | leq=>exact a (by rw [binOp_leq];rfl)
 | gtr=>exact a (by rw [binOp_gtr];rfl)
 | geq=>exact a (by rw [binOp_geq];rfl)
theorem dJ (l:List UInt8):(⟨l.toArray⟩:ByteArray).toList=l:=by simp
theorem QF (l:List UInt8) (i j:Nat):(⟨l.toArray⟩:ByteArray).extract i j=⟨((l.take j).drop i).toArray⟩:=by
 have h:=Lib.extract_data ⟨l.toArray⟩ i j
 have:((⟨l.toArray⟩:ByteArray).extract i j).data=((l.take j).drop i).toArray:=by
  rw [<-Array.toList_inj,h]
  simp [List.drop_take]
 cases a:(⟨l.toArray⟩:ByteArray).extract i j with
 | mk d=>grind
theorem wF {M':Imm} {ob':Hs}:∀ {xs ys:List AVal} {c:Bool},ceq xs ys=some c->∀ {vs:List Value},cA M ob vs xs->cA M' ob' vs xs:=by
 intro xs
 induction xs with
 | nil=>intro ys c _ vs h;exact ⟨h.1,fun i v a _ m=>by simp at m⟩
 | cons x xs l=>
  intro ys c h vs d
  cases ys with
  | nil=>cases x<;>cases h
  | cons y ys=>
   cases x with
   | int k a=>
    cases y with
    | int p b=>
     simp only [ceq] at h
     obtain ⟨_,n⟩:=dZ h
     cases g:ceq xs ys with
     | none=>grind
     | some o=>
      match vs,d with
      | [],d=>exact absurd d.1 s_
      | v::vs,d=>
       have j:=l g (vs:=vs) ⟨by simpa using d.1,fun i u b f e=>d.2 (i+1) u b (by grind) q_⟩
       refine ⟨by simpa using d.1,fun i u b f e=>?_⟩
       cases i with
       | zero=>
        simp at f e
        subst f e
        have:=(d.2 0 v _ rfl rfl).int_inv
        rw [this.1]
        exact .int _ _ this.2
       | succ i=>exact j.2 i u b (by simpa using f) (by simpa using e)
    | _=>cases h
   | _=>cases h
theorem N7:∀ {xs ys:List AVal} {c:Bool},ceq xs ys=some c->∃ e,ceq ys xs=some e:=by
 intro xs
 induction xs with
 | nil=>intro ys c h;cases ys with
  | nil=>grind
  | cons y ys=>cases h
 | cons x xs j=>
  intro ys c h
  cases ys with
  | nil=>cases x<;>cases h
  | cons y ys=>
   cases x with
   | int k a=>
    cases y with
    | int m b=>
     simp only [ceq] at h
     obtain ⟨f,l⟩:=dZ h
     have:=vP f
     subst this
     cases i:ceq xs ys with
     | none=>grind
     | some e=>
      obtain ⟨d,g⟩:=j i
      exact ⟨(b==a)&&d,by simp only [ceq,f,cond_true,g]⟩
    | _=>cases h
   | _=>cases h
theorem wP {P:Program} {w:World} {t e:TypeId} {a:Addr} {j:TypeInfo} (d:Nat) (h:P.underlying t=some (.pointer e)) (b:P.info? e=some j):(Op.equalIn (d+1) t (.pointer (some a)) (.pointer (some a))).run P w= .ok true w:=by
 by_cases hz:j.size=0<;>simp [Op.equalIn,run_underlying h,sizeOf,typeInfo,b,hz,run_sameAddr_same]
theorem aJj {P:Program} {t e:TypeId} (h:P.underlying t=some (.pointer e)):P.underlying t=some (.pointer (P.pointee t)):=by
 simp [Program.pointee,h]
abbrev JR (op:BinOp) (t:TypeId) (x y:Operand) (vx vy:Value):Sem Value:=eqGuard op t x y vx vy >>= fun _=>binOp op t vx vy
theorem aHl {s s':Sem Value} (h:∀ {r},s'.run P w=r->s.run P w=r) {r:OR} (k:PS0 P M ob w s' obs base r):PS0 P M ob w s obs base r:=
 Sd.mono (fun _ _ ⟨h1,u,a,h3⟩=>⟨h1,u,h a,h3⟩) (fun _ _ h=>h) (fun _ h=>h) k
theorem aBv {op:BinOp} {t:TypeId} {x y:Operand} {a b:Value} {c:Bool} (h1:∀ op,eqGuard op t x y a b=Pure.pure ()) (d:∀ op,op= .eql\/op= .neq->binOp op t a b=(Op.equal t a b >>= fun r=>Pure.pure (.bool (if op= .eql then r else !r))))
  (h3:(Op.equal t a b).run P w= .ok c w):PS0 P M ob w (JR op t x y a b) obs base (xC op c):=by
 unfold xC
 split
 .refine ⟨rfl,.bool c,?_,.bool c⟩
  simp only [JR,h1,d _ (.inl rfl)]
  simp only [Bf,Ca,Ao,h3,if_true]
 .refine ⟨rfl,.bool (!c),?_,.bool _⟩
  simp only [JR,h1,d _ (.inr rfl)]
  simp only [Bf,Ca,Ao,h3]
  rfl
 .exact trivial
theorem aIV {op:BinOp} {t:TypeId} {x y:Operand} {a b:Value} {c:Bool} {xs:List AVal} (h1:∀ op,eqGuard op t x y a b=Pure.pure ()) (e:∀ op,op= .eql\/op= .neq->binOp op t a b=(Op.equal t a b >>= fun r=>Pure.pure (.bool (if op= .eql then r else !r))))
  (h3:(Op.equal t a b).run P w= .ok c w) (d:c=true->xs=[]):PS0 P M ob w (JR op t x y a b) obs base (aIW op xs):=by
 have:=aBv (M:=M) (ob:=ob) (obs:=obs) (base:=base) (op:=op) h1 e h3
 unfold aIW
 unfold xC at this
 split
 .exact ⟨c,d,this⟩
 .exact ⟨c,d,this⟩
 .exact trivial
theorem aJT (hE:EnvOK E) {og:Nat->AObj} {op:BinOp} {t:TypeId} {x y:Operand} {s u:Value} {a b:AVal} (m:Rep M ob s a) (l:Rep M ob u b):PS0 E.P M ob w (JR op t x y s u) obs base (aJU E og (isC x||isC y) op t a b):=by
 unfold aJU
 split
 .rename_i k x' N F
  obtain ⟨rfl,J⟩:=m.int_inv
  obtain ⟨rfl,X⟩:=l.int_inv
  have D:∀ op,(eqGuard op t x y (.int k x') (.int N F))=Pure.pure ():=fun op=>by cases op<;>rfl
  refine aHl (s':=binOp op t (.int k x') (.int N F)) (fun h=>by grind) ?_
  split
  .intro O
   have e:(binOp .shl t (.int k x') (.int N F)).run E.P w= .ok (.int k (k.wrap (x'*2 ^ min F.toNat k.bits))) w:=by
    rw [binOp_shl]
    simp only [Op.shift]
    simp;omega
   refine ⟨fun ⟨I,Q⟩=>⟨rfl,_,?_,.int _ _ Q⟩,rfl,_,e,.int _ _ (lP _ _)⟩
   rw [e,Hq I,jP Q]
  .rintro ⟨O,I⟩
   refine ⟨rfl,_,?_,.int _ _ (aCh _ J)⟩
   rw [binOp_shr]
   simp only [Op.shift]
   rw [if_neg o_,Hq I]
   rfl
  .refine sdc fun f=>?_
   have:=vP f
   subst this
   exact aJQ J
 .rename_i l1 l2
  obtain ⟨rfl,J⟩:=m.str_inv
  obtain ⟨rfl,X⟩:=l.str_inv
  have D:∀ op,(eqGuard op t x y (.string ⟨l1.toArray⟩) (.string ⟨l2.toArray⟩))=Pure.pure ():=fun op=>by cases op<;>rfl
  refine aHl (s':=binOp op t (.string ⟨l1.toArray⟩) (.string ⟨l2.toArray⟩)) (fun h=>by grind) ?_
  split
  .intro O
   refine ⟨rfl,.string ⟨(l1++l2).toArray⟩,?_,.str _ (by grind)⟩
   rw [binOp_string_add]
   rw [run_string_add_sum w _ _ (by rw [oS,oS];omega),ByteArray.mk_append_mk]
  .exact ⟨rfl,_,by rw [binOp_string_eql,dJ,dJ];rfl,.bool _⟩
  .exact ⟨rfl,_,by rw [binOp_string_neq,dJ,dJ];rfl,.bool _⟩
  .exact ⟨rfl,_,by rw [binOp_string_lss,dJ,dJ];rfl,.bool _⟩
  .exact ⟨rfl,_,by rw [binOp_string_leq,dJ,dJ];rfl,.bool _⟩
  .exact ⟨rfl,_,by rw [binOp_string_gtr,dJ,dJ];rfl,.bool _⟩
  .exact ⟨rfl,_,by rw [binOp_string_geq,dJ,dJ];rfl,.bool _⟩
  .exact trivial
 .rename_i xs ys
  refine sdc fun D=>?_
  obtain ⟨hf1,H⟩:=aU D
  have S:0<zV E.fl t:=by simp_all
  have p:=aC H
  rw [wC] at p
  obtain ⟨vs,rfl,hl,R⟩:=m.agg_inv
  obtain ⟨us,rfl,A,z⟩:=l.agg_inv
  split
  .rename_i c i
   obtain ⟨Y,n⟩:=N7 i
   obtain ⟨K,L⟩:=(hE.fl t S).1 w x y _ _ vs us c i p (wF i ⟨hl,R⟩) (wF n ⟨A,z⟩)
   refine ⟨rfl,.bool c,?_,.bool c⟩
   simp only [JR,Bf,K,Ao,binOp,L,Ca]
  .rename_i c i
   obtain ⟨Y,n⟩:=N7 i
   obtain ⟨K,L⟩:=(hE.fl t S).1 w x y _ _ vs us c i p (wF i ⟨hl,R⟩) (wF n ⟨A,z⟩)
   refine ⟨rfl,.bool (!c),?_,.bool _⟩
   simp only [JR,Bf,K,Ao,binOp,L,Ca]
  .exact trivial
 .split
  .exact trivial
  .rename_i q hT
   have d:=(hE.tab t q hT).kind
   have two:∀ {s u:Value},(∀ op,eqGuard op t x y s u=Pure.pure ())->(∀ op,op= .eql\/op= .neq->binOp op t s u=(Op.equal t s u >>= fun r=>Pure.pure (.bool (if op= .eql then r else !r))))->
     ∀ {c:Bool},(Op.equal t s u).run E.P w= .ok c w->PS0 E.P M ob w (JR op t x y s u) obs base (xC op c):=fun h1 B _ h3=>aBv h1 B h3
   split
   .have f:=‹q.kind=TK.bool›
    rw [f] at d
    obtain rfl:=m.bool_inv
    obtain rfl:=l.bool_inv
    exact two (fun op=>by cases op<;>rfl) (fun op g=>by rcases g with rfl | rfl<;>rfl) (run_equal_bool w t _ _ d.1)
   .have f:=‹q.kind=TK.slc _ _ _›
    rw [f] at d
    have:=m.untok.2
    obtain rfl:s= .slice none 0 0:=this
    cases l
    exact two (fun op=>by cases op<;>rfl) (fun op g=>by rcases g with rfl | rfl<;>rfl) (run_equal_slice_nil w t _ none 0 0 d.1.1)
   .have f:=‹q.kind=TK.slc _ _ _›
    rw [f] at d
    cases m
    cases l
    exact two (fun op=>by cases op<;>rfl) (fun op g=>by rcases g with rfl | rfl<;>rfl) (run_equal_slice_nil w t _ none 0 0 d.1.1)
   .have f:=‹q.kind=TK.slc _ _ _›
    rw [f] at d
    obtain ⟨a,c,rfl,W,_⟩:=m.slice_inv
    cases l
    exact aIV (fun op=>by cases op<;>rfl) (fun op g=>by rcases g with rfl | rfl<;>rfl) (run_equal_slice_nil w t _ a _ c d.1.1) (fun e=>(W (by cases a<;>first | rfl | cases e)).1)
   .have f:=‹q.kind=TK.ptr _›
    rw [f] at d
    cases m
    cases l
    exact two (fun op=>by cases op<;>rfl) (fun op g=>by rcases g with rfl | rfl<;>rfl) (run_equal_pointer_nil w t _ (aJj d.1))
   .have f:=‹q.kind=TK.ptr _›
    rw [f] at d
    obtain ⟨b,rfl,_⟩:=m.ref_inv
    cases l
    exact two (fun op=>by cases op<;>rfl) (fun op g=>by rcases g with rfl | rfl<;>rfl) (run_equal_pointer_nil w t _ (aJj d.1))
   .have f:=‹q.kind=TK.ptr _›
    rw [f] at d
    obtain ⟨b,o,rfl,_⟩:=m.ptr_inv
    cases l
    exact two (fun op=>by cases op<;>rfl) (fun op g=>by rcases g with rfl | rfl<;>rfl) (run_equal_pointer_nil w t _ (aJj d.1))
   .have f:=‹q.kind=TK.ptr _›
    rw [f] at d
    split
    .rename_i U G
     refine sdc fun D=>?_
     obtain ⟨h1,B⟩:=aU D
     have h1:=aC h1
     have B:=aC B
     subst h1 B
     obtain ⟨b,rfl,T⟩:=m.ref_inv
     obtain ⟨b',rfl,C⟩:=l.ref_inv
     rw [T] at C
     cases C
     obtain ⟨j,V,_⟩:=Cp.1 (hE.tab _ U G).size?
     refine two (fun op=>by cases op<;>rfl) (fun op g=>by rcases g with rfl | rfl<;>rfl) (c:=true) ?_
     exact wP 9999 d.1 V
    .exact trivial
   .have f:=‹q.kind=TK.iface›
    rw [f] at d
    obtain ⟨Z,v⟩:=d.1
    cases m
    cases l
    refine sdc fun hl=>two (fun op=>?_) (fun op g=>by rcases g with rfl | rfl<;>rfl) (run_equal_nil_nil w t (by simp only [Program.methodsAt,v]))
    cases op<;>first | rfl | (cases x<;>first | rfl | (cases y<;>first | rfl | cases hl))
   .have f:=‹q.kind=TK.iface›
    rw [f] at d
    obtain ⟨Z,v⟩:=d.1
    cases m
    cases l
    exact two (fun op=>by cases op<;>rfl) (fun op g=>by rcases g with rfl | rfl<;>rfl) (run_equal_held_nil w t _ _ (by simp only [Program.methodsAt,v]))
   .exact trivial
end
end Go.AW
