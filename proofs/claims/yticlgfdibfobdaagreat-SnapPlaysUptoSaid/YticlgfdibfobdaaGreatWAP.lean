/-
  The engine, second make, first part: abstract values, what each operation comes to, memory. Over any program.
-/
import Derived.WalkKit
import Derived.WalkLawsBesides
import Derived.RangeFuncLeaves
import Derived.OrdersIn
import Derived.TacticsIn
import Derived.Deep.AppendSrc
import Derived.Lib.Strings
import Derived.LaidEql
set_option linter.all false
open Array renaming ext'->Cy,getElem?_eq_some_iff->Dt,length_toList->Fg,toList_append->Mk,toList_map->Hv
open Bool renaming and_eq_true->Af,not_eq_true'->Cm,or_eq_true->Eg
open Go.Builtin renaming append_->Cg,firstCells->Bz,zeroCells->Cc
open Go.Instr renaming checkKey->Gw
open Go.Region renaming binds->Ix
open Go.Result renaming andThen_ok->Ai
open Go.Sem renaming run_bind->Au,run_pure->Bi
open Go.Value renaming int->Ji,ownBlock->Gg,slice->Gc
open Go.World renaming block_lt_of_cell?->Cr,cell?_of_block->Co,ownsRow_nil->Hi,setRow->Kh
open Int renaming fdiv_eq_ediv_of_nonneg->Ge,mul_le_mul_of_nonneg_left->Jv
open List renaming all_eq_true->Cj,append_assoc->Aj,append_nil->Bo,cons_append->Je,drop_eq_nil_of_le->Ae,drop_zero->Cn,eq_nil_of_length_eq_zero->Aq,ext_getElem?->Fa,getElem?_append_left->Ag,getElem?_append_right->Ak,getElem?_cons_succ->Eu,getElem?_drop->Bx,getElem?_eq_getElem->Aa,getElem?_eq_none->Bj,getElem?_eq_some_iff->Ab,getElem?_map->Bc,getElem?_of_mem->Cp,getElem?_range->Ch,getElem?_replicate->Ds,getElem?_set_ne->Bh,getElem?_set_self->Ax,getElem?_take->Ft,getElem?_take_of_lt->Bl,getElem_mem->Bf,getLast?_append->Mg,getLast?_eq_getElem?->Kt,getLast?_eq_some_getLast->Ju,length->Js,length_append->Ar,length_drop->Fo,length_map->Cw,length_pos_iff->Fz,length_take->Es,map_cons->Bk,mem_append->Ay,mem_cons->Ao,mem_map->Bu,mem_of_getElem?->Av,mem_of_mem_drop->Du,mem_of_mem_take->Cq,mem_range->Gt,nil_append->Jz,nodup_cons->Bw,nodup_nil->Hn,prefix_refl->Cz,range->Db,replicate->Ah,size_toArray->Gl,take_left->Kn,take_zero->Hl
open Nat renaming add_assoc->Ib,add_mul->Bv,add_sub_cancel->Ii,add_sub_cancel_left->Gv,add_zero->Df,beq->Ap,beq_refl->Ll,ble->Ew,blt->Dy,blt_eq->Fe,div_add_mod->Ig,div_eq_of_lt->Jg,div_lt_iff_lt_mul->Ef,div_one->Jt,eq_of_beq_eq_true->Jd,eq_zero_or_pos->Fp,le_div_iff_mul_le->Jc,le_of_ble_eq_true->Ca,le_refl->Bg,le_succ->Il,le_trans->Cs,lor->Mp,lt_of_lt_of_le->Dp,lt_or_ge->Mn,min_eq_left->Fh,mod_eq_of_lt->Jf,mod_lt->Gp,mul_add_div->Jx,mul_add_mod->Lv,mul_comm->Dn,mul_le_mul_right->Bq,sub_zero->Hu,zero_add->Bp,zero_le->Bt,zero_mul->Hr
open Option renaming getD_some->Hw,isSome_iff_exists->Cx,map_eq_some_iff->Cb,map_some->Lw
open Option.some renaming injEq->Dr
namespace Go.AW
open Go.RowKit
theorem _root_.o_ {P:Prop} (h:P:=by omega):P:=h
theorem _root_.d_ {P:Prop} (h:P:=by decide):P:=h
theorem _root_.s_ {P:Prop} (h:P:=by simp):P:=h
theorem _root_.q_ {P:Prop} (h:P:=by simp;omega):P:=h
def cL:IntKind->Int
 | .i8=> -128 | .i16=> -32768 | .i32=> -2147483648 | .i64=> -9223372036854775808 | _=>0
def bI:IntKind->Int
 | .i8=>127 | .i16=>32767 | .i32=>2147483647 | .i64=>9223372036854775807
 | .u8=>255 | .u16=>65535 | .u32=>4294967295 | .u64=>18446744073709551615
def inR (k:IntKind) (n:Int):Prop:=cL k<=n/\n<=bI k
inductive Tk where
 | no | nil | full | own (k g:Nat)
inductive AVal where
 | undef
 | bool (b:Bool)
 | int (k:IntKind) (n:Int)
 | str (l:List UInt8)
 | slice (sz:Nat) (xs:List AVal) (t:Tk)
 | agg (cs:List AVal)
 | tup (vs:List AVal)
 | ptr (cs:List AVal)
 | ref (k off:Nat)
 | eref (k g i sz off:Nat)
 | csl (k off len sz:Nat)
 | row (k g:Nat)
 | sub (k g lo len sz:Nat)
 | rowc (k g c:Nat)
 | pre (k g n c sz:Nat)
 | mref (k:Nat)
 | nilptr | nilslice | nilmap | nilfunc | nilif
 | hsl (a:Option Addr) (n c:Nat)
 | func (fn:Fn) (first caps:List AVal)
 | iface (t:TypeId) (v:AVal)
def AVal.cells:AVal->List AVal
 | .agg cs=>cs
 | v=>[v]
abbrev Imm:=Nat->Nat->AVal->Prop
def NoM (M:Imm) (b o:Nat):Prop:=∀ x,¬ M b o x
abbrev Hs:=List (List Value)
def at' (ob:Hs) (k g:Nat):Option Value:=(ob[k]?).bind fun hs=>hs[g]?
def dL (ob ob':Hs):Prop:=∀ (k:Nat) hs,ob[k]? =some hs->∃ hs',ob'[k]? =some hs'/\hs<+:hs'
theorem dL.refl (ob:Hs):dL ob ob:=fun _ hs h=>⟨hs,h,Cz _⟩
theorem dL.trans {a b c:Hs} (h:dL a b) (k:dL b c):dL a c:=fun i hs l=>by
 obtain ⟨h1,j,g⟩:=h i hs l
 obtain ⟨f,e,d⟩:=k i h1 j
 exact ⟨f,e,g.trans d⟩
theorem dL.at {ob ob':Hs} (h:dL ob ob') {k g:Nat} {v:Value} (a:at' ob k g=some v):at' ob' k g=some v:=by
 unfold at' at *
 cases b:ob[k]? with
 | none=>rw [b] at a;cases a
 | some hs=>
  rw [b] at a
  obtain ⟨hs',e,p⟩:=h k hs b
  rw [e]
  simp only [Option.bind_some] at a⊢
  obtain ⟨t,rfl⟩:=p
  rw [Ag (Ab.1 a).1]
  exact a
def qZ (ob:Hs) (v:Value):Tk->Prop
 | .no=>True
 | .nil=>v= .slice none 0 0
 | .full=>∃ a n,v= .slice a n n
 | .own k g=>at' ob k g=some v
theorem qZ.mono {ob ob':Hs} (a:dL ob ob') {v:Value} {t:Tk} (h:qZ ob v t):qZ ob' v t:=by
 cases t with
 | own k g=>exact a.at h
 | _=>exact h
inductive Rep (M:Imm) (ob:Hs):Value->AVal->Prop
 | undef (v):Rep M ob v .undef
 | bool (b):Rep M ob (.bool b) (.bool b)
 | int (k n) (h:inR k n):Rep M ob (.int k n) (.int k n)
 | str (l:List UInt8) (h:(l.length:Int)<=9223372036854775807):Rep M ob (.string ⟨l.toArray⟩) (.str l)
 | agg (vs:List Value) (as:List AVal) (hl:vs.length=as.length) (h:∀ (i:Nat) v a,vs[i]? =some v->as[i]? =some a->Rep M ob v a):Rep M ob (.agg vs.toArray) (.agg as)
 | tup (vs:List Value) (as:List AVal) (hl:vs.length=as.length) (h:∀ (i:Nat) v a,vs[i]? =some v->as[i]? =some a->Rep M ob v a):Rep M ob (.tuple vs.toArray) (.tup as)
 | ptr (b o:Nat) (cs:List AVal) (h:∀ (j:Nat) c,cs[j]? =some c->M b (o+j) c):Rep M ob (.pointer (some ⟨b,o,none⟩)) (.ptr cs)
 | ref (k off b:Nat) (h:at' ob k 0=some (.pointer (some ⟨b,0,none⟩))):Rep M ob (.pointer (some ⟨b,off,none⟩)) (.ref k off)
 | eref (k g i sz off b n c:Nat) (h:at' ob k g=some (.slice (some ⟨b,0,none⟩) n c)):Rep M ob (.pointer (some ⟨b,i*sz+off,none⟩)) (.eref k g i sz off)
 | csl (k off len sz b:Nat) (h:at' ob k 0=some (.pointer (some ⟨b,0,none⟩))) (hm:(len:Int)<=9223372036854775807):Rep M ob (.slice (some ⟨b,off,none⟩) len len) (.csl k off len sz)
 | row (k g:Nat) (a:Option Addr) (n c:Nat) (h:at' ob k g=some (.slice a n c)):Rep M ob (.slice a n c) (.row k g)
 | sub (k g lo len sz b n c:Nat) (h:at' ob k g=some (.slice (some ⟨b,0,none⟩) n c)) (hl:lo<c) (hn:lo+len<=n) (hc:n<=c) (hm:(n:Int)<=9223372036854775807):Rep M ob (.slice (some ⟨b,lo*sz,none⟩) len (c-lo)) (.sub k g lo len sz)
 | sub0 (k g lo sz:Nat) (a a':Option Addr) (n c:Nat) (h:at' ob k g=some (.slice a n c)) (hl:lo=n) (hc:n=c):Rep M ob (.slice a' 0 0) (.sub k g lo 0 sz)
 | rowc (k g c:Nat) (a:Option Addr) (n:Nat) (h:at' ob k g=some (.slice a n c)) (hm:(c:Int)<=9223372036854775807):Rep M ob (.slice a n c) (.rowc k g c)
 | pre (k g n c sz b len:Nat) (h:at' ob k g=some (.slice (some ⟨b,0,none⟩) len c)) (hc:0<c) (hn:n<=len) (hl:len<=c) (hm:(c:Int)<=9223372036854775807):Rep M ob (.slice (some ⟨b,0,none⟩) n c) (.pre k g n c sz)
 | mref (k b:Nat) (h:at' ob k 0=some (.map (some b))):Rep M ob (.map (some b)) (.mref k)
 | nilptr:Rep M ob (.pointer none) .nilptr
 | nilslice:Rep M ob (.slice none 0 0) .nilslice
 | nilmap:Rep M ob (.map none) .nilmap
 | nilfunc:Rep M ob .nilFunc .nilfunc
 | nilif:Rep M ob .nilIface .nilif
 | hsl (a:Option Addr) (n c:Nat):Rep M ob (.slice a n c) (.hsl a n c)
 | slnil (sz:Nat) (t:Tk) (ht:qZ ob (.slice none 0 0) t):Rep M ob (.slice none 0 0) (.slice sz [] t)
 | slemp (sz:Nat) (t:Tk) (a:Addr) (cap:Nat) (ht:qZ ob (.slice (some a) 0 cap) t):Rep M ob (.slice (some a) 0 cap) (.slice sz [] t)
 | sl (sz b o n cap:Nat) (xs:List AVal) (t:Tk) (hn:xs.length=n) (hc:n<=cap) (hm:(n:Int)<=9223372036854775807) (hz:∀ x∈xs,x.cells.length=sz)
   (h:∀ (i j:Nat) x c,xs[i]? =some x->x.cells[j]? =some c->M b (o+i*sz+j) c) (ht:qZ ob (.slice (some ⟨b,o,none⟩) n cap) t):Rep M ob (.slice (some ⟨b,o,none⟩) n cap) (.slice sz xs t)
 | func (fn:Fn) (fs cs:List Value) (fa ca:List AVal) (hf:fs.length=fa.length) (hc:cs.length=ca.length)
   (h1:∀ (i:Nat) v a,fs[i]? =some v->fa[i]? =some a->Rep M ob v a) (h2:∀ (i:Nat) v a,cs[i]? =some v->ca[i]? =some a->Rep M ob v a):
   Rep M ob (.func fn fs.toArray cs.toArray) (.func fn fa ca)
 | iface (t:TypeId) (v:Value) (a:AVal) (h:Rep M ob v a):Rep M ob (.iface t v) (.iface t a)
theorem Rep.mono {M M':Imm} {ob ob':Hs} (u:∀ b o x,M b o x->M' b o x) (d:dL ob ob') {v:Value} {a:AVal} (h:Rep M ob v a):Rep M' ob' v a:=by
 induction h with
 | undef v=>exact .undef v
 | bool b=>exact .bool b
 | int k n h=>exact .int k n h
 | str l h=>exact .str l h
 | agg vs as hl _ m=>exact .agg vs as hl m
 | tup vs as hl _ m=>exact .tup vs as hl m
 | ptr b o cs h=>exact .ptr b o cs fun j c e=>u _ _ _ (h j c e)
 | ref k off b h=>exact .ref k off b (d.at h)
 | eref k g i sz off b n c h=>exact .eref k g i sz off b n c (d.at h)
 | csl k off len sz b h hm=>exact .csl k off len sz b (d.at h) hm
 | row k g a n c h=>exact .row k g a n c (d.at h)
 | sub k g lo len sz b n c h hl p e hm=>exact .sub k g lo len sz b n c (d.at h) hl p e hm
 | sub0 k g lo sz a y n c h hl e=>exact .sub0 k g lo sz a y n c (d.at h) hl e
 | rowc k g c a n h hm=>exact .rowc k g c a n (d.at h) hm
 | pre k g n c sz b len h e p hl hm=>exact .pre k g n c sz b len (d.at h) e p hl hm
 | mref k b h=>exact .mref k b (d.at h)
 | nilptr=>exact .nilptr
 | nilslice=>exact .nilslice
 | nilmap=>exact .nilmap
 | nilfunc=>exact .nilfunc
 | nilif=>exact .nilif
 | hsl a n c=>exact .hsl a n c
 | slnil sz t q=>exact .slnil sz t (q.mono d)
 | slemp sz t a f q=>exact .slemp sz t a f (q.mono d)
 | sl sz b o n f xs t p e hm hz h q=>exact .sl sz b o n f xs t p e hm hz (fun i j x c A z=>u _ _ _ (h i j x c A z)) (q.mono d)
 | func fn B cs w C D e _ _ r s=>exact .func fn B cs w C D e r s
 | iface t v a _ m=>exact .iface t v a m
theorem KA (ob:Hs):dL [] ob:=fun k hs h=>by simp at h
theorem Rep.pure {M:Imm} {ob:Hs} {v:Value} {a:AVal} (h:Rep M [] v a):Rep M ob v a:=h.mono (fun _ _ _ h=>h) (KA ob)
theorem Rep.monoM {M M':Imm} {ob:Hs} {v:Value} {a:AVal} (h:Rep M ob v a) (c:∀ b o x,M b o x->M' b o x):Rep M' ob v a:=h.mono c (dL.refl _)
structure BInv where
 inv:Imm->List Nat->World->Prop
 mono:∀ {M M':Imm} {bs:List Nat} {w w':World},(∀ b o x,M b o x->M' b o x)->(∀ b,b∈bs->∀ o,NoM M b o->NoM M' b o)->(∀ b c,b∈bs->w.heap[b]? =some c->w'.heap[b]? =some c)->inv M bs w->inv M' bs w'
def AY:Obj->Bool
 | .deferred _=>true
 | _=>false
def gH (bs:List Nat):Value:=.tuple (bs.map fun b=>Value.map (some b)).toArray
inductive AObj where
 | dead
 | cells (T:TypeId) (cs:List AVal)
 | fcells (cs:List AVal)
 | row (g sz:Nat) (e:TypeId) (xs:List AVal)
 | frow (g sz:Nat) (xs:List AVal)
 | tail (g sz:Nat) (e:TypeId)
 | mp (ag:Bool) (es:List (List Int×AVal))
 | bun (g:Nat) (I:BInv)
def aFQ:Value->Option Nat
 | .map (some b)=>some b
 | _=>none
def HG:Value->List Nat
 | .pointer (some a)=>[a.block]
 | .slice (some a) _ _=>[a.block]
 | .map (some b)=>[b]
 | .tuple vs=>vs.toList.filterMap aFQ
 | _=>[]
def blk (hs:List Value):List Nat:=match hs.getLast? with | some v=>HG v | none=>[]
theorem HF {hs:List Value} {bs:List Nat} (h:hs.getLast? =some (gH bs)):blk hs=bs:=by
 unfold blk
 rw [h]
 show (bs.map fun b=>Value.map (some b)).filterMap aFQ=bs
 clear h
 induction bs with
 | nil=>rfl
 | cons b r a=>simp only [Bk,List.filterMap_cons,aFQ,a]
theorem dI {b c:Nat}:b∈([c]:List Nat)↔c=b:=by simp [eq_comm]
def AObj.owns:AObj->Bool
 | .dead | .fcells _ | .frow _ _ _=>false
 | _=>true
def aG (sz:Nat) (xs:List AVal) (q:Nat):Option AVal:=(xs[q / sz]?).bind fun x=>x.cells[q % sz]?
def OQ (w:World) (v:Value):Prop:=∀ b,v.ownBlock=some b->∀ a T c,w.heap[b]? =some (.cells a T c)->∀ u∈a.toList,u.oneCell'=true
def dD (M:Imm) (w:World) (v:Value) (sz:Nat) (e:TypeId) (xs:List AVal):Prop:=
 ∃ cv,w.ownsRow 0 e sz v xs.length cv/\(∀ u∈cv,u.oneCell'=true)/\(∀ x∈xs,x.cells.length=sz)/\
  (∀ (q:Nat) c,aG sz xs q=some c->∃ u,cv[q]? =some u/\Rep M [] u c)/\(∀ b,v.ownBlock=some b->∀ o,NoM M b o)/\OQ w v
def fA (a:Bool) (l:List Int):Value:=if a then .agg (l.map (Ji .i64)).toArray else .int .i64 (l.headD 0)
def U6 (M:Imm) (w:World) (b:Nat) (d:Bool) (es:List (List Int×AVal)):Prop:=
 ∃ (c:List MapEntry) (a:Nat),w.heap[b]? =some (.map c.toArray a)/\c.length=es.length/\(∀ (i:Nat) x y,c[i]? =some x->es[i]? =some y->x.key=fA d y.1/\(d=false->y.1.length=1)/\Rep M [] x.val y.2)/\
  (∀ (i:Nat) x,c[i]? =some x->x.born<a)/\∀ (i j:Nat) x y,c[i]? =some x->c[j]? =some y->x.born=y.born->i=j
def gZ (M:Imm) (ob:Hs) (w:World) (hs:List Value):AObj->Prop
 | .dead=>True
 | .cells T cs=>∃ b,hs=[.pointer (some ⟨b,0,none⟩)]/\(∀ o,NoM M b o)/\∃ (cv:List Value),w.heap[b]? =some (.cells cv.toArray T (0,0))/\cv.length=cs.length/\(∀ v∈cv,v.oneCell'=true)/\
   ∀ (i:Nat) v a,cv[i]? =some v->cs[i]? =some a->Rep M ob v a
 | .fcells cs=>∃ b,hs=[.pointer (some ⟨b,0,none⟩)]/\∀ (j:Nat) c,cs[j]? =some c->M b j c
 | .row g sz e xs=>hs.length=g+1/\∃ v,hs[g]? =some v/\dD M w v sz e xs
 | .frow g sz xs=>∃ v,hs[g]? =some v/\Rep M [] v (.slice sz xs .no)
 | .tail g sz e=>hs.length=g+1/\∃ v,hs[g]? =some v/\∃ n cv,w.ownsRow 0 e sz v n cv/\∀ b,v.ownBlock=some b->∀ o,n*sz<=o->NoM M b o
 | .mp d es=>∃ b,hs=[.map (some b)]/\(∀ o,NoM M b o)/\U6 M w b d es
 | .bun g I=>hs.length=g+1/\∃ bs,hs[g]? =some (gH bs)/\(∀ b,b∈bs->∃ o,w.heap[b]? =some o/\AY o=false)/\I.inv M bs w
def aH (ob:Hs) (obs:List AObj) (k b:Nat):Prop:=∃ c hs,obs[k]? =some c/\c.owns=true/\ob[k]? =some hs/\b∈blk hs
structure Mem (M:Imm) (ob:Hs) (obs:List AObj) (w:World):Prop where
 imm:∀ b o x,M b o x->∃ v,w.cell? ⟨b,o,none⟩=some v/\v.oneCell'=true/\Rep M [] v x
 len:ob.length=obs.length
 obj:∀ (k:Nat) c,obs[k]? =some c->∃ hs,ob[k]? =some hs/\gZ M ob w hs c
 lt:∀ k b,aH ob obs k b->b<w.heap.size
 inj:∀ k k' b,aH ob obs k b->aH ob obs k' b->k=k'
structure Ext (M:Imm) (ob:Hs) (obs:List AObj) (w:World) (M':Imm) (ob':Hs) (obs':List AObj) (w':World):Prop where
 imm:∀ b o x,M b o x->M' b o x
 new:∀ b o x,M' b o x->M b o x\/w.heap.size<=b\/∃ k,aH ob obs k b
 hs:dL ob ob'
 os:w'.os=w.os
 tape:w'.tape=w.tape
 output:w'.output=w.output
 size:w.heap.size<=w'.heap.size
 keep:∀ b,b<w.heap.size->(∀ k,¬ aH ob obs k b)->w'.heap[b]? =w.heap[b]?
 fresh:∀ k b,aH ob' obs' k b->(∃ k',aH ob obs k' b)\/w.heap.size<=b
theorem Ext.refl (M:Imm) (ob:Hs) (obs:List AObj) (w:World):Ext M ob obs w M ob obs w where
 imm _ _ _ h:=h
 new _ _ _ h:=.inl h
 hs:=dL.refl _
 os:=rfl
 tape:=rfl
 output:=rfl
 size:=Bg _
 keep _ _ _:=rfl
 fresh k _ h:=.inl ⟨k,h⟩
theorem Ext.trans {M M1 M2:Imm} {ob ob1 ob2:Hs} {obs obs1 obs2:List AObj} {w w1 w2:World} (h:Ext M ob obs w M1 ob1 obs1 w1) (k:Ext M1 ob1 obs1 w1 M2 ob2 obs2 w2):
  Ext M ob obs w M2 ob2 obs2 w2 where
 imm b o x hx:=k.imm _ _ _ (h.imm _ _ _ hx)
 new b o x hx:=by
  rcases k.new b o x hx with h1 | h1 | ⟨i,hi⟩
  .exact h.new b o x h1
  .exact .inr (.inl (Cs h.size h1))
  .rcases h.fresh i b hi with h2 | h2
   .exact .inr (.inr h2)
   .exact .inr (.inl h2)
 hs:=h.hs.trans k.hs
 os:=k.os.trans h.os
 tape:=k.tape.trans h.tape
 output:=k.output.trans h.output
 size:=Cs h.size k.size
 keep b hb ho:=by
  rw [<-h.keep b hb ho]
  refine k.keep b (Dp hb h.size) fun i hi=>?_
  rcases h.fresh i b hi with ⟨j,hj⟩ | h2
  .exact ho j hj
  .omega
 fresh i b hi:=by
  rcases k.fresh i b hi with ⟨j,hj⟩ | h1
  .exact h.fresh j b hj
  .exact .inr (Cs h.size h1)
def cJ (ob:Hs) (obs:List AObj) (ob':Hs) (obs':List AObj):Prop:=∀ (k:Nat) hs,obs[k]? =some .dead->ob[k]? =some hs->
 (hs≠[]->obs'[k]? =some .dead/\ob'[k]? =some hs)/\(hs=[]->obs'[k]? =some .dead->ob'[k]? =some [])
theorem cJ.refl (ob:Hs) (obs:List AObj):cJ ob obs ob obs:=fun _ _ h1 a=>⟨fun _=>⟨h1,a⟩,fun e _=>e▸a⟩
theorem Ext.below {M M':Imm} {ob':Hs} {obs':List AObj} {w w':World} (h:Ext M [] [] w M' ob' obs' w'):Below w.heap.size w w':=
 ⟨h.os,h.tape,h.output,h.size,fun b a=>h.keep b a fun k ⟨c,hs,h1,_⟩=>by simp at h1⟩
theorem eY {w:World} {b:Nat} {x:Obj} (a:w.heap[b]? =some x):b<w.heap.size:=(Dt.1 a).1
theorem dD.mono {M M':Imm} {w w':World} {v:Value} {sz:Nat} {e:TypeId} {xs:List AVal} (h:dD M w v sz e xs) (C:∀ b o x,M b o x->M' b o x)
  (z:∀ b,v.ownBlock=some b->(∀ o,NoM M b o)->∀ o,NoM M' b o) (m:∀ b c,v.ownBlock=some b->w.heap[b]? =some c->w'.heap[b]? =some c):dD M' w' v sz e xs:=by
 obtain ⟨cv,⟨h1,j⟩,h3,A,y,B,p⟩:=h
 refine ⟨cv,⟨h1,?_⟩,h3,A,fun q c k=>?_,fun b e=>z b e (B b e),fun b e d T D k=>?_⟩
 .rcases j with j | ⟨g,f,d,a,s,i,r⟩
  .exact .inl j
  .exact .inr ⟨g,f,d,a,s,m g _ (by rw [a];rfl) i,r⟩
 .obtain ⟨u,n,t⟩:=y q c k
  exact ⟨u,n,t.monoM C⟩
 .rcases j with ⟨rfl,_⟩ | ⟨g,f,l,a,_,i,_⟩
  .cases e
  .rw [a] at e
   cases e
   have:=m g _ (by rw [a];rfl) i
   rw [k] at this
   cases this
   exact p g (by rw [a];rfl) _ _ _ i
theorem gZ.mono {M M':Imm} {ob ob':Hs} {w w':World} {hs:List Value} {x:AObj} (h:gZ M ob w hs x) (s:∀ b o x,M b o x->M' b o x) (C:dL ob ob')
  (t:∀ b,x.owns=true->b∈blk hs->∀ o,NoM M b o->NoM M' b o) (q:∀ b c,x.owns=true->b∈blk hs->w.heap[b]? =some c->w'.heap[b]? =some c):gZ M' ob' w' hs x:=by
 have f:∀ {g:Nat} {v:Value},hs.length=g+1->hs[g]? =some v->blk hs=HG v:=fun {g v} hl z=>by
  unfold blk
  rw [Kt,hl,Ii,z]
 have u:∀ {v:Value} {b:Nat},v.ownBlock=some b->b∈HG v:=fun {v b} h=>by
  unfold Gg at h
  split at h
  .cases h;simp [HG]
  .cases h
 have k:∀ {v:Value} {b:Nat},blk hs=HG v->v.ownBlock=some b->b∈blk hs:=fun {v b} h1 d=>by rw [h1];exact u d
 cases x with
 | dead=>trivial
 | cells T cs=>
  obtain ⟨b,rfl,h1,cv,d,h3,m,p⟩:=h
  exact ⟨b,rfl,fun o=>t b rfl (dI.2 rfl) o (h1 o),cv,q b _ rfl (dI.2 rfl) d,h3,m,fun i v a z Q=>(p i v a z Q).mono s C⟩
 | fcells cs=>
  obtain ⟨b,rfl,h1⟩:=h
  exact ⟨b,rfl,fun j c N=>s _ _ _ (h1 j c N)⟩
 | row g sz e xs=>
  obtain ⟨h1,v,d,h3⟩:=h
  exact ⟨h1,v,d,h3.mono s (fun b e F o=>t b rfl (k (f h1 d) e) o (F o)) (fun b c e=>q b c rfl (k (f h1 d) e))⟩
 | frow g sz xs=>
  obtain ⟨v,h1,d⟩:=h
  exact ⟨v,h1,d.monoM s⟩
 | tail g sz e=>
  obtain ⟨h1,v,d,n,cv,⟨h3,m⟩,p⟩:=h
  refine ⟨h1,v,d,n,cv,⟨h3,?_⟩,fun b e o C=>t b rfl (k (f h1 d) e) o (p b e o C)⟩
  rcases m with m | ⟨J,G,B,H,L,O,r⟩
  .exact .inl m
  .exact .inr ⟨J,G,B,H,L,q J _ rfl (k (f h1 d) (by rw [H];rfl)) O,r⟩
 | mp S es=>
  obtain ⟨b,rfl,h1,K,R,d,h3,m,p⟩:=h
  exact ⟨b,rfl,fun o=>t b rfl (dI.2 rfl) o (h1 o),K,R,q b _ rfl (dI.2 rfl) d,h3,fun i x y A D=>⟨(m i x y A D).1,(m i x y A D).2.1,(m i x y A D).2.2.monoM s⟩,p⟩
 | bun g I=>
  obtain ⟨h1,bs,d,h3,m⟩:=h
  have e:blk hs=bs:=by rw [<-HF (hs:=[gH bs]) rfl];exact f h1 d
  refine ⟨h1,bs,d,fun b l=>?_,I.mono s (fun b l=>t b rfl (by rw [e];exact l)) (fun b c l=>q b c rfl (by rw [e];exact l)) m⟩
  obtain ⟨o,p,P⟩:=h3 b l
  exact ⟨o,q b _ rfl (by rw [e];exact l) p,P⟩
theorem Mem.same {M:Imm} {ob:Hs} {obs:List AObj} {w w':World} (h:Mem M ob obs w) (hs:w.heap.size<=w'.heap.size)
  (i:∀ b,b<w.heap.size->w'.heap[b]? =w.heap[b]?):Mem M ob obs w':=by
 refine ⟨fun b o x l=>?_,h.len,fun k c d=>?_,fun k b e=>Dp (h.lt k b e) hs,h.inj⟩
 .obtain ⟨v,j,m⟩:=h.imm b o x l
  exact ⟨v,(Co (w:=w) (a:=⟨b,o,none⟩) (i b (Cr w _ j))).trans j,m⟩
 .obtain ⟨hs',f,g⟩:=h.obj k c d
  exact ⟨hs',f,g.mono (fun _ _ _ h=>h) (dL.refl _) (fun _ _ _ _ h=>h) (fun b c _ _ d=>(i b (eY d)).trans d)⟩
theorem Mem.noImm {M:Imm} {ob:Hs} {obs:List AObj} {w:World} (h:Mem M ob obs w) {b:Nat} (d:w.heap.size<=b) (o:Nat):NoM M b o:=by
 intro x c
 obtain ⟨v,a,_⟩:=h.imm b o x c
 have:=Cr w _ a
 simp at this
 omega
inductive TK where
 | int (k:IntKind) | bool | str | strct (fs:List (Nat×Nat×Bool)) | arr (n esz:Nat) (eagg:Bool) | slc (e esz ebytes:Nat) | ptr (e:Nat) | iface | mp (k e:Nat) | other
structure TI where
 kind:TK
 size:Nat
 agg:Bool
 zero:AVal
abbrev Tab:=List (Nat×TI)
def cR:Tab->Nat->Option TI
 | [],_=>none
 | (i,x)::r,n=>bif Ap i n then some x else cR r n
abbrev aA5:=List (Nat×String×Nat)
def Y2:aA5->Nat->String->Option Nat
 | [],_,_=>none
 | (i,s,f)::r,n,m=>bif (Ap i n&&s==m) then some f else Y2 r n m
structure Env where
 P:Program
 T:Tab
 mt:aA5
 fl:List (Nat×Nat)
 own:List Nat
 rws:List Nat
 bl:List Nat
 df:List (Nat×List AVal)
 rd:Option Nat:=none
def qU (n:Nat):List Nat->Bool
 | []=>false
 | x::r=>Ap x n||qU n r
def aZ:List (Nat×AVal)->Nat->AVal
 | [],_=>.undef
 | (i,v)::r,n=>bif Ap i n then v else aZ r n
def eZ:List (Nat×AVal)->Nat->AVal->List (Nat×AVal)
 | [],n,x=>[(n,x)]
 | (i,v)::r,n,x=>bif Ap i n then (n,x)::r else (i,v)::eZ r n x
def aE:List AObj->Nat->AObj
 | [],_=>.dead
 | x::_,0=>x
 | _::r,n+1=>aE r n
def bL:List AObj->Nat->AObj->List AObj
 | [],0,y=>[y]
 | [],n+1,y=>.dead::bL [] n y
 | _::r,0,y=>y::r
 | x::r,n+1,y=>x::bL r n y
def aO:List AObj->Nat
 | []=>0
 | _::r=>aO r+1
def jC:Nat->List AVal->List AVal
 | 0,l=>l
 | _+1,[]=>[]
 | n+1,_::l=>jC n l
def kG:Nat->List AVal->Option (List AVal)
 | 0,_=>some []
 | _+1,[]=>none
 | n+1,c::l=>match kG n l with | some r=>some (c::r) | none=>none
def N9:List AVal->List AVal->Option (List AVal)
 | [],l=>some l
 | _::_,[]=>none
 | c::r,_::l=>match N9 r l with | some x=>some (c::x) | none=>none
def lL:Nat->List AVal->List AVal->Option (List AVal)
 | 0,new,l=>N9 new l
 | _+1,_,[]=>none
 | n+1,new,c::l=>match lL n new l with | some x=>some (c::x) | none=>none
def K4:List AVal->Nat
 | []=>0
 | _::r=>K4 r+1
def nth {α:Type}:List α->Nat->Option α
 | [],_=>none
 | x::_,0=>some x
 | _::r,n+1=>nth r n
def UZ:List AVal->List AVal->List AVal
 | [],l=>l
 | c::r,l=>c::UZ r l
def dK (f:AVal->AVal):List AVal->List AVal
 | []=>[]
 | c::r=>f c::dK f r
def aEv:IntKind->Nat
 | .i8=>127 | .i16=>32767 | .i32=>2147483647 | .i64=>9223372036854775807
 | .u8=>255 | .u16=>65535 | .u32=>4294967295 | .u64=>18446744073709551615
def ZD:IntKind->Nat
 | .i8=>128 | .i16=>32768 | .i32=>2147483648 | .i64=>9223372036854775808 | _=>0
def aCV (k:IntKind):Int->Bool
 | .ofNat m=>Ew m (aEv k)
 | .negSucc m=>Dy m (ZD k)
def Y7:List UInt8->Nat
 | []=>0
 | _::r=>Y7 r+1
def aDO:Value->AVal
 | .bool b=>.bool b
 | .int k n=>bif aCV k n then .int k n else .undef
 | .string s=>bif Ew (Y7 s.data.toList) 1000000 then .str s.data.toList else .undef
 | .slice none 0 0=>.nilslice
 | .pointer none=>.nilptr
 | .map none=>.nilmap
 | .nilFunc=>.nilfunc
 | .nilIface=>.nilif
 | _=>.undef
def ev (fr:List (Nat×AVal)):Operand->AVal
 | .tmp t=>aZ fr t
 | .const v=>aDO v
 | .func f=>.func (.func f) [] []
 | .global _=>.undef
def one:AVal->Bool
 | .undef | .agg _ | .tup _=>false
 | _=>true
def mY:List AVal->Bool
 | []=>true
 | c::r=>one c&&mY r
def AG:AVal->Bool
 | .undef=>false
 | _=>true
def pureV (og:Nat->AObj):Nat->AVal->AVal
 | 0,_=>.undef
 | n+1,v=>match v with
  | .slice sz xs _=>.slice sz xs .no
  | .agg cs=>.agg (dK (pureV og n) cs)
  | .tup cs=>.tup (dK (pureV og n) cs)
  | .func fn a cs=>.func fn (dK (pureV og n) a) (dK (pureV og n) cs)
  | .iface t v=>.iface t (pureV og n v)
  | .ref k off=>(match og k with | .fcells cs=>.ptr (jC off cs) | _=>.undef)
  | .csl k off len sz=>(match og k with | .fcells cs=>bif Ap sz 1 then (match kG len (jC off cs) with | some l=>bif mY l then .slice 1 l .full else .undef | none=>.undef) else .undef | _=>.undef)
  | .row k g=>(match og k with | .frow g' sz xs=>bif Ap g g' then .slice sz xs .no else .undef | _=>.undef)
  | .sub k g lo len sz=>(match og k with | .frow g' sz' xs=>bif Ap g g'&&Ap sz sz' then .slice sz ((xs.drop lo).take len) .no else .undef | _=>.undef)
  | .eref _ _ _ _ _=>.undef
  | .rowc _ _ _=>.undef
  | .pre _ _ _ _ _=>.undef
  | .mref _=>.undef
  | v=>v
def foldO (f:List AObj->AVal->List AObj):List AObj->List AVal->List AObj
 | obs,[]=>obs
 | obs,c::r=>foldO f (f obs c) r
def frz1 (obs:List AObj) (k:Nat):List AObj:=match aE obs k with
 | .cells _ cs=>bL obs k (.fcells (dK (pureV (aE obs) 4) cs))
 | _=>obs
def frzR (obs:List AObj) (k g:Nat):List AObj:=match aE obs k with
 | .row a sz _ xs=>bif Ap g a then bL obs k (.frow g sz xs) else obs
 | _=>obs
def frzV:Nat->List AObj->AVal->List AObj
 | 0,obs,_=>obs
 | n+1,obs,v=>match v with
  | .agg cs=>foldO (frzV n) obs cs
  | .tup cs=>foldO (frzV n) obs cs
  | .func _ a cs=>foldO (frzV n) (foldO (frzV n) obs a) cs
  | .iface _ v=>frzV n obs v
  | .ref k _=>(match aE obs k with | .cells _ cs=>frz1 (foldO (frzV n) obs cs) k | _=>obs)
  | .csl k _ _ _=>(match aE obs k with | .cells _ cs=>frz1 (foldO (frzV n) obs cs) k | _=>obs)
  | .row k g=>frzR obs k g
  | .sub k g _ _ _=>frzR obs k g
  | _=>obs
def frzL (obs:List AObj) (l:List AVal):List AObj:=foldO (frzV 6) obs l
def frzs:List Nat->List AObj->List AObj
 | [],obs=>obs
 | k::r,obs=>frzs r (match aE obs k with
  | .row g _ _ _=>frzR obs k g
  | .cells _ _=>frzV 6 obs (.ref k 0)
  | _=>obs)
inductive OR where
 | no
 | val (v:AVal)
 | mkf (fn:Fn) (fs cs:List AVal)
 | need (p:Prop) (r:OR)
 | alt (p:Prop) (v w:AVal)
 | idx (n:Int) (k:Nat->OR)
 | elem (xs:List AVal) (i:Nat) (k:AVal->OR)
 | byte (l:List UInt8) (i:Nat)
 | text (xs:List AVal)
 | find (es:List (List Int×AVal)) (key:List Int) (k:Option AVal->OR)
 | born (x:AObj) (v:AVal)
 | upd (k:Nat) (x:AObj) (v:AVal)
 | nilq (xs:List AVal) (neg:Bool)
 | call (f:Fn) (args:List AVal)
 | pan (v:AVal)
def OR.bind:OR->(AVal->OR)->OR
 | .val v,k=>k v
 | .need p r,k=>.need p (r.bind k)
 | .elem xs i f,k=>.elem xs i fun x=>(f x).bind k
 | .idx n f,k=>.idx n fun i=>(f i).bind k
 | _,_=>.no
def fQ:BinOp->IntKind->Int->Int->Int
 | op,k,x,y=>
  let a:=BitVec.ofInt k.bits x
  let b:=BitVec.ofInt k.bits y
  match op with
  | .and=>k.wrap (a &&& b).toNat
  | .or=>k.wrap (a ||| b).toNat
  | .xor=>k.wrap (a ^^^ b).toNat
  | _=>k.wrap (a &&& ~~~b).toNat
def BV (k:IntKind) (n:Int):OR:=.alt (inR k n) (.int k n) (.int k (k.wrap n))
def ZG:IntKind->IntKind->Bool
 | .i8,.i8 | .i16,.i16 | .i32,.i32 | .i64,.i64 | .u8,.u8 | .u16,.u16 | .u32,.u32 | .u64,.u64=>true
 | _,_=>false
def aHN (op:BinOp) (k:IntKind) (x y:Int):OR:=
 match op with
 | .add=>BV k (x+y)
 | .sub=>BV k (x-y)
 | .mul=>BV k (x*y)
 | .quo=>.need (y≠0) (.alt (inR k (x.tdiv y)) (.int k (x.tdiv y)) (.int k (k.wrap (x.tdiv y))))
 | .rem=>.need (y≠0) (.val (.int k (x.tmod y)))
 | .and=>.val (.int k (fQ .and k x y))
 | .or=>.val (.int k (fQ .or k x y))
 | .xor=>.val (.int k (fQ .xor k x y))
 | .andNot=>.val (.int k (fQ .andNot k x y))
 | .eql=>.val (.bool (x==y))
 | .neq=>.val (.bool (x !=y))
 | .lss=>.val (.bool (decide (x<y)))
 | .leq=>.val (.bool (decide (x<=y)))
 | .gtr=>.val (.bool (decide (y<x)))
 | .geq=>.val (.bool (decide (y<=x)))
 | _=>.no
def ceq:List AVal->List AVal->Option Bool
 | [],[]=>some true
 | .int k a::r,.int k' b::s=>bif ZG k k' then (match ceq r s with | some c=>some ((a==b)&&c) | none=>none) else none
 | _,_=>none
def xB:List (Nat×Nat)->Nat->Nat
 | [],_=>0
 | (i,n)::r,t=>bif Ap i t then n else xB r t
def uJ (op:BinOp) (c:Bool):OR:=
 match op with
 | .eql=>.val (.bool c)
 | .neq=>.val (.bool (!c))
 | _=>.no
def aFD (op:BinOp) (xs:List AVal):OR:=
 match op with
 | .eql=>.nilq xs false
 | .neq=>.nilq xs true
 | _=>.no
def isC:Operand->Bool
 | .const _=>true
 | _=>false
def aGu (E:Env) (og:Nat->AObj) (d:Bool) (op:BinOp) (t:Nat) (a b:AVal):OR:=
 match a,b with
 | .int k x,.int k' y=>
  (match op with
  | .shl=>.need (0<=y) (.alt (y.toNat<=k.bits/\inR k (x*2 ^ y.toNat)) (.int k (x*2 ^ y.toNat)) (.int k (k.wrap (x*2 ^ (min y.toNat k.bits)))))
  | .shr=>.need (0<=y/\y.toNat<=k.bits) (.val (.int k (x.fdiv (2 ^ y.toNat))))
  | op=>bif ZG k k' then aHN op k x y else .no)
 | .str x,.str y=>
  (match op with
  | .add=>.need (((x.length+y.length:Nat):Int)<=9223372036854775807) (.val (.str (x++y)))
  | .eql=>.val (.bool (x==y))
  | .neq=>.val (.bool (!(x==y)))
  | .lss=>.val (.bool (Op.bytesLess x y))
  | .leq=>.val (.bool (Op.bytesLess x y||x==y))
  | .gtr=>.val (.bool (!(Op.bytesLess x y||x==y)))
  | .geq=>.val (.bool (!Op.bytesLess x y))
  | _=>.no)
 | .agg xs,.agg ys=>
  bif Dy 0 (xB E.fl t)&&Ap (K4 xs) (xB E.fl t) then
   (match op,ceq xs ys with
   | .eql,some c=>.val (.bool c)
   | .neq,some c=>.val (.bool (!c))
   | _,_=>.no)
  else .no
 | a,b=>match cR E.T t with
  | none=>.no
  | some f=>match f.kind,a,b with
   | .bool,.bool x,.bool y=>uJ op (x==y)
   | .slc _ _ _,.slice _ _ .nil,.nilslice=>uJ op true
   | .slc _ _ _,.nilslice,.nilslice=>uJ op true
   | .slc _ _ _,.slice _ xs _,.nilslice=>aFD op xs
   | .ptr _,.nilptr,.nilptr=>uJ op true
   | .ptr _,.ref _ _,.nilptr=>uJ op false
   | .ptr _,.ptr _,.nilptr=>uJ op false
   | .ptr e,.ref k o,.ref k' o'=>(match cR E.T e with
    | some _=>bif Ap k k'&&Ap o o' then uJ op true else .no
    | none=>.no)
   | .iface,.nilif,.nilif=>bif d then uJ op true else .no
   | .iface,.iface _ _,.nilif=>uJ op false
   | _,_,_=>.no
def mk (a:TI) (l:List AVal):Option AVal:=
 bif a.agg then some (.agg l) else match l with
  | [c]=>some c
  | _=>none
def fin (a:TI) (l:Option (List AVal)):OR:=
 match l with
 | none=>.no
 | some l=>match mk a l with
  | none=>.no
  | some v=>.val v
def aAt (E:Env) (og:Nat->AObj) (t:Nat) (a:AVal):OR:=
 match cR E.T t with
 | none=>.no
 | some b=>match a with
  | .ptr cs=>fin b (kG b.size cs)
  | .ref k off=>(match og k with
   | .cells _ cs=>fin b (kG b.size (jC off cs))
   | .fcells cs=>fin b (kG b.size (jC off cs))
   | _=>.no)
  | .eref k g i sz off=>(match og k with
   | .row d c _ xs=>bif Ap g d&&Ap sz c then .elem xs i fun x=>fin b (kG b.size (jC off x.cells)) else .no
   | _=>.no)
  | _=>.no
def aEq:List AVal->AVal
 | [c]=>c
 | _=>.undef
def aFs (x:AVal) (cs:List AVal):AVal:=
 match x with
 | .agg _=>.agg cs
 | _=>aEq cs
def NS (E:Env) (og:Nat->AObj) (t:Nat) (a v:AVal):OR:=
 match cR E.T t with
 | none=>.no
 | some c=>
  bif mY v.cells&&Ap (K4 v.cells) c.size then
   match a with
   | .ref k off=>(match og k with
    | .cells T cs=>(match lL off v.cells cs with
     | some cs=>.upd k (.cells T cs) .undef
     | none=>.no)
    | _=>.no)
   | .eref k g i sz off=>(match og k with
    | .row d b e xs=>
     bif ((Ap g d&&Ap sz b)&&Ew 1 sz)&&mY (pureV og 4 v).cells then
            (bif Ap off 0&&Ap c.size sz then .need (i<xs.length) (.upd k (.row g sz e (xs.set i (pureV og 4 v))) .undef)
            else .elem xs i fun x=>match lL off (pureV og 4 v).cells x.cells with
             | some cs=>.upd k (.row g sz e (xs.set i (aFs x cs))) .undef
             | none=>.no)
     else .no
    | _=>.no)
   | _=>.no
  else .no
def N1 (E:Env) (s:Nat) (a:AVal) (f:Nat):OR:=
 match cR E.T s with
 | some {kind:=.strct fs,..}=>(match nth fs f with
  | none=>.no
  | some (off,sz,ag)=>match a with
   | .agg cs=>(match kG sz (jC off cs) with
    | none=>.no
    | some l=>bif ag then .val (.agg l) else match l with
     | [c]=>.val c
     | _=>.no)
   | _=>.no)
 | _=>.no
def sB (E:Env) (s:Nat) (a:AVal) (f:Nat):OR:=
 match cR E.T s with
 | some {kind:=.strct fs,..}=>(match nth fs f with
  | none=>.no
  | some (off,sz,_)=>
   bif Ap sz 0 then .no else
   match a with
   | .ptr cs=>.val (.ptr (jC off cs))
   | .ref k x=>.val (.ref k (x+off))
   | .eref k g i z x=>.val (.eref k g i z (x+off))
   | _=>.no)
 | _=>.no
def sA (E:Env) (og:Nat->AObj) (t:Nat) (a i:AVal):OR:=
 match cR E.T t,i with
 | some ti,.int _ n=>(match ti.kind with
  | .slc _ b _=>(match a with
   | .slice sz xs _=>bif Ap sz b then .idx n fun i=>.elem xs i fun x=>.val (.ptr x.cells) else .no
   | .row k g=>(match og k with
    | .row c sz _ xs=>bif Ap g c&&Ap sz b then .idx n fun i=>.need (i<xs.length) (.val (.eref k g i sz 0)) else .no
    | .frow c sz xs=>bif Ap g c&&Ap sz b then .idx n fun i=>.elem xs i fun x=>.val (.ptr x.cells) else .no
    | _=>.no)
   | .sub k g lo len sz=>(match og k with
    | .row c d _ _=>bif (Ap g c&&Ap sz d)&&Ap sz b then .idx n fun i=>.need (i<len) (.val (.eref k g (lo+i) sz 0)) else .no
    | _=>.no)
   | _=>.no)
  | .arr len b _=>(match a with
   | .ref k off=>.need (0<=n/\n.toNat<len) (.val (.ref k (off+n.toNat*b)))
   | .ptr cs=>.need (0<=n/\n.toNat<len) (.val (.ptr (jC (n.toNat*b) cs)))
   | _=>.no)
  | _=>.no)
 | _,_=>.no
def N0 (E:Env) (t:Nat) (a i:AVal):OR:=
 match a,i with
 | .str l,.int _ n=>(match cR E.T t with
  | some {kind:=.str,..}=>.idx n fun i=>.byte l i
  | _=>.no)
 | .agg cs,.int _ n=>(match cR E.T t with
  | some {kind:=.arr len esz ag,..}=>(match kG esz (jC (n.toNat*esz) cs) with
   | some l=>bif ag then .need (0<=n/\n<len) (.val (.agg l)) else (match l with | [c]=>.need (0<=n/\n<len) (.val c) | _=>.no)
   | none=>.no)
  | _=>.no)
 | _,_=>.no
def BR (place:Nat->Option (Nat×Nat)):List AVal->List (Nat×AVal)->Option (List AVal)
 | cs,[]=>some cs
 | cs,(i,v)::r=>match place i with
  | none=>none
  | some (off,sz)=>bif AG v&&Ap (K4 v.cells) sz then (match lL off v.cells cs with | some cs=>BR place cs r | none=>none) else none
def N3 (E:Env) (t:Nat) (a:List (Nat×AVal)):OR:=
 match cR E.T t with
 | some b=>(match b.kind,b.zero with
  | .strct fs,.agg z=>(match BR (fun i=>(nth fs i).map fun f=>(f.1,f.2.1)) z a with
   | some cs=>.val (.agg cs)
   | none=>.no)
  | .arr _ esz _,.agg z=>(match BR (fun i=>some (i*esz,esz)) z a with
   | some cs=>.val (.agg cs)
   | none=>.no)
  | _,_=>.no)
 | _=>.no
def nN (hint base sz:Nat) (e:TypeId) (xs:List AVal):OR:=
 match hint with
 | 2=>.born (.row 0 sz e xs) (.row base 0)
 | _=>.born (.tail 0 sz e) (.slice sz xs (.own base 0))
def BS (og:Nat->AObj) (a:Nat):Nat->List (Nat×AVal)->Option (List AVal)
 | _,[]=>some []
 | n,(i,v)::r=>(fun v=>bif Ap i n&&Ap (K4 v.cells) a&&mY v.cells then (match BS og a (n+1) r with | some l=>some (v::l) | none=>none) else none) (pureV og 4 v)
def X6:List (Nat×AVal)->Nat
 | []=>0
 | _::r=>X6 r+1
def kZ (E:Env) (hint base:Nat) (og:Nat->AObj) (t len:Nat) (a:List (Nat×AVal)):OR:=
 match cR E.T t with
 | some {kind:=.slc e esz _,..}=>
  bif Ap (X6 a) len&&Ew (len*esz) 1000&&Ew 1 esz then
   match BS og esz 0 a with
   | some xs=>(match hint with | 0=>.val (.slice esz xs .full) | h=>nN h base esz e xs)
   | none=>.no
  else .no
 | _=>.no
def evL (ρ:Operand->AVal):List (Nat×Operand)->List (Nat×AVal)
 | []=>[]
 | (i,x)::r=>(i,ρ x)::evL ρ r
def evO (ρ:Operand->AVal):List Operand->List AVal
 | []=>[]
 | x::r=>ρ x::evO ρ r
def bnd:Option AVal->(Option Nat->OR)->OR
 | none,k=>k none
 | some (.int _ n),k=>.idx n fun i=>k (some i)
 | some _,_=>.no
def NT (E:Env) (og:Nat->AObj) (t:Nat) (a:AVal) (lo c d:Option AVal):OR:=
 match cR E.T t with
 | none=>.no
 | some e=>match a with
  | .str l=>(match e.kind,d with
   | .str,none=>bnd lo fun lo=>bnd c fun c=>match lo,c with
    | none,none=>.val (.str l)
    | some x,none=>.need (x<=l.length) (.val (.str (l.drop x)))
    | none,some y=>.need (y<=l.length) (.val (.str (l.take y)))
    | some x,some y=>.need (x<=y/\y<=l.length) (.val (.str ((l.take y).drop x)))
   | _,_=>.no)
  | .slice sz xs _=>(match e.kind with
   | .slc _ b _=>bif Ap sz b then
     (bnd lo fun lo=>bnd c fun c=>bnd d fun d=>match d with
     | none=>(match lo,c with
            | none,none=>.val (.slice sz xs .no)
            | some x,none=>.need (x<=xs.length) (.val (.slice sz (xs.drop x) .no))
            | none,some y=>.need (y<=xs.length) (.val (.slice sz (xs.take y) .no))
            | some x,some y=>.need (x<=y/\y<=xs.length) (.val (.slice sz ((xs.take y).drop x) .no)))
     | some m=>(match lo,c with
            | none,some y=>.need (y<=xs.length/\m=y) (.val (.slice sz (xs.take y) .full))
            | _,_=>.no))
    else .no
   | _=>.no)
  | .row k g=>(match e.kind,d,og k with
   | .slc _ b _,none,.row g' sz _ xs=>bif Ap g g'&&Ap sz b then
     (bnd lo fun lo=>bnd c fun c=>match lo,c with
     | none,none=>.val (.row k g)
     | some x,none=>.need (x<=xs.length) (.val (.sub k g x (xs.length-x) sz))
     | none,some y=>.need (y<=xs.length) (.val (.sub k g 0 y sz))
     | some x,some y=>.need (x<=y/\y<=xs.length) (.val (.sub k g x (y-x) sz)))
    else .no
   | _,_,_=>.no)
  | .sub k g f len sz=>(match e.kind,d,og k with
   | .slc _ b _,none,.row g' sz' _ xs=>bif (Ap g g'&&Ap sz sz')&&Ap sz b then
     (bnd lo fun lo=>bnd c fun c=>match lo,c with
     | none,none=>.val (.sub k g f len sz)
     | some x,none=>.need (x<=len) (.val (.sub k g (f+x) (len-x) sz))
     | none,some y=>.need (f+y<=xs.length) (.val (.sub k g f y sz))
     | some x,some y=>.need (x<=y/\f+y<=xs.length) (.val (.sub k g (f+x) (y-x) sz)))
    else .no
   | _,_,_=>.no)
  | .ref k off=>(match e.kind,lo,c,d with
   | .arr len b _,none,none,none=>.need ((len:Int)<=9223372036854775807) (.val (.csl k off len b))
   | _,_,_,_=>.no)
  | .ptr cs=>(match e.kind,lo,c,d with
   | .arr len 1 false,none,none,none=>(match kG len cs with
    | some l=>bif mY l then .need ((len:Int)<=9223372036854775807) (.val (.slice 1 l .full)) else .no
    | none=>.no)
   | _,_,_,_=>.no)
  | _=>.no
def ub (c:UInt8):AVal:=.int .u8 c.toNat
def aBz (og:Nat->AObj):AVal->Option (Nat×List AVal)
 | .slice sz xs _=>some (sz,xs)
 | .row k g=>(match og k with
  | .row a sz _ xs=>bif Ap g a then some (sz,xs) else none
  | .frow a sz xs=>bif Ap g a then some (sz,xs) else none
  | _=>none)
 | .sub k g lo len sz=>(match og k with
  | .row a b _ xs=>bif Ap g a&&Ap sz b then some (sz,(xs.drop lo).take len) else none
  | _=>none)
 | _=>none
def VY (E:Env) (og:Nat->AObj) (a b:Nat) (x:AVal):Option (List AVal):=
 match x with
 | .str l=>(match cR E.T b with | some {kind:=.str,..}=>bif Ap a 1 then some (l.map ub) else none | _=>none)
 | .nilslice=>(match cR E.T b with | some {kind:=.slc _ _ _,..}=>some [] | _=>none)
 | x=>match cR E.T b,aBz og x with
  | some {kind:=.slc _ _ _,..},some (sz,xs)=>bif Ap sz a then some xs else none
  | _,_=>none
def aAy (E:Env) (og:Nat->AObj) (s d:Nat) (a:AVal):OR:=
 match cR E.T s,cR E.T d with
 | some ts,some td=>(match td.kind,a with
  | .int k,.int _ n=>.alt (inR k n) (.int k n) (.int k (k.wrap n))
  | .str,.str l=>(match ts.kind with | .str=>.val (.str l) | _=>.no)
  | .slc e 1 _,.str l=>(match ts.kind,cR E.T e with
   | .str,some {kind:=.int .u8,..}=>.val (.slice 1 (l.map ub) .no)
   | _,_=>.no)
  | .str,a=>(match ts.kind,aBz og a with
   | .slc e 1 _,some (1,xs)=>(match cR E.T e with
    | some {kind:=.int .u8,..}=>.text xs
    | _=>.no)
   | _,_=>.no)
  | _,_=>.no)
 | _,_=>.no
def aGp (E:Env) (og:Nat->AObj) (t:Nat) (a:AVal):OR:=
 match cR E.T t with
 | none=>.no
 | some c=>match c.kind,a with
  | .str,.str l=>.val (.int .i64 l.length)
  | .slc _ _ _,.slice _ xs _=>.val (.int .i64 xs.length)
  | .slc _ _ _,.nilslice=>.val (.int .i64 0)
  | .slc _ _ _,.csl _ _ len _=>.val (.int .i64 len)
  | .slc _ _ _,.hsl _ n _=>.need ((n:Int)<=9223372036854775807) (.val (.int .i64 n))
  | .slc _ _ _,.row k g=>(match og k with
   | .row b _ _ xs=>bif Ap g b then .val (.int .i64 xs.length) else .no
   | .frow b _ xs=>bif Ap g b then .val (.int .i64 xs.length) else .no
   | _=>.no)
  | .slc _ _ _,.sub _ _ _ len _=>.val (.int .i64 len)
  | .arr n _ _,_=>.need ((n:Int)<=9223372036854775807) (.val (.int .i64 n))
  | _,_=>.no
def BE (n a:Nat):Prop:=n<=maxLen/\n*a<=140737488355328
def qP (E:Env) (hint base:Nat) (og:Nat->AObj) (t f:Nat) (s x:AVal):OR:=
 match cR E.T t with
 | some {kind:=.slc e esz eb,..}=>
  bif Ew 1 esz then
   match VY E og esz f x with
   | none=>.no
   | some ys=>(match s with
    | .slice sz xs d=>(match d with
     | .own k g=>(match og k with
      | .tail b a c=>bif ((Ap g b&&Ap sz a)&&Ap sz esz)&&Ap e c then .need (BE (xs.length+ys.length) eb) (.upd k (.tail (g+1) esz e) (.slice esz (xs++ys) (.own k (g+1)))) else .no
      | _=>.no)
     | .nil=>bif Ap sz esz then .need (BE ys.length eb) (nN hint base esz e ys) else .no
     | .full=>bif Ap sz esz then .need (BE (xs.length+ys.length) eb) (match hint with | 0=>.val (.slice esz (xs++ys) .no) | h=>.need (ys≠[]) (nN h base esz e (xs++ys))) else .no
     | .no=>.no)
    | .nilslice=>.need (BE ys.length eb) (nN hint base esz e ys)
    | .row k g=>(match og k with
     | .row b sz c xs=>bif (Ap g b&&Ap sz esz)&&Ap e c then .need (BE (xs.length+ys.length) eb) (.upd k (.row (g+1) sz e (xs++ys)) (.row k (g+1))) else .no
     | _=>.no)
    | .sub k g lo len sz=>(match og k with
     | .row b a c xs=>bif ((Ap g b&&Ap sz a)&&Ap sz esz)&&Ap e c then
       .need (lo+len+ys.length<=xs.length) (.upd k (.row g sz e (xs.take (lo+len)++ys++xs.drop (lo+len+ys.length))) (.sub k g lo (len+ys.length) sz)) else .no
     | _=>.no)
    | _=>.no)
  else .no
 | _=>.no
def aAx (E:Env) (og:Nat->AObj) (t f:Nat) (d x:AVal):OR:=
 match cR E.T t with
 | some {kind:=.slc e esz _,..}=>
  bif Ew 1 esz then
   match VY E og esz f x with
   | none=>.no
   | some ys=>(match d with
    | .row k g=>(match og k with
     | .row a sz b xs=>bif Ap g a&&Ap sz esz then .upd k (.row g sz b (ys.take xs.length++xs.drop ys.length)) (.int .i64 (min ys.length xs.length:Nat)) else .no
     | _=>.no)
    | .sub k g lo len sz=>(match og k with
     | .row a c b xs=>bif (Ap g a&&Ap sz c)&&Ap sz esz then
       .upd k (.row g sz b (xs.take lo++ys.take len++xs.drop (lo+min ys.length len))) (.int .i64 (min ys.length len:Nat)) else .no
     | _=>.no)
    | _=>.no)
  else .no
 | _=>.no
def N2 (E:Env) (og:Nat->AObj) (t:Nat) (d:AVal):OR:=
 match cR E.T t with
 | some {kind:=.slc e esz _,..}=>(match cR E.T e with
  | some b=>bif Ew 1 esz&&AG (pureV (fun _=>.dead) 4 b.zero) then (match d with
   | .sub k g lo len sz=>(match og k with
    | .row c a f xs=>bif (Ap g c&&Ap sz a)&&Ap sz esz then
            .upd k (.row g sz f (xs.take lo++Ah len (pureV (fun _=>.dead) 4 b.zero)++xs.drop (lo+len))) (.tup []) else .no
    | _=>.no)
   | _=>.no) else .no
  | none=>.no)
 | _=>.no
def RD (E:Env) (hint base:Nat) (t:Nat) (n c:AVal):OR:=
 match cR E.T t,n,c with
 | some {kind:=.slc e esz f,..},.int _ a,.int _ b=>(match cR E.T e with
  | some d=>bif Ew 1 esz&&AG (pureV (fun _=>.dead) 4 d.zero) then
    .idx a fun i=>.need (a=b/\(f:Int)*b<=281474976710656/\i<=maxLen) (.born (.row 0 esz e (Ah i (pureV (fun _=>.dead) 4 d.zero))) (.row base 0))
   else .no
  | none=>.no)
 | _,_,_=>.no
def J8:List AVal->Option (List Int)
 | []=>some []
 | .int .i64 n::r=>(match J8 r with | some l=>some (n::l) | none=>none)
 | _=>none
def D3 (E:Env) (k:Nat) (a:Bool) (v:AVal):Option (List Int):=
 match a with
 | false=>(match cR E.T k with
  | some {kind:=.int .i64,..}=>(match v with | .int .i64 n=>some [n] | _=>none)
  | _=>none)
 | true=>(match cR E.T k with
  | some _=>(match v with
   | .agg cs=>(match J8 cs with
    | some l=>bif Dy 0 (xB E.fl k)&&Ap (K4 cs) (xB E.fl k) then some l else none
    | none=>none)
   | _=>none)
  | none=>none)
def bO:List (List Int×AVal)->List Int->Option AVal
 | [],_=>none
 | (k,v)::r,x=>if k=x then some v else bO r x
def jW:List (List Int×AVal)->List Int->AVal->List (List Int×AVal)
 | [],x,y=>[(x,y)]
 | (k,v)::r,x,y=>if k=x then (x,y)::r else (k,v)::jW r x y
def CQ:List (List Int×AVal)->List Int->List (List Int×AVal)
 | [],_=>[]
 | (k,v)::r,x=>if k=x then r else (k,v)::CQ r x
def xQ (a:Bool) (es:List (List Int×AVal)) (key:List Int) (r:OR):OR:=
 match a with
 | false=>r
 | true=>.need (∀ p∈es,p.1.length=key.length) r
def G4 (E:Env) (og:Nat->AObj) (t:Nat) (m k:AVal) (ok:Bool):OR:=
 match cR E.T t,m with
 | some {kind:=.mp kt e,..},.mref j=>(match cR E.T e,og j with
  | some te,.mp ag es=>(match D3 E kt ag k with
   | some key=>xQ ag es key (.find es key fun o=>match o with
    | some v=>.val (bif ok then .tup [v,.bool true] else v)
    | none=>.val (bif ok then .tup [te.zero,.bool false] else te.zero))
   | none=>.no)
  | _,_=>.no)
 | _,_=>.no
def NZ (E:Env) (og:Nat->AObj) (t:Nat) (m k v:AVal):OR:=
 match cR E.T t,m with
 | some {kind:=.mp kt _,..},.mref j=>(match og j with
  | .mp a es=>(match D3 E kt a k with
   | some key=>(fun v=>bif AG v then xQ a es key (.upd j (.mp a (jW es key v)) .undef) else .no) (pureV og 4 v)
   | none=>.no)
  | _=>.no)
 | _,_=>.no
def G3 (E:Env) (og:Nat->AObj) (t:Nat) (m k:AVal):OR:=
 match cR E.T t,m with
 | some {kind:=.mp kt _,..},.mref j=>(match og j with
  | .mp a es=>(match D3 E kt a k with
   | some key=>xQ a es key (.upd j (.mp a (CQ es key)) (.tup []))
   | none=>.no)
  | _=>.no)
 | _,_=>.no
def yM (E:Env) (ty:Nat):AVal->AVal
 | .nilslice=>(match cR E.T ty with | some {kind:=.slc _ esz _,..}=>.slice esz [] .nil | _=>.nilslice)
 | v=>v
def kD (E:Env) (hint base:Nat) (og:Nat->AObj) (ρ:Operand->AVal) (op:Op) (ty:TypeId):OR:=
 match op with
 | .move x=>.val (ρ x)
 | .assign x=>(match hint with
  | 0=>.val (yM E ty (ρ x))
  | h=>match yM E ty (ρ x) with
   | .slice o xs t=>(match t with
    | .nil=>(match xs with
          | []=>(match cR E.T ty with | some {kind:=.slc e esz' _,..}=>bif Ap o esz'&&Ew 1 o then nN h base o e [] else .no | _=>.no)
          | _::_=>.no)
    | t=>.val (.slice o xs t))
   | v=>.val v)
 | .pick c a b=>(match ρ c with
  | .bool true=>.val (ρ a)
  | .bool false=>.val (ρ b)
  | _=>.no)
 | .alloc t=>(match cR E.T t with
  | some j=>bif mY j.zero.cells then .born (.cells t j.zero.cells) (.ref base 0) else .no
  | none=>.no)
 | .box t x=>(fun v=>bif mY v.cells then .born (.cells t v.cells) (.ref base 0) else .no) (ρ x)
 | .build t w=>N3 E t (evL ρ w.toList)
 | .buildSlice t n w=>kZ E hint base og t n (evL ρ w.toList)
 | .load t a=>(aAt E og t (ρ a)).bind fun v=>.val (yM E t v)
 | .store t a x=>NS E og t (ρ a) (yM E t (ρ x))
 | .nilCheck x=>(match ρ x with
  | .ref k off=>.val (.ref k off)
  | .eref k g i sz off=>.val (.eref k g i sz off)
  | .ptr cs=>.val (.ptr cs)
  | .func (.func f) p cs=>.val (.func (.func f) p cs)
  | .func (.yield f) p cs=>.val (.func (.yield f) p cs)
  | .iface t v=>.val (.iface t v)
  | _=>.no)
 | .binOp op t x y _=>aGu E og (isC x||isC y) op t (ρ x) (ρ y)
 | .unOp op _ x=>(match op,ρ x with
  | .not,.bool b=>.val (.bool (!b))
  | .neg,.int k n=>BV k (0-n)
  | .xor,.int k n=>.val (.int k (fQ .xor k (if k.signed then -1 else k.max) n))
  | _,_=>.no)
 | .convert s d x=>aAy E og s d (ρ x)
 | .makeSlice t n c=>RD E hint base t (ρ n) (ρ c)
 | .makeInterface t x=>(match cR E.T t with
  | some j=>(match j.kind with | .iface=>.no | _=>.val (.iface t (ρ x)))
  | none=>.no)
 | .makeFunc fn p cs=>.mkf fn (evO ρ p.toList) (evO ρ cs.toList)
 | .slice t x lo z B=>NT E og t (ρ x) (lo.map ρ) (z.map ρ) (B.map ρ)
 | .fieldAddr t x f=>sB E t (ρ x) f
 | .field t x f=>(N1 E t (ρ x) f).bind fun v=>.val (yM E ty v)
 | .indexAddr t x i=>sA E og t (ρ x) (ρ i)
 | .index t x i=>N0 E t (ρ x) (ρ i)
 | .extract x i=>(match ρ x with
  | .tup vs=>(match nth vs i with | some v=>.val v | none=>.no)
  | _=>.no)
 | .panic x=>(match ρ x with
  | .iface t v=>(fun v=>bif AG v then .pan (.iface t v) else .no) (pureV og 3 v)
  | _=>.no)
 | .typeAssert x _ t ok=>(match cR E.T t,ρ x with
  | some j,.iface u v=>(match j.kind with
   | .iface=>.no
   | _=>bif Ap u t then .val (bif ok then .tup [v,.bool true] else v) else (bif ok then .val (.tup [j.zero,.bool false]) else .no))
  | some j,.nilif=>(match j.kind with
   | .iface=>.no
   | _=>bif ok then .val (.tup [j.zero,.bool false]) else .no)
  | _,_=>.no)
 | .makeMap t none=>(match cR E.T t with
  | some {kind:=.mp k _,..}=>(match cR E.T k with
   | some A=>.born (.mp A.agg []) (.mref base)
   | none=>.no)
  | _=>.no)
 | .lookup t m k ok=>G4 E og t (ρ m) (ρ k) ok
 | .mapUpdate t m k v=>NZ E og t (ρ m) (ρ k) (ρ v)
 | .call c=>(match c.callee with
  | .value f=>(match ρ f with
   | .func (.func g) p cs=>.call (.func g) (UZ (UZ p (evO ρ c.args.toList)) cs)
   | .func (.yield l) p _=>.call (.yield l) (UZ p (evO ρ c.args.toList))
   | _=>.no)
  | .invoke r q=>(match ρ r with
   | .iface t v=>(match Y2 E.mt t q with
    | some g=>.call (.func g) (v::evO ρ c.args.toList)
    | none=>.no)
   | _=>.no)
  | .builtin b=>(match b,c.args.toList,c.argTypes.toList with
   | .len,[x],[t]=>aGp E og t (ρ x)
   | .min,[x,y],_=>(match ρ x,ρ y with | .int k a,.int k' b=>bif ZG k k' then .val (.int k (min a b)) else .no | _,_=>.no)
   | .max,[x,y],_=>(match ρ x,ρ y with | .int k a,.int k' b=>bif ZG k k' then .val (.int k (max a b)) else .no | _,_=>.no)
   | .append,[x,y],[t,t2]=>qP E hint base og t t2 (ρ x) (ρ y)
   | .copy,[x,y],[t,t2]=>aAx E og t t2 (ρ x) (ρ y)
   | .clear,[x],[t]=>N2 E og t (ρ x)
   | .delete,[m,k],[t,_]=>G3 E og t (ρ m) (ρ k)
   | _,_,_=>.no))
 | _=>.no
def nrm:AVal->AVal
 | .rowc k g _=>.row k g
 | .pre k g n _ sz=>.sub k g 0 n sz
 | v=>v
def aGs (E:Env) (hint:Nat) (og:Nat->AObj) (t k g c:Nat) (h:AVal):OR:=
 match cR E.T t,og k,h with
 | some {kind:=.slc _ esz _,..},.row g' sz e xs,.int _ n=>bif (Ap g g'&&Ap sz esz)&&Ew 1 sz then
   .idx n fun y=>(match hint with
    | 0=>.need (y<=xs.length/\0<c) (.val (.pre k g y c sz))
    | _=>.need (xs.length<=y/\y<=c) (.upd k (.row (g+1) sz e (xs++Ah (y-xs.length) (.agg (Ah sz .undef)))) (.row k (g+1))))
  else .no
 | _,_,_=>.no
def aAw (E:Env) (og:Nat->AObj) (t k g:Nat) (l h m:AVal):OR:=
 match cR E.T t,og k,l,h,m with
 | some {kind:=.slc _ esz _,..},.row g' sz _ xs,.int _ a,.int _ b,.int _ c=>bif Ap g g'&&Ap sz esz then
   .idx a fun x=>.idx b fun y=>.idx c fun z=>.need ((x<=y/\y<=z)/\z<=xs.length) (.val .undef)
  else .no
 | _,_,_,_,_=>.no
def RC (E:Env) (base:Nat) (og:Nat->AObj) (t k g n c sz:Nat) (m:AVal):OR:=
 match cR E.T t,og k,m with
 | some {kind:=.slc e esz eb,..},.row g' sz' e' xs,.int .i64 a=>(match cR E.T e with
  | some b=>bif ((Ap g g'&&Ap sz sz')&&(Ap sz esz&&Ap e e'))&&(Ew 1 esz&&AG (pureV (fun _=>.dead) 4 b.zero)) then
    .idx a fun y=>.need (c<n+y/\BE (n+y) eb) (.born (.row 0 esz e (xs.take n++Ah y (pureV (fun _=>.dead) 4 b.zero))) (.row base 0))
   else .no
  | none=>.no)
 | _,_,_=>.no
def jK (E:Env) (hint base:Nat) (og:Nat->AObj) (ρ:Operand->AVal) (op:Op):Option OR:=
 match op with
 | .move x=>some (.val (ρ x))
 | .assign x=>(match ρ x with
  | .rowc k g c=>some (.val (.rowc k g c))
  | _=>none)
 | .slice t x none (some h) none=>(match ρ x with
  | .rowc k g c=>some (aGs E hint og t k g c (ρ h))
  | _=>none)
 | .slice t x (some l) (some h) (some m)=>(match ρ x with
  | .row k g=>some (aAw E og t k g (ρ l) (ρ h) (ρ m))
  | _=>none)
 | .call c=>(match c.callee with
  | .builtin .cap=>(match c.args.toList,c.argTypes.toList with
   | [x],[t]=>(match ρ x,cR E.T t with
    | .rowc _ _ n,some {kind:=.slc _ _ _,..}=>some (.val (.int .i64 n))
    | _,_=>none)
   | _,_=>none)
  | .builtin .append=>(match c.args.toList,c.argTypes.toList with
   | [x,y],[t,t2]=>(match ρ x,cR E.T t2 with
    | .pre k g n c sz,some {kind:=.int _,..}=>some (RC E base og t k g n c sz (ρ y))
    | _,_=>none)
   | _,_=>none)
  | _=>none)
 | _=>none
def eop (E:Env) (hint base:Nat) (og:Nat->AObj) (ρ:Operand->AVal) (op:Op) (ty:TypeId):OR:=
 match jK E hint base og ρ op with
 | some r=>r
 | none=>kD E hint base og (fun x=>nrm (ρ x)) op ty
def KDL (f:AVal->(AVal->Prop)->Prop):List AVal->(List AVal->Prop)->Prop
 | [],k=>k []
 | c::r,k=>f c fun c=>KDL f r fun r=>k (c::r)
def KD:Nat->AVal->(AVal->Prop)->Prop
 | 0,v,k=>k v
 | n+1,v,k=>match v with
  | .undef=>k .undef
  | .bool b=>k (.bool b)
  | .int i n=>k (.int i n)
  | .str l=>k (.str l)
  | .slice sz xs t=>(match t with | .no=>k (.slice sz xs .no) | .nil=>k (.slice sz xs .nil) | .full=>k (.slice sz xs .full) | .own a b=>k (.slice sz xs (.own a b)))
  | .agg cs=>KDL (KD n) cs fun cs=>k (.agg cs)
  | .tup cs=>KDL (KD n) cs fun cs=>k (.tup cs)
  | .ptr cs=>k (.ptr cs)
  | .ref a b=>k (.ref a b)
  | .eref a b c d e=>k (.eref a b c d e)
  | .csl a b c d=>k (.csl a b c d)
  | .row a b=>k (.row a b)
  | .sub a b c d e=>k (.sub a b c d e)
  | .rowc a b c=>k (.rowc a b c)
  | .pre a b c d e=>k (.pre a b c d e)
  | .mref a=>k (.mref a)
  | .nilptr=>k .nilptr
  | .nilslice=>k .nilslice
  | .nilmap=>k .nilmap
  | .nilfunc=>k .nilfunc
  | .nilif=>k .nilif
  | .hsl a n c=>k (.hsl a n c)
  | .func fn f cs=>k (.func fn f cs)
  | .iface t v=>KD n v fun v=>k (.iface t v)
theorem HR {f:AVal->(AVal->Prop)->Prop} (b:∀ v k,f v k=k v) (l:List AVal):∀ (k:List AVal->Prop),KDL f l k=k l:=by
 induction l with
 | nil=>intro k;rfl
 | cons c r a=>intro k;simp only [KDL,b,a]
theorem lE (n:Nat):∀ (v:AVal) (k:AVal->Prop),KD n v k=k v:=by
 induction n with
 | zero=>intro v k;rfl
 | succ n a=>
  intro v k
  cases v<;>simp only [KD,HR a,a]
  rename_i t
  cases t<;>rfl
def OD (x:AObj) (k:AObj->Prop):Prop:=
 match x with
 | .dead=>k .dead
 | .cells T cs=>KDL (KD 3) cs fun cs=>k (.cells T cs)
 | .fcells cs=>KDL (KD 3) cs fun cs=>k (.fcells cs)
 | .row g sz e xs=>k (.row g sz e xs)
 | .frow g sz xs=>k (.frow g sz xs)
 | .tail g sz e=>k (.tail g sz e)
 | .mp a es=>k (.mp a es)
 | .bun g I=>k (.bun g I)
theorem aA4 (x:AObj) (k:AObj->Prop):OD x k=k x:=by cases x<;>simp only [OD,HR (lE 3)]
def ODL:List AObj->(List AObj->Prop)->Prop
 | [],k=>k []
 | c::r,k=>OD c fun c=>ODL r fun r=>k (c::r)
theorem pT (l:List AObj):∀ (k:List AObj->Prop),ODL l k=k l:=by
 induction l with
 | nil=>intro k;rfl
 | cons c r a=>intro k;simp only [ODL,aA4,a]
def zO:List (Nat×AVal)->Nat->AVal->(List (Nat×AVal)->Prop)->Prop
 | [],n,x,k=>k [(n,x)]
 | (i,v)::r,n,x,k=>bif Ap i n then k ((n,x)::r) else zO r n x fun r=>k ((i,v)::r)
theorem kV (l:List (Nat×AVal)) (n:Nat) (x:AVal):∀ (k:List (Nat×AVal)->Prop),zO l n x k=k (eZ l n x):=by
 induction l with
 | nil=>intro k;rfl
 | cons c r a=>intro k;obtain ⟨i,v⟩:=c;simp only [zO,eZ,a];cases Ap i n<;>rfl
def pos (k:Nat):Nat->List Nat->Option Nat
 | _,[]=>none
 | j,x::r=>bif Ap x k then some j else pos k (j+1) r
def dN:AObj->Nat
 | .row g _ _ _=>g
 | .tail g _ _=>g
 | .bun g _=>g
 | _=>0
def gm (n0 j a g:Nat):Option Nat:=
 bif Ap g a then some (bif Dy j n0 then (bif Ap a 0 then 0 else 1) else 0) else (bif Dy j n0&&Ap g 0 then some 0 else none)
def cvtV (n0:Nat) (ks:List Nat) (og:Nat->AObj):Nat->AVal->AVal
 | 0,_=>.undef
 | n+1,v=>match v with
  | .slice sz xs t=>(match t with
   | .full=>.slice sz xs .full
   | .nil=>(match ks with | []=>.slice sz xs .no | _::_=>.slice sz xs .nil)
   | .own k g=>(match pos k 0 ks with
    | some j=>(match gm n0 j (dN (og k)) g with | some g=>.slice sz xs (.own j g) | none=>.slice sz xs .no)
    | none=>.slice sz xs .no)
   | _=>.slice sz xs .no)
  | .agg cs=>.agg (dK (cvtV n0 ks og n) cs)
  | .tup cs=>.tup (dK (cvtV n0 ks og n) cs)
  | .func fn a cs=>.func fn (dK (cvtV n0 ks og n) a) (dK (cvtV n0 ks og n) cs)
  | .iface t v=>.iface t (cvtV n0 ks og n v)
  | .ref k off=>(match pos k 0 ks with
   | some j=>(match gm n0 j (dN (og k)) 0 with | some _=>.ref j off | none=>.undef)
   | none=>pureV og 1 (.ref k off))
  | .csl k off len sz=>(match pos k 0 ks with
   | some j=>(match gm n0 j (dN (og k)) 0 with | some _=>.csl j off len sz | none=>.undef)
   | none=>pureV og 1 (.csl k off len sz))
  | .row k g=>(match pos k 0 ks with
   | some j=>(match gm n0 j (dN (og k)) g with | some g=>.row j g | none=>.undef)
   | none=>pureV og 1 (.row k g))
  | .sub k g lo len sz=>(match pos k 0 ks with
   | some j=>(match gm n0 j (dN (og k)) g with | some g=>.sub j g lo len sz | none=>.undef)
   | none=>pureV og 1 (.sub k g lo len sz))
  | .mref k=>(match pos k 0 ks with | some j=>(match gm n0 j (dN (og k)) 0 with | some _=>.mref j | none=>.undef) | none=>.undef)
  | .eref _ _ _ _ _=>.undef
  | .rowc _ _ _=>.undef
  | .pre _ _ _ _ _=>.undef
  | v=>v
def N6 (n0:Nat) (ks:List Nat) (obs:List AObj) (j:Nat):AObj->AObj
 | .cells T cs=>.cells T (dK (cvtV n0 ks (aE obs) 4) cs)
 | .row g sz e xs=>.row (match gm n0 j g g with | some g=>g | none=>0) sz e xs
 | .tail g sz e=>.tail (match gm n0 j g g with | some g=>g | none=>0) sz e
 | .bun g I=>.bun (match gm n0 j g g with | some g=>g | none=>0) I
 | o=>o
def vU (n0:Nat) (ks:List Nat) (obs:List AObj):Nat->List Nat->List AObj
 | _,[]=>[]
 | j,k::r=>N6 n0 ks obs j (aE obs k)::vU n0 ks obs (j+1) r
def gK (n0:Nat) (ks:List Nat) (obs:List AObj):List AObj:=vU n0 ks obs 0 ks
def kP:List Nat->List AObj->Bool
 | [],_=>true
 | k::r,obs=>(aE obs k).owns&& !qU k r&&kP r obs
def upto:Nat->Nat->List Nat
 | _,0=>[]
 | j,n+1=>j::upto (j+1) n
def iS:Nat->Nat->List Nat->Bool
 | 0,_,_=>true
 | n+1,j,k::r=>Ap k j&&iS n (j+1) r
 | _+1,_,[]=>false
def dJ (ks:List Nat) (base j:Nat):Nat:=match nth ks j with | some k=>k | none=>base+(j-(olenN ks))
where olenN:List Nat->Nat
 | []=>0
 | _::r=>olenN r+1
def iY (ks:List Nat) (obs:List AObj) (j g:Nat):Nat:=match nth ks j with | some k=>dN (aE obs k)+g | none=>g
def embV (ks:List Nat) (base:Nat) (obs:List AObj):Nat->AVal->AVal
 | 0,_=>.undef
 | n+1,v=>match v with
  | .slice sz xs t=>(match t with
   | .own j g=>.slice sz xs (.own (dJ ks base j) (iY ks obs j g))
   | t=>.slice sz xs t)
  | .agg cs=>.agg (dK (embV ks base obs n) cs)
  | .tup cs=>.tup (dK (embV ks base obs n) cs)
  | .func fn a cs=>.func fn (dK (embV ks base obs n) a) (dK (embV ks base obs n) cs)
  | .iface t v=>.iface t (embV ks base obs n v)
  | .ref j off=>.ref (dJ ks base j) off
  | .csl j off len sz=>.csl (dJ ks base j) off len sz
  | .row j g=>.row (dJ ks base j) (iY ks obs j g)
  | .sub j g lo len sz=>.sub (dJ ks base j) (iY ks obs j g) lo len sz
  | .mref j=>.mref (dJ ks base j)
  | .eref _ _ _ _ _=>.undef
  | .rowc _ _ _=>.undef
  | .pre _ _ _ _ _=>.undef
  | v=>v
def pG (ks:List Nat) (base:Nat) (obs:List AObj) (j:Nat):AObj->AObj
 | .cells T cs=>.cells T (dK (embV ks base obs 4) cs)
 | .row g sz e xs=>.row (iY ks obs j g) sz e xs
 | .frow g sz xs=>.frow (iY ks obs j g) sz xs
 | .tail g sz e=>.tail (iY ks obs j g) sz e
 | .bun g I=>.bun (iY ks obs j g) I
 | o=>o
def iX (ks:List Nat) (base:Nat) (obs:List AObj):Nat->List AObj->List AObj->List AObj
 | _,[],l=>l
 | j,o::r,l=>iX ks base obs (j+1) r (bL l (dJ ks base j) (pG ks base obs j o))
inductive Res where
 | ret (a:AVal)
 | pan (a:AVal)
def pU (M:Imm) (ob:Hs):Ending->Res->Prop
 | .returned v,.ret a=>Rep M ob v a
 | .panicked ch,.pan a=>∃ v,ch=[{v,recovered:=false}]/\Rep M ob v a
 | _,_=>False
def cD (M:Imm) (ob:Hs) (vs:List Value) (as:List AVal):Prop:=
 vs.length=as.length/\∀ (i:Nat) v a,vs[i]? =some v->as[i]? =some a->Rep M ob v a
def iT (P:Program) (f:FuncId) (a:Array Value) (w:World) (R:Ending->World->Prop):Prop:=
 ((callFunc f a).run P w= .ok (.enter f a) w/\Calls P f a w R)\/∃ u w',(callFunc f a).run P w= .ok (.value u) w'/\R (.returned u) w'
def U5 (P:Program) (l:Nat) (b:Array Value) (w:World) (R:Ending->World->Prop):Prop:=
 ∃ f tmps as a,(Instr.yield l b).run P w= .ok (.round l f tmps as a) w/\RoundIn Fence.wide 0 P l f tmps as a w R
def B6:Fn->Array Value->Sem Next
 | .func f,va=>callFunc f va
 | .yield l,va=>Instr.yield l va
 | _,va=>callFunc 0 va
@[reducible] def cU (P:Program) (f:Fn) (va:Array Value) (w:World) (R:Ending->World->Prop):Prop:=
 match f with
 | .func f=>iT P f va w R
 | .yield l=>U5 P l va w R
 | _=>False
def bM (P:Program) (f:Fn) (args:List AVal) (obs:List AObj) (r:Res) (obs':List AObj):Prop:=
 ∀ M ob w a,Mem M ob obs w->cD M ob a args->
  cU P f a.toArray w fun e w'=>∃ M' ob',Ext M ob obs w M' ob' obs' w'/\Mem M' ob' obs' w'/\pU M' ob' e r
abbrev aA (P:Program) (f:FuncId) (args:List AVal) (obs:List AObj) (r:Res) (obs':List AObj):Prop:=bM P (.func f) args obs r obs'
inductive CallG (P:Program) (f:Fn) (args:List AVal) (obs:List AObj) (K:AVal->List AObj->Prop) (Kp:AVal->List AObj->Prop):Prop
 | pure (r:AVal) (new:List AObj) (h:bM P f (dK (cvtV 0 [] (aE (frzL obs args)) 5) args) [] (.ret r) new) (k:K (embV [] (aO obs) (frzL obs args) 5 r) (iX [] (aO obs) (frzL obs args) 0 new (frzL obs args)))
 | eff (fz ks:List Nat) (r:AVal) (obs':List AObj) (hk:kP ks (frzs fz obs)=true) (h:bM P f (dK (cvtV 0 ks (aE (frzs fz obs)) 5) args) (gK 0 ks (frzs fz obs)) (.ret r) obs')
   (k:K (embV ks (aO (frzs fz obs)) (frzs fz obs) 5 r) (iX ks (aO (frzs fz obs)) (frzs fz obs) 0 obs' (frzs fz obs)))
 | effp (fz ks:List Nat) (r:AVal) (obs':List AObj) (hk:kP ks (frzs fz obs)=true) (h:bM P f (dK (cvtV 0 ks (aE (frzs fz obs)) 5) args) (gK 0 ks (frzs fz obs)) (.pan r) obs')
   (k:Kp (embV ks (aO (frzs fz obs)) (frzs fz obs) 5 r) (iX ks (aO (frzs fz obs)) (frzs fz obs) 0 obs' (frzs fz obs)))
 | pan (r:AVal) (h:bM P f (dK (cvtV 0 [] (aE (frzL obs args)) 5) args) [] (.pan r) []) (k:Kp r (frzL obs args))
inductive CallD (P:Program) (f:Fn) (args:List AVal) (so:Bool) (seen:List AObj) (base:Nat) (obs:List AObj) (K:AVal->List AObj->Prop) (Kp:AVal->List AObj->Prop):Prop
 | pure (r:AVal) (new:List AObj) (h:bM P f (dK (cvtV 0 [] (aE seen) 5) args) [] (.ret r) new) (k:K (embV [] base seen 5 r) (iX [] base seen 0 new obs)):CallD P f args so seen base obs K Kp
 | sole (h:so=true) (h:CallG P f args obs K Kp):CallD P f args so seen base obs K Kp
def orF (P:Program) (obs:List AObj) (K:AVal->List AObj->Prop) (Kp:AVal->List AObj->Prop):OR->Prop
 | .no=>False
 | .val v=>K v obs
 | .mkf fn d cs=>K (.func fn d cs) obs
 | .need p r=>p/\orF P obs K Kp r
 | .alt p v w=>(p/\K v obs)\/K w obs
 | .idx n f=>∃ i:Nat,n=(i:Int)/\orF P obs K Kp (f i)
 | .elem xs i f=>∃ x,xs[i]? =some x/\orF P obs K Kp (f x)
 | .byte l i=>∃ c,l[i]? =some c/\K (.int .u8 (c.toNat:Int)) obs
 | .text xs=>∃ l:List UInt8,xs=l.map ub/\(l.length:Int)<=9223372036854775807/\K (.str l) obs
 | .find es key f=>∃ o,bO es key=o/\orF P obs K Kp (f o)
 | .born x v=>K v (bL obs (aO obs) x)
 | .upd k x v=>K v (bL obs k x)
 | .nilq xs a=>∀ b:Bool,(b=true->xs=[])->K (.bool (if a then !b else b)) obs
 | .call f args=>CallG P f args obs K Kp
 | .pan v=>Kp v obs
def nd:AObj->Bool
 | .dead=>false
 | _=>true
def orD (P:Program) (d e bl:Bool) (a obs:List AObj) (base:Nat) (K:AVal->List AObj->Prop) (Kp:AVal->List AObj->Prop):OR->Prop
 | .val v=>K v obs
 | .mkf fn h cs=>K (.func fn h cs) obs
 | .need p r=>p/\orD P d e bl a obs base K Kp r
 | .alt p v w=>(p/\K v obs)\/K w obs
 | .idx n f=>∃ i:Nat,n=(i:Int)/\orD P d e bl a obs base K Kp (f i)
 | .elem xs i f=>∃ x,xs[i]? =some x/\orD P d e bl a obs base K Kp (f x)
 | .byte l i=>∃ c,l[i]? =some c/\K (.int .u8 (c.toNat:Int)) obs
 | .text xs=>∃ l:List UInt8,xs=l.map ub/\(l.length:Int)<=9223372036854775807/\K (.str l) obs
 | .find es key f=>∃ o,bO es key=o/\orD P d e bl a obs base K Kp (f o)
 | .born x v=>(match bl with | true=>False | false=>K v (bL obs base x))
 | .upd k x v=>(match (d||(e&&nd (aE a k))) with | true=>K v (bL obs k x) | false=>False)
 | .nilq xs g=>(match d with | true=>∀ b:Bool,(b=true->xs=[])->K (.bool (if g then !b else b)) obs | false=>False)
 | .call f args=>(match bl with | true=>False | false=>CallD P f args d a base obs K Kp)
 | .pan v=>(match d with | true=>Kp v obs | false=>False)
 | .no=>False
def cC (all:List Oper) (ρ:Operand->AVal) (g:Option (Nat×Bool)):Option Bool:=
 match g with
 | none=>some true
 | some (j,want)=>match nth all j with
  | some p=>match p.dst with
   | some d=>match ρ (.tmp d) with
    | .bool b=>some (b==want)
    | .tup []=>some false
    | _=>none
   | none=>none
  | none=>none
def tI (n:Nat):List Oper->Bool
 | []=>false
 | o::r=>(match o.guard with | some (j,_)=>Ap j n | none=>false)||tI n r
def eD (E:Env):Option Nat->Nat
 | none=>0
 | some d=>bif qU d E.own then 1 else bif qU d E.rws then 2 else 0
def kO (fr:List (Nat×AVal)):Option Nat->AVal->List (Nat×AVal)
 | none,_=>fr
 | some d,v=>eZ fr d v
def wrP (rest:List Oper) (n:Nat) (d:Option Nat) (fr:List (Nat×AVal)) (v:AVal) (k:List (Nat×AVal)->Prop):Prop:=
 match d with
 | none=>k fr
 | some d=>bif tI n rest then (match v with
   | .bool b=>(b=true->k (eZ fr d (.bool true)))/\(b=false->k (eZ fr d (.bool false)))
   | _=>False)
  else k (eZ fr d v)
def dZ (E:Env) (all:List Oper) (K:List (Nat×AVal)->List AObj->Prop) (Kp:(Nat->AVal)->AVal->List AObj->Prop):Nat->List Oper->List (Nat×AVal)->List AObj->Prop
 | _,[],fr,obs=>K fr obs
 | n,p::rest,fr,obs=>match cC all (ev fr) p.guard with
  | none=>False
  | some false=>dZ E all K Kp (n+1) rest (kO fr p.dst (.tup [])) obs
  | some true=>orF E.P obs (fun v obs=>wrP rest n p.dst fr v fun fr=>dZ E all K Kp (n+1) rest fr obs) (Kp (aZ fr))
    (eop E (eD E p.dst) (aO obs) (aE obs) (ev fr) p.op p.type)
def fV (p:Oper):List Nat:=(p.after.toList.filter (Ix .any)).map (·.on)
def cK (m i:Nat):Bool:=Ap (Nat.land (Nat.shiftRight m i) 1) 1
def cV:List Nat->Nat->Nat
 | [],_=>0
 | x::_,0=>x
 | _::r,n+1=>cV r n
def hJ (tab:List Nat):List Nat->Nat
 | []=>0
 | i::r=>Mp (Mp (Nat.shiftLeft 1 i) (cV tab i)) (hJ tab r)
def gY:List Nat->List Oper->List Nat
 | tab,[]=>tab
 | tab,p::r=>gY (tab++[hJ tab (fV p)]) r
def aHi (n:Nat) (k:Nat->Prop):Prop:=match n with | 0=>k 0 | m+1=>k (m+1)
theorem aCA (n:Nat) (k:Nat->Prop):aHi n k=k n:=by cases n<;>rfl
def PE:List Nat->Nat->(List Nat->Prop)->Prop
 | [],m,k=>k [m]
 | x::r,m,k=>PE r m fun r=>k (x::r)
theorem V0 (l:List Nat) (m:Nat):∀ (k:List Nat->Prop),PE l m k=k (l++[m]):=by
 induction l with
 | nil=>intro k;rfl
 | cons x r a=>intro k;simp only [PE,a,Je]
def RN:List Nat->List Oper->(List Nat->Prop)->Prop
 | tab,[],k=>k tab
 | tab,p::r,k=>aHi (hJ tab (fV p)) fun m=>PE tab m fun tab=>RN tab r k
theorem aAU (l:List Oper):∀ (tab:List Nat) (k:List Nat->Prop),RN tab l k=k (gY tab l):=by
 induction l with
 | nil=>intro tab k;rfl
 | cons p r a=>intro tab k;simp only [RN,gY,aCA,V0,a]
def loose (tab:List Nat) (i j:Nat):Bool:=!Ap i j&& !cK (cV tab j) i&& !cK (cV tab i) j
def KB (tab:List Nat) (j t:Nat):Nat->List Oper->Bool
 | _,[]=>false
 | i,p::r=>(match p.dst with | some d=>Ap d t&&loose tab i j | none=>false)||KB tab j t (i+1) r
def evH (tab:List Nat) (all:List Oper) (j:Nat) (fr:List (Nat×AVal)):Operand->AVal
 | .tmp t=>bif KB tab j t 0 all then .undef else aZ fr t
 | x=>ev fr x
def nY:List Nat->List AObj->List AObj
 | [],obs=>obs
 | k::r,obs=>nY r (bL obs k .dead)
def CU (tab:List Nat) (j:Nat):List (Nat×Nat)->List Nat
 | []=>[]
 | (i,k)::r=>bif cK (cV tab j) i then CU tab j r else k::CU tab j r
def sole (tab:List Nat) (j:Nat):Nat->List Oper->Bool
 | _,[]=>true
 | i,_::r=>!loose tab i j&&sole tab j (i+1) r
def blD (E:Env):Option Nat->Bool
 | none=>false
 | some d=>qU d E.bl
def DE (E:Env) (tab:List Nat) (j:Nat):Nat->List Oper->Bool
 | _,[]=>true
 | i,p::r=>(!loose tab i j||blD E p.dst)&&DE E tab j (i+1) r
def soN (E:Env) (tab:List Nat) (all:List Oper) (n:Nat) (d:Option Nat):Bool:=sole tab n 0 all&& !blD E d
def uoN (E:Env) (tab:List Nat) (all:List Oper) (n:Nat) (d:Option Nat):Bool:=DE E tab n 0 all&& !blD E d
def nR (E:Env) (tab:List Nat) (n:Nat) (br:List (Nat×Nat)) (obs:List AObj) (d:Option Nat):List AObj:=bif blD E d then [] else nY (CU tab n br) obs
def born (j base:Nat):List AObj->List (Nat×Nat)->List (Nat×Nat)
 | [],br=>br
 | _::r,br=>(j,base)::born j (base+1) r br
def gB:Nat->List AObj->List AObj
 | 0,l=>l
 | _+1,[]=>[]
 | n+1,_::l=>gB n l
def gU (E:Env) (all:List Oper) (tab:List Nat) (K:List (Nat×AVal)->List AObj->Prop) (Kp:(Nat->AVal)->AVal->List AObj->Prop):Nat->List Oper->List (Nat×Nat)->List (Nat×AVal)->List AObj->Prop
 | _,[],_,fr,obs=>K fr obs
 | n,p::rest,br,fr,obs=>
  match cC all (evH tab all n fr) p.guard with
  | none=>False
  | some false=>gU E all tab K Kp (n+1) rest br (kO fr p.dst (.tup [])) obs
  | some true=>orD E.P (soN E tab all n p.dst) (uoN E tab all n p.dst) (blD E p.dst) (nR E tab n br obs p.dst) obs (aO obs) (fun v obs'=>wrP rest n p.dst fr v fun fr=>gU E all tab K Kp (n+1) rest (born n (aO obs) (gB (aO obs) obs') br) fr obs') (Kp (aZ fr))
     (eop E (eD E p.dst) (aO obs) (aE (nR E tab n br obs p.dst)) (evH tab all n fr) p.op p.type)
inductive KI where
 | code (c:Code) | inB (id:Nat) | inL (c:Code) | beginR
def BN (id:Nat):List KI->Option (List KI)
 | []=>none
 | .inB i::r=>bif Ap i id then some r else BN id r
 | _::r=>BN id r
inductive Goal where
 | pure (r:Res)
 | full (n0:Nat) (r:Res) (obs':List AObj)
 | keep (n0:Nat) (r:Res) (obs':List AObj)
def aFq (E:Env) (obs:List AObj) (fr:List (Nat×AVal)):ResultVar->Option AVal
 | .tmp t=>some (aZ fr t)
 | .cell t ty=>match cR E.T ty,aZ fr t with
  | some ti,.ref k off=>match aE obs k with
   | .cells _ cs=>match kG ti.size (jC off cs) with | some l=>mk ti l | none=>none
   | _=>none
  | _,_=>none
def XD (E:Env) (obs:List AObj) (fr:List (Nat×AVal)):List ResultVar->Option (List AVal)
 | []=>some []
 | r::rs=>match aFq E obs fr r,XD E obs fr rs with
  | some v,some vs=>some (v::vs)
  | _,_=>none
def XE (E:Env) (obs:List AObj) (a:List ResultVar) (fr:List (Nat×AVal)):Option AVal:=
 match XD E obs fr a with
 | some [v]=>some v
 | some vs=>some (.tup vs)
 | none=>none
def aH2 (n:Nat):Tk->Bool
 | .own k _=>Dy k n
 | _=>true
def B8 (f:AVal->Bool):List AVal->Bool
 | []=>true
 | c::r=>f c&&B8 f r
def bel (n:Nat):Nat->AVal->Bool
 | 0,_=>false
 | m+1,a=>match a with
  | .slice _ _ t=>aH2 n t
  | .agg cs=>B8 (bel n m) cs
  | .tup cs=>B8 (bel n m) cs
  | .ref k _=>Dy k n
  | .eref k _ _ _ _=>Dy k n
  | .csl k _ _ _=>Dy k n
  | .row k _=>Dy k n
  | .sub k _ _ _ _=>Dy k n
  | .rowc k _ _=>Dy k n
  | .pre k _ _ _ _=>Dy k n
  | .mref k=>Dy k n
  | .func _ b cs=>B8 (bel n m) b&&B8 (bel n m) cs
  | .iface _ v=>bel n m v
  | _=>true
def CZ (n:Nat):List AObj->Bool
 | []=>true
 | .cells _ cs::r=>B8 (bel n 5) cs&&CZ n r
 | _::r=>CZ n r
def aAS (n:Nat):List (Nat×AVal)->Bool
 | []=>true
 | (_,v)::r=>bel n 5 v&&aAS n r
def lV:Nat->List AObj->List AObj
 | 0,_=>[]
 | _+1,[]=>[]
 | n+1,x::r=>x::lV n r
def KV (g:Goal) (a:AVal->Res) (v:AVal) (obs:List AObj):Prop:=
 match g with
 | .pure r=>a (cvtV 0 [] (aE (frzL obs [v])) 5 v)=r
 | .full n0 r obs'=>∃ b ks,(kP ks (frzs b obs)=true/\iS n0 0 ks=true)/\a (cvtV n0 ks (aE (frzs b obs)) 5 v)=r/\gK n0 ks (frzs b obs)=obs'
 | .keep n0 r obs'=>(bel n0 5 v=true/\CZ n0 (lV n0 obs)=true)/\a v=r/\lV n0 obs=obs'
def Goal.n0:Goal->Nat
 | .pure _=>0
 | .full n _ _=>n
 | .keep n _ _=>n
def dA (fn:Func):Code:=fn.body.getD .skip
def yU:Nat->Code->List KI->List KI ⊕ Nat
 | n,.seq a b,ks=>match yU n a (.code b::ks) with | .inl r=>.inl r | .inr n=>yU n b ks
 | n,.cond _ a b,ks=>match yU n a ks with | .inl r=>.inl r | .inr n=>yU n b ks
 | n,.block id b,ks=>yU n b (.inB id::ks)
 | 0,.loop b,ks=>.inl (.code b:: .inL b::ks)
 | n+1,.loop b,ks=>yU n b (.inL b::ks)
 | n,_,_=>.inr n
def stk (fn:Func) (n:Nat):List KI:=match yU n (dA fn) [] with | .inl r=>r | .inr _=>[]
def frA:Nat->List AVal->List (Nat×AVal)
 | _,[]=>[]
 | n,a::r=>(n,a)::frA (n+1) r
def kW:List Nat->List (Nat×AVal)->List (Nat×AVal)
 | [],_=>[]
 | t::r,fr=>(t,aZ fr t)::kW r fr
structure RI where
 all:List Oper
 dr:Bool
 tab:List Nat
 ks:List KI
inductive St where
 | code (ks:List KI) (fr:List (Nat×AVal)) (obs:List AObj)
 | head (ks:List KI) (fr:List (Nat×AVal)) (obs:List AObj)
 | mid (R:RI) (n:Nat) (rest:List Oper) (br:List (Nat×Nat)) (fr:List (Nat×AVal)) (obs:List AObj)
 | pend (R:RI) (n:Nat) (d:Option Nat) (rest:List Oper) (br:List (Nat×Nat)) (fr:List (Nat×AVal)) (obs:List AObj) (r:OR)
 | got (R:RI) (n:Nat) (d:Option Nat) (rest:List Oper) (br:List (Nat×Nat)) (fr:List (Nat×AVal)) (len:Nat) (obs:List AObj) (v:AVal)
 | leave (p:Option AVal) (fr:List (Nat×AVal)) (obs:List AObj)
def aAq (g:Goal) (a:AVal->Res) (v:AVal) (obs:List AObj):Prop:=
 match g with
 | .pure r=>KD 5 (cvtV 0 [] (aE (frzL obs [v])) 5 v) fun y=>a y=r
 | .full n0 r obs'=>∃ b ks,(kP ks (frzs b obs)=true/\iS n0 0 ks=true)/\KD 5 (cvtV n0 ks (aE (frzs b obs)) 5 v) fun y=>ODL (gK n0 ks (frzs b obs)) fun os=>a y=r/\os=obs'
 | .keep n0 r obs'=>(bel n0 5 v=true/\CZ n0 (lV n0 obs)=true)/\ODL (lV n0 obs) fun os=>a v=r/\os=obs'
theorem G1 (g:Goal) (a:AVal->Res) (v:AVal) (obs:List AObj):aAq g a v obs=KV g a v obs:=by
 cases g<;>simp only [aAq,KV,lE,pT]
def aCj (E:Env) (g:Goal) (J:St->Prop) (fr:List (Nat×AVal)) (v:AVal) (obs:List AObj):Prop:=match E.rd with
 | some _=>False
 | none=>match E.df with
  | []=>KV g .pan v obs
  | _::_=>J (.leave (some v) fr obs)
def aB1 (E:Env) (fn:Func) (g:Goal) (J:St->Prop) (b:Bool) (fr:List (Nat×AVal)) (obs:List AObj):Prop:=match E.rd with
 | some _=>aAq g .ret (.bool b) obs
 | none=>match E.df with
  | []=>(match XE E obs fn.results.toList fr with | some v=>KD 5 v fun v=>aAq g .ret v obs | none=>False)
  | _::_=>J (.leave none fr obs)
def aHm:List Oper->Bool
 | [p]=>(match p.op with | .defer _=>true | _=>false)
 | _=>false
def bN (E:Env) (fn:Func) (g:Goal) (J:St->Prop):Nat->St->Prop
 | 0,s=>J s
 | n+1,.head ks fr obs=>bN E fn g J n (.code ks fr obs)
 | _+1,.leave p fr obs=>J (.leave p fr obs)
 | _+1,.code [] fr obs=>aB1 E fn g J true fr obs
 | n+1,.code (k::ks) fr obs=>(match k with
  | .inB _=>bN E fn g J n (.code ks fr obs)
  | .inL b=>J (.head (.code b:: .inL b::ks) fr obs)
  | .beginR=>J (.code (.beginR::ks) fr obs)
  | .code q=>match q with
   | .skip=>bN E fn g J n (.code ks fr obs)
   | .seq a b=>bN E fn g J n (.code (.code a:: .code b::ks) fr obs)
   | .block id b=>bN E fn g J n (.code (.code b:: .inB id::ks) fr obs)
   | .loop b=>J (.head (.code b:: .inL b::ks) fr obs)
   | .exit id=>(match BN id ks with
    | some ks=>bN E fn g J n (.code ks fr obs)
    | none=>False)
   | .ret=>aB1 E fn g J false fr obs
   | .rangeFunc x t as u=>J (.code (.code (.rangeFunc x t as u)::ks) fr obs)
   | .cond x a b=>(match ev fr x with
    | .bool p=>(p=true->J (.code (.code a::ks) fr obs))/\(p=false->J (.code (.code b::ks) fr obs))
    | _=>False)
   | .region id ops dr=>(match aHm ops.toList with
    | true=>J (.code (.code (.region id ops dr)::ks) fr obs)
    | false=>(match dr with
     | false=>bN E fn g J n (.mid ⟨ops.toList,false,[],ks⟩ 0 ops.toList [] fr obs)
     | true=>RN [] ops.toList fun tab=>bN E fn g J n (.mid ⟨ops.toList,true,tab,ks⟩ 0 ops.toList [] fr obs)))
   | _=>False)
 | n+1,.mid R _ [] _ fr obs=>bN E fn g J n (.code R.ks fr obs)
 | n+1,.mid R i (p::rest) br fr obs=>(match R.dr with
  | false=>(match cC R.all (ev fr) p.guard with
   | none=>False
   | some false=>(match p.dst with | none=>bN E fn g J n (.mid R (i+1) rest br fr obs) | some d=>zO fr d (.tup []) fun fr=>bN E fn g J n (.mid R (i+1) rest br fr obs))
   | some true=>bN E fn g J n (.pend R i p.dst rest br fr obs (eop E (eD E p.dst) (aO obs) (aE obs) (ev fr) p.op p.type)))
  | true=>(match cC R.all (evH R.tab R.all i fr) p.guard with
   | none=>False
   | some false=>(match p.dst with | none=>bN E fn g J n (.mid R (i+1) rest br fr obs) | some d=>zO fr d (.tup []) fun fr=>bN E fn g J n (.mid R (i+1) rest br fr obs))
   | some true=>ODL (nR E R.tab i br obs p.dst) fun e=>bN E fn g J n (.pend R i p.dst rest br fr obs (eop E (eD E p.dst) (aO obs) (aE e) (evH R.tab R.all i fr) p.op p.type))))
 | n+1,.pend R i d rest br fr obs r=>(match r with
  | .no=>False
  | .val v=>KD 4 v fun v=>bN E fn g J n (.got R i d rest br fr (aO obs) obs v)
  | .mkf f j cs=>KDL (KD 3) j fun j=>KDL (KD 3) cs fun cs=>bN E fn g J n (.got R i d rest br fr (aO obs) obs (.func f j cs))
  | .need p r=>p/\J (.pend R i d rest br fr obs r)
  | .alt p v w=>(p/\J (.got R i d rest br fr (aO obs) obs v))\/J (.got R i d rest br fr (aO obs) obs w)
  | .idx m f=>∃ x:Nat,m=(x:Int)/\J (.pend R i d rest br fr obs (f x))
  | .elem xs m f=>∃ x,xs[m]? =some x/\J (.pend R i d rest br fr obs (f x))
  | .byte l m=>∃ c,l[m]? =some c/\J (.got R i d rest br fr (aO obs) obs (.int .u8 (c.toNat:Int)))
  | .text xs=>∃ l:List UInt8,xs=l.map ub/\(l.length:Int)<=9223372036854775807/\J (.got R i d rest br fr (aO obs) obs (.str l))
  | .find es key f=>∃ o,bO es key=o/\J (.pend R i d rest br fr obs (f o))
  | .born x v=>(match (R.dr&&blD E d) with
   | true=>False
   | false=>OD x fun x=>ODL (bL obs (aO obs) x) fun obs'=>KD 4 v fun v=>bN E fn g J n (.got R i d rest br fr (aO obs) obs' v))
  | .upd k x v=>(match (!R.dr||(soN E R.tab R.all i d||(uoN E R.tab R.all i d&&nd (aE (nR E R.tab i br obs d) k)))) with
   | true=>OD x fun x=>ODL (bL obs k x) fun obs'=>KD 4 v fun v=>bN E fn g J n (.got R i d rest br fr (aO obs) obs' v)
   | false=>False)
  | .nilq xs h=>(match (!R.dr||soN E R.tab R.all i d) with
   | true=>∀ b:Bool,(b=true->xs=[])->J (.got R i d rest br fr (aO obs) obs (.bool (if h then !b else b)))
   | false=>False)
  | .call f args=>KDL (KD 5) args fun args=>(match R.dr with
   | false=>CallG E.P f args obs (fun v obs'=>J (.got R i d rest br fr (aO obs) obs' v)) (aCj E g J fr)
   | true=>match blD E d with
    | true=>False
    | false=>ODL (nR E R.tab i br obs d) fun e=>CallD E.P f args (soN E R.tab R.all i d) e (aO obs) obs (fun v obs'=>J (.got R i d rest br fr (aO obs) obs' v)) (aCj E g J fr))
  | .pan v=>(match (!R.dr||soN E R.tab R.all i d) with
   | true=>KD 5 v fun v=>(match E.rd with | some _=>False | none=>match E.df with | []=>aAq g .pan v obs | _::_=>J (.leave (some v) fr obs))
   | false=>False))
 | n+1,.got R i d rest br fr len obs v=>KD 4 v fun v=>ODL obs fun obs=>(match d with
  | none=>bN E fn g J n (.mid R (i+1) rest (bif R.dr then born i len (gB len obs) br else br) fr obs)
  | some d=>bif tI i rest then (match v with
    | .bool b=>(b=true->zO fr d (.bool true) fun fr=>J (.mid R (i+1) rest (bif R.dr then born i len (gB len obs) br else br) fr obs))/\
      (b=false->zO fr d (.bool false) fun fr=>J (.mid R (i+1) rest (bif R.dr then born i len (gB len obs) br else br) fr obs))
    | _=>False)
   else zO fr d v fun fr=>bN E fn g J n (.mid R (i+1) rest (bif R.dr then born i len (gB len obs) br else br) fr obs))
theorem vK {i n:Nat} (h:¬ i=n):Ap i n=false:=by
 cases a:Ap i n with
 | false=>rfl
 | true=>exact absurd (Jd a) h
theorem aB {i n:Nat} (h:Ap i n=true):i=n:=Jd h
theorem aS {a b:Bool} (h:(a&&b)=true):a=true/\b=true:=by simpa using h
theorem bF (l:List AObj):aO l=l.length:=by
 induction l with
 | nil=>rfl
 | cons x r a=>simp [aO,a]
theorem tB {l:List AObj}:∀ {n:Nat},n<l.length->l[n]? =some (aE l n):=by
 induction l with
 | nil=>intro n h;simp at h
 | cons x r a=>intro n h;cases n with
  | zero=>rfl
  | succ n=>simpa [aE] using a (n:=n) (by simpa using h)
theorem bS {l:List AObj}:∀ {n:Nat} {x:AObj},aE l n=x->x≠ .dead->l[n]? =some x:=by
 induction l with
 | nil=>intro n x h a;exact absurd h.symm (by simpa [aE] using a)
 | cons y r b=>intro n x h a;cases n with
  | zero=>simpa [aE] using h
  | succ n=>simpa using b (n:=n) h a
theorem fJ {l:List AObj}:∀ {n:Nat} {x:AObj},l[n]? =some x->aE l n=x:=by
 induction l with
 | nil=>intro n x h;simp at h
 | cons y r a=>intro n x h;cases n with
  | zero=>simpa [aE] using h
  | succ n=>exact a (n:=n) (by simpa using h)
theorem gM {l:List AObj}:∀ {n:Nat} (x:AObj),n<l.length->bL l n x=l.set n x:=by
 induction l with
 | nil=>intro n x h;simp at h
 | cons y r a=>intro n x h;cases n with
  | zero=>rfl
  | succ n=>simp only [bL,List.set_cons_succ];rw [a x (by simpa using h)]
theorem JK (l:List AObj) (x:AObj):bL l l.length x=l++[x]:=by
 induction l with
 | nil=>rfl
 | cons y r a=>simp [bL,a]
theorem kI (n:Nat):∀ (l:List AVal),jC n l=l.drop n:=by
 induction n with
 | zero=>intro l;cases l<;>rfl
 | succ n a=>intro l;cases l with
  | nil=>rfl
  | cons c r=>simpa [jC] using a r
theorem iA {n:Nat}:∀ {l r:List AVal},kG n l=some r->r.length=n/\∀ (i:Nat) c,r[i]? =some c->l[i]? =some c:=by
 induction n with
 | zero=>intro l r h;cases h;exact ⟨rfl,fun i c g=>by simp at g⟩
 | succ n b=>
  intro l r h
  cases l with
  | nil=>cases h
  | cons c l=>
   simp only [kG] at h
   split at h
   .rename_i j f
    cases h
    obtain ⟨h1,e⟩:=b f
    refine ⟨by simp [h1],fun i d a=>?_⟩
    cases i with
    | zero=>simpa using a
    | succ i=>simpa using e i d (by simpa using a)
   .cases h
theorem UP:∀ {new l r:List AVal},N9 new l=some r->new.length<=l.length/\r.length=l.length/\∀ (i:Nat),r[i]? =if i<new.length then new[i]? else l[i]?:=by
 intro new
 induction new with
 | nil=>intro l r h;cases h;exact ⟨by simp,rfl,fun i=>by simp⟩
 | cons c new a=>
  intro l r h
  cases l with
  | nil=>cases h
  | cons d l=>
   simp only [N9] at h
   split at h
   .rename_i x b
    cases h
    obtain ⟨h1,e,h3⟩:=a b
    refine ⟨by simp;omega,by simp [e],fun i=>?_⟩
    cases i with
    | zero=>simp
    | succ i=>simpa using h3 i
   .cases h
theorem iQ {off:Nat}:∀ {new l r:List AVal},lL off new l=some r->off+new.length<=l.length/\r.length=l.length/\∀ (i:Nat),r[i]? =if off<=i/\i<off+new.length then new[i-off]? else l[i]?:=by
 induction off with
 | zero=>
  intro new l r h
  obtain ⟨h1,a,h3⟩:=UP (show N9 new l=some r by cases l<;>exact h)
  exact ⟨by omega,a,fun i=>by rw [h3 i];simp⟩
 | succ n e=>
  intro new l r h
  cases l with
  | nil=>cases h
  | cons c l=>
   simp only [lL] at h
   split at h
   .rename_i x d
    cases h
    obtain ⟨h1,a,h3⟩:=e d
    refine ⟨by simp;omega,by simp [a],fun i=>?_⟩
    cases i with
    | zero=>simp
    | succ i=>
     simp only [Eu,h3 i]
     by_cases b:n<=i/\i<n+new.length
     .rw [if_pos b,if_pos ⟨by omega,by omega⟩]
      congr 1
      omega
     .rw [if_neg b,if_neg o_]
   .cases h
theorem tQ (l:List AVal):K4 l=l.length:=by
 induction l with
 | nil=>rfl
 | cons c r a=>simp [K4,a]
theorem lG {α:Type} (l:List α):∀ (n:Nat),nth l n=l[n]?:=by
 induction l with
 | nil=>intro n;cases n<;>rfl
 | cons x r a=>intro n;cases n with
  | zero=>rfl
  | succ n=>simpa [nth] using a n
theorem lX {α:Type} {l:List α} {n:Nat} {x:α} (h:nth l n=some x):l[n]? =some x:=by rw [<-lG];exact h
theorem HJ (a b:List AVal):UZ a b=a++b:=by
 induction a with
 | nil=>rfl
 | cons c r d=>simp [UZ,d]
theorem tE (f:AVal->AVal) (l:List AVal):dK f l=l.map f:=by
 induction l with
 | nil=>rfl
 | cons c r a=>simp [dK,a]
theorem jX {n:Nat}:∀ {l:List Nat},qU n l=true↔n∈l
 | []=>by simp [qU]
 | x::r=>by
  simp only [qU,Eg,jX (l:=r),Ao]
  constructor
  .rintro (h | h)
   .exact .inl (aB h).symm
   .exact .inr h
  .rintro (h | h)
   .subst h;exact .inl s_
   .exact .inr h
theorem EE (fr:List (Nat×AVal)) (n m:Nat) (x:AVal):aZ (eZ fr n x) m=if m=n then x else aZ fr m:=by
 induction fr with
 | nil=>
  simp only [eZ,aZ]
  by_cases h:m=n
  .subst h;simp
  .rw [vK (fun e=>h e.symm),if_neg h];rfl
 | cons p r b=>
  obtain ⟨i,v⟩:=p
  simp only [eZ]
  cases a:Ap i n with
  | true=>
   have:=aB a
   subst this
   simp only [cond_true,aZ]
   by_cases h:m=i
   .subst h;simp
   .rw [vK (fun e=>h e.symm),if_neg h];rfl
  | false=>
   simp only [cond_false,aZ,b]
   by_cases h:m=n
   .subst h
    rw [a,if_pos rfl,if_pos rfl];rfl
   .rw [if_neg h,if_neg h]
theorem bA (b o j:Nat):(⟨b,o,none⟩:Addr).add j=⟨b,o+j,none⟩:=by
 unfold Addr.add;split<;>simp_all
theorem dW {α:Type} {b:Bool} {x:Option α} {r:α} (h:(bif b then x else none)=some r):b=true/\x=some r:=by
 cases b<;>simp at h;exact ⟨rfl,h⟩
section
variable {M:Imm} {ob:Hs} {obs:List AObj} {w:World}
theorem Rep.int_inv {v:Value} {k:IntKind} {n:Int} (h:Rep M ob v (.int k n)):v= .int k n/\inR k n:=by cases h with | int _ _ h=>exact ⟨rfl,h⟩
theorem Rep.bool_inv {v:Value} {b:Bool} (h:Rep M ob v (.bool b)):v= .bool b:=by cases h;rfl
theorem Rep.str_inv {v:Value} {l:List UInt8} (h:Rep M ob v (.str l)):v= .string ⟨l.toArray⟩/\(l.length:Int)<=9223372036854775807:=by cases h with | str _ h=>exact ⟨rfl,h⟩
theorem Rep.agg_inv {v:Value} {as:List AVal} (h:Rep M ob v (.agg as)):∃ vs:List Value,v= .agg vs.toArray/\vs.length=as.length/\∀ (i:Nat) u a,vs[i]? =some u->as[i]? =some a->Rep M ob u a:=by
 cases h with | agg vs as hl h=>exact ⟨vs,rfl,hl,h⟩
theorem Rep.tup_inv {v:Value} {as:List AVal} (h:Rep M ob v (.tup as)):∃ vs:List Value,v= .tuple vs.toArray/\vs.length=as.length/\∀ (i:Nat) u a,vs[i]? =some u->as[i]? =some a->Rep M ob u a:=by
 cases h with | tup vs as hl h=>exact ⟨vs,rfl,hl,h⟩
theorem Rep.ptr_inv {v:Value} {cs:List AVal} (h:Rep M ob v (.ptr cs)):∃ b o,v= .pointer (some ⟨b,o,none⟩)/\∀ (j:Nat) c,cs[j]? =some c->M b (o+j) c:=by
 cases h with | ptr b o cs h=>exact ⟨b,o,rfl,h⟩
theorem Rep.ref_inv {v:Value} {k off:Nat} (h:Rep M ob v (.ref k off)):∃ b,v= .pointer (some ⟨b,off,none⟩)/\at' ob k 0=some (.pointer (some ⟨b,0,none⟩)):=by
 cases h with | ref k off b h=>exact ⟨b,rfl,h⟩
theorem Rep.iface_inv {v:Value} {t:TypeId} {a:AVal} (h:Rep M ob v (.iface t a)):∃ u,v= .iface t u/\Rep M ob u a:=by
 cases h with | iface _ v _ h=>exact ⟨v,rfl,h⟩
theorem Rep.row_inv {v:Value} {k g:Nat} (h:Rep M ob v (.row k g)):∃ a n c,v= .slice a n c/\at' ob k g=some (.slice a n c):=by
 cases h with | row _ _ a n c h=>exact ⟨a,n,c,rfl,h⟩
theorem Rep.untok {v:Value} {sz:Nat} {xs:List AVal} {t:Tk} (h:Rep M ob v (.slice sz xs t)):Rep M ob v (.slice sz xs .no)/\qZ ob v t:=by
 cases h with
 | slnil sz t d=>exact ⟨.slnil sz .no trivial,d⟩
 | slemp sz t a c d=>exact ⟨.slemp sz .no a c trivial,d⟩
 | sl sz b o n c xs t e f hm hz h d=>exact ⟨.sl sz b o n c xs .no e f hm hz h trivial,d⟩
theorem Rep.tok {v:Value} {sz:Nat} {xs:List AVal} {t:Tk} (h:Rep M ob v (.slice sz xs .no)) (d:qZ ob v t):Rep M ob v (.slice sz xs t):=by
 cases h with
 | slnil sz _=>exact .slnil sz t d
 | slemp sz _ a c _=>exact .slemp sz t a c d
 | sl sz b o n c xs _ e f hm hz h _=>exact .sl sz b o n c xs t e f hm hz h d
theorem Rep.slice_pure {v:Value} {sz:Nat} {xs:List AVal} (h:Rep M ob v (.slice sz xs .no)):Rep M [] v (.slice sz xs .no):=by
 cases h with
 | slnil sz _=>exact .slnil sz .no trivial
 | slemp sz _ a c _=>exact .slemp sz .no a c trivial
 | sl sz b o n c xs _ d e hm hz h _=>exact .sl sz b o n c xs .no d e hm hz h trivial
theorem Rep.slice_inv {v:Value} {sz:Nat} {xs:List AVal} {t:Tk} (h:Rep M ob v (.slice sz xs t)):∃ a c,v= .slice a xs.length c/\(a=none->xs=[]/\c=0)/\(xs≠[]->xs.length<=c)/\(xs.length:Int)<=9223372036854775807:=by
 cases h with
 | slnil sz t e=>exact ⟨none,0,rfl,fun _=>⟨rfl,rfl⟩,fun h=>absurd rfl h,by simp⟩
 | slemp sz t a d e=>exact ⟨some a,d,rfl,fun h=>(by cases h),fun h=>absurd rfl h,by simp⟩
 | sl sz b o n d xs t f g hm hz h e=>subst f;exact ⟨_,d,rfl,fun h=>(by cases h),fun _=>g,hm⟩
theorem Rep.sl_inv {v:Value} {sz:Nat} {xs:List AVal} {t:Tk} (h:Rep M ob v (.slice sz xs t)):(v= .slice none 0 0/\xs=[])\/(∃ a d,v= .slice (some a) 0 d/\xs=[])\/
  ∃ b o d,v= .slice (some ⟨b,o,none⟩) xs.length d/\xs.length<=d/\(xs.length:Int)<=9223372036854775807/\(∀ x∈xs,x.cells.length=sz)/\∀ (i j:Nat) x c,xs[i]? =some x->x.cells[j]? =some c->M b (o+i*sz+j) c:=by
 cases h with
 | slnil sz t e=>exact .inl ⟨rfl,rfl⟩
 | slemp sz t a d e=>exact .inr (.inl ⟨a,d,rfl,rfl⟩)
 | sl sz b o n d xs t f g hm hz h e=>subst f;exact .inr (.inr ⟨b,o,d,rfl,g,hm,hz,h⟩)
theorem Rep.cells {v:Value} {a:AVal} (h:Rep M ob v a) (f:a≠ .undef):v.cells.toList.length=a.cells.length/\∀ (i:Nat) u c,v.cells.toList[i]? =some u->a.cells[i]? =some c->Rep M ob u c:=by
 have d:∀ {v:Value} {a:AVal},Rep M ob v a->v.cells= #[v]->a.cells=[a]->v.cells.toList.length=a.cells.length/\∀ (i:Nat) u c,v.cells.toList[i]? =some u->a.cells[i]? =some c->Rep M ob u c:=by
  intro v a h s w
  rw [s,w]
  refine ⟨rfl,fun i u c f e=>?_⟩
  cases i with
  | zero=>simp at f e;subst f;subst e;exact h
  | succ i=>simp at f
 cases h with
 | undef v=>exact absurd rfl f
 | agg vs as hl h=>exact ⟨by simpa [Value.cells,AVal.cells] using hl,fun i u c f e=>h i u c (by simpa [Value.cells] using f) (by simpa [AVal.cells] using e)⟩
 | row k g a n c h=>exact d (.row k g a n c h) rfl rfl
 | bool b=>exact d (.bool b) rfl rfl
 | int k n x=>exact d (.int k n x) rfl rfl
 | str l hl=>exact d (.str l hl) rfl rfl
 | tup vs as hl h=>exact d (.tup vs as hl h) rfl rfl
 | ptr b o cs h=>exact d (.ptr b o cs h) rfl rfl
 | ref k off b h=>exact d (.ref k off b h) rfl rfl
 | eref k g i sz off b n c h=>exact d (.eref k g i sz off b n c h) rfl rfl
 | csl k off len sz b h hm=>exact d (.csl k off len sz b h hm) rfl rfl
 | sub k g lo len sz b n c h hl m e hm=>exact d (.sub k g lo len sz b n c h hl m e hm) rfl rfl
 | sub0 k g lo sz a r n c h hl e=>exact d (.sub0 k g lo sz a r n c h hl e) rfl rfl
 | rowc k g c a n h hm=>exact d (.rowc k g c a n h hm) rfl rfl
 | pre k g n c sz b len h e m hl hm=>exact d (.pre k g n c sz b len h e m hl hm) rfl rfl
 | mref k b h=>exact d (.mref k b h) rfl rfl
 | nilptr=>exact d .nilptr rfl rfl
 | nilslice=>exact d .nilslice rfl rfl
 | nilmap=>exact d .nilmap rfl rfl
 | nilfunc=>exact d .nilfunc rfl rfl
 | nilif=>exact d .nilif rfl rfl
 | hsl a n c=>exact d (.hsl a n c) rfl rfl
 | slnil sz t p=>exact d (.slnil sz t p) rfl rfl
 | slemp sz t a j p=>exact d (.slemp sz t a j p) rfl rfl
 | sl sz b o n j xs t m e hm hz h p=>exact d (.sl sz b o n j xs t m e hm hz h p) rfl rfl
 | func fn y cs q z B e h1 A=>exact d (.func fn y cs q z B e h1 A) rfl rfl
 | iface t v a h=>exact d (.iface t v a h) rfl rfl
theorem Rep.one {v:Value} {a:AVal} (h:Rep M ob v a) (h1:one a=true):v.oneCell'=true:=by
 cases h<;>first | rfl | (simp [AW.one] at h1)
theorem jV {l:List AVal} (h:mY l=true):∀ (i:Nat) c,l[i]? =some c->one c=true:=by
 induction l with
 | nil=>intro i c a;simp at a
 | cons d r b=>
  simp only [mY,Af] at h
  intro i c a
  cases i with
  | zero=>simp at a;subst a;exact h.1
  | succ i=>exact b h.2 i c (by simpa using a)
theorem lW {c:AVal} (h:AW.one c=true):c.cells=[c]:=by cases c<;>first | rfl | cases h
theorem Rep.cells_one {v:Value} {a:AVal} (h:Rep M ob v a) (h1:mY a.cells=true):v.cells.toList.length=a.cells.length/\(∀ u∈v.cells.toList,u.oneCell'=true)/\∀ (i:Nat) u c,v.cells.toList[i]? =some u->a.cells[i]? =some c->Rep M ob u c:=by
 have g:a≠ .undef:=fun e=>by subst e;simp [AVal.cells,mY,AW.one] at h1
 obtain ⟨d,h3⟩:=h.cells g
 refine ⟨d,fun u hm=>?_,h3⟩
 obtain ⟨i,f⟩:=Cp hm
 have b:i<a.cells.length:=by rw [<-d];exact (Ab.1 f).1
 exact (h3 i u _ f (Aa b)).one (jV h1 i _ (Aa b))
end
theorem cM {ob:Hs} {obs:List AObj} {k:Nat} {x:AObj} {hs:List Value} (h1:obs[k]? =some x) (d:ob[k]? =some hs) {b:Nat}:aH ob obs k b↔x.owns=true/\b∈blk hs:=by
 constructor
 .rintro ⟨c,hs',e,h,a,g⟩
  rw [h1] at e
  rw [d] at a
  cases e
  cases a
  exact ⟨h,g⟩
 .rintro ⟨h3,f⟩
  exact ⟨x,hs,h1,h3,d,f⟩
theorem Mem.turn {M M':Imm} {ob:Hs} {obs:List AObj} {w w':World} (h:Mem M ob obs w) {k:Nat} {x x':AObj} {hs hs':List Value} (Q:obs[k]? =some x) (K:ob[k]? =some hs) (hp:hs<+:hs') (hd:x= .dead->hs=[])
  (Z:∀ b o y,M b o y->M' b o y) (z:∀ b o y,M' b o y->M b o y\/(x.owns=true/\b∈blk hs)\/w.heap.size<=b)
  (I:∀ b o y,M' b o y->∃ v,w'.cell? ⟨b,o,none⟩=some v/\v.oneCell'=true/\Rep M' [] v y)
  (heap:∀ b,b<w.heap.size->¬ (x.owns=true/\b∈blk hs)->w'.heap[b]? =w.heap[b]?)
  (V:w'.os=w.os) (B:w'.tape=w.tape) (H:w'.output=w.output) (s:w.heap.size<=w'.heap.size)
  (F:dL ob (ob.set k hs')->gZ M' (ob.set k hs') w' hs' x') (hb:x'.owns=true->∀ b,b∈blk hs'->((x.owns=true/\b∈blk hs)\/w.heap.size<=b)/\b<w'.heap.size) (T:x'≠ .dead:=by intro h;cases h):
  Mem M' (ob.set k hs') (obs.set k x') w'/\Ext M ob obs w M' (ob.set k hs') (obs.set k x') w'/\cJ ob obs (ob.set k hs') (obs.set k x'):=by
 have U:k<obs.length:=(Ab.1 Q).1
 have G:k<ob.length:=(Ab.1 K).1
 have u:dL ob (ob.set k hs'):=fun i l hl=>by
  by_cases f:i=k
  .subst f
   rw [K] at hl
   cases hl
   exact ⟨hs',Ax G,hp⟩
  .exact ⟨l,by rw [Bh (fun e=>f e.symm)];exact hl,Cz _⟩
 have p:∀ {i:Nat},i≠k->(obs.set k x')[i]? =obs[i]?/\(ob.set k hs')[i]? =ob[i]?:=fun {i} f=>
  ⟨Bh (fun e=>f e.symm),Bh (fun e=>f e.symm)⟩
 have n:(obs.set k x')[k]? =some x':=Ax U
 have m:(ob.set k hs')[k]? =some hs':=Ax G
 have d:∀ {i b:Nat},aH (ob.set k hs') (obs.set k x') i b->(i≠k/\aH ob obs i b)\/(i=k/\((x.owns=true/\b∈blk hs)\/w.heap.size<=b)/\b<w'.heap.size):=fun {i b} a=>by
  by_cases f:i=k
  .subst f
   have:=(cM n m).1 a
   exact .inr ⟨rfl,hb this.1 b this.2⟩
  .obtain ⟨c,l,C,L,Y,e4⟩:=a
   rw [(p f).1] at C
   rw [(p f).2] at Y
   exact .inl ⟨f,c,l,C,L,Y,e4⟩
 have r:∀ {b:Nat},x.owns=true/\b∈blk hs->aH ob obs k b:=fun a=>(cM Q K).2 a
 refine ⟨⟨I,by simp [h.len],fun i c D=>?_,fun i b a=>?_,fun i j b a A=>?_⟩,⟨Z,fun b o y R=>?_,u,V,B,H,s,fun b A hn=>heap b A fun a=>hn k (r a),fun i b a=>?_⟩,fun i l h1 t=>⟨fun h3=>?_,fun h3 X=>?_⟩⟩
 .by_cases f:i=k
  .subst f
   rw [n] at D
   cases D
   exact ⟨hs',m,F u⟩
  .rw [(p f).1] at D
   obtain ⟨l,hl,ho⟩:=h.obj i c D
   have J:∀ b,c.owns=true->b∈blk l->¬ (x.owns=true/\b∈blk hs)/\b<w.heap.size:=fun b h1 t=>by
    have a:aH ob obs i b:=(cM D hl).2 ⟨h1,t⟩
    exact ⟨fun hk=>f (h.inj i k b a (r hk)),h.lt i b a⟩
   refine ⟨l,by rw [(p f).2];exact hl,ho.mono Z u (fun b h1 t o S y R=>?_) (fun b c' h1 t O=>?_)⟩
   .obtain ⟨P,W⟩:=J b h1 t
    rcases z b o y R with q | q | q
    .exact S y q
    .exact P q
    .omega
   .obtain ⟨P,W⟩:=J b h1 t
    rw [heap b W P]
    exact O
 .rcases d a with ⟨_,a⟩ | ⟨_,_,N⟩
  .exact Dp (h.lt i b a) s
  .exact N
 .rcases d a with ⟨_,a⟩ | ⟨C,a,_⟩<;>rcases d A with ⟨_,g⟩ | ⟨L,g,_⟩
  .exact h.inj i j b a g
  .rcases g with g | g
   .rw [L];exact h.inj i k b a (r g)
   .have:=h.lt i b a;omega
  .rcases a with a | a
   .rw [C];exact h.inj k j b (r a) g
   .have:=h.lt j b g;omega
  .rw [C,L]
 .rcases z b o y R with q | q | q
  .exact .inl q
  .exact .inr (.inr ⟨k,r q⟩)
  .exact .inr (.inl q)
 .rcases d a with ⟨_,a⟩ | ⟨_,a | a,_⟩
  .exact .inl ⟨i,a⟩
  .exact .inl ⟨k,r a⟩
  .exact .inr a
 .have f:i≠k:=fun e=>by
   subst e
   rw [Q] at h1
   rw [K] at t
   cases h1
   cases t
   exact h3 (hd rfl)
  rw [(p f).1,(p f).2]
  exact ⟨h1,t⟩
 .by_cases f:i=k
  .subst f
   rw [n] at X
   cases X
   rw [m]
   have:=F u
   exact absurd rfl T
  .rw [(p f).2]
   exact h3▸t
theorem Mem.more {M M':Imm} {ob:Hs} {obs:List AObj} {w w':World} (h:Mem M ob obs w) (t:∀ b o y,M b o y->M' b o y) (d:∀ b o y,M' b o y->M b o y\/w.heap.size<=b)
  (g:∀ b o y,M' b o y->∃ v,w'.cell? ⟨b,o,none⟩=some v/\v.oneCell'=true/\Rep M' [] v y) (heap:∀ b,b<w.heap.size->w'.heap[b]? =w.heap[b]?)
  (p:w'.os=w.os) (e:w'.tape=w.tape) (f:w'.output=w.output) (a:w.heap.size<=w'.heap.size):Mem M' ob obs w'/\Ext M ob obs w M' ob obs w':=by
 refine ⟨⟨g,h.len,fun i c k=>?_,fun i b s=>Dp (h.lt i b s) a,h.inj⟩,⟨t,fun b o y m=>?_,dL.refl _,p,e,f,a,fun b u _=>heap b u,fun i b s=>.inl ⟨i,s⟩⟩⟩
 .obtain ⟨l,hl,x⟩:=h.obj i c k
  refine ⟨l,hl,x.mono t (dL.refl _) (fun b h1 r o n y m=>?_) (fun b z h1 r j=>?_)⟩
  .have:=h.lt i b ((cM k hl).2 ⟨h1,r⟩)
   rcases d b o y m with q | q
   .exact n y q
   .omega
  .rw [heap b (h.lt i b ((cM k hl).2 ⟨h1,r⟩))]
   exact j
 .rcases d b o y m with q | q
  .exact .inl q
  .exact .inr (.inl q)
theorem Mem.extend {M:Imm} {ob:Hs} {obs:List AObj} {w:World} (h:Mem M ob obs w) (n:Nat):
  Mem M (ob++Ah n []) (obs++Ah n .dead) w/\Ext M ob obs w M (ob++Ah n []) (obs++Ah n .dead) w/\cJ ob obs (ob++Ah n []) (obs++Ah n .dead):=by
 have part:∀ {i:Nat} {c:AObj},(obs++Ah n .dead)[i]? =some c->(i<obs.length/\obs[i]? =some c)\/(obs.length<=i/\c= .dead/\i-obs.length<n):=fun {i c} f=>by
  by_cases d:i<obs.length
  .rw [Ag d] at f;exact .inl ⟨d,f⟩
  .rw [Ak o_,Ds] at f
   split at f
   .rename_i g
    cases f;exact .inr ⟨by omega,rfl,g⟩
   .cases f
 have left:∀ {i:Nat},i<obs.length->(ob++Ah n ([]:List Value))[i]? =ob[i]?:=fun {i} d=>Ag (by rw [h.len];exact d)
 have k:dL ob (ob++Ah n []):=fun i l hl=>⟨l,by rw [Ag (Ab.1 hl).1];exact hl,Cz _⟩
 have a:∀ {i b:Nat},aH (ob++Ah n []) (obs++Ah n .dead) i b->aH ob obs i b:=fun {i b} ⟨c,l,o,e2,e3,e4⟩=>by
  rcases part o with ⟨d,o⟩ | ⟨_,rfl,_⟩
  .rw [left d] at e3;exact ⟨c,l,o,e2,e3,e4⟩
  .cases e2
 refine ⟨⟨h.imm,by simp [h.len],fun i c f=>?_,fun i b m=>h.lt i b (a m),fun i j b m q=>h.inj i j b (a m) (a q)⟩,⟨fun _ _ _ h=>h,fun _ _ _ h=>.inl h,k,rfl,rfl,rfl,Bg _,fun _ _ _=>rfl,fun i b m=>.inl ⟨i,a m⟩⟩,fun i l h1 p=>?_⟩
 .rcases part f with ⟨d,f⟩ | ⟨d,rfl,g⟩
  .obtain ⟨l,hl,r⟩:=h.obj i c f
   exact ⟨l,by rw [left d];exact hl,r.mono (fun _ _ _ h=>h) k (fun _ _ _ _ h=>h) (fun _ _ _ _ h=>h)⟩
  .refine ⟨[],?_,trivial⟩
   rw [Ak (by rw [h.len];exact d),Ds,if_pos (by rw [h.len];exact g)]
 .have d:=(Ab.1 h1).1
  exact ⟨fun _=>⟨by rw [Ag d];exact h1,by rw [left d];exact p⟩,fun e _=>by rw [left d];exact e▸p⟩
theorem E2 {sz:Nat} {xs:List AVal} {i j:Nat} {x c:AVal} (d:xs[i]? =some x) (a:x.cells[j]? =some c) (hz:x.cells.length=sz):aG sz xs (i*sz+j)=some c:=by
 have b:j<sz:=by rw [<-hz];exact (Ab.1 a).1
 have h1:(i*sz+j) / sz=i:=by
  rw [Dn,Jx o_,Jg b,Df]
 have e:(i*sz+j) % sz=j:=by rw [Dn,Lv,Jf b]
 simp [aG,h1,e,d,a]
theorem fX {sz:Nat} {xs:List AVal} {o:Nat} {c:AVal} (h:aG sz xs o=some c):∃ x,xs[o / sz]? =some x/\x.cells[o % sz]? =some c:=by
 unfold aG at h
 cases a:xs[o / sz]? with
 | none=>simp [a] at h
 | some x=>exact ⟨x,rfl,by simpa [a] using h⟩
theorem eS {sz:Nat} {xs:List AVal} {q:Nat} {c:AVal} (hs:0<sz) (h:aG sz xs q=some c):q<xs.length*sz:=by
 obtain ⟨x,a,_⟩:=fX h
 exact (Ef hs).1 (Ab.1 a).1
theorem vI {sz:Nat} {xs:List AVal} {q:Nat} (hs:0<sz) (hz:∀ x∈xs,x.cells.length=sz) (h:q<xs.length*sz):∃ c,aG sz xs q=some c:=by
 have a:q / sz<xs.length:=(Ef hs).2 h
 have b:xs[q / sz]? =some xs[q / sz]:=Aa a
 have d:q % sz<(xs[q / sz]).cells.length:=by rw [hz _ (Bf a)];exact Gp _ hs
 exact ⟨_,by unfold aG;rw [b];exact Aa d⟩
theorem cI {sz:Nat} {xs ys:List AVal} {o:Nat} (hs:0<sz) (h:o<xs.length*sz):aG sz (xs++ys) o=aG sz xs o:=by
 have a:o / sz<xs.length:=(Ef hs).2 h
 simp [aG,Ag a]
theorem cB {sz:Nat} {xs ys:List AVal} {o:Nat} (hs:0<sz) (h:xs.length*sz<=o):aG sz (xs++ys) o=aG sz ys (o-xs.length*sz):=by
 have b:xs.length<=o / sz:=(Jc hs).2 h
 obtain ⟨q,rfl⟩:=Nat.exists_eq_add_of_le h
 have h1:(xs.length*sz+q) / sz=xs.length+q / sz:=by rw [Dn,Jx hs]
 have a:(xs.length*sz+q) % sz=q % sz:=by rw [Dn,Lv]
 simp only [aG,h1,a,Gv]
 rw [Ak o_]
 simp
theorem lC {sz n:Nat} {xs:List AVal} {q:Nat} (hs:0<sz) (h:q<n*sz):aG sz (xs.take n) q=aG sz xs q:=by
 have a:q / sz<n:=(Ef hs).2 h
 simp [aG,Bl a]
theorem wN {sz n:Nat} {xs:List AVal} {q:Nat} (hs:0<sz):aG sz (xs.drop n) q=aG sz xs (n*sz+q):=by
 have h1:(n*sz+q) / sz=n+q / sz:=by rw [Dn,Jx hs]
 have a:(n*sz+q) % sz=q % sz:=by rw [Dn,Lv]
 simp [aG,h1,a,Bx]
theorem CX {sz i:Nat} {xs ys:List AVal} (hs:0<sz) (d:i+ys.length<=xs.length) {q:Nat} {c:AVal} (h:aG sz (xs.take i++ys++xs.drop (i+ys.length)) q=some c):
  (i*sz<=q/\q<i*sz+ys.length*sz/\aG sz ys (q-i*sz)=some c)\/((q<i*sz\/i*sz+ys.length*sz<=q)/\aG sz xs q=some c):=by
 have hl:(xs.take i).length=i:=by simp;omega
 have a:(xs.take i++ys).length=i+ys.length:=by simp;omega
 by_cases h1:q<i*sz
 .right
  refine ⟨.inl h1,?_⟩
  rw [Aj,cI hs (by rw [hl];exact h1),lC hs h1] at h
  exact h
 .by_cases b:q<i*sz+ys.length*sz
  .left
   rw [cI hs (by rw [a,Bv];exact b),cB hs (by rw [hl];omega),hl] at h
   exact ⟨by omega,b,h⟩
  .right
   refine ⟨.inr o_,?_⟩
   rw [cB hs (by rw [a,Bv];omega),wN hs,a] at h
   have:(i+ys.length)*sz+(q-(i+ys.length)*sz)=q:=by rw [Bv];omega
   rwa [this] at h
theorem eM {α:Type} (cv vs:List α) (off:Nat) (h:off+vs.length<=cv.length):(cv.take off++vs++cv.drop (off+vs.length)).length=cv.length/\
  ∀ (i:Nat),(cv.take off++vs++cv.drop (off+vs.length))[i]? =if off<=i/\i<off+vs.length then vs[i-off]? else cv[i]?:=by
 refine ⟨by simp;omega,fun i=>?_⟩
 by_cases h1:i<off
 .rw [Aj,Ag q_,if_neg o_,Bl h1]
 .by_cases a:i<off+vs.length
  .rw [if_pos ⟨by omega,a⟩,Aj,Ak q_,Ag q_]
   congr 1
   simp;omega
  .rw [if_neg o_,Ak q_,Bx]
   congr 1
   simp;omega
section
variable {M:Imm} {ob:Hs} {obs:List AObj} {w:World}
theorem eJ {hs:List Value} {g:Nat} {v:Value} (hl:hs.length=g+1) (a:hs[g]? =some v):blk hs=HG v:=by
 unfold blk
 rw [Kt,hl,Ii,a]
theorem qR {hs:List Value} {v:Value} {b:Nat} (h:blk hs=v.ownBlock.toList) (e:v.ownBlock=some b):b∈blk hs:=by rw [h,e];simp
theorem tA {hs:List Value} {v:Value} {b:Nat} (h:blk hs=v.ownBlock.toList) (e:b∈blk hs):v.ownBlock=some b:=by rw [h] at e;simpa using e
theorem dX {w:World} {e:TypeId} {sz n:Nat} {v:Value} {cv:List Value} (h:w.ownsRow 0 e sz v n cv):HG v=v.ownBlock.toList:=by
 rcases h.2 with ⟨rfl,_⟩ | ⟨g,a,b,rfl,_⟩<;>rfl
theorem bW {k g:Nat} {hs:List Value} (h:ob[k]? =some hs):at' ob k g=hs[g]?:=by simp [at',h]
theorem Mem.rowOf (h:Mem M ob obs w) {k g sz:Nat} {e:TypeId} {xs:List AVal} (c:obs[k]? =some (.row g sz e xs)):∃ hs v,ob[k]? =some hs/\hs.length=g+1/\hs[g]? =some v/\at' ob k g=some v/\dD M w v sz e xs/\blk hs=v.ownBlock.toList:=by
 obtain ⟨hs,h1,b,v,h3,a⟩:=h.obj k _ c
 refine ⟨hs,v,h1,b,h3,(bW h1).trans h3,a,(eJ b h3).trans ?_⟩
 obtain ⟨cv,d,_⟩:=a
 exact dX d
theorem Mem.rowTurn (h:Mem M ob obs w) {k g sz:Nat} {e:TypeId} {xs:List AVal} (G:obs[k]? =some (.row g sz e xs)) {hs:List Value} {v:Value} (D:ob[k]? =some hs) (N:hs[g]? =some v)
  {w':World} {p:Nat} {hs':List Value} {t:Value} {xs':List AVal} (hp:hs<+:hs') (s:hs'.length=p+1) (m:hs'[p]? =some t) (H:dD M w' t sz e xs')
  (heap:∀ b,b<w.heap.size->v.ownBlock≠some b->w'.heap[b]? =w.heap[b]?) (B:w'.os=w.os) (i:w'.tape=w.tape) (r:w'.output=w.output) (j:w.heap.size<=w'.heap.size)
  (L:∀ b,t.ownBlock=some b->v.ownBlock=some b\/w.heap.size<=b):
  Mem M (ob.set k hs') (obs.set k (.row p sz e xs')) w'/\Ext M ob obs w M (ob.set k hs') (obs.set k (.row p sz e xs')) w'/\cJ ob obs (ob.set k hs') (obs.set k (.row p sz e xs')):=by
 obtain ⟨K,R,F,Q,I,_,n,f⟩:=h.rowOf G
 rw [D] at F
 cases F
 rw [N] at I
 cases I
 obtain ⟨cv,J,_,_,_,A,_⟩:=n
 obtain ⟨cv',c,_⟩:=id H
 have l:∀ b o y,M b o y->v.ownBlock≠some b:=fun b o y x e=>A b e o y x
 refine h.turn G D hp (fun e=>by cases e) (fun _ _ _ h=>h) (fun _ _ _ h=>.inl h) (fun b o y x=>?_) (fun b z O=>heap b z fun e=>O ⟨rfl,qR f e⟩) B i r j (fun _=>?_) (fun _ b d=>?_)
 .obtain ⟨u,C,h1,P⟩:=h.imm b o y x
  exact ⟨u,(Co (w:=w) (a:=⟨b,o,none⟩) (heap b (Cr w _ C) (l b o y x))).trans C,h1,P⟩
 .exact ⟨s,t,m,H⟩
 .have d:=tA ((eJ s m).trans (dX c)) d
  refine ⟨?_,(c.lt b d).2⟩
  rcases L b d with q | q
  .exact .inl ⟨rfl,qR f q⟩
  .exact .inr q
theorem fP {α:Type} {l:List α} {k:Nat} {x:α} (h:l[k]? =some x):l.set k x=l:=by
 apply Fa
 intro i
 by_cases a:i=k
 .subst a
  rw [Ax (Ab.1 h).1,h]
 .rw [Bh (fun e=>a e.symm)]
theorem dD.write {v:Value} {sz:Nat} {e:TypeId} {xs xs':List AVal} (h:dD M w v sz e xs) {b n r:Nat} (I:v= .slice (some ⟨b,0,none⟩) n r) (hs:0<sz) {p:Nat} {news:List Value} (hp:p+news.length<=xs.length*sz)
  (h1:∀ u∈news,u.oneCell'=true) (hl:xs'.length=xs.length) (hz:∀ x∈xs',x.cells.length=sz)
  (L:∀ q c,aG sz xs' q=some c->(p<=q/\q<p+news.length/\∃ u,news[q-p]? =some u/\Rep M [] u c)\/((q<p\/p+news.length<=q)/\aG sz xs q=some c)):
  ∃ a,w.heap[b]? =some (.cells a e (0,0))/\p+news.length<=a.size/\dD M (w.setRow b (a.toList.take p++news++a.toList.drop (p+news.length)).toArray) v sz e xs':=by
 subst I
 obtain ⟨cv,⟨U,J⟩,h3,W,N,R,H⟩:=h
 rcases J with ⟨t,_⟩ | ⟨g,A,a,t,_,s,F,O,D,P⟩
 .cases t
 cases t
 have o:xs.length*sz<=a.size:=by rw [D];exact Bq _ F
 have i:p+news.length<=a.toList.length:=by rw [Fg];exact Cs hp o
 obtain ⟨G,C⟩:=eM a.toList news p i
 have m:∀ q,q<xs.length*sz->cv[q]? =a.toList[q]?:=fun q d=>by rw [<-P,Bl d]
 refine ⟨a,s,by rw [Fg] at i;exact i,(a.toList.take p++news++a.toList.drop (p+news.length)).take (xs.length*sz),⟨by rw [hl,Es,G,Fg];exact Fh o,.inr ⟨b,r,_,by rw [hl],Bt _,setRow_heap w b a _ e _ s,by rw [hl];exact F,O,?_,by rw [hl]⟩⟩,fun u f=>?_,hz,fun q c d=>?_,R,fun S Q B T V l u f=>?_⟩
 .rw [Gl,G,Fg,D]
 .obtain ⟨q,d⟩:=Cp f
  rw [Ft] at d
  split at d
  .rename_i j
   rw [C] at d
   split at d
   .exact h1 u (Av d)
   .rw [<-m q j] at d
    exact h3 u (Av d)
  .cases d
 .have j:=eS hs d
  rw [hl] at j
  rw [Bl j,C]
  rcases L q c d with ⟨z,y,u,f,K⟩ | ⟨z,y⟩
  .rw [if_pos ⟨z,y⟩];exact ⟨u,f,K⟩
  .rw [if_neg o_,<-m q j]
   exact N q c y
 .cases Q
  rw [setRow_heap w b a _ e _ s] at l
  cases l
  have k:∀ u∈a.toList,u.oneCell'=true:=H b rfl _ _ _ s
  simp only [Ay] at f
  rcases f with (f | f) | f
  .exact k u (Cq f)
  .exact h1 u f
  .exact k u (Du f)
theorem Mem.rowWrite {P:Program} (h:Mem M ob obs w) {k g sz:Nat} {e:TypeId} {xs xs':List AVal} (r:obs[k]? =some (.row g sz e xs)) {b n j:Nat} (y:at' ob k g=some (.slice (some ⟨b,0,none⟩) n j)) (hs:0<sz)
  {p:Nat} {news:List Value} (hp:p+news.length<=xs.length*sz) (h1:∀ u∈news,u.oneCell'=true) (hl:xs'.length=xs.length) (hz:∀ x∈xs',x.cells.length=sz)
  (B:∀ q c,aG sz xs' q=some c->(p<=q/\q<p+news.length/\∃ u,news[q-p]? =some u/\Rep M [] u c)\/((q<p\/p+news.length<=q)/\aG sz xs q=some c)):
  ∃ w',(storeCells ⟨b,p,none⟩ news).run P w= .ok () w'/\Mem M ob (obs.set k (.row g sz e xs')) w'/\Ext M ob obs w M ob (obs.set k (.row g sz e xs')) w'/\cJ ob obs ob (obs.set k (.row g sz e xs')):=by
 obtain ⟨d,v,o,z,s,t,a,l⟩:=h.rowOf r
 rw [y] at t
 cases t
 obtain ⟨i,D,A,F⟩:=a.write rfl hs hp h1 hl hz B
 have hst:=run_storeCells_at P b p e news 0 i w D (by simpa using A) h1
 simp only [Df] at hst
 refine ⟨_,hst,?_⟩
 have:=h.rowTurn (hs':=d) r o s (Cz _) z s F (fun m _ C=>setRow_other w b m _ (fun e=>C (by simp [Gg,e]))) rfl rfl rfl (by simp [Kh]) (fun m f=>.inl f)
 rw [fP o] at this
 exact this
end
theorem cA (w:World) (o:Obj):(w.alloc o).heap.size=w.heap.size+1:=by
 show (w.heap.push o).size=_
 simp
structure Grown (M:Imm) (w w':World) (sz:Nat) (e:TypeId) (v:Value) (xs:List AVal):Prop where
 own:∃ cv,w'.ownsRow 0 e sz v xs.length cv/\(∀ u∈cv,u.oneCell'=true)/\∀ (q:Nat) c,aG sz xs q=some c->∃ u,cv[q]? =some u/\Rep M [] u c
 pos:0<sz
 hz:∀ x∈xs,x.cells.length=sz
 blk:∀ b,v.ownBlock=some b->w.heap.size<=b
 heap:∀ b,b<w.heap.size->w'.heap[b]? =w.heap[b]?
 os:w'.os=w.os
 tape:w'.tape=w.tape
 output:w'.output=w.output
 size:w.heap.size<=w'.heap.size
 oneb:OQ w' v
section
variable {M:Imm} {ob:Hs} {obs:List AObj} {w w':World} {sz:Nat} {e:TypeId} {v:Value} {xs:List AVal}
theorem fI {w:World} {n:Nat} {cv:List Value} (h:w.ownsRow 0 e sz v n cv) {b:Nat} (c:v.ownBlock=some b) {q:Nat} {u:Value} (a:cv[q]? =some u):w.cell? ⟨b,q,none⟩=some u:=by
 have:=h.cells (g:=b) c q u a
 rwa [bA,Bp] at this
theorem dE {w:World} {n:Nat} {cv:List Value} (h:w.ownsRow 0 e sz v n cv):(v= .slice none 0 0/\n=0)\/∃ b a,v= .slice (some ⟨b,0,none⟩) n a/\v.ownBlock=some b/\n<=a/\a<=maxLen:=by
 rcases h.2 with h | ⟨g,a,i,c,_,_,f,d,_⟩
 .exact .inl h
 .exact .inr ⟨g,a,c,by rw [c];rfl,f,d⟩
def fS (M:Imm) (v:Value) (sz:Nat) (xs:List AVal):Imm:=fun b o x=>M b o x\/(v.ownBlock=some b/\aG sz xs o=some x)
theorem iN {w:World} {cv:List Value} (h:w.ownsRow 0 e sz v xs.length cv) (hz:∀ x∈xs,x.cells.length=sz) {t:Tk} (f:qZ ob v t):Rep (fS M v sz xs) ob v (.slice sz xs t):=by
 rcases dE h with ⟨rfl,m⟩ | ⟨b,a,g,k,n,o⟩
 .have:xs=[]:=Aq m
  subst this
  exact .slnil sz t f
 .subst g
  refine .sl sz b 0 xs.length a xs t rfl n (by simp only [maxLen] at o;omega) hz (fun i j x c d l=>.inr ⟨k,?_⟩) f
  rw [Bp]
  exact E2 d l (hz x (Av d))
theorem Grown.imm (g:Grown M w w' sz e v xs) (h:Mem M ob obs w):∀ b o y,fS M v sz xs b o y->∃ u,w'.cell? ⟨b,o,none⟩=some u/\u.oneCell'=true/\Rep (fS M v sz xs) [] u y:=by
 obtain ⟨cv,h1,l,h3⟩:=g.own
 intro b o y d
 rcases d with d | ⟨f,d⟩
 .obtain ⟨u,c,k,j⟩:=h.imm b o y d
  exact ⟨u,(Co (w:=w) (a:=⟨b,o,none⟩) (g.heap b (Cr w _ c))).trans c,k,j.monoM fun _ _ _ h=>.inl h⟩
 .obtain ⟨u,c,i⟩:=h3 o y d
  exact ⟨u,fI h1 f c,l u (Av c),i.monoM fun _ _ _ h=>.inl h⟩
theorem Grown.more (g:Grown M w w' sz e v xs) (h:Mem M ob obs w):Mem (fS M v sz xs) ob obs w'/\Ext M ob obs w (fS M v sz xs) ob obs w':=
 h.more (fun _ _ _ h=>.inl h) (fun b o y a=>by
  rcases a with a | ⟨c,_⟩
  .exact .inl a
  .exact .inr (g.blk b c)) (g.imm h) g.heap g.os g.tape g.output g.size
theorem Grown.row (g:Grown M w w' sz e v xs) (h:Mem M ob obs w) {k:Nat} (h1:obs[k]? =some .dead) (p:ob[k]? =some []):
  Mem M (ob.set k [v]) (obs.set k (.row 0 sz e xs)) w'/\Ext M ob obs w M (ob.set k [v]) (obs.set k (.row 0 sz e xs)) w'/\cJ ob obs (ob.set k [v]) (obs.set k (.row 0 sz e xs)):=by
 obtain ⟨cv,f,l,j⟩:=g.own
 refine h.turn h1 p ⟨[v],rfl⟩ (fun _=>rfl) (fun _ _ _ h=>h) (fun _ _ _ h=>.inl h) (fun b o y q=>?_) (fun b d _=>g.heap b d) g.os g.tape g.output g.size (fun _=>⟨rfl,v,rfl,cv,f,l,g.hz,j,fun b d o=>h.noImm (g.blk b d) o,g.oneb⟩) (fun _ b d=>?_)
 .obtain ⟨u,i,n,m⟩:=h.imm b o y q
  exact ⟨u,(Co (w:=w) (a:=⟨b,o,none⟩) (g.heap b (Cr w _ i))).trans i,n,m⟩
 .have c:v.ownBlock=some b:=tA (hs:=[v]) (dX f) d
  exact ⟨.inr (g.blk b c),(f.lt b c).2⟩
theorem Grown.tail (g:Grown M w w' sz e v xs) (h:Mem M ob obs w) {k:Nat} (h1:obs[k]? =some .dead) (j:ob[k]? =some []):
  Mem (fS M v sz xs) (ob.set k [v]) (obs.set k (.tail 0 sz e)) w'/\Ext M ob obs w (fS M v sz xs) (ob.set k [v]) (obs.set k (.tail 0 sz e)) w'/\cJ ob obs (ob.set k [v]) (obs.set k (.tail 0 sz e))/\
   Rep (fS M v sz xs) (ob.set k [v]) v (.slice sz xs (.own k 0)):=by
 obtain ⟨cv,i,n,m⟩:=g.own
 have l:k<ob.length:=(Ab.1 j).1
 have a:=h.turn (M':=fS M v sz xs) (w':=w') (x':=.tail 0 sz e) (hs':=[v]) h1 j ⟨[v],rfl⟩ (fun _=>rfl) (fun _ _ _ h=>.inl h) (fun b o y c=>by
  rcases c with c | ⟨d,_⟩
  .exact .inl c
  .exact .inr (.inr (g.blk b d))) (g.imm h) (fun b d _=>g.heap b d) g.os g.tape g.output g.size
  (fun _=>⟨rfl,v,rfl,_,cv,i,fun b d o p y c=>by
   rcases c with c | ⟨_,c⟩
   .exact h.noImm (g.blk b d) o y c
   .have:=eS g.pos c;omega⟩)
  (fun _ b d=>by
   have f:v.ownBlock=some b:=tA (hs:=[v]) (dX i) d
   exact ⟨.inr (g.blk b f),(i.lt b f).2⟩)
 refine ⟨a.1,a.2.1,a.2.2,iN i g.hz ?_⟩
 show at' _ k 0=some v
 rw [bW (Ax l)]
 rfl
end
theorem AC (w:World):OQ w (.slice none 0 0):=fun b a=>by cases a
theorem iE {z:Array Value} {n:Nat} (hz:z.toList.all (·.oneCell')=true):∀ u∈(Cc z n).toList,u.oneCell'=true:=by
 intro u c
 simp only [Cc,Hv,Bu] at c
 obtain ⟨i,d,rfl⟩:=c
 have a:0<z.size:=by
  refine Nat.pos_of_ne_zero fun e=>?_
  have:i<n*z.size:=by simpa using d
  rw [e] at this
  simp at this
 have b:i % z.size<z.size:=Gp _ a
 rw [getElem!_pos z _ b]
 exact Cj.1 hz _ s_
theorem mZ {w:World} {cs:List Value} {n c:Nat} {T:TypeId} (h:∀ u∈cs,u.oneCell'=true):OQ (w.alloc (.cells cs.toArray T)) (.slice (some ⟨w.heap.size,0,none⟩) n c):=by
 intro b e f i g a u d
 cases e
 rw [heap_alloc_new w _] at a
 cases a
 exact h u (by simpa using d)
theorem gL {P:Program} (w:World) (t O ty e:TypeId) (i:TypeInfo) (z:Value) (R:P.underlying t=some (.slice e)) (Q:P.info? e=some i) (hz:i.zero=some z) (hz1:z.cells.toList.all (·.oneCell')=true)
  (U:z.cells.size=i.size) (v:Value) (n:Nat) (a:List Value) (l:w.ownsRow 0 e i.size v n a) (X:∀ u∈a,u.oneCell'=true) (x:Value) (m:Nat) (news:List Value) (hs:Src P i.size O x m news w)
  (L:n+m<=maxLen) (s:(n+m)*i.bytes<=140737488355328):
  ∃ H w',(Cg #[t,O] ty #[v,x]).run P w= .ok H w'/\w'.ownsRow 0 e i.size H (n+m) (a++news)/\w'.os=w.os/\w'.tape=w.tape/\w'.output=w.output/\w.heap.size<=w'.heap.size/\
   ((H.ownBlock=v.ownBlock/\∀ b,v.ownBlock≠some b->w'.heap[b]? =w.heap[b]?)\/(H.ownBlock=some w.heap.size/\∀ b,b<w.heap.size->w'.heap[b]? =w.heap[b]?))/\(OQ w v->OQ w' H):=by
 have d:(a++news).length=(n+m)*i.size:=by rw [Ar,l.1,hs.newsLen,Bv]
 have h63':n+m<=4611686018427387904\/True:=.inr trivial
 have A:∀ (p:Nat),p<n+m->
   (w.drew.alloc (.cells ((a++news).toArray++Cc z.cells (grownCap w (n+m) p e-(n+m))) e)).ownsRow 0 e i.size
    (.slice (some ⟨w.heap.size,0,none⟩) (n+m) (grownCap w (n+m) p e)) (n+m) (a++news):=by
  intro p ho
  have V:=grownCap_ge w (n+m) p e
  have F:grownCap w (n+m) p e<=maxLen:=grownCap_le_maxLen w (n+m) p e L
  refine ⟨d,.inr ⟨w.heap.size,_,_,rfl,Bt _,heap_alloc_new w.drew _,V,F,?_,?_⟩⟩
  .simp only [Array.size_append,Gl,size_zeroCells,U,d,<-Bv]
   congr 1
   omega
  .simp only [Mk]
   rw [<-d]
   exact Kn
 have y:∀ (k n' c':Nat),OQ (w.drew.alloc (.cells ((a++news).toArray++Cc z.cells k) e)) (.slice (some ⟨w.heap.size,0,none⟩) n' c'):=by
  intro k n' c'
  have:(a++news).toArray++Cc z.cells k=((a++news)++(Cc z.cells k).toList).toArray:=by apply Cy;simp
  rw [this]
  refine mZ (w:=w.drew) fun u c=>?_
  rcases Ay.1 c with c | c
  .rcases Ay.1 c with c | c
   .exact X u c
   .exact hs.one u c
  .exact iE hz1 u c
 have N:∀ o,w.heap.size<=(w.drew.alloc o).heap.size:=fun o=>by rw [cA];show w.heap.size<=w.heap.size+1;omega
 have J:((n+m:Nat):Int)<=9223372036854775807:=by simp only [maxLen] at L;omega
 rcases l.2 with ⟨rfl,rfl⟩ | ⟨g,f,q,rfl,_,S,hnc,F,W,G⟩
 .have hx:a=[]:=Aq (by simpa using l.1)
  subst hx
  by_cases hm:m=0
  .subst hm
   have hn:news=[]:=Aq (by simpa using hs.newsLen)
   subst hn
   refine ⟨.slice none 0 0,w,?_,Hi w 0 e i.size,rfl,rfl,rfl,Bg _,.inl ⟨rfl,fun _ _=>rfl⟩,fun h=>h⟩
   rcases hs.kind with ⟨e',K⟩ | K<;>simp [Cg,run_underlying R,run_underlying K,sizeOf,typeInfo,Q,hs.len,hs.cells]
  .have M:=run_append_grow_src (P:=P) w t O ty e i z R Q hz none 0 0 [] (by simp [Bz]) x m news hs o_ J (growslice_fits o_ s)
   exact ⟨_,_,M,A 0 o_,rfl,rfl,rfl,N _,.inr ⟨rfl,fun b C=>heap_alloc_old w.drew _ C⟩,fun _=>y _ _ _⟩
 .by_cases r:n+m<=f
  .have I:n*i.size+news.length<=q.size:=by rw [hs.newsLen,W,<-Bv];exact Bq _ r
   have hst:=run_storeCells_at P g (n*i.size) e news 0 q w S (by simpa using I) hs.one
   simp only [Df] at hst
   have T:(⟨g,0,none⟩:Addr).add (n*i.size)=⟨g,n*i.size,none⟩:=by rw [bA,Bp]
   have M:(Cg #[t,O] ty #[.slice (some ⟨g,0,none⟩) n f,x]).run P w= .ok (.slice (some ⟨g,0,none⟩) (n+m) f) (w.setRow g (q.toList.take (n*i.size)++news++q.toList.drop (n*i.size+news.length)).toArray):=by
    rcases hs.kind with ⟨e',K⟩ | K<;>simp [Cg,run_underlying R,run_underlying K,sizeOf,typeInfo,Q,hs.len,r,hs.cells,T,hst]
   refine ⟨_,_,M,⟨d,.inr ⟨g,f,_,rfl,Bt _,setRow_heap w g q _ e _ S,r,F,?_,?_⟩⟩,rfl,rfl,rfl,by simp [Kh],.inl ⟨rfl,fun b C=>setRow_other w g b _ (fun e=>C (by simp [Gg,e]))⟩,fun Z b C cur' T' fz hc u c=>?_⟩
   .simp only [Gl,Ar,Es,Fo,Fg]
    omega
   .rw [G,<-d]
    exact Kn
   .cases C
    rw [setRow_heap w g q _ e _ S] at hc
    cases hc
    have B:∀ u∈q.toList,u.oneCell'=true:=Z g rfl _ _ _ S
    simp only [Ay] at c
    rcases c with (c | c) | c
    .exact B u (Cq c)
    .exact hs.one u c
    .exact B u (Du c)
  .have D:∀ (j:Nat) u,a[j]? =some u->w.cell? ((⟨g,0,none⟩:Addr).add j)=some u:=l.cells (g:=g) rfl
   have Y:(Bz i.size n (.slice (some ⟨g,0,none⟩) n f)).run P w.drew= .ok a.toArray w.drew:=run_firstCells_some w.drew i.size n ⟨g,0,none⟩ n f a l.1 (by simpa using D)
   have M:=run_append_grow_src (P:=P) w t O ty e i z R Q hz (some ⟨g,0,none⟩) n f a Y x m news hs o_ J (growslice_fits o_ s)
   exact ⟨_,_,M,A f o_,rfl,rfl,rfl,N _,.inr ⟨rfl,fun b C=>heap_alloc_old w.drew _ C⟩,fun _=>y _ _ _⟩
section
variable {M:Imm} {ob:Hs} {obs:List AObj} {w:World}
structure SrcA (P:Program) (M:Imm) (w:World) (sz:Nat) (tx:TypeId) (x:Value) (ys:List AVal):Prop where
 src:∃ news,Src P sz tx x ys.length news w/\∀ (q:Nat) c,aG sz ys q=some c->∃ u,news[q]? =some u/\Rep M [] u c
 hz:∀ y∈ys,y.cells.length=sz
 pre:∀ m,m<=ys.length->∃ news:List Value,(Bz sz m x).run P w= .ok news.toArray w/\news.length=m*sz/\(∀ u∈news,u.oneCell'=true)/\∀ (q:Nat) c,q<m*sz->aG sz ys q=some c->∃ u,news[q]? =some u/\Rep M [] u c
theorem Mem.appendRow {P:Program} (h:Mem M ob obs w) {t S ty e:TypeId} {i:TypeInfo} {z:Value} (ht:P.underlying t=some (.slice e)) (hi:P.info? e=some i) (hz:i.zero=some z) (hz1:z.cells.toList.all (·.oneCell')=true)
  (N:z.cells.size=i.size) (r:0<i.size) {k g:Nat} {xs ys:List AVal} (X:obs[k]? =some (.row g i.size e xs)) {v x:Value} (hv:at' ob k g=some v) (hs:SrcA P M w i.size S x ys)
  (O:xs.length+ys.length<=maxLen) (p:(xs.length+ys.length)*i.bytes<=140737488355328):
  ∃ a w' ob',(Cg #[t,S] ty #[v,x]).run P w= .ok a w'/\Mem M ob' (obs.set k (.row (g+1) i.size e (xs++ys))) w'/\Ext M ob obs w M ob' (obs.set k (.row (g+1) i.size e (xs++ys))) w'/\
   cJ ob obs ob' (obs.set k (.row (g+1) i.size e (xs++ys)))/\Rep M ob' a (.row k (g+1)):=by
 obtain ⟨n,v0,U,W,e3,Z,H,T⟩:=h.rowOf X
 rw [hv] at Z
 cases Z
 obtain ⟨cv,K,Y,o3,o4,o5,o6⟩:=H
 obtain ⟨⟨news,V,s2⟩,s3⟩:=hs
 obtain ⟨a,w',hr,f,R,s,J,B,j,A⟩:=gL (P:=P) w t S ty e i z ht hi hz hz1 N v xs.length cv K Y x ys.length news V O p
 have d:∀ b,a.ownBlock=some b->v.ownBlock=some b\/w.heap.size<=b:=fun b F=>by
  rcases j with ⟨q,_⟩ | ⟨q,_⟩
  .exact .inl (q▸F)
  .rw [q] at F;cases F;exact .inr (Bg _)
 have C:dD M w' a i.size e (xs++ys):=by
  refine ⟨cv++news,by rw [Ar];exact f,fun u D=>?_,fun y I=>?_,fun q c L=>?_,fun b F o=>?_,A o6⟩
  .rcases Ay.1 D with D | D
   .exact Y u D
   .exact V.one u D
  .rcases Ay.1 I with I | I
   .exact o3 y I
   .exact s3 y I
  .by_cases l:q<xs.length*i.size
   .rw [cI r l] at L
    rw [Ag (by rw [K.1];exact l)]
    exact o4 q c L
   .rw [cB r o_] at L
    rw [Ak (by rw [K.1];omega),K.1]
    exact s2 _ c L
  .rcases d b F with q | q
   .exact o5 b q o
   .exact h.noImm q o
 have Q:(n++[a]).length=g+1+1:=by simp [W]
 have G:(n++[a])[g+1]? =some a:=by rw [<-W];simp
 have:=h.rowTurn (hs':=n++[a]) X U e3 ⟨[a],rfl⟩ Q G C (fun b l hn=>by
  rcases j with ⟨_,q⟩ | ⟨_,q⟩
  .exact q b hn
  .exact q b l) R s J B d
 refine ⟨a,w',_,hr,this.1,this.2.1,this.2.2,?_⟩
 have hk:k<ob.length:=(Ab.1 U).1
 have m:at' (ob.set k (n++[a])) k (g+1)=some a:=by rw [bW (Ax hk)];exact G
 rcases dE f with ⟨q,_⟩ | ⟨b,cap,q,_⟩
 .rw [q] at m⊢;exact .row _ _ _ _ _ m
 .rw [q] at m⊢;exact .row _ _ _ _ _ m
theorem wA {v:Value} {sz:Nat} {xs:List AVal} {e:TypeId} {n:Nat} {cv:List Value} (d:Rep M ob v (.slice sz xs .no)) (g:w.ownsRow 0 e sz v n cv):n=xs.length:=by
 obtain ⟨a,c,rfl,h1,_⟩:=d.slice_inv
 rcases dE g with ⟨q,h⟩ | ⟨b,f,q,_⟩
 .injection q with _ q2 _;omega
 .injection q with _ q2 _;exact q2.symm
theorem Mem.appendTail {P:Program} (h:Mem M ob obs w) {t tx ty e:TypeId} {i:TypeInfo} {z:Value} (ht:P.underlying t=some (.slice e)) (hi:P.info? e=some i) (hz:i.zero=some z) (hz1:z.cells.toList.all (·.oneCell')=true)
  (hzs:z.cells.size=i.size) (s:0<i.size) {k g:Nat} {xs ys:List AVal} (S:obs[k]? =some (.tail g i.size e)) {v x:Value} (hv:Rep M ob v (.slice i.size xs (.own k g))) (hs:SrcA P M w i.size tx x ys)
  (h63:xs.length+ys.length<=maxLen) (N:(xs.length+ys.length)*i.bytes<=140737488355328):
  ∃ A w' M' ob',(Cg #[t,tx] ty #[v,x]).run P w= .ok A w'/\Mem M' ob' (obs.set k (.tail (g+1) i.size e)) w'/\Ext M ob obs w M' ob' (obs.set k (.tail (g+1) i.size e)) w'/\
   cJ ob obs ob' (obs.set k (.tail (g+1) i.size e))/\Rep M' ob' A (.slice i.size (xs++ys) (.own k (g+1))):=by
 obtain ⟨hvr,hvt⟩:=hv.untok
 have hvt':at' ob k g=some v:=hvt
 obtain ⟨H,e1,e2,v0,e3,n,cv,C,o5⟩:=h.obj k _ S
 have e4:H[g]? =some v:=by rw [<-bW e1];exact hvt'
 rw [e4] at e3
 cases e3
 have hn:=wA hvr C
 subst hn
 obtain ⟨⟨news,s1,s2⟩,s3⟩:=hs
 -- the old row's cells
 have W:(∀ x∈xs,x.cells.length=i.size)/\(∀ u∈cv,u.oneCell'=true)/\(∀ (q:Nat) c,aG i.size xs q=some c->∃ u,cv[q]? =some u/\Rep M [] u c)/\∀ b,v.ownBlock=some b->b<w.heap.size/\∀ (q:Nat) u,cv[q]? =some u->w.cell? ⟨b,q,none⟩=some u:=by
  have r:∀ b,v.ownBlock=some b->∀ (q:Nat) u,cv[q]? =some u->w.cell? ⟨b,q,none⟩=some u:=fun b d q u m=>fI C d m
  cases hvr with
  | slnil sz t' X=>
   have:cv=[]:=Aq (by simpa using C.1)
   subst this
   exact ⟨fun x S=>by simp at S,fun u m=>by simp at m,fun q c B=>by simp [aG] at B,fun b d=>⟨(C.lt b d).2,r b d⟩⟩
  | slemp sz t' a cap X=>
   have:cv=[]:=Aq (by simpa using C.1)
   subst this
   exact ⟨fun x S=>by simp at S,fun u m=>by simp at m,fun q c B=>by simp [aG] at B,fun b d=>⟨(C.lt b d).2,r b d⟩⟩
  | sl sz b o n cap xs t' hn hc hm K hM X=>
   have ho:o=0:=by
    rcases dE C with ⟨q,_⟩ | ⟨b',cap',q,_⟩
    .cases q
    .cases q;rfl
   subst ho
   have p:∀ q,q<xs.length*i.size->∃ u c,cv[q]? =some u/\aG i.size xs q=some c/\u.oneCell'=true/\Rep M [] u c:=fun q B=>by
    obtain ⟨c,hc⟩:=vI s K B
    obtain ⟨y,l,hyc⟩:=fX hc
    have U:=hM _ _ y c l hyc
    have hqq:0+q / i.size*i.size+q % i.size=q:=by rw [Bp,Dn];exact Ig q _
    rw [hqq] at U
    obtain ⟨u,m,h1,F⟩:=h.imm b q c U
    have f:q<cv.length:=by rw [C.1];exact B
    have:=r b rfl q _ (Aa f)
    rw [m] at this
    cases this
    exact ⟨_,c,Aa f,hc,h1,F⟩
   refine ⟨K,fun u m=>?_,fun q c B=>?_,fun b d=>⟨(C.lt b d).2,r b d⟩⟩
   .obtain ⟨q,B⟩:=Cp m
    obtain ⟨u',c,h1,_,F,_⟩:=p q (by have:=(Ab.1 B).1;rw [C.1] at this;exact this)
    rw [B] at h1
    cases h1
    exact F
   .obtain ⟨u,c',h1,F,_,h3⟩:=p q (eS s B)
    rw [B] at F
    cases F
    exact ⟨u,h1,h3⟩
 obtain ⟨K,o2,o4,o6⟩:=W
 obtain ⟨A,w',V,j,hos,R,Y,O,I,honeb⟩:=gL (P:=P) w t tx ty e i z ht hi hz hz1 hzs v xs.length cv C o2 x ys.length news s1 h63 N
 have D:∀ b,A.ownBlock=some b->v.ownBlock=some b\/w.heap.size<=b:=fun b d=>by
  rcases I with ⟨q,_⟩ | ⟨q,_⟩
  .exact .inl (q▸d)
  .rw [q] at d;cases d;exact .inr (Bg _)
 have J:∀ b,b<w.heap.size->v.ownBlock≠some b\/A.ownBlock≠some b->w'.heap[b]? =w.heap[b]?:=fun b d hne=>by
  rcases I with ⟨e1,F⟩ | ⟨_,F⟩
  .exact F b (by rcases hne with h | h;exact h;rw [<-e1];exact h)
  .exact F b d
 have hzz:∀ y∈xs++ys,y.cells.length=i.size:=fun y l=>by
  rcases Ay.1 l with l | l
  .exact K y l
  .exact s3 y l
 have L:∀ (q:Nat) c,aG i.size (xs++ys) q=some c->∃ u,(cv++news)[q]? =some u/\u.oneCell'=true/\Rep M [] u c:=fun q c B=>by
  by_cases f:q<xs.length*i.size
  .rw [cI s f] at B
   obtain ⟨u,m,V⟩:=o4 q c B
   exact ⟨u,by rw [Ag (by rw [C.1];exact f)];exact m,o2 u (Av m),V⟩
  .rw [cB s o_] at B
   obtain ⟨u,m,V⟩:=s2 _ c B
   exact ⟨u,by rw [Ak (by rw [C.1];omega),C.1];exact m,s1.one u (Av m),V⟩
 have G:blk H=v.ownBlock.toList:=(eJ e2 e4).trans (dX C)
 have Z:(H++[A]).length=g+1+1:=by simp [e2]
 have Q:(H++[A])[g+1]? =some A:=by rw [<-e2];simp
 have T:∀ b o y,A.ownBlock=some b->M b o y->v.ownBlock=some b/\o<xs.length*i.size:=fun b o y d l=>by
  rcases D b d with q | q
  .refine ⟨q,?_⟩
   rcases Mn o (xs.length*i.size) with f | hge
   .exact f
   .exact absurd l (o5 b q o hge y)
  .exact absurd l (h.noImm q o y)
 have p:=h.turn (M':=fS M A i.size (xs++ys)) (w':=w') (x':=.tail (g+1) i.size e) (hs':=H++[A]) S e1 ⟨[A],rfl⟩ (fun e=>by cases e) (fun _ _ _ h=>.inl h) (fun b o y l=>by
   rcases l with l | ⟨d,_⟩
   .exact .inl l
   .rcases D b d with q | q
    .exact .inr (.inl ⟨rfl,qR G q⟩)
    .exact .inr (.inr q)) (fun b o y l=>by
   rcases l with l | ⟨d,l⟩
   .obtain ⟨u,m,h1,F⟩:=h.imm b o y l
    refine ⟨u,?_,h1,F.monoM fun _ _ _ h=>.inl h⟩
    by_cases d:A.ownBlock=some b
    .obtain ⟨q1,q2⟩:=T b o y d l
     have f:o<cv.length:=by rw [C.1];exact q2
     have:=(o6 b q1).2 o _ (Aa f)
     rw [m] at this
     cases this
     exact fI j d (by rw [Ag f];exact Aa f)
    .exact (Co (w:=w) (a:=⟨b,o,none⟩) (J b (Cr w _ m) (.inr d))).trans m
   .obtain ⟨u,m,h1,F⟩:=L o y l
    exact ⟨u,fI j d m,h1,F.monoM fun _ _ _ h=>.inl h⟩)
  (fun b f hn=>J b f (.inl fun e=>hn ⟨rfl,qR G e⟩)) hos R Y O
  (fun _=>⟨Z,A,Q,_,cv++news,j,fun b d o ho y l=>by
   rcases l with l | ⟨_,l⟩
   .have:=(T b o y d l).2
    rw [Bv] at ho;omega
   .have:=eS s l
    rw [Ar] at this;omega⟩)
  (fun _ b d=>by
   have hb':A.ownBlock=some b:=tA ((eJ Z Q).trans (dX j)) d
   refine ⟨?_,(j.lt b hb').2⟩
   rcases D b hb' with q | q
   .exact .inl ⟨rfl,qR G q⟩
   .exact .inr q)
 refine ⟨A,w',_,_,V,p.1,p.2.1,p.2.2,iN (by rw [Ar];exact j) hzz ?_⟩
 show at' _ k (g+1)=some A
 rw [bW (Ax (Ab.1 e1).1)]
 exact Q
theorem append_nil {P:Program} (h:Mem M ob obs w) {t s ty e:TypeId} {i:TypeInfo} {z:Value} (A:P.underlying t=some (.slice e)) (v:P.info? e=some i) (hz:i.zero=some z) (hz1:z.cells.toList.all (·.oneCell')=true)
  (o:z.cells.size=i.size) (m:0<i.size) {ys:List AVal} {x:Value} (hs:SrcA P M w i.size s x ys) (p:ys.length<=maxLen) (d:ys.length*i.bytes<=140737488355328):
  ∃ n w',(Cg #[t,s] ty #[.slice none 0 0,x]).run P w= .ok n w'/\Grown M w w' i.size e n ys:=by
 obtain ⟨⟨news,u,B⟩,C⟩:=hs
 obtain ⟨n,w',y,a,r,g,l,j,c,f⟩:=gL (P:=P) w t s ty e i z A v hz hz1 o _ 0 [] (Hi w 0 e i.size) s_ x ys.length news u (by simpa using p) (by simpa using d)
 rw [Bp,Jz] at a
 refine ⟨n,w',y,⟨news,a,u.one,B⟩,m,C,fun b k=>?_,fun b k=>?_,r,g,l,j,f (AC w)⟩
 .rcases c with ⟨q,_⟩ | ⟨q,_⟩
  .rw [q] at k;cases k
  .rw [q] at k;cases k;exact Bg _
 .rcases c with ⟨_,q⟩ | ⟨_,q⟩
  .exact q b (by simp [Gg])
  .exact q b k
end
section
variable {M:Imm} {ob:Hs} {obs:List AObj} {w:World}
theorem Mem.sliceCells (h:Mem M ob obs w) {sz b o:Nat} {xs:List AVal} (hs:0<sz) (hz:∀ x∈xs,x.cells.length=sz)
  (hm:∀ (i j:Nat) x c,xs[i]? =some x->x.cells[j]? =some c->M b (o+i*sz+j) c):
  ∃ vs:List Value,vs.length=xs.length*sz/\(∀ (j:Nat) u,vs[j]? =some u->w.cell? ⟨b,o+j,none⟩=some u)/\(∀ u∈vs,u.oneCell'=true)/\
   ∀ (q:Nat) c,aG sz xs q=some c->∃ u,vs[q]? =some u/\Rep M [] u c:=by
 have key:∀ q,q<xs.length*sz->∃ u,w.cell? ⟨b,o+q,none⟩=some u/\u.oneCell'=true/\∀ c,aG sz xs q=some c->Rep M [] u c:=by
  intro q e
  obtain ⟨c,n⟩:=vI hs hz e
  obtain ⟨x,r,l⟩:=fX n
  have p:o+q / sz*sz+q % sz=o+q:=by have:=Ig q sz;rw [Dn] at this;omega
  obtain ⟨v,a,h1,k⟩:=h.imm _ _ _ (hm _ _ _ _ r l)
  rw [p] at a
  exact ⟨v,a,h1,fun s g=>by rw [n] at g;cases g;exact k⟩
 refine ⟨(Db (xs.length*sz)).map fun q=>(w.cell? ⟨b,o+q,none⟩).getD undef,by simp,fun j u d=>?_,fun u d=>?_,fun q c e=>?_⟩
 .simp only [Bc] at d
  by_cases m:j<xs.length*sz
  .obtain ⟨v,a,_⟩:=key j m
   simp [Ch m,a] at d
   rw [a,d]
  .rw [Bj q_] at d
   simp at d
 .simp only [Bu,Gt] at d
  obtain ⟨q,e,rfl⟩:=d
  obtain ⟨v,a,h1,_⟩:=key q e
  simp [a,h1]
 .have f:=eS hs e
  obtain ⟨v,a,_,k⟩:=key q f
  exact ⟨v,by simp only [Bc,Ch f,Lw,a,Hw],k c e⟩
theorem zR {P:Program} {sz c m:Nat} {n:Nat} (hm:m<=0) {ys:List AVal}:∃ news:List Value,(Bz sz m (.slice none n c)).run P w= .ok news.toArray w/\news.length=m*sz/\(∀ u∈news,u.oneCell'=true)/\∀ (q:Nat) c,q<m*sz->aG sz ys q=some c->∃ u,news[q]? =some u/\Rep M [] u c:=by
 have:m=0:=o_
 subst this
 exact ⟨[],rfl,by simp,fun u a=>by simp at a,fun q c b=>by simp at b⟩
theorem JE {P:Program} {sz n c m:Nat} {a:Addr} {ys:List AVal} {vs:List Value} (hm:m*sz<=vs.length) (k:∀ (j:Nat) u,vs[j]? =some u->w.cell? (a.add j)=some u) (h1:∀ u∈vs,u.oneCell'=true)
  (i:∀ (q:Nat) c,aG sz ys q=some c->∃ u,vs[q]? =some u/\Rep M [] u c):
  ∃ news:List Value,(Bz sz m (.slice (some a) n c)).run P w= .ok news.toArray w/\news.length=m*sz/\(∀ u∈news,u.oneCell'=true)/\∀ (q:Nat) c,q<m*sz->aG sz ys q=some c->∃ u,news[q]? =some u/\Rep M [] u c:=by
 have hl:(vs.take (m*sz)).length=m*sz:=by simp;omega
 have e:Bz sz m (.slice (some a) n c)=loadCells a (m*sz):=rfl
 have:=run_loadCells_list (P:=P) w a (vs.take (m*sz)) (fun j v b=>by
  rw [Ft] at b
  split at b
  .exact k j v b
  .cases b)
 rw [hl] at this
 refine ⟨vs.take (m*sz),by rw [e];exact this,hl,fun u d=>h1 u (Cq d),fun q c h g=>?_⟩
 obtain ⟨u,d,f⟩:=i q c g
 exact ⟨u,by rw [Bl h];exact d,f⟩
theorem JD {P:Program} {sz c m n:Nat} {a:Addr} (hm:m<=0) {ys:List AVal}:∃ news:List Value,(Bz sz m (.slice (some a) n c)).run P w= .ok news.toArray w/\news.length=m*sz/\(∀ u∈news,u.oneCell'=true)/\∀ (q:Nat) c,q<m*sz->aG sz ys q=some c->∃ u,news[q]? =some u/\Rep M [] u c:=by
 have:m=0:=o_
 subst this
 have e:Bz sz 0 (.slice (some a) n c)=loadCells a (0*sz):=rfl
 have:=run_loadCells_list (P:=P) w a [] (fun j v f=>by simp at f)
 refine ⟨[],?_,by simp,fun u b=>by simp at b,fun q c d=>by simp at d⟩
 rw [e,Hr]
 exact this
theorem SrcA.ofSlice {P:Program} (h:Mem M ob obs w) {sz:Nat} (hs:0<sz) {k A:TypeId} (f:P.underlying k=some (.slice A)) {x:Value} {ys:List AVal} {t:Tk} (v:Rep M ob x (.slice sz ys t)):SrcA P M w sz k x ys:=by
 cases v with
 | slnil sz t p=>exact ⟨⟨[],Src.ofNil w f 0,fun q c g=>by simp [aG] at g⟩,fun y i=>by simp at i,fun m hm=>zR hm⟩
 | slemp sz t a d p=>exact ⟨⟨[],Src.ofSlice w f a 0 d [] s_ (fun j u e=>by simp at e) (fun u s=>by simp at s),fun q c g=>by simp [aG] at g⟩,fun y i=>by simp at i,fun m hm=>JD hm⟩
 | sl sz b o n d xs t z C hm hz B p=>
  subst z
  obtain ⟨vs,l1,l2,r,l⟩:=h.sliceCells hs hz B
  exact ⟨⟨vs,Src.ofSlice w f ⟨b,o,none⟩ _ d vs l1 (fun j u e=>by rw [bA];exact l2 j u e) r,l⟩,hz,fun m hm=>JE (vs:=vs) (by rw [l1];exact Bq _ hm) (fun j u e=>by rw [bA];exact l2 j u e) r l⟩
theorem SrcA.ofRow {P:Program} (h:Mem M ob obs w) {k g sz:Nat} {e:TypeId} {xs:List AVal} (hs:0<sz) (R:obs[k]? =some (.row g sz e xs)) {D W:TypeId} (s:P.underlying D=some (.slice W)) {v:Value} (O:at' ob k g=some v)
  {lo len:Nat} (hl:lo+len<=xs.length) {x:Value} (z:∀ b n c,v= .slice (some ⟨b,0,none⟩) n c->len≠0->∃ l,x= .slice (some ⟨b,lo*sz,none⟩) len l) (C:len=0->∃ a l,x= .slice a 0 l):SrcA P M w sz D x ((xs.drop lo).take len):=by
 obtain ⟨L,Y,_,_,_,K,p,_⟩:=h.rowOf R
 rw [O] at K
 cases K
 obtain ⟨cv,r,Q,N,S,X⟩:=p
 have hz:∀ y∈(xs.drop lo).take len,y.cells.length=sz:=fun y V=>N y (Du (Cq V))
 have f:((xs.drop lo).take len).length=len:=by simp;omega
 suffices hsuf:(∃ news,Src P sz D x len news w/\∀ (q:Nat) c,aG sz ((xs.drop lo).take len) q=some c->∃ u,news[q]? =some u/\Rep M [] u c)/\
   ∀ m,m<=len->∃ news:List Value,(Bz sz m x).run P w= .ok news.toArray w/\news.length=m*sz/\(∀ u∈news,u.oneCell'=true)/\∀ (q:Nat) c,q<m*sz->aG sz ((xs.drop lo).take len) q=some c->∃ u,news[q]? =some u/\Rep M [] u c by
  exact ⟨by rw [f];exact hsuf.1,hz,fun m hm=>hsuf.2 m (by rw [f] at hm;exact hm)⟩
 by_cases I:len=0
 .subst I
  obtain ⟨a,l,rfl⟩:=C rfl
  cases a with
  | none=>exact ⟨⟨[],Src.ofNil w s l,fun q c t=>by simp [aG] at t⟩,fun m hm=>zR hm⟩
  | some a=>exact ⟨⟨[],Src.ofSlice w s a 0 l [] s_ (fun j u d=>by simp at d) (fun u o=>by simp at o),fun q c t=>by simp [aG] at t⟩,fun m hm=>JD hm⟩
 .rcases dE r with ⟨q,Z⟩ | ⟨b,B,q,U,_⟩
  .omega
  .obtain ⟨l,rfl⟩:=z b _ B q I
   have A:(lo+len)*sz<=cv.length:=by rw [r.1];exact Bq _ hl
   have H:((cv.drop (lo*sz)).take (len*sz)).length=len*sz:=by rw [Es,Fo];rw [Bv] at A;omega
   have F:∀ (j:Nat) u,((cv.drop (lo*sz)).take (len*sz))[j]? =some u->w.cell? ((⟨b,lo*sz,none⟩:Addr).add j)=some u:=fun j u d=>by
    rw [Ft] at d
    split at d
    .rw [Bx] at d
     rw [bA]
     exact fI r U d
    .cases d
   have J:∀ u∈(cv.drop (lo*sz)).take (len*sz),u.oneCell'=true:=fun u o=>Q u (Du (Cq o))
   have G:∀ (j:Nat) c,aG sz ((xs.drop lo).take len) j=some c->∃ u,((cv.drop (lo*sz)).take (len*sz))[j]? =some u/\Rep M [] u c:=fun j c d=>by
    have i:=eS hs d
    rw [f] at i
    rw [lC hs i,wN hs] at d
    obtain ⟨u,o,T⟩:=S _ c d
    exact ⟨u,by rw [Bl i,Bx];exact o,T⟩
   exact ⟨⟨_,Src.ofSlice w s _ _ _ _ H F J,G⟩,fun m hm=>JE (by rw [H];exact Bq _ hm) F J G⟩
theorem nC (l:List UInt8):(⟨l.toArray⟩:ByteArray).size=l.length:=by simp [ByteArray.size]
theorem sV (c:UInt8):Rep M ob (.int .u8 c.toNat) (ub c):=.int _ _ ⟨by simp only [cL];omega,by simp only [bI];have:=c.toNat_lt;omega⟩
theorem O4 (l:List UInt8):∀ y∈l.map ub,y.cells.length=1:=fun y a=>by obtain ⟨c,_,rfl⟩:=Bu.1 a;rfl
theorem vG (l:List UInt8) (q:Nat):aG 1 (l.map ub) q=(l[q]?).map ub:=by
 unfold aG
 rw [Jt,Nat.mod_one,Bc]
 cases l[q]?<;>rfl
theorem SrcA.ofStr {P:Program} {g:TypeId} (j:P.underlying g=some .string) (l:List UInt8):SrcA P M w 1 g (.string ⟨l.toArray⟩) (l.map ub):=by
 have f:∀ (q:Nat) c,aG 1 (l.map ub) q=some c->∃ b,l[q]? =some b/\c=ub b:=fun q c a=>by
  rw [vG] at a
  obtain ⟨b,d,rfl⟩:=Cb.1 a
  exact ⟨b,d,rfl⟩
 refine ⟨⟨byteCells ⟨l.toArray⟩,?_,fun q c a=>?_⟩,O4 l,fun m hm=>⟨(l.take m).map fun b=>Ji .u8 b.toNat,?_,by have:=hm;simp at this⊢;omega,fun u h=>by obtain ⟨_,_,rfl⟩:=Bu.1 h;rfl,fun q c a i=>?_⟩⟩
 .have:=Src.ofString (P:=P) w j ⟨l.toArray⟩
  rw [nC] at this
  rw [Cw]
  exact this
 .rw [vG] at a
  obtain ⟨b,d,rfl⟩:=Cb.1 a
  exact ⟨.int .u8 b.toNat,by simp [byteCells,d],sV b⟩
 .have e:(Bz 1 m (.string ⟨l.toArray⟩)).run P w= .ok (((⟨l.toArray⟩:ByteArray).extract 0 m).data.map fun b=>Ji .u8 b.toNat) w:=rfl
  rw [e]
  congr 1
  apply Array.toList_inj.1
  rw [Hv,Lib.extract_data,Cn,Hu]
 .obtain ⟨b,d,rfl⟩:=f q c i
  rw [Nat.mul_one] at a
  exact ⟨.int .u8 b.toNat,by rw [Bc,Bl a,d];rfl,sV b⟩
theorem LP {P:Program} (h:Mem M ob obs w) {t L ty e:TypeId} {i:TypeInfo} {z:Value} (H:P.underlying t=some (.slice e)) (hi:P.info? e=some i) (hz:i.zero=some z) (hz1:z.cells.toList.all (·.oneCell')=true)
  (X:z.cells.size=i.size) (g:0<i.size) {xs ys:List AVal} {v x:Value} (hv:Rep M ob v (.slice i.size xs .full)) (hs:SrcA P M w i.size L x ys)
  (I:xs.length+ys.length<=maxLen) (p:(xs.length+ys.length)*i.bytes<=140737488355328):
  ∃ W w',(Cg #[t,L] ty #[v,x]).run P w= .ok W w'/\((ys=[]/\W=v/\w'=w)\/(ys≠[]/\Grown M w w' i.size e W (xs++ys))):=by
 obtain ⟨C,⟨a,n,S⟩⟩:=hv.untok
 obtain ⟨⟨news,G,s2⟩,s3⟩:=hs
 obtain ⟨a',c,T,h0,h1,_⟩:=C.slice_inv
 subst S
 cases T
 have Y:((xs.length+ys.length:Nat):Int)<=9223372036854775807:=by simp only [maxLen] at I;omega
 by_cases r:ys=[]
 .subst r
  refine ⟨_,w,?_,.inl ⟨rfl,rfl,rfl⟩⟩
  have hn:news=[]:=Aq (by simpa using G.newsLen)
  subst hn
  have F:Src P i.size L x 0 [] w:=G
  cases a with
  | none=>rcases F.kind with ⟨e',K⟩ | K<;>simp [Cg,run_underlying H,run_underlying K,sizeOf,typeInfo,hi,F.len,F.cells]
  | some a=>rcases F.kind with ⟨e',K⟩ | K<;>simp [Cg,run_underlying H,run_underlying K,sizeOf,typeInfo,hi,F.len,F.cells,storeCells]
 .have Q:0<ys.length:=Fz.2 r
  have pre:(∀ x∈xs,x.cells.length=i.size)/\∃ d:List Value,d.length=xs.length*i.size/\(Bz i.size xs.length (.slice a xs.length xs.length)).run P w.drew= .ok d.toArray w.drew/\(∀ u∈d,u.oneCell'=true)/\
    ∀ (q:Nat) c,aG i.size xs q=some c->∃ u,d[q]? =some u/\Rep M [] u c:=by
   have s:xs=[]->(∀ x∈xs,x.cells.length=i.size)/\∃ d:List Value,d.length=xs.length*i.size/\(Bz i.size xs.length (.slice a xs.length xs.length)).run P w.drew= .ok d.toArray w.drew/\(∀ u∈d,u.oneCell'=true)/\
     ∀ (q:Nat) c,aG i.size xs q=some c->∃ u,d[q]? =some u/\Rep M [] u c:=by
    intro V
    subst V
    refine ⟨fun x V=>by simp at V,[],by simp,?_,fun u f=>by simp at f,fun q c D=>by simp [aG] at D⟩
    cases a<;>simp [Bz,loadCells,loadCellsFrom]
   generalize A:Gc a xs.length xs.length=v at C
   cases C with
   | slnil sz t H=>have q:=s rfl;rw [A] at q;exact q
   | slemp sz t a cap H=>have q:=s rfl;rw [A] at q;exact q
   | sl sz b o n cap xs t hn hc hm m hM H=>
    injection A with v1 v2 v3
    subst v1
    obtain ⟨d,B,Z,N,U⟩:=h.sliceCells g m hM
    exact ⟨m,d,B,run_firstCells_some w.drew i.size _ ⟨b,o,none⟩ _ _ d B (fun j u hj=>by rw [bA];simpa using Z j u hj),N,U⟩
  obtain ⟨m,d,B,Z,N,U⟩:=pre
  have hr:=run_append_grow_src (P:=P) w t L ty e i z H hi hz a xs.length xs.length d Z x ys.length news G o_ Y (growslice_fits o_ p)
  have O:=grownCap_ge w (xs.length+ys.length) xs.length e
  have hcm:grownCap w (xs.length+ys.length) xs.length e<=maxLen:=grownCap_le_maxLen w (xs.length+ys.length) xs.length e I
  have l:(d++news).length=(xs.length+ys.length)*i.size:=by rw [Ar,B,G.newsLen,Bv]
  refine ⟨_,_,hr,.inr ⟨r,⟨d++news,⟨by rw [l,Ar],.inr ⟨w.heap.size,_,_,by rw [Ar],Bt _,heap_alloc_new w.drew _,by rw [Ar];exact O,hcm,?_,?_⟩⟩,fun u f=>?_,fun q c D=>?_⟩,g,fun y r=>?_,fun b R=>?_,fun b R=>heap_alloc_old w.drew _ R,rfl,rfl,rfl,by rw [cA];exact Il _,?_⟩⟩
  .simp only [Array.size_append,Gl,size_zeroCells,X,l,<-Bv]
   congr 1
   omega
  .rw [Ar]
   simp only [Mk]
   rw [<-l]
   exact Kn
  .rcases Ay.1 f with f | f
   .exact N u f
   .exact G.one u f
  .by_cases J:q<xs.length*i.size
   .rw [cI g J] at D
    rw [Ag (by rw [B];exact J)]
    exact U q c D
   .rw [cB g o_] at D
    rw [Ak (by rw [B];omega),B]
    exact s2 _ c D
  .rcases Ay.1 r with r | r
   .exact m y r
   .exact s3 y r
  .simp only [Gg,Dr] at R
   omega
  .have:∀ k,(d++news).toArray++Cc z.cells k=((d++news)++(Cc z.cells k).toList).toArray:=fun k=>by apply Cy;simp
   rw [this]
   refine mZ (w:=w.drew) fun u f=>?_
   rcases Ay.1 f with f | f
   .rcases Ay.1 f with f | f
    .exact N u f
    .exact G.one u f
   .exact iE hz1 u f
theorem Grown.ofAlloc {sz:Nat} {e:TypeId} {xs:List AVal} {cv:List Value} (d:0<sz) (a:cv.length=xs.length*sz) (h1:∀ u∈cv,u.oneCell'=true) (hz:∀ x∈xs,x.cells.length=sz) (hm:xs.length<=maxLen)
  (g:∀ (q:Nat) c,aG sz xs q=some c->∃ u,cv[q]? =some u/\Rep M [] u c):Grown M w (w.alloc (.cells cv.toArray e)) sz e (.slice (some ⟨w.heap.size,0,none⟩) xs.length xs.length) xs:=by
 refine ⟨⟨cv,⟨a,.inr ⟨w.heap.size,xs.length,cv.toArray,rfl,Bt _,heap_alloc_new w _,Bg _,hm,by simpa using a,by simp [<-a]⟩⟩,h1,g⟩,d,hz,fun b f=>?_,fun b f=>heap_alloc_old w _ f,rfl,rfl,rfl,by rw [cA];exact Il _,mZ h1⟩
 simp only [Gg,Dr] at f
 omega
theorem Mem.bornCells (h:Mem M ob obs w) {k:Nat} (h1:obs[k]? =some .dead) (g:ob[k]? =some []) {cv:List Value} {cs:List AVal} (T:TypeId) (hl:cv.length=cs.length) (c:∀ v∈cv,v.oneCell'=true)
  (m:∀ (i:Nat) v a,cv[i]? =some v->cs[i]? =some a->Rep M ob v a):
  Mem M (ob.set k [.pointer (some ⟨w.heap.size,0,none⟩)]) (obs.set k (.cells T cs)) (w.alloc (.cells cv.toArray T))/\Ext M ob obs w M (ob.set k [.pointer (some ⟨w.heap.size,0,none⟩)]) (obs.set k (.cells T cs)) (w.alloc (.cells cv.toArray T))/\
   cJ ob obs (ob.set k [.pointer (some ⟨w.heap.size,0,none⟩)]) (obs.set k (.cells T cs))/\Rep M (ob.set k [.pointer (some ⟨w.heap.size,0,none⟩)]) (.pointer (some ⟨w.heap.size,0,none⟩)) (.ref k 0):=by
 have j:k<ob.length:=(Ab.1 g).1
 have:=h.turn (M':=M) (w':=w.alloc (.cells cv.toArray T)) (x':=.cells T cs) (hs':=[.pointer (some ⟨w.heap.size,0,none⟩)]) h1 g ⟨_,rfl⟩ (fun _=>rfl) (fun _ _ _ h=>h) (fun _ _ _ h=>.inl h) (fun b o y r=>by
   obtain ⟨u,f,q,n⟩:=h.imm b o y r
   exact ⟨u,(Co (w:=w) (a:=⟨b,o,none⟩) (heap_alloc_old w _ (Cr w _ f))).trans f,q,n⟩)
  (fun b e _=>heap_alloc_old w _ e) rfl rfl rfl (by rw [cA];exact Il _) (fun d=>⟨_,rfl,fun o=>h.noImm (Bg _) o,cv,heap_alloc_new w _,hl,c,fun i v a l p=>(m i v a l p).mono (fun _ _ _ h=>h) d⟩)
  (fun _ b e=>by
   have:w.heap.size=b:=dI.1 e
   exact ⟨.inr o_,by rw [cA];omega⟩)
 refine ⟨this.1,this.2.1,this.2.2,.ref k 0 _ ?_⟩
 rw [bW (Ax j)]
 rfl
theorem Mem.bornMap (h:Mem M ob obs w) {k:Nat} (h1:obs[k]? =some .dead) (g:ob[k]? =some []) (d:Bool):
  Mem M (ob.set k [.map (some w.heap.size)]) (obs.set k (.mp d [])) (w.alloc (.map #[] 0))/\Ext M ob obs w M (ob.set k [.map (some w.heap.size)]) (obs.set k (.mp d [])) (w.alloc (.map #[] 0))/\
   cJ ob obs (ob.set k [.map (some w.heap.size)]) (obs.set k (.mp d []))/\Rep M (ob.set k [.map (some w.heap.size)]) (.map (some w.heap.size)) (.mref k):=by
 have m:k<ob.length:=(Ab.1 g).1
 have:=h.turn (M':=M) (w':=w.alloc (.map #[] 0)) (x':=.mp d []) (hs':=[.map (some w.heap.size)]) h1 g ⟨_,rfl⟩ (fun _=>rfl) (fun _ _ _ h=>h) (fun _ _ _ h=>.inl h) (fun b o y q=>by
   obtain ⟨u,f,p,n⟩:=h.imm b o y q
   exact ⟨u,(Co (w:=w) (a:=⟨b,o,none⟩) (heap_alloc_old w _ (Cr w _ f))).trans f,p,n⟩)
  (fun b e _=>heap_alloc_old w _ e) rfl rfl rfl (by rw [cA];exact Il _) (fun l=>⟨_,rfl,fun o=>h.noImm (Bg _) o,[],0,heap_alloc_new w _,rfl,fun i x y c=>by simp at c,fun i x c=>by simp at c,fun i j x y c=>by simp at c⟩)
  (fun _ b e=>by
   have:w.heap.size=b:=dI.1 e
   exact ⟨.inr o_,by rw [cA];omega⟩)
 refine ⟨this.1,this.2.1,this.2.2,.mref k _ ?_⟩
 rw [bW (Ax m)]
 rfl
theorem Mem.cellsTurn (h:Mem M ob obs w) {k:Nat} {T:TypeId} {cs cs':List AVal} (r:obs[k]? =some (.cells T cs)) {b:Nat} (q:at' ob k 0=some (.pointer (some ⟨b,0,none⟩))) {cv':List Value} (hl:cv'.length=cs'.length) (h1:∀ u∈cv',u.oneCell'=true)
  (A:∀ (i:Nat) v a,cv'[i]? =some v->cs'[i]? =some a->Rep M ob v a):
  Mem M ob (obs.set k (.cells T cs')) (w.setRow b cv'.toArray)/\Ext M ob obs w M ob (obs.set k (.cells T cs')) (w.setRow b cv'.toArray)/\cJ ob obs ob (obs.set k (.cells T cs')):=by
 obtain ⟨hs,n,c,j,g,cv,s,_⟩:=h.obj k _ r
 have:c=b:=by rw [bW n,j] at q;simpa using q
 subst this
 have f:=fP (l:=ob) n
 have:=h.turn (M':=M) (w':=w.setRow c cv'.toArray) (x':=.cells T cs') (hs':=hs) r n (Cz _) (fun e=>by cases e) (fun _ _ _ h=>h) (fun _ _ _ h=>.inl h) (fun b o y t=>by
   obtain ⟨u,x,F,B⟩:=h.imm b o y t
   have p:b≠c:=fun e=>by subst e;exact g o y t
   exact ⟨u,(Co (w:=w) (a:=⟨b,o,none⟩) (setRow_other w c b _ p)).trans x,F,B⟩)
  (fun b _ C=>setRow_other w c b _ fun e=>C ⟨rfl,by subst e;rw [j];exact dI.2 rfl⟩) rfl rfl rfl (by simp [Kh]) (fun m=>⟨c,j,g,cv',setRow_heap w c _ _ T _ s,hl,h1,fun i v a z D=>(A i v a z D).mono (fun _ _ _ h=>h) m⟩)
  (fun _ b d=>⟨.inl ⟨rfl,d⟩,by
   have:c=b:=by rw [j] at d;exact dI.1 d
   subst this
   have:=eY s
   simpa [Kh] using this⟩)
 rw [f] at this
 exact this
end
section
variable {M:Imm} {ob:Hs} {obs:List AObj} {w:World}
theorem bU {M':Imm} {ob':Hs} {f:AVal->AVal} (g:∀ v a,Rep M ob v a->Rep M' ob' v (f a)) {as:List AVal} {vs:List Value} (hl:vs.length=as.length) (h:∀ (i:Nat) v a,vs[i]? =some v->as[i]? =some a->Rep M ob v a):
  vs.length=(dK f as).length/\∀ (i:Nat) v a,vs[i]? =some v->(dK f as)[i]? =some a->Rep M' ob' v a:=by
 rw [tE]
 refine ⟨by simpa using hl,fun i v a e c=>?_⟩
 rw [Bc] at c
 obtain ⟨b,d,rfl⟩:=Cb.1 c
 exact g v b (h i v b e d)
theorem tT {k g:Nat} {v:Value} {hs:List Value} (h1:ob[k]? =some hs) (a:at' ob k g=some v):hs[g]? =some v:=by rw [<-bW h1];exact a
theorem aE9 {b o n sz:Nat} {xs:List AVal} (k:xs.length=n) (hm:(n:Int)<=9223372036854775807) (hz:∀ x∈xs,x.cells.length=sz) (h:∀ (i j:Nat) x c,xs[i]? =some x->x.cells[j]? =some c->M b (o+i*sz+j) c)
  {lo len d:Nat} (hl:lo+len<=n) (f:len<=d) {t:Tk} (g:qZ ob (.slice (some ⟨b,o+lo*sz,none⟩) len d) t):Rep M ob (.slice (some ⟨b,o+lo*sz,none⟩) len d) (.slice sz ((xs.drop lo).take len) t):=by
 refine .sl sz b _ len d _ t q_ f o_ (fun x a=>hz x (Du (Cq a))) (fun i j x c a e=>?_) g
 rw [Ft] at a
 split at a
 .rw [Bx] at a
  have:=h (lo+i) j x c a e
  rwa [Bv,<-Ib] at this
 .cases a
theorem Mem.pureV (h:Mem M ob obs w):∀ (n:Nat) (v:Value) (a:AVal),Rep M ob v a->Rep M [] v (pureV (aE obs) n a):=by
 intro n
 induction n with
 | zero=>intro v a _;exact .undef v
 | succ n y=>
  intro v a e
  cases e with
  | undef v=>exact .undef v
  | bool b=>exact .bool b
  | int k n e=>exact .int k n e
  | str l hl=>exact .str l hl
  | agg vs as hl e=>
   obtain ⟨h1,f⟩:=bU (y) hl e
   exact .agg vs _ h1 f
  | tup vs as hl e=>
   obtain ⟨h1,f⟩:=bU (y) hl e
   exact .tup vs _ h1 f
  | ptr b o cs e=>exact .ptr b o cs e
  | ref k off b m=>
   simp only [AW.pureV]
   split
   .rename_i cs r
    obtain ⟨hs,h1,H,f,h3⟩:=h.obj k _ (bS r s_)
    have:=tT h1 m
    rw [f] at this
    simp at this
    subst this
    exact .ptr _ _ _ fun j c d=>by rw [kI,Bx] at d;exact h3 _ c d
   .exact .undef _
  | eref k g i sz off b n c m=>exact .undef _
  | rowc k g c a n h hm=>exact .undef _
  | pre k g n c sz b len h d D hl hm=>exact .undef _
  | csl k off len sz b m hm=>
   simp only [AW.pureV]
   split
   .rename_i cs r
    cases z:Ap sz 1 with
    | false=>exact .undef _
    | true=>
     simp only [cond_true]
     split
     .rename_i l hl
      cases J:mY l with
      | false=>exact .undef _
      | true=>
       simp only [cond_true]
       obtain ⟨hs,h1,H,f,h3⟩:=h.obj k _ (bS r s_)
       have:=tT h1 m
       rw [f] at this
       simp at this
       subst this
       obtain ⟨l1,l2⟩:=iA hl
       refine .sl 1 _ off len len l .full l1 (Bg _) hm (fun x B=>?_) (fun i j x c B d=>?_) ⟨_,_,rfl⟩
       .obtain ⟨i,O⟩:=Cp B
        rw [lW (jV J i x O)];rfl
       .rw [lW (jV J i x B)] at d
        cases j with
        | succ j=>simp at d
        | zero=>
         simp at d
         subst d
         have:=l2 i x B
         rw [kI,Bx] at this
         have:=h3 _ x this
         simpa using this
     .exact .undef _
   .exact .undef _
  | row k g a n c m=>
   simp only [AW.pureV]
   split
   .rename_i A sz xs r
    cases z:Ap g A with
    | false=>exact .undef _
    | true=>
     have:=aB z
     subst this
     simp only [cond_true]
     obtain ⟨hs,h1,L,f,h3⟩:=h.obj k _ (bS r s_)
     have:=tT h1 m
     rw [f] at this
     cases this
     exact h3
   .exact .undef _
  | sub k g lo len sz b n c m hl D d hm=>
   simp only [AW.pureV]
   split
   .rename_i A s xs r
    cases z:(Ap g A&&Ap sz s) with
    | false=>exact .undef _
    | true=>
     obtain ⟨u,C⟩:=aS z
     have:=aB u
     have:=aB C
     subst_vars
     simp only [cond_true]
     obtain ⟨hs,h1,L,f,h3⟩:=h.obj k _ (bS r s_)
     have:=tT h1 m
     rw [f] at this
     cases this
     rcases h3.sl_inv with ⟨q,_⟩ | ⟨a,p,q,C⟩ | ⟨H,U,I,q,N,P,hz,S⟩
     .cases q
     .injection q with _ q3 _
      have:len=0:=o_
      subst this
      rw [Hl]
      exact .slemp _ _ _ _ trivial
     .injection q with u C q3
      injection u with u
      injection u with u q4 _
      subst u q4
      have:=aE9 (ob:=[]) (t:=.no) C.symm hm hz S D (show len<=c-lo by omega) trivial
      rw [Bp] at this
      exact this
   .exact .undef _
  | sub0 k g lo sz _ a n c m hl d=>
   simp only [AW.pureV]
   split
   .rename_i A s xs r
    cases z:(Ap g A&&Ap sz s) with
    | false=>exact .undef _
    | true=>
     simp only [cond_true,Hl]
     cases a with
     | none=>exact .slnil _ _ trivial
     | some a=>exact .slemp _ _ _ _ trivial
   .exact .undef _
  | mref k b m=>exact .undef _
  | nilptr=>exact .nilptr
  | nilslice=>exact .nilslice
  | nilmap=>exact .nilmap
  | nilfunc=>exact .nilfunc
  | nilif=>exact .nilif
  | hsl a n c=>exact .hsl a n c
  | slnil sz t K=>exact .slnil sz .no trivial
  | slemp sz t a p K=>exact .slemp sz .no a p trivial
  | sl sz b o n p xs t D d hm hz e K=>exact .sl sz b o n p xs .no D d hm hz e trivial
  | func fn Q cs V W T d F G=>
   obtain ⟨h1,f⟩:=bU (y) T F
   obtain ⟨h3,R⟩:=bU (y) d G
   exact .func fn Q cs _ _ h1 h3 f R
  | iface t v a e=>exact .iface t v _ (y v a e)
theorem aQ {k:Nat} {x y:AObj} (h:obs[k]? =some x):bL obs k y=obs.set k y:=gM y (Ab.1 h).1
def mO (M:Imm) (ob:Hs) (obs:List AObj) (w:World) (obs':List AObj):Prop:=∃ M',Mem M' ob obs' w/\Ext M ob obs w M' ob obs' w/\(∀ k:Nat,obs[k]? =some .dead->obs'[k]? =some .dead)/\obs'.length=obs.length
theorem mO.refl (h:Mem M ob obs w):mO M ob obs w obs:=⟨M,h,Ext.refl _ _ _ _,fun _ h=>h,rfl⟩
theorem mO.trans {a b:List AObj} (h:mO M ob obs w a) (k:∀ M',Mem M' ob a w->mO M' ob a w b):mO M ob obs w b:=by
 obtain ⟨c,h1,g,h3,d⟩:=h
 obtain ⟨l,n,e,f,j⟩:=k c h1
 exact ⟨l,n,g.trans e,fun i m=>f i (h3 i m),j.trans d⟩
theorem Mem.frzR (h:Mem M ob obs w) (k g:Nat):mO M ob obs w (AW.frzR obs k g):=by
 unfold AW.frzR
 split
 .rename_i A sz e xs q
  cases r:Ap g A with
  | false=>exact .refl h
  | true=>
   have:=aB r
   subst this
   simp only [cond_true]
   have j:=bS q s_
   rw [aQ j]
   obtain ⟨hs,v,p,F,B,G,⟨cv,n,t,s,x,D⟩,d⟩:=h.rowOf j
   have a:=h.turn (M':=fS M v sz xs) (w':=w) (x':=.frow g sz xs) (hs':=hs) j p (Cz _) (fun e=>by cases e) (fun _ _ _ h=>.inl h) (fun b o y c=>by
     rcases c with c | ⟨m,_⟩
     .exact .inl c
     .exact .inr (.inl ⟨rfl,qR d m⟩)) (fun b o y c=>by
     rcases c with c | ⟨m,c⟩
     .obtain ⟨u,f,h1,C⟩:=h.imm b o y c
      exact ⟨u,f,h1,C.monoM fun _ _ _ h=>.inl h⟩
     .obtain ⟨u,f,z⟩:=x o y c
      exact ⟨u,fI n m f,t u (Av f),z.monoM fun _ _ _ h=>.inl h⟩) (fun _ _ _=>rfl) rfl rfl rfl (Bg _)
    (fun _=>⟨v,B,iN n s trivial⟩) (fun e=>by cases e)
   rw [fP p] at a
   exact ⟨_,a.1,a.2.1,fun i l=>by rw [Bh (fun e=>by subst e;rw [j] at l;cases l)];exact l,by simp⟩
 .exact .refl h
theorem Mem.frz1 (h:Mem M ob obs w) (k:Nat):mO M ob obs w (AW.frz1 obs k):=by
 unfold AW.frz1
 split
 .rename_i cs t
  have l:=bS t s_
  rw [aQ l]
  obtain ⟨hs,n,r,p,z,cv,C,D,A,B⟩:=h.obj k _ l
  have q:cv.length=(dK (AW.pureV (aE obs) 4) cs).length/\∀ (i:Nat) v a,cv[i]? =some v->(dK (AW.pureV (aE obs) 4) cs)[i]? =some a->Rep M [] v a:=bU (h.pureV 4) D B
  let M':Imm:=fun b o y=>M b o y\/(b=r/\(dK (AW.pureV (aE obs) 4) cs)[o]? =some y)
  have d:=h.turn (M':=M') (w':=w) (x':=.fcells (dK (AW.pureV (aE obs) 4) cs)) (hs':=hs) l n (Cz _) (fun e=>by cases e) (fun _ _ _ h=>.inl h) (fun b o y f=>by
    rcases f with f | ⟨rfl,_⟩
    .exact .inl f
    .exact .inr (.inl ⟨rfl,by rw [p];exact dI.2 rfl⟩)) (fun b o y f=>by
    rcases f with f | ⟨rfl,f⟩
    .obtain ⟨u,s,h1,F⟩:=h.imm b o y f
     exact ⟨u,s,h1,F.monoM fun _ _ _ h=>.inl h⟩
    .have g:o<cv.length:=by rw [q.1];exact (Ab.1 f).1
     exact ⟨cv[o],by rw [cell_of_row w b _ _ _ (0,0) C];simp [g],A _ (Bf g),(q.2 o _ y (Aa g) f).monoM fun _ _ _ h=>.inl h⟩) (fun _ _ _=>rfl) rfl rfl rfl (Bg _)
   (fun _=>⟨r,p,fun j c x=>.inr ⟨rfl,x⟩⟩) (fun e=>by cases e)
  rw [fP n] at d
  exact ⟨_,d.1,d.2.1,fun i m=>by rw [Bh (fun e=>by subst e;rw [l] at m;cases m)];exact m,by simp⟩
 .exact .refl h
theorem Mem.foldO {f:List AObj->AVal->List AObj} (b:∀ (M:Imm) (obs:List AObj) (a:AVal),Mem M ob obs w->mO M ob obs w (f obs a)):∀ (l:List AVal) (M:Imm) (obs:List AObj),Mem M ob obs w->mO M ob obs w (foldO f obs l)
 | [],_,_,h=>.refl h
 | c::r,M,obs,h=>(b M obs c h).trans fun M' d=>Mem.foldO b r M' _ d
theorem Mem.frzV:∀ (n:Nat) (M:Imm) (obs:List AObj) (a:AVal),Mem M ob obs w->mO M ob obs w (frzV n obs a):=by
 intro n
 induction n with
 | zero=>intro M obs a h;exact .refl h
 | succ n d=>
  intro M obs a h
  cases a
  case agg cs=>exact Mem.foldO d _ _ _ h
  case tup cs=>exact Mem.foldO d _ _ _ h
  case func fn fs cs=>exact (Mem.foldO d _ _ _ h).trans fun M' e=>Mem.foldO d _ _ _ e
  case iface t v=>exact d _ _ _ h
  case ref k off=>
   simp only [AW.frzV]
   split
   .exact (Mem.foldO d _ _ _ h).trans fun M' e=>e.frz1 k
   .exact .refl h
  case csl k a b c=>
   simp only [AW.frzV]
   split
   .exact (Mem.foldO d _ _ _ h).trans fun M' e=>e.frz1 k
   .exact .refl h
  case row k g=>exact h.frzR k g
  case sub k g a b c=>exact h.frzR k g
  all_goals exact .refl h
theorem Mem.frzL (l:List AVal) (h:Mem M ob obs w):mO M ob obs w (frzL obs l):=Mem.foldO (Mem.frzV 6) l M obs h
theorem Mem.frzs:∀ (l:List Nat) (M:Imm) (obs:List AObj),Mem M ob obs w->mO M ob obs w (frzs l obs)
 | [],_,_,h=>.refl h
 | k::r,M,obs,h=>by
  unfold AW.frzs
  split
  .exact (h.frzR _ _).trans fun M' a=>Mem.frzs r M' _ a
  .exact (Mem.frzV 6 M obs _ h).trans fun M' a=>Mem.frzs r M' _ a
  .exact Mem.frzs r M _ h
end
theorem JF {k:Nat}:∀ {ks:List Nat} {j i:Nat},pos k j ks=some i->j<=i/\ks[i-j]? =some k
 | [],j,i,h=>by cases h
 | x::r,j,i,h=>by
  simp only [pos] at h
  cases a:Ap x k with
  | true=>
   rw [a] at h
   cases h
   have:=aB a
   subst this
   simp
  | false=>
   rw [a] at h
   obtain ⟨h1,b⟩:=JF (ks:=r) h
   refine ⟨by omega,?_⟩
   rw [show i-j=(i-(j+1))+1 from by omega]
   simpa using b
theorem P1 {k i:Nat} {ks:List Nat} (h:pos k 0 ks=some i):ks[i]? =some k:=by simpa using (JF h).2
theorem mA {obs:List AObj}:∀ {ks:List Nat},kP ks obs=true->(∀ (j k:Nat),ks[j]? =some k->(aE obs k).owns=true)/\ks.Nodup
 | [],_=>⟨fun j k h=>by simp at h,Hn⟩
 | x::r,h=>by
  simp only [kP,Af,Cm] at h
  obtain ⟨⟨h1,b⟩,h3⟩:=h
  obtain ⟨c,d⟩:=mA h3
  refine ⟨fun j k a=>?_,Bw.2 ⟨fun hm=>?_,d⟩⟩
  .cases j with
   | zero=>simp at a;subst a;exact h1
   | succ j=>exact c j k (by simpa using a)
  .rw [jX.2 hm] at b;cases b
theorem DT {l:List Nat} (h:l.Nodup):∀ {i j b:Nat},l[i]? =some b->l[j]? =some b->i=j:=by
 induction l with
 | nil=>intro i j b a;simp at a
 | cons x r d=>
  intro i j b a c
  rw [Bw] at h
  cases i with
  | zero=>cases j with
   | zero=>rfl
   | succ j=>simp at a c;subst a;exact absurd (Av c) h.1
  | succ i=>cases j with
   | zero=>simp at a c;subst c;exact absurd (Av a) h.1
   | succ j=>simp at a c;rw [d h.2 a c]
theorem eN {obs:List AObj} {k:Nat} (h:(aE obs k).owns=true):obs[k]? =some (aE obs k):=by
 refine bS rfl fun e=>?_
 rw [e] at h
 cases h
def gT (n0 j:Nat) (o:AObj) (hs:List Value):List Value:=
 if 0<dN o then (if j<n0 then hs.take 1 else [])++hs.drop (dN o) else hs
def dU (n0:Nat) (ob:Hs) (obs:List AObj):Nat->List Nat->Hs
 | _,[]=>[]
 | j,k::r=>gT n0 j (aE obs k) (ob.getD k [])::dU n0 ob obs (j+1) r
theorem fR {n0:Nat} {ob:Hs} {obs:List AObj}:∀ {ks:List Nat} {j i:Nat},(dU n0 ob obs j ks)[i]? =(ks[i]?).map fun k=>gT n0 (j+i) (aE obs k) (ob.getD k [])
 | [],j,i=>by simp [dU]
 | k::r,j,i=>by
  cases i with
  | zero=>simp [dU]
  | succ i=>simp only [dU,Eu,fR (ks:=r)];rw [show j+1+i=j+(i+1) from by omega]
theorem pI {n0:Nat} {ob:Hs} {obs:List AObj}:∀ {ks:List Nat} {j:Nat},(dU n0 ob obs j ks).length=ks.length
 | [],j=>rfl
 | k::r,j=>by simp [dU,pI (ks:=r)]
theorem H9 {n0:Nat} {a:List Nat} {obs:List AObj}:∀ {ks:List Nat} {j i:Nat},(vU n0 a obs j ks)[i]? =(ks[i]?).map fun k=>N6 n0 a obs (j+i) (aE obs k)
 | [],j,i=>by simp [vU]
 | k::r,j,i=>by
  cases i with
  | zero=>simp [vU]
  | succ i=>simp only [vU,Eu,H9 (ks:=r)];rw [show j+1+i=j+(i+1) from by omega]
theorem lS {n0:Nat} {a:List Nat} {obs:List AObj}:∀ {ks:List Nat} {j:Nat},(vU n0 a obs j ks).length=ks.length
 | [],j=>rfl
 | k::r,j=>by simp [vU,lS (ks:=r)]
theorem QQ {n0 j c g f:Nat} (h:gm n0 j c g=some f):(g=c/\f=(if j<n0 then (if c=0 then 0 else 1) else 0))\/(g≠c/\j<n0/\g=0/\f=0):=by
 unfold gm at h
 have k:∀ a b:Nat,Ap a b=decide (a=b):=fun a b=>by
  by_cases e:a=b
  .subst e;simp
  .rw [vK e];simp [e]
 have hl:∀ a b:Nat,Dy a b=decide (a<b):=fun a b=>by
  by_cases e:a<b
  .simp [Fe,e]
  .have:Dy a b=false:=by
    cases i:Dy a b with
    | false=>rfl
    | true=>exact absurd (by simpa [Fe] using i) e
   rw [this];simp [e]
 simp only [k,hl] at h
 by_cases h1:g=c
 .simp only [h1,decide_true,cond_true,Dr] at h
  left
  refine ⟨h1,h.symm.trans ?_⟩
  by_cases d:j<n0<;>by_cases h3:c=0<;>simp [d,h3]
 .simp only [h1,decide_false,cond_false] at h
  by_cases d:j<n0<;>by_cases h3:g=0<;>simp [d,h3] at h
  exact .inr ⟨h1,d,h3,h.symm⟩
theorem nJ (n0 j g:Nat):gm n0 j g g=some (if j<n0 then (if g=0 then 0 else 1) else 0):=by
 unfold gm
 simp only [Nat.beq_eq_true_eq,Ll,cond_true,Dr]
 by_cases a:j<n0
 .have:Dy j n0=true:=by simp [Fe,a]
  rw [this,if_pos a]
  by_cases h3:g=0
  .subst h3;rfl
  .rw [vK h3,if_neg h3];rfl
 .have:Dy j n0=false:=by
   cases b:Dy j n0 with
   | false=>rfl
   | true=>exact absurd (by simpa [Fe] using b) a
  rw [this,if_neg a];rfl
section
variable {M:Imm} {ob:Hs} {obs:List AObj} {w:World}
theorem Mem.histLen (h:Mem M ob obs w) {k:Nat} {hs:List Value} (d:(aE obs k).owns=true) (f:ob[k]? =some hs):hs.length=dN (aE obs k)+1:=by
 obtain ⟨hs',e,a⟩:=h.obj k _ (eN d)
 rw [f] at e
 cases e
 cases c:aE obs k with
 | dead=>rw [c] at d;cases d
 | fcells cs=>rw [c] at d;cases d
 | frow g sz xs=>rw [c] at d;cases d
 | cells T cs=>rw [c] at a;obtain ⟨b,rfl,_⟩:=a;rfl
 | row g sz e xs=>rw [c] at a;exact a.1
 | tail g sz e=>rw [c] at a;exact a.1
 | mp i es=>rw [c] at a;obtain ⟨b,rfl,_⟩:=a;rfl
 | bun g I=>rw [c] at a;exact a.1
theorem tP {n0 j g c:Nat} {o:AObj} {hs:List Value} (hl:hs.length=dN o+1) (e:gm n0 j (dN o) g=some c):(gT n0 j o hs)[c]? =hs[g]?:=by
 unfold gT
 rcases QQ e with ⟨rfl,rfl⟩ | ⟨h1,d,rfl,rfl⟩
 .by_cases a:0<dN o
  .rw [if_pos a]
   by_cases b:j<n0
   .rw [if_pos b,if_pos b,if_neg o_,Ak q_]
    simp only [Es,Bx]
    congr 1
    omega
   .rw [if_neg b,if_neg b]
    simp
  .rw [if_neg a]
   have:dN o=0:=o_
   rw [this]
   simp
 .have a:0<dN o:=o_
  rw [if_pos a,if_pos d,Ag q_]
  simp
theorem uZ {n0 j:Nat} {o:AObj} {hs:List Value} (hl:hs.length=dN o+1):(gT n0 j o hs).getLast? =hs.getLast?:=by
 unfold gT
 by_cases b:0<dN o
 .rw [if_pos b]
  rw [Mg,List.getLast?_drop,if_neg o_]
  have a:hs≠[]:=fun e=>by subst e;simp at hl
  rw [Ju a]
  rfl
 .rw [if_neg b]
theorem pJ {n0 j:Nat} {o:AObj} {hs:List Value} (hl:hs.length=dN o+1):(gT n0 j o hs).length=(if j<n0 then (if dN o=0 then 0 else 1) else 0)+1:=by
 unfold gT
 by_cases b:0<dN o
 .rw [if_pos b]
  by_cases a:j<n0
  .rw [if_pos a,if_pos a,if_neg o_];simp;omega
  .rw [if_neg a,if_neg a];simp;omega
 .rw [if_neg b]
  have:dN o=0:=o_
  simp [hl,this]
theorem Mem.cutAt (h:Mem M ob obs w) {n0:Nat} {ks:List Nat} (m:kP ks obs=true) {k j g c:Nat} {v:Value} (hp:pos k 0 ks=some j) (l:gm n0 j (dN (aE obs k)) g=some c) (i:at' ob k g=some v):
  at' (dU n0 ob obs 0 ks) j c=some v:=by
 have f:=P1 hp
 have d:=(mA m).1 j k f
 have a:k<ob.length:=by rw [h.len];exact (Ab.1 (eN d)).1
 have b:ob[k]? =some ob[k]:=Aa a
 have hl:=h.histLen d b
 have e:(dU n0 ob obs 0 ks)[j]? =some (gT n0 j (aE obs k) ob[k]):=by
  rw [fR,f]
  simp [b]
 rw [bW e,tP hl l]
 exact tT b i
theorem Mem.cvtV (h:Mem M ob obs w) {n0:Nat} {ks:List Nat} (r:kP ks obs=true):∀ (n:Nat) (v:Value) (a:AVal),Rep M ob v a->Rep M (dU n0 ob obs 0 ks) v (cvtV n0 ks (aE obs) n a):=by
 intro n
 induction n with
 | zero=>intro v a _;exact .undef v
 | succ n y=>
  intro v a m
  have G:∀ {n0 j c x:Nat},gm n0 j c 0=some x->x=0:=fun {n0 j c x} d=>by
   rcases QQ d with ⟨e,rfl⟩ | ⟨_,_,_,rfl⟩
   .subst e;by_cases I:j<n0<;>simp [I]
   .rfl
  have tok:∀ {v:Value} {sz:Nat} {xs:List AVal} {t:Tk},Rep M ob v (.slice sz xs t)->Rep M (dU n0 ob obs 0 ks) v (AW.cvtV n0 ks (aE obs) (n+1) (.slice sz xs t)):=by
   intro v sz xs t m
   obtain ⟨K,D⟩:=m.untok
   have p:Rep M (dU n0 ob obs 0 ks) v (.slice sz xs .no):=K.slice_pure.pure
   cases t with
   | no=>exact p
   | nil=>
    cases ks with
    | nil=>exact p
    | cons k ks=>exact p.tok D
   | full=>exact p.tok D
   | own k g=>
    simp only [AW.cvtV]
    split
    .rename_i j hp
     split
     .rename_i u d
      exact p.tok (show at' _ _ _=_ from h.cutAt r hp d D)
     .exact p
    .exact p
  cases m with
  | undef v=>exact .undef v
  | bool b=>exact .bool b
  | int k n m=>exact .int k n m
  | str l hl=>exact .str l hl
  | agg vs as hl m=>
   obtain ⟨h1,B⟩:=bU (y) hl m
   exact .agg vs _ h1 B
  | tup vs as hl m=>
   obtain ⟨h1,B⟩:=bU (y) hl m
   exact .tup vs _ h1 B
  | ptr b o cs m=>exact .ptr b o cs m
  | ref k off b f=>
   simp only [AW.cvtV]
   split
   .rename_i j hp
    split
    .rename_i x d
     have:=G d
     subst this
     exact .ref j off b (h.cutAt r hp d f)
    .exact .undef _
   .exact (h.pureV 1 _ _ (.ref k off b f)).pure
  | eref k g i sz off b n c f=>exact .undef _
  | rowc k g c a n h hm=>exact .undef _
  | pre k g n c sz b len h q z hl hm=>exact .undef _
  | csl k off len sz b f hm=>
   simp only [AW.cvtV]
   split
   .rename_i j hp
    split
    .rename_i x d
     have:=G d
     subst this
     exact .csl j off len sz b (h.cutAt r hp d f) hm
    .exact .undef _
   .exact (h.pureV 1 _ _ (.csl k off len sz b f hm)).pure
  | row k g a n c f=>
   simp only [AW.cvtV]
   split
   .rename_i j hp
    split
    .rename_i u d
     exact .row j u a n c (h.cutAt r hp d f)
    .exact .undef _
   .exact (h.pureV 1 _ _ (.row k g a n c f)).pure
  | sub k g lo len sz b n c f hl z q hm=>
   simp only [AW.cvtV]
   split
   .rename_i j hp
    split
    .rename_i u d
     exact .sub j u lo len sz b n c (h.cutAt r hp d f) hl z q hm
    .exact .undef _
   .exact (h.pureV 1 _ _ (.sub k g lo len sz b n c f hl z q hm)).pure
  | sub0 k g lo sz a H n c f hl q=>
   simp only [AW.cvtV]
   split
   .rename_i j hp
    split
    .rename_i u d
     exact .sub0 j u lo sz a H n c (h.cutAt r hp d f) hl q
    .exact .undef _
   .exact (h.pureV 1 _ _ (.sub0 k g lo sz a H n c f hl q)).pure
  | mref k b f=>
   simp only [AW.cvtV]
   split
   .rename_i j hp
    split
    .rename_i x d
     have:=G d
     subst this
     exact .mref j b (h.cutAt r hp d f)
    .exact .undef _
   .exact .undef _
  | nilptr=>exact .nilptr
  | nilslice=>exact .nilslice
  | nilmap=>exact .nilmap
  | nilfunc=>exact .nilfunc
  | nilif=>exact .nilif
  | hsl a n c=>exact .hsl a n c
  | slnil sz t A=>exact tok (.slnil sz t A)
  | slemp sz t a s A=>exact tok (.slemp sz t a s A)
  | sl sz b o n s xs t z q hm hz m A=>exact tok (.sl sz b o n s xs t z q hm hz m A)
  | func fn J cs O P N q C F=>
   obtain ⟨h1,B⟩:=bU (y) N C
   obtain ⟨h3,L⟩:=bU (y) q F
   exact .func fn J cs _ _ h1 h3 B L
  | iface t v a m=>exact .iface t v _ (y v a m)
theorem Mem.cvt (h:Mem M ob obs w) {n0:Nat} {ks:List Nat} (H:kP ks obs=true):
  Mem M (dU n0 ob obs 0 ks) (gK n0 ks obs) w/\(∀ j b,aH (dU n0 ob obs 0 ks) (gK n0 ks obs) j b->∃ k,ks[j]? =some k/\aH ob obs k b)/\
   (∀ j k b,ks[j]? =some k->aH ob obs k b->aH (dU n0 ob obs 0 ks) (gK n0 ks obs) j b):=by
 obtain ⟨u,R⟩:=mA H
 have hist:∀ {j k:Nat},ks[j]? =some k->∃ hs,ob[k]? =some hs/\hs.length=dN (aE obs k)+1/\(dU n0 ob obs 0 ks)[j]? =some (gT n0 j (aE obs k) hs)/\(gK n0 ks obs)[j]? =some (N6 n0 ks obs j (aE obs k))/\gZ M ob w hs (aE obs k):=by
  intro j k a
  have J:=u j k a
  obtain ⟨hs,B,G⟩:=h.obj k _ (eN J)
  refine ⟨hs,B,h.histLen J B,?_,?_,G⟩
  .rw [fR,a];simp [B]
  .unfold gK;rw [H9,a];simp
 have f:∀ j o,(N6 n0 ks obs j o).owns=o.owns:=fun j o=>by cases o<;>rfl
 have n:∀ j b,aH (dU n0 ob obs 0 ks) (gK n0 ks obs) j b->∃ k,ks[j]? =some k/\aH ob obs k b:=by
  rintro j b ⟨c,hs,C,Q,K,L⟩
  have a:∃ k,ks[j]? =some k:=by
   have:j<ks.length:=by
    have:=(Ab.1 C).1
    unfold gK at this
    rwa [lS] at this
   exact ⟨_,Aa this⟩
  obtain ⟨k,a⟩:=a
  obtain ⟨hs',A,t,y,x,_⟩:=hist a
  rw [x] at C
  rw [y] at K
  cases C
  cases K
  refine ⟨k,a,(cM (eN (u j k a)) A).2 ⟨by rw [<-f j];exact Q,?_⟩⟩
  unfold blk at L⊢
  rwa [uZ t] at L
 have D:∀ j k b,ks[j]? =some k->aH ob obs k b->aH (dU n0 ob obs 0 ks) (gK n0 ks obs) j b:=by
  intro j k b a p
  obtain ⟨hs',A,t,y,x,_⟩:=hist a
  have:=(cM (eN (u j k a)) A).1 p
  refine (cM x y).2 ⟨by rw [f];exact this.1,?_⟩
  unfold blk
  rw [uZ t]
  exact this.2
 refine ⟨⟨h.imm,by unfold gK;rw [pI,lS],fun j c l=>?_,fun j b p=>?_,fun i j b p F=>?_⟩,n,D⟩
 .have a:∃ k,ks[j]? =some k:=by
   have:j<ks.length:=by
    have:=(Ab.1 l).1
    unfold gK at this
    rwa [lS] at this
   exact ⟨_,Aa this⟩
  obtain ⟨k,a⟩:=a
  obtain ⟨hs,A,t,y,x,m⟩:=hist a
  rw [x] at l
  cases l
  refine ⟨_,y,?_⟩
  have hl:=pJ (n0:=n0) (j:=j) t
  have q:=nJ n0 j (dN (aE obs k))
  have d:=tP t q
  cases l:aE obs k with
  | dead=>exact trivial
  | fcells cs=>have:=u j k a;rw [l] at this;cases this
  | frow g sz xs=>have:=u j k a;rw [l] at this;cases this
  | cells T cs=>
   rw [l] at m
   obtain ⟨b,rfl,z,cv,s,r,U,S⟩:=m
   obtain ⟨O,V⟩:=bU (h.cvtV (n0:=n0) H 4) r S
   exact ⟨b,rfl,z,cv,s,O,U,V⟩
  | row g sz e xs=>
   rw [l] at m hl d
   obtain ⟨z,v,s,r⟩:=m
   simp only [N6,nJ]
   exact ⟨hl,v,d.trans s,r⟩
  | tail g sz e=>
   rw [l] at m hl d
   obtain ⟨z,v,s,r⟩:=m
   simp only [N6,nJ]
   exact ⟨hl,v,d.trans s,r⟩
  | mp W es=>
   rw [l] at m
   exact m
  | bun g I=>
   rw [l] at m hl d
   obtain ⟨z,v,s,r⟩:=m
   simp only [N6,nJ]
   exact ⟨hl,v,d.trans s,r⟩
 .obtain ⟨k,_,p⟩:=n j b p
  exact h.lt k b p
 .obtain ⟨k,N,p⟩:=n i b p
  obtain ⟨P,a,F⟩:=n j b F
  have:=h.inj k P b p F
  subst this
  exact DT R N a
end
theorem YJ (ks:List Nat):dJ.olenN ks=ks.length:=by
 induction ks with
 | nil=>rfl
 | cons k r a=>simp [dJ.olenN,a]
theorem gR {ks:List Nat} {base j k:Nat} (h:ks[j]? =some k):dJ ks base j=k:=by simp [dJ,lG,h]
theorem gS {ks:List Nat} {base j:Nat} (h:ks.length<=j):dJ ks base j=base+(j-ks.length):=by
 simp [dJ,lG,Bj h,YJ]
theorem aAr {ks:List Nat} {base:Nat} (f:ks.Nodup) (c:∀ (j k:Nat),ks[j]? =some k->k<base) {i j:Nat} (h:dJ ks base i=dJ ks base j):i=j:=by
 by_cases e:i<ks.length<;>by_cases d:j<ks.length
 .have b:=Aa e
  have a:=Aa d
  rw [gR b,gR a] at h
  rw [<-h] at a
  exact DT f b a
 .have b:=Aa e
  rw [gR b,gS o_] at h
  have:=c i _ b
  omega
 .have a:=Aa d
  rw [gR a,gS o_] at h
  have:=c j _ a
  omega
 .rw [gS o_,gS o_] at h
  omega
theorem UJ {ks:List Nat} {base:Nat} {obs:List AObj} (z:ks.Nodup) (q:∀ (j k:Nat),ks[j]? =some k->k<base):∀ (l:List AObj) (j:Nat) (a:List AObj),a.length=base+(j-ks.length)->
  (iX ks base obs j l a).length=base+(j+l.length-ks.length)/\(∀ (t:Nat) o,l[t]? =some o->(iX ks base obs j l a)[dJ ks base (j+t)]? =some (pG ks base obs (j+t) o))/\
   ∀ i,(∀ t,t<l.length->dJ ks base (j+t)≠i)->i<a.length->(iX ks base obs j l a)[i]? =a[i]?:=by
 intro l
 induction l with
 | nil=>intro j a hl;exact ⟨by simpa [iX] using hl,fun t o h=>by simp at h,fun i _ _=>rfl⟩
 | cons o r x=>
  intro j a hl
  simp only [iX]
  have f:(bL a (dJ ks base j) (pG ks base obs j o)).length=base+(j+1-ks.length)/\(bL a (dJ ks base j) (pG ks base obs j o))[dJ ks base j]? =some (pG ks base obs j o)/\
    ∀ i,dJ ks base j≠i->i<a.length->(bL a (dJ ks base j) (pG ks base obs j o))[i]? =a[i]?:=by
   by_cases p:j<ks.length
   .have u:=Aa p
    have d:=q j _ u
    rw [gR u,gM _ o_]
    exact ⟨by simp;omega,Ax o_,fun i c _=>Bh c⟩
   .rw [gS o_,<-hl,JK]
    exact ⟨by simp;omega,by simp,fun i _ c=>Ag c⟩
  obtain ⟨m,s,v⟩:=f
  obtain ⟨A,y,n⟩:=x (j+1) _ m
  have d:dJ ks base j<(bL a (dJ ks base j) (pG ks base obs j o)).length:=(Ab.1 s).1
  refine ⟨by rw [A];simp;omega,fun t w g=>?_,fun i c b=>?_⟩
  .cases t with
   | zero=>
    simp at g
    subst g
    show (iX ks base obs (j+1) r (bL a (dJ ks base j) (pG ks base obs j o)))[dJ ks base j]? =some (pG ks base obs j o)
    rw [n _ (fun t _ e=>?_) d,s]
    have:=aAr z q e
    omega
   | succ t=>
    have:=y t w (by simpa using g)
    rwa [show j+1+t=j+(t+1) from by omega] at this
  .rw [n i (fun t g=>?_) (by
    by_cases p:j<ks.length
    .rw [m];rw [hl] at b;omega
    .rw [m];rw [hl] at b;omega),v i (c 0 s_) b]
   have:=c (t+1) (by simpa using g)
   rwa [show j+(t+1)=j+1+t from by omega] at this
def hZ (ks:List Nat) (ob a:Hs):Hs:=
 (Db ob.length).map (fun k=>match pos k 0 ks with | some j=>ob.getD k []++(a.getD j []).drop 1 | none=>ob.getD k [])++a.drop ks.length
theorem X0 {ks:List Nat} (a:ks.Nodup) {j k:Nat} (h:ks[j]? =some k):pos k 0 ks=some j:=by
 have b:∀ (ks:List Nat) (j i:Nat),ks.Nodup->ks[j]? =some k->pos k i ks=some (i+j):=by
  intro ks
  induction ks with
  | nil=>intro j i _ h;simp at h
  | cons x r d=>
   intro j i a h
   rw [Bw] at a
   simp only [pos]
   cases j with
   | zero=>simp at h;subst h;simp
   | succ j=>
    have c:r[j]? =some k:=by simpa using h
    have:¬ x=k:=fun e=>a.1 (e▸Av c)
    rw [vK this]
    simp only [cond_false]
    rw [d j (i+1) a.2 c]
    congr 1
    omega
 simpa using b ks j 0 a h
section
variable {M M':Imm} {ob obK':Hs} {obs obs':List AObj} {w w':World}
theorem Mem.embAt (h:Mem M ob obs w) {ks:List Nat} (x:kP ks obs=true) (f:dL (dU 0 ob obs 0 ks) obK') {j g:Nat} {v:Value} (b:at' obK' j g=some v):
  at' (hZ ks ob obK') (dJ ks obs.length j) (iY ks obs j g)=some v:=by
 obtain ⟨u,z⟩:=mA x
 have e:∃ hs,obK'[j]? =some hs/\hs[g]? =some v:=by
  unfold at' at b
  cases r:obK'[j]? with
  | none=>rw [r] at b;cases b
  | some hs=>rw [r] at b;exact ⟨hs,rfl,b⟩
 obtain ⟨hs,l,o⟩:=e
 by_cases i:j<ks.length
 .have d:=Aa i
  have s:=u j _ d
  have c:ks[j]<ob.length:=by rw [h.len];exact (Ab.1 (eN s)).1
  have k:ob[ks[j]]? =some ob[ks[j]]:=Aa c
  have hl:=h.histLen s k
  have a:(dU 0 ob obs 0 ks)[j]? =some (gT 0 j (aE obs ks[j]) ob[ks[j]]):=by rw [fR,d];simp [k]
  obtain ⟨hs',q,t,y⟩:=f j _ a
  rw [l] at q
  cases q
  have A:(gT 0 j (aE obs ks[j]) ob[ks[j]]).length=1:=by rw [pJ hl];simp
  have p:(gT 0 j (aE obs ks[j]) ob[ks[j]])[0]? =ob[ks[j]][dN (aE obs ks[j])]?:=tP hl (by rw [nJ];simp)
  have n:(hZ ks ob obK')[ks[j]]? =some (ob[ks[j]]++hs.drop 1):=by
   unfold hZ
   rw [Ag q_,Bc,Ch c]
   simp [X0 z d,k,l]
  rw [gR d,bW n]
  have m:iY ks obs j g=dN (aE obs ks[j])+g:=by simp [iY,lG,d]
  rw [m]
  cases g with
  | zero=>
   rw [Df,Ag o_,<-p,<-o,<-y,Ag o_]
  | succ g=>
   rw [Ak o_,Bx,<-o]
   congr 1
   omega
 .have n:(hZ ks ob obK')[obs.length+(j-ks.length)]? =some hs:=by
   unfold hZ
   rw [Ak (by simp;rw [h.len];omega),Bx,<-l]
   congr 1
   simp [h.len]
   omega
  rw [gS o_,bW n]
  simpa [iY,lG,Bj (show ks.length<=j by omega)] using o
theorem KY {M':Imm} {obK' f:Hs} {ks:List Nat} {base:Nat} {obs:List AObj} (m:∀ {j g:Nat} {v:Value},at' obK' j g=some v->at' f (dJ ks base j) (iY ks obs j g)=some v)
  (B:∀ {j:Nat} {v:Value},at' obK' j 0=some v->(∃ b,v= .pointer (some ⟨b,0,none⟩))\/(∃ b,v= .map (some b))->at' f (dJ ks base j) 0=some v):
  ∀ (n:Nat) (v:Value) (a:AVal),Rep M' obK' v a->Rep M' f v (embV ks base obs n a):=by
 intro n
 induction n with
 | zero=>intro v a _;exact .undef v
 | succ n s=>
  intro v a d
  have tok:∀ {v:Value} {sz:Nat} {xs:List AVal} {t:Tk},Rep M' obK' v (.slice sz xs t)->Rep M' f v (AW.embV ks base obs (n+1) (.slice sz xs t)):=by
   intro v sz xs t d
   obtain ⟨F,z⟩:=d.untok
   have p:Rep M' f v (.slice sz xs .no):=F.slice_pure.pure
   cases t with
   | no=>exact p
   | nil=>exact p.tok z
   | full=>exact p.tok z
   | own k g=>exact p.tok (show at' _ _ _=_ from m z)
  cases d with
  | undef v=>exact .undef v
  | bool b=>exact .bool b
  | int k n d=>exact .int k n d
  | str l hl=>exact .str l hl
  | agg vs as hl d=>
   obtain ⟨h1,w⟩:=bU (s) hl d
   exact .agg vs _ h1 w
  | tup vs as hl d=>
   obtain ⟨h1,w⟩:=bU (s) hl d
   exact .tup vs _ h1 w
  | ptr b o cs d=>exact .ptr b o cs d
  | ref k off b e=>exact .ref _ off b (B e (.inl ⟨b,rfl⟩))
  | eref k g i sz off b n c e=>exact .undef _
  | rowc k g c a n h hm=>exact .undef _
  | pre k g n c sz b len h q x hl hm=>exact .undef _
  | csl k off len sz b e hm=>exact .csl _ off len sz b (B e (.inl ⟨b,rfl⟩)) hm
  | row k g a n c e=>exact .row _ _ a n c (m e)
  | sub k g lo len sz b n c e hl x q hm=>exact .sub _ _ lo len sz b n c (m e) hl x q hm
  | sub0 k g lo sz a C n c e hl q=>exact .sub0 _ _ lo sz a C n c (m e) hl q
  | mref k b e=>exact .mref _ b (B e (.inr ⟨b,rfl⟩))
  | nilptr=>exact .nilptr
  | nilslice=>exact .nilslice
  | nilmap=>exact .nilmap
  | nilfunc=>exact .nilfunc
  | nilif=>exact .nilif
  | hsl a n c=>exact .hsl a n c
  | slnil sz t u=>exact tok (.slnil sz t u)
  | slemp sz t a r u=>exact tok (.slemp sz t a r u)
  | sl sz b o n r xs t x q hm hz d u=>exact tok (.sl sz b o n r xs t x q hm hz d u)
  | func fn D cs I J H q y A=>
   obtain ⟨h1,w⟩:=bU (s) H y
   obtain ⟨h3,G⟩:=bU (s) q A
   exact .func fn D cs _ _ h1 h3 w G
  | iface t v a d=>exact .iface t v _ (s v a d)
theorem Mem.embV (h:Mem M ob obs w) {ks:List Nat} (y:kP ks obs=true) (m:dL (dU 0 ob obs 0 ks) obK') (F:(dU 0 ob obs 0 ks).length=ks.length):∀ (n:Nat) (v:Value) (a:AVal),Rep M' obK' v a->
  Rep M' (hZ ks ob obK') v (embV ks obs.length obs n a):=by
 have J:∀ {j:Nat} {v:Value},at' obK' j 0=some v->(∃ b,v= .pointer (some ⟨b,0,none⟩))\/(∃ b,v= .map (some b))->at' (hZ ks ob obK') (dJ ks obs.length j) 0=some v:=by
  intro j v s hs
  have:=h.embAt y m s
  by_cases x:j<ks.length
  .have B:=Aa x
   have p:dN (aE obs ks[j])=0:=by
    have D:=(mA y).1 j _ B
    obtain ⟨hs',C,d⟩:=h.obj _ _ (eN D)
    have f:(dU 0 ob obs 0 ks)[j]? =some (gT 0 j (aE obs ks[j]) hs'):=by rw [fR,B];simp [C]
    have hl:=h.histLen D C
    have A:(gT 0 j (aE obs ks[j]) hs')[0]? =hs'[dN (aE obs ks[j])]?:=tP hl (by rw [nJ];simp)
    have c:at' (dU 0 ob obs 0 ks) j 0=some v:=by
     have H:(gT 0 j (aE obs ks[j]) hs').length=1:=by rw [pJ hl];simp
     have t:=Aa (l:=gT 0 j (aE obs ks[j]) hs') (i:=0) o_
     generalize (gT 0 j (aE obs ks[j]) hs')[0]=u at t
     have:=m.at (ob:=dU 0 ob obs 0 ks) (k:=j) (g:=0) (v:=u) (by rw [bW f];exact t)
     rw [s] at this
     cases this
     rw [bW f];exact t
    rw [bW f,A] at c
    cases p:aE obs ks[j] with
    | row g sz e xs=>
     rw [p] at d c
     obtain ⟨_,G,r,cv,z,_⟩:=d
     simp only [dN] at c
     rw [r] at c
     cases c
     rcases dE z with ⟨q,_⟩ | ⟨_,_,q,_⟩<;>rcases hs with ⟨b,hs⟩ | ⟨b,hs⟩<;>(rw [q] at hs;cases hs)
    | tail g sz e=>
     rw [p] at d c
     obtain ⟨_,G,r,K,cv,z,_⟩:=d
     simp only [dN] at c
     rw [r] at c
     cases c
     rcases dE z with ⟨q,_⟩ | ⟨_,_,q,_⟩<;>rcases hs with ⟨b,hs⟩ | ⟨b,hs⟩<;>(rw [q] at hs;cases hs)
    | bun g I=>
     rw [p] at d c
     obtain ⟨_,bs,r,_⟩:=d
     simp only [dN] at c
     rw [r] at c
     cases c
     rcases hs with ⟨b,hs⟩ | ⟨b,hs⟩<;>cases hs
    | _=>rfl
   have o:iY ks obs j 0=0:=by simp [iY,lG,B,p]
   rwa [o] at this
  .have o:iY ks obs j 0=0:=by simp [iY,lG,Bj (show ks.length<=j by omega)]
   rwa [o] at this
 exact KY (fun s=>h.embAt y m s) J
theorem Mem.emb (h:Mem M ob obs w) {ks:List Nat} (hk:kP ks obs=true) (s:Ext M (dU 0 ob obs 0 ks) (gK 0 ks obs) w M' obK' obs' w') (h':Mem M' obK' obs' w'):
  Mem M' (hZ ks ob obK') (iX ks obs.length obs 0 obs' obs) w'/\Ext M ob obs w M' (hZ ks ob obK') (iX ks obs.length obs 0 obs' obs) w'/\∀ (i:Nat) hs,obs[i]? =some .dead->ob[i]? =some hs->(iX ks obs.length obs 0 obs' obs)[i]? =some .dead/\(hZ ks ob obK')[i]? =some hs:=by
 obtain ⟨k1,k2⟩:=mA hk
 obtain ⟨c1,c2,c3⟩:=h.cvt (n0:=0) hk
 have hks:∀ (j k:Nat),ks[j]? =some k->k<obs.length:=fun j k z=>(Ab.1 (eN (k1 j k z))).1
 have hcl:(dU 0 ob obs 0 ks).length=ks.length:=pI
 have hm:ks.length<=obs'.length:=by
  rcases Fp ks.length with h0 | h0
  .omega
  .have:(dU 0 ob obs 0 ks)[ks.length-1]? =some (dU 0 ob obs 0 ks)[ks.length-1]:=Aa o_
   obtain ⟨hs',e,_⟩:=s.hs _ _ this
   have:=(Ab.1 e).1
   rw [h'.len] at this
   omega
 obtain ⟨s1,s2,s3⟩:=UJ (base:=obs.length) (obs:=obs) k2 hks obs' 0 obs s_
 simp only [Bp] at s1 s2 s3
 have hEl:(hZ ks ob obK').length=obs.length+(obs'.length-ks.length):=by
  unfold hZ
  simp [h.len,h'.len]
 -- the objects fY the call:by number
 have cls:∀ {i:Nat},i<(iX ks obs.length obs 0 obs' obs).length->(∃ j,j<obs'.length/\i=dJ ks obs.length j)\/(i<obs.length/\(∀ j,j<obs'.length->dJ ks obs.length j≠i)):=by
  intro i C
  rw [s1] at C
  by_cases P:i<obs.length
  .by_cases hin:∃ j,j<obs'.length/\i=dJ ks obs.length j
   .exact .inl hin
   .exact .inr ⟨P,fun j z e=>hin ⟨j,z,e.symm⟩⟩
  .refine .inl ⟨ks.length+(i-obs.length),by omega,?_⟩
   rw [gS o_]
   omega
 have R:∀ {i:Nat},i<obs.length->(∀ j,j<obs'.length->dJ ks obs.length j≠i)->(iX ks obs.length obs 0 obs' obs)[i]? =obs[i]?/\(hZ ks ob obK')[i]? =ob[i]?:=by
  intro i C d
  refine ⟨s3 i d C,?_⟩
  have S:i<ob.length:=by rw [h.len];exact C
  have hp:pos i 0 ks=none:=by
   cases Y:pos i 0 ks with
   | none=>rfl
   | some j=>
    have:=P1 Y
    exact absurd (gR this) (d j (by have:=(Ab.1 this).1;omega))
  unfold hZ
  rw [Ag q_,Bc,Ch S]
  simp [hp,Aa S]
 have newE:∀ {j:Nat} {o:AObj},obs'[j]? =some o->∃ hs hs',obK'[j]? =some hs/\gZ M' obK' w' hs o/\(iX ks obs.length obs 0 obs' obs)[dJ ks obs.length j]? =some (pG ks obs.length obs j o)/\(hZ ks ob obK')[dJ ks obs.length j]? =some hs'/\
   hs'.length=(match ks[j]? with | some k=>dN (aE obs k) | none=>0)+hs.length/\(o.owns=true->blk hs'=blk hs)/\(∀ (g:Nat) v,hs[g]? =some v->hs'[iY ks obs j g]? =some v):=by
  intro j o z
  obtain ⟨hs,K,m⟩:=h'.obj j o z
  have hat:∀ (g:Nat) v,hs[g]? =some v->at' (hZ ks ob obK') (dJ ks obs.length j) (iY ks obs j g)=some v:=fun g v hg=>h.embAt hk s.hs (by rw [bW K];exact hg)
  by_cases P:j<ks.length
  .have Z:=Aa P
   have ho:=k1 j _ Z
   have hko:ks[j]<ob.length:=by rw [h.len];exact (Ab.1 (eN ho)).1
   have hhb:ob[ks[j]]? =some ob[ks[j]]:=Aa hko
   have hl:=h.histLen ho hhb
   have U:(dU 0 ob obs 0 ks)[j]? =some (gT 0 j (aE obs ks[j]) ob[ks[j]]):=by rw [fR,Z];simp [hhb]
   obtain ⟨J,L,t,F⟩:=s.hs j _ U
   rw [K] at L
   cases L
   have hc1:(gT 0 j (aE obs ks[j]) ob[ks[j]]).length=1:=by rw [pJ hl];simp
   have hpos:1<=hs.length:=by rw [<-F];simp;omega
   have eE:(hZ ks ob obK')[ks[j]]? =some (ob[ks[j]]++hs.drop 1):=by
    unfold hZ
    rw [Ag q_,Bc,Ch hko]
    simp [X0 k2 Z,hhb,K]
   refine ⟨hs,_,K,m,s2 j o z,by rw [gR Z];exact eE,by rw [Z];simp;omega,fun _=>?_,fun g v hg=>?_⟩
   .unfold blk
    rw [Mg]
    by_cases h2:1<hs.length
    .rw [List.getLast?_drop,if_neg o_]
     have d:hs≠[]:=fun e=>by subst e;simp at hpos
     rw [Ju d]
     rfl
    .have:hs.drop 1=[]:=Ae o_
     rw [this]
     simp only [List.getLast?_nil,Option.none_or]
     have h1l:hs.length=1:=o_
     have ht:t=[]:=by
      have:=congrArg Js F
      simp at this
      exact Aq o_
     subst ht
     rw [Bo] at F
     rw [<-F,uZ hl]
   .have:=hat g v hg
    rw [gR Z,bW eE] at this
    exact this
  .have hjl:j<obK'.length:=(Ab.1 K).1
   have eE:(hZ ks ob obK')[obs.length+(j-ks.length)]? =some hs:=by
    unfold hZ
    rw [Ak (by simp;rw [h.len];omega),Bx,<-K]
    congr 1
    simp [h.len]
    omega
   refine ⟨hs,hs,K,m,s2 j o z,by rw [gS o_];exact eE,by rw [Bj o_];simp,fun _=>rfl,fun g v hg=>?_⟩
   simpa [iY,lG,Bj (show ks.length<=j by omega)] using hg
 have ownsE:∀ j o,(pG ks obs.length obs j o).owns=o.owns:=fun j o=>by cases o<;>rfl
 have l:∀ {i b:Nat},aH (hZ ks ob obK') (iX ks obs.length obs 0 obs' obs) i b->(∃ j,i=dJ ks obs.length j/\aH obK' obs' j b)\/((∀ j,j<obs'.length->dJ ks obs.length j≠i)/\aH ob obs i b):=by
  rintro i b ⟨c,hs,L,F,e3,e4⟩
  rcases cls (Ab.1 L).1 with ⟨j,z,rfl⟩ | ⟨C,d⟩
  .obtain ⟨H,J,g1,B,g3,g4,_,g5,_⟩:=newE (Aa z)
   rw [g3] at L
   rw [g4] at e3
   cases L
   cases e3
   rw [ownsE] at F
   exact .inl ⟨j,rfl,(cM (Aa z) g1).2 ⟨F,by rw [<-g5 F];exact e4⟩⟩
  .obtain ⟨o1,o2⟩:=R C d
   rw [o1] at L
   rw [o2] at e3
   exact .inr ⟨d,c,hs,L,F,e3,e4⟩
 have hle:dL ob (hZ ks ob obK'):=by
  intro i hs C
  have S:=(Ab.1 C).1
  cases Y:pos i 0 ks with
  | none=>
   refine ⟨hs,?_,Cz _⟩
   unfold hZ
   rw [Ag q_,Bc,Ch S]
   simp [Y,C]
  | some j=>
   refine ⟨hs++(obK'.getD j []).drop 1,?_,⟨_,rfl⟩⟩
   unfold hZ
   rw [Ag q_,Bc,Ch S]
   simp [Y,C]
 have f:∀ {i b:Nat},(∀ j,j<obs'.length->dJ ks obs.length j≠i)->aH ob obs i b->(∀ j,¬ aH (dU 0 ob obs 0 ks) (gK 0 ks obs) j b)/\b<w.heap.size:=by
  intro i b d n
  refine ⟨fun j z=>?_,h.lt i b n⟩
  obtain ⟨k,hk',ha'⟩:=c2 j b z
  have:=h.inj i k b n ha'
  subst this
  exact d j (by have:=(Ab.1 hk').1;omega) (gR hk')
 refine ⟨⟨h'.imm,by rw [hEl,s1],fun i c r=>?_,fun i b n=>?_,fun i i' b n hb=>?_⟩,⟨s.imm,fun b o y hy=>?_,hle,s.os,s.tape,s.output,s.size,fun b hb hn=>s.keep b hb fun j z=>?_,fun i b n=>?_⟩,fun i hs hd K=>?_⟩
 .rcases cls (Ab.1 r).1 with ⟨j,z,rfl⟩ | ⟨C,d⟩
  .obtain ⟨H,J,g1,B,g3,g4,g5,g6,g7⟩:=newE (Aa z)
   rw [g3] at r
   cases r
   refine ⟨J,g4,?_⟩
   have one0:∀ {p:Value},H=[p]->H.length=1->(match ks[j]? with | some k=>dN (aE obs k) | none=>0)=0\/True:=fun _ _=>.inr trivial
   have single:∀ {b:Nat} {p:Value},H=[p]->((∃ q,p= .pointer (some ⟨q,0,none⟩))\/(∃ q,p= .map (some q)))->J=[p]:=by
    intro b p e hp
    have W:(match ks[j]? with | some k=>dN (aE obs k) | none=>0)=0:=by
     cases Y:ks[j]? with
     | none=>rfl
     | some k=>
      have G:=g7 0 p (by rw [e];rfl)
      have ho:=k1 j k Y
      obtain ⟨O,hhk,m⟩:=h.obj k _ (eN ho)
      have hl:=h.histLen ho hhk
      have U:(dU 0 ob obs 0 ks)[j]? =some (gT 0 j (aE obs k) O):=by rw [fR,Y];simp [hhk]
      obtain ⟨hs3,L,t,F⟩:=s.hs j _ U
      rw [g1] at L
      cases L
      have hc1:(gT 0 j (aE obs k) O).length=1:=by rw [pJ hl];simp
      have hc0:(gT 0 j (aE obs k) O)[0]? =O[dN (aE obs k)]?:=tP hl (by rw [nJ];simp)
      have a:O[dN (aE obs k)]? =some p:=by
       rw [<-hc0]
       have:H[0]? =some p:=by rw [e];rfl
       rw [<-F,Ag o_] at this
       exact this
      show dN (aE obs k)=0
      cases r:aE obs k with
      | row g sz e xs=>
       rw [r] at m a
       obtain ⟨_,v',u,cv,D,_⟩:=m
       simp only [dN] at a
       rw [u] at a
       cases a
       rcases dE D with ⟨q,_⟩ | ⟨_,_,q,_⟩<;>rcases hp with ⟨b,hp⟩ | ⟨b,hp⟩<;>(rw [q] at hp;cases hp)
      | tail g sz e=>
       rw [r] at m a
       obtain ⟨_,v',u,n',cv,D,_⟩:=m
       simp only [dN] at a
       rw [u] at a
       cases a
       rcases dE D with ⟨q,_⟩ | ⟨_,_,q,_⟩<;>rcases hp with ⟨b,hp⟩ | ⟨b,hp⟩<;>(rw [q] at hp;cases hp)
      | bun g I=>
       rw [r] at m a
       obtain ⟨_,bs,u,_⟩:=m
       simp only [dN] at a
       rw [u] at a
       cases a
       rcases hp with ⟨b,hp⟩ | ⟨b,hp⟩<;>cases hp
      | _=>rfl
    rw [W,e] at g5
    have G:=g7 0 p (by rw [e];rfl)
    have hG:iY ks obs j 0=0:=by
     unfold iY
     rw [lG]
     cases Y:ks[j]? with
     | none=>rfl
     | some k=>rw [Y] at W;simpa using W
    rw [hG] at G
    match J,g5,G with
    | [x],_,G=>simp at G;rw [G]
   have A:∀ g,H.length=g+1->J.length=iY ks obs j g+1:=fun g hg=>by
    rw [g5,hg]
    unfold iY
    rw [lG]
    cases ks[j]? with
    | none=>simp
    | some k=>simp;omega
   cases r:obs'[j] with
   | dead=>exact trivial
   | cells T cs=>
    rw [r] at B
    obtain ⟨b,rfl,V,cv,u,D,a4,a5⟩:=B
    obtain ⟨m1,m2⟩:=bU (h.embV (M':=M') hk s.hs hcl 4) D a5
    exact ⟨b,single (b:=b) rfl (.inl ⟨b,rfl⟩),V,cv,u,m1,a4,m2⟩
   | fcells cs=>
    rw [r] at B
    obtain ⟨b,rfl,V⟩:=B
    exact ⟨b,single (b:=b) rfl (.inl ⟨b,rfl⟩),V⟩
   | row g sz e xs=>
    rw [r] at B
    obtain ⟨V,v,u,D⟩:=B
    exact ⟨A g V,v,g7 g v u,D⟩
   | frow g sz xs=>
    rw [r] at B
    obtain ⟨v,u,D⟩:=B
    exact ⟨v,g7 g v u,D⟩
   | tail g sz e=>
    rw [r] at B
    obtain ⟨V,v,u,D⟩:=B
    exact ⟨A g V,v,g7 g v u,D⟩
   | mp ag es=>
    rw [r] at B
    obtain ⟨b,rfl,V,u⟩:=B
    exact ⟨b,single (b:=b) rfl (.inr ⟨b,rfl⟩),V,u⟩
   | bun g I=>
    rw [r] at B
    obtain ⟨V,v,u,D⟩:=B
    exact ⟨A g V,v,g7 g _ u,D⟩
  .obtain ⟨o1,o2⟩:=R C d
   rw [o1] at r
   obtain ⟨hs,K,m⟩:=h.obj i c r
   refine ⟨hs,by rw [o2];exact K,m.mono s.imm hle (fun b p1 p2 o hno y hy=>?_) (fun b c' p1 p2 hc'=>?_)⟩
   .obtain ⟨n1,n2⟩:=f d ((cM r K).2 ⟨p1,p2⟩)
    rcases s.new b o y hy with q | q | ⟨j,q⟩
    .exact hno y q
    .omega
    .exact n1 j q
   .obtain ⟨n1,n2⟩:=f d ((cM r K).2 ⟨p1,p2⟩)
    rw [s.keep b n2 n1]
    exact hc'
 .rcases l n with ⟨j,_,n⟩ | ⟨_,n⟩
  .exact h'.lt j b n
  .exact Dp (h.lt i b n) s.size
 .have X:∀ {i j:Nat},(∀ j,j<obs'.length->dJ ks obs.length j≠i)->aH ob obs i b->aH obK' obs' j b->False:=by
   intro i j d n hb
   obtain ⟨n1,n2⟩:=f d n
   rcases s.fresh j b hb with ⟨j',q⟩ | q
   .exact n1 j' q
   .omega
  rcases l n with ⟨j,L,N⟩ | ⟨d,N⟩<;>rcases l hb with ⟨j',F,Q⟩ | ⟨hne',Q⟩
  .rw [L,F,h'.inj j j' b N Q]
  .exact (X hne' Q N).elim
  .exact (X d N Q).elim
  .exact h.inj i i' b N Q
 .rcases s.new b o y hy with q | q | ⟨j,q⟩
  .exact .inl q
  .exact .inr (.inl q)
  .obtain ⟨k,_,n⟩:=c2 j b q
   exact .inr (.inr ⟨k,n⟩)
 .obtain ⟨k,_,n⟩:=c2 j b z
  exact hn k n
 .rcases l n with ⟨j,_,n⟩ | ⟨_,n⟩
  .rcases s.fresh j b n with ⟨j',q⟩ | q
   .obtain ⟨k,_,ha'⟩:=c2 j' b q
    exact .inl ⟨k,ha'⟩
   .exact .inr q
  .exact .inl ⟨i,n⟩
 .have C:=(Ab.1 hd).1
  have d:∀ j,j<obs'.length->dJ ks obs.length j≠i:=by
   intro j z e
   by_cases P:j<ks.length
   .have Z:=Aa P
    rw [gR Z] at e
    have ho:=k1 j _ Z
    rw [e,fJ hd] at ho
    cases ho
   .rw [gS o_] at e
    omega
  obtain ⟨o1,o2⟩:=R C d
  rw [o1,o2]
  exact ⟨hd,K⟩
end
section
variable {M M':Imm} {ob ob':Hs} {obs obs1 obs1' obs':List AObj} {w w':World}
def ON (obs1 obs:List AObj):Prop:=obs1.length=obs.length/\∀ (k:Nat),obs1[k]? =obs[k]?\/obs1[k]? =some .dead
theorem ON.alive (h:ON obs1 obs) {k b:Nat} (g:aH ob obs1 k b):aH ob obs k b:=by
 obtain ⟨c,hs,a,d,e,f⟩:=g
 rcases h.2 k with q | q
 .rw [q] at a;exact ⟨c,hs,a,d,e,f⟩
 .rw [q] at a;cases a;cases d
theorem Mem.weak (h:Mem M ob obs w) (a:ON obs1 obs):Mem M ob obs1 w:=by
 refine ⟨h.imm,h.len.trans a.1.symm,fun k c d=>?_,fun k b f=>h.lt k b (a.alive f),fun i j b f g=>h.inj i j b (a.alive f) (a.alive g)⟩
 rcases a.2 k with q | q
 .rw [q] at d;exact h.obj k c d
 .rw [q] at d
  cases d
  have e:k<ob.length:=by rw [h.len,<-a.1];exact (Ab.1 q).1
  exact ⟨ob[k],Aa e,trivial⟩
theorem Mem.revive (h:Mem M ob obs w) (x:ON obs1 obs) (d:Ext M ob obs1 w M' ob' obs1' w') (hs:cJ ob obs1 ob' obs1') (A:Mem M' ob' obs1' w') (hl:obs'.length=obs1'.length)
  (F:∀ (k:Nat) c,obs'[k]? =some c->obs1'[k]? =some c\/(obs1[k]? =some .dead/\(∃ hs,ob[k]? =some hs/\hs≠[])/\obs[k]? =some c)):
  Mem M' ob' obs' w'/\Ext M ob obs w M' ob' obs' w'/\cJ ob obs ob' obs':=by
 have a:∀ {k b:Nat},aH ob' obs' k b->aH ob' obs1' k b\/(obs1[k]? =some .dead/\aH ob obs k b):=by
  rintro k b ⟨c,hs',u,D,Q,R⟩
  rcases F k c u with q | ⟨n,⟨g,m,z⟩,B⟩
  .exact .inl ⟨c,hs',q,D,Q,R⟩
  .have:=((hs k g n m).1 z).2
   rw [Q] at this
   cases this
   exact .inr ⟨n,c,hs',B,D,m,R⟩
 have f:∀ {k b:Nat},obs1[k]? =some .dead->aH ob obs k b->∀ j,¬ aH ob obs1 j b:=by
  intro k b S e j C
  have:=h.inj k j b e (x.alive C)
  subst this
  obtain ⟨c,_,u,D,_⟩:=C
  rw [S] at u
  cases u
  cases D
 refine ⟨⟨A.imm,A.len.trans hl.symm,fun k c V=>?_,fun k b e=>?_,fun i j b e H=>?_⟩,⟨d.imm,fun b o y K=>?_,d.hs,d.os,d.tape,d.output,d.size,fun b H Y=>d.keep b H fun j C=>Y j (x.alive C),fun k b e=>?_⟩,fun k hs' h1 O=>⟨fun h3=>?_,fun h3 Z=>?_⟩⟩
 .rcases F k c V with q | ⟨n,⟨g,m,z⟩,B⟩
  .exact A.obj k c q
  .obtain ⟨U,u,J⟩:=h.obj k c B
   rw [m] at u
   cases u
   refine ⟨g,((hs k g n m).1 z).2,J.mono d.imm d.hs (fun b I N o L y K=>?_) (fun b c' I N G=>?_)⟩
   .have e:aH ob obs k b:=(cM B m).2 ⟨I,N⟩
    rcases d.new b o y K with q | q | ⟨j,q⟩
    .exact L y q
    .have:=h.lt k b e;omega
    .exact f n e j q
   .have e:aH ob obs k b:=(cM B m).2 ⟨I,N⟩
    rw [d.keep b (h.lt k b e) (f n e)]
    exact G
 .rcases a e with q | ⟨_,q⟩
  .exact A.lt k b q
  .exact Dp (h.lt k b q) d.size
 .have l:∀ {i j:Nat},aH ob' obs1' i b->obs1[j]? =some .dead->aH ob obs j b->False:=fun {i j} p q r=>by
   rcases d.fresh i b p with ⟨W,t⟩ | t
   .exact f q r W t
   .have:=h.lt j b r;omega
  rcases a e with q | ⟨n,q⟩<;>rcases a H with r | ⟨X,r⟩
  .exact A.inj i j b q r
  .exact (l q X r).elim
  .exact (l r n q).elim
  .exact h.inj i j b q r
 .rcases d.new b o y K with q | q | ⟨j,q⟩
  .exact .inl q
  .exact .inr (.inl q)
  .exact .inr (.inr ⟨j,x.alive q⟩)
 .rcases a e with q | ⟨_,q⟩
  .rcases d.fresh k b q with ⟨j,t⟩ | t
   .exact .inl ⟨j,x.alive t⟩
   .exact .inr t
  .exact .inl ⟨k,q⟩
 .have v:obs1[k]? =some .dead:=by
   rcases x.2 k with q | q
   .rw [q];exact h1
   .exact q
  obtain ⟨P,T⟩:=(hs k hs' v O).1 h3
  refine ⟨?_,T⟩
  have s:k<obs'.length:=by rw [hl];exact (Ab.1 P).1
  rcases F k _ (Aa s) with q | ⟨_,_,q⟩
  .rw [P] at q;rw [Aa s,<-q]
  .rw [h1] at q;rw [Aa s,<-q]
 .have v:obs1[k]? =some .dead:=by
   rcases x.2 k with q | q
   .rw [q];exact h1
   .exact q
  rcases F k _ Z with q | ⟨_,⟨g,m,z⟩,_⟩
  .exact (hs k hs' v O).2 h3 q
  .rw [O] at m;cases m;exact absurd h3 z
end
def aP (P:Program) (t:TypeId):Bool:=match P.underlying t with | some (.struct _) | some (.array _ _)=>true | _=>false
def mP (P:Program):List Field->List (Nat×Nat×Bool)->Prop
 | [],[]=>True
 | f::fs,(off,sz,ag)::r=>f.offset=off/\(P.info? f.type).map (·.size)=some sz/\(P.underlying f.type).isSome=true/\aP P f.type=ag/\mP P fs r
 | _,_=>False
def sD (P:Program) (t:Nat) (a:Bool) (size:Nat):TK->Prop
 | .int k=>P.underlying t=some (.int k)/\a=false/\size=1
 | .bool=>P.underlying t=some .bool/\a=false/\size=1
 | .str=>P.underlying t=some .string/\a=false/\size=1
 | .strct g=>(∃ c,P.underlying t=some (.struct c)/\mP P c.toList g)/\a=true
 | .arr n b j=>(∃ e,P.underlying t=some (.array n e)/\(P.info? e).map (·.size)=some b/\(P.underlying e).isSome=true/\aP P e=j)/\a=true
 | .slc e b h=>(P.underlying t=some (.slice e)/\∃ i z,P.info? e=some i/\i.size=b/\i.bytes=h/\i.zero=some z/\z.cells.size=b/\z.cells.toList.all (·.oneCell')=true)/\a=false/\size=1
 | .ptr e=>P.underlying t=some (.pointer e)/\a=false/\size=1
 | .iface=>(∃ f,P.underlying t=some (.interface f))/\a=false/\size=1
 | .mp k e=>P.underlying t=some (.map k e)/\a=false/\size=1
 | .other=>(∃ d,P.underlying t=some d/\(∀ f,d≠ .interface f))/\aP P t=a
structure TIOK (P:Program) (t:Nat) (ti:TI):Prop where
 info:∃ i z,P.info? t=some i/\i.size=ti.size/\i.zero=some z/\z.cells.size=ti.size/\Rep (fun _ _ _=>False) [] z ti.zero/\z.cells.toList.all (·.oneCell')=true/\ti.zero≠ .undef
 kind:sD P t ti.agg ti.size ti.kind
def aGU (P:Program) (t n:Nat):Prop:=∀ (w:World) (x y:Operand) (xs ys:List AVal) (vs us:List Value) (c:Bool),ceq xs ys=some c->xs.length=n->
 cD (fun _ _ _=>False) [] vs xs->cD (fun _ _ _=>False) [] us ys->
 (∀ op,(eqGuard op t x y (.agg vs.toArray) (.agg us.toArray)).run P w= .ok () w)/\(Op.equal t (.agg vs.toArray) (.agg us.toArray)).run P w= .ok c w
def HS (P:Program) (t n:Nat):Prop:=∀ (w:World) (a b:List Int),a.length=n->b.length=n->(Op.equal t (fA true a) (fA true b)).run P w= .ok (decide (a=b)) w/\∀ c,(Gw c 10000 t (fA true a)).run P w= .ok () w
def OS (P:Program) (t n:Nat):Prop:=aGU P t n/\HS P t n
structure EnvOK (E:Env):Prop where
 mix:E.P.follows .mixedOrders=true
 tab:∀ t ti,cR E.T t=some ti->TIOK E.P t ti
 mth:∀ t name g,Y2 E.mt t name=some g->∀ v w,(method (E.P.types.size+Made.depth) t v name).run E.P w= .ok (g,v) w
 fl:∀ t,0<xB E.fl t->OS E.P t (xB E.fl t)
theorem sD.isAgg {P:Program} {t:Nat} {g:Bool} {size:Nat} {k:TK} (h:sD P t g size k):(P.underlying t).isSome=true/\aP P t=g:=by
 cases k with
 | strct m=>obtain ⟨⟨f,h1,_⟩,c⟩:=h;simp [aP,h1,c]
 | arr n i j=>obtain ⟨⟨f,h1,_⟩,c⟩:=h;simp [aP,h1,c]
 | slc e a b=>obtain ⟨⟨h1,_⟩,c,_⟩:=h;simp [aP,h1,c]
 | iface=>obtain ⟨⟨l,h1⟩,c,_⟩:=h;simp [aP,h1,c]
 | other=>obtain ⟨⟨d,h1,_⟩,c⟩:=h;exact ⟨by simp [h1],c⟩
 | _=>obtain ⟨h1,c,_⟩:=h;simp [aP,h1,c]
theorem uB {P:Program} {t:Nat} (h:(P.underlying t).isSome=true) (w:World):(isAgg t).run P w= .ok (aP P t) w:=by
 obtain ⟨d,a⟩:=Cx.1 h
 unfold isAgg
 simp only [Au,run_underlying a,Ai,aP,a]
 cases d<;>rfl
theorem run_sizeOf {P:Program} {t:Nat} {s:Nat} (h:(P.info? t).map (·.size)=some s) (w:World):(sizeOf t).run P w= .ok s w:=by
 obtain ⟨i,a,rfl⟩:=Cb.1 h
 simp [sizeOf,typeInfo,a]
theorem TIOK.size? {P:Program} {t:Nat} {b:TI} (h:TIOK P t b):(P.info? t).map (·.size)=some b.size:=by
 obtain ⟨i,z,c,a,_⟩:=h.info
 simp [c,a]
theorem mP.get {P:Program}:∀ {a:List Field} {b:List (Nat×Nat×Bool)},mP P a b->∀ {i:Nat} {off sz:Nat} {c:Bool},nth b i=some (off,sz,c)->
  ∃ f,a[i]? =some f/\f.offset=off/\(P.info? f.type).map (·.size)=some sz/\(P.underlying f.type).isSome=true/\aP P f.type=c
 | [],[],_,i,_,_,_,hn=>by cases i<;>cases hn
 | [],_::_,h,_,_,_,_,_=>h.elim
 | _::_,[],h,_,_,_,_,_=>h.elim
 | f::a,(off',sz',ag')::b,h,i,off,sz,c,hn=>by
  obtain ⟨h1,e,h3,d,k⟩:=h
  cases i with
  | zero=>cases hn;exact ⟨f,rfl,h1,e,h3,d⟩
  | succ i=>
   obtain ⟨g,j,r⟩:=k.get (show nth b i=_ from hn)
   exact ⟨g,by simpa using j,r⟩
theorem iJ {M:Imm} {ob:Hs} {z:Value} {a:AVal} (h:Rep (fun _ _ _=>False) [] z a):Rep M ob z a:=h.mono (fun _ _ _ h=>h.elim) (KA ob)
def Sd (VS:AVal->List AObj->Prop) (CS:Fn->List AVal->Prop) (PS:AVal->Prop) (obs:List AObj) (base:Nat):OR->Prop
 | .no=>True
 | .val v=>VS v obs
 | .mkf fn d cs=>VS (.func fn d cs) obs
 | .need p r=>p->Sd VS CS PS obs base r
 | .alt p v w=>(p->VS v obs)/\VS w obs
 | .idx n f=>∀ i:Nat,n=(i:Int)->Sd VS CS PS obs base (f i)
 | .elem xs i f=>∀ x,xs[i]? =some x->Sd VS CS PS obs base (f x)
 | .byte l i=>∀ c,l[i]? =some c->VS (.int .u8 (c.toNat:Int)) obs
 | .text xs=>∀ l:List UInt8,xs=l.map ub->(l.length:Int)<=9223372036854775807->VS (.str l) obs
 | .find es key f=>Sd VS CS PS obs base (f (bO es key))
 | .born x v=>VS v (bL obs base x)
 | .upd k x v=>VS v (bL obs k x)
 | .nilq xs a=>∃ b:Bool,(b=true->xs=[])/\VS (.bool (if a then !b else b)) obs
 | .call f args=>CS f args
 | .pan v=>PS v
theorem Sd.mono {VS e:AVal->List AObj->Prop} {CS g:Fn->List AVal->Prop} {PS d:AVal->Prop} {obs:List AObj} {base:Nat} (h1:∀ v o,VS v o->e v o) (j:∀ f a,CS f a->g f a) (h3:∀ v,PS v->d v):
  ∀ {r:OR},Sd VS CS PS obs base r->Sd e g d obs base r
 | .no,_=>trivial
 | .val v,h=>h1 _ _ h
 | .mkf fn fs cs,h=>h1 _ _ h
 | .need p r,h=>fun hp=>Sd.mono h1 j h3 (h hp)
 | .alt p v w,h=>⟨fun hp=>h1 _ _ (h.1 hp),h1 _ _ h.2⟩
 | .idx n f,h=>fun i q=>Sd.mono h1 j h3 (h i q)
 | .elem xs i f,h=>fun x s=>Sd.mono h1 j h3 (h x s)
 | .byte l i,h=>fun c t=>h1 _ _ (h c t)
 | .text xs,h=>fun l hl m=>h1 _ _ (h l hl m)
 | .find es key f,h=>Sd.mono (r:=f (bO es key)) h1 j h3 h
 | .born x v,h=>h1 _ _ h
 | .upd k x v,h=>h1 _ _ h
 | .nilq xs neg,⟨b,m,h⟩=>⟨b,m,h1 _ _ h⟩
 | .call f args,h=>j _ _ h
 | .pan v,h=>h3 _ h
def PV (P:Program) (M:Imm) (ob:Hs) (w:World) (s:Sem Value) (obs:List AObj) (v:AVal) (o:List AObj):Prop:=o=obs/\∃ u,s.run P w= .ok u w/\Rep M ob u v
abbrev PS0 (P:Program) (M:Imm) (ob:Hs) (w:World) (s:Sem Value) (obs:List AObj) (base:Nat) (r:OR):Prop:=Sd (PV P M ob w s obs) (fun _ _=>False) (fun _=>False) obs base r
theorem PS0.bind {P:Program} {M:Imm} {ob:Hs} {w:World} {s:Sem Value} {obs:List AObj} {base:Nat} {f:AVal->AVal} (a:∀ v u,Rep M ob u v->Rep M ob u (f v)):∀ {r:OR},PS0 P M ob w s obs base r->PS0 P M ob w s obs base (r.bind fun v=>.val (f v))
 | .no,_=>trivial
 | .val v,⟨h1,u,h2,h3⟩=>⟨h1,u,h2,a _ _ h3⟩
 | .mkf fn fs cs,_=>trivial
 | .need p r,h=>fun hp=>PS0.bind a (r:=r) (h hp)
 | .alt p v w,_=>trivial
 | .idx n f',h=>fun i c=>PS0.bind a (r:=f' i) (h i c)
 | .elem xs i f',h=>fun x b=>PS0.bind a (r:=f' x) (h x b)
 | .byte l i,_=>trivial
 | .text xs,_=>trivial
 | .find es key f',_=>trivial
 | .born x v,_=>trivial
 | .upd k x v,_=>trivial
 | .nilq xs neg,_=>trivial
 | .call f' args,_=>trivial
 | .pan v,_=>trivial
structure VS1 (P:Program) (ρv:Operand->Value) (op:Op) (ty:TypeId) (M:Imm) (ob:Hs) (obs:List AObj) (w:World) (v:AVal) (obs':List AObj) (u:Value) (w':World) (M':Imm) (ob':Hs):Prop where
 run:∀ d pos after g,(execOp ρv ⟨d,op,ty,pos,after,g⟩).run P w= .ok (.value u) w'\/((execOp ρv ⟨d,op,ty,pos,after,g⟩).run P w= .ok .skip w'/\u=undef)
 ext:Ext M ob obs w M' ob' obs' w'
 mem:Mem M' ob' obs' w'
 still:cJ ob obs ob' obs'
 rep:Rep M' ob' u v
def VS (P:Program) (ρv:Operand->Value) (op:Op) (ty:TypeId) (M:Imm) (ob:Hs) (obs:List AObj) (w:World) (v:AVal) (obs':List AObj):Prop:=∃ u w' M' ob',VS1 P ρv op ty M ob obs w v obs' u w' M' ob'
def CS (P:Program) (ρv:Operand->Value) (op:Op) (ty:TypeId) (M:Imm) (ob:Hs) (w:World) (f:Fn) (args:List AVal):Prop:=
 ∃ b:List Value,cD M ob b args/\∀ d pos a g,(execOp ρv ⟨d,op,ty,pos,a,g⟩).run P w=(B6 f b.toArray).run P w
def PS (P:Program) (ρv:Operand->Value) (op:Op) (ty:TypeId) (M:Imm) (w:World) (v:AVal):Prop:=
 ∃ u,(∀ d pos a g,(execOp ρv ⟨d,op,ty,pos,a,g⟩).run P w= .halt (.panic u) w)/\Rep M [] u v
abbrev bY (P:Program) (ρv:Operand->Value) (op:Op) (ty:TypeId) (M:Imm) (ob:Hs) (obs:List AObj) (w:World) (base:Nat) (r:OR):Prop:=
 Sd (VS P ρv op ty M ob obs w) (CS P ρv op ty M ob w) (PS P ρv op ty M w) obs base r
theorem bY.pv {P:Program} {ρv:Operand->Value} {op:Op} {ty:TypeId} {M:Imm} {ob:Hs} {obs:List AObj} {w:World} {base:Nat} {r:OR} {s:Sem Value} (hm:Mem M ob obs w)
  (b:∀ d pos a g,execOp ρv ⟨d,op,ty,pos,a,g⟩=(s >>= fun v=>Pure.pure (.value v))) (h:PS0 P M ob w s obs base r):bY P ρv op ty M ob obs w base r:=
 Sd.mono (fun v o ⟨h1,u,c,h3⟩=>⟨u,w,M,ob,fun d pos a g=>.inl (by rw [b];simp only [Au,c,Ai,Bi]),h1▸Ext.refl _ _ _ _,h1▸hm,h1▸cJ.refl _ _,h3⟩) (fun _ _ h=>h.elim) (fun _ h=>h.elim) h
theorem TU {k:IntKind} {n:Int} (h:aCV k n=true):inR k n:=by
 unfold aCV at h
 split at h
 .rename_i m
  have:=Ca h
  rw [show Int.ofNat m=(m:Int) from rfl]
  constructor
  .cases k<;>simp only [cL]<;>omega
  .cases k<;>simp only [aEv,bI] at * <;>omega
 .rename_i m
  have:m<ZD k:=by simpa [Fe] using h
  constructor
  .cases k<;>simp only [ZD,cL] at * <;>omega
  .cases k<;>simp only [bI]<;>omega
theorem aCN (l:List UInt8):Y7 l=l.length:=by
 induction l with
 | nil=>rfl
 | cons c r a=>simp [Y7,a]
theorem iK {k:IntKind} {n:Int} (h:inR k n):k.wrap n=n:=by
 unfold inR cL bI at h
 unfold IntKind.wrap
 cases k<;>simp only [IntKind.bits,IntKind.signed] at * <;>simp at * <;>omega
theorem kA (k:IntKind) (n:Int):inR k (k.wrap n):=by
 unfold inR cL bI IntKind.wrap
 cases k<;>simp only [IntKind.bits,IntKind.signed]<;>simp<;>(try split)<;>omega
theorem ZJ {k:IntKind} {x y:Int} (h:inR k x):inR k (x.tmod y):=by
 obtain ⟨h1,f⟩:=h
 have g:cL k<=0:=by cases k<;>decide
 have c:0<=bI k:=by cases k<;>decide
 by_cases d:0<=x
 .have a:=Int.tmod_nonneg y d
  have b:x.tmod y<=x:=by
   have:=Int.natAbs_tmod x y
   have:=Nat.mod_le x.natAbs y.natAbs
   omega
  exact ⟨by omega,by omega⟩
 .have e:x.tmod y= -((-x).tmod y):=by rw [Int.neg_tmod];omega
  have a:=Int.tmod_nonneg y (show 0<= -x by omega)
  have b:(-x).tmod y<= -x:=by
   have:=Int.natAbs_tmod (-x) y
   have:=Nat.mod_le (-x).natAbs y.natAbs
   omega
  exact ⟨by omega,by omega⟩
theorem ZK {k:IntKind} {x:Int} (p:Nat) (h:inR k x):inR k (x.fdiv (2 ^ p)):=by
 obtain ⟨h1,d⟩:=h
 have c:cL k<=0:=by cases k<;>decide
 have b:0<=bI k:=by cases k<;>decide
 have hp:(0:Int)<2 ^ p:=Int.pow_pos d_
 have a:(1:Int)<=2 ^ p:=o_
 rw [Ge _ o_]
 generalize (2:Int) ^ p=q at hp a
 constructor
 .refine Int.le_ediv_of_mul_le hp ?_
  have:cL k*q<=cL k*1:=Int.mul_le_mul_of_nonpos_left c a
  omega
 .refine Int.ediv_le_of_le_mul hp ?_
  have:bI k*1<=bI k*q:=Jv a b
  omega
theorem tH {k a:IntKind} (h:ZG k a=true):k=a:=by cases k<;>cases a<;>first | rfl | cases h
theorem sdc {VS:AVal->List AObj->Prop} {CS:Fn->List AVal->Prop} {PS:AVal->Prop} {obs:List AObj} {base:Nat} {b:Bool} {r:OR} (h:b=true->Sd VS CS PS obs base r):Sd VS CS PS obs base (bif b then r else .no):=by
 cases b with
 | true=>exact h rfl
 | false=>exact trivial
section
variable {P:Program} {E:Env} {M:Imm} {ob:Hs} {obs:List AObj} {w:World} {base:Nat}
theorem pH (v:Value):Rep M ob v (aDO v):=by
 unfold aDO
 split
 .exact .bool _
 .rename_i k n
  cases h:aCV k n with
  | true=>exact .int _ _ (TU h)
  | false=>exact .undef _
 .rename_i s
  cases h:Ew (Y7 s.data.toList) 1000000 with
  | true=>
   have:=Ca h
   rw [aCN] at this
   obtain ⟨⟨l⟩⟩:=s
   exact .str l (by simp at this;omega)
  | false=>exact .undef _
 .exact .nilslice
 .exact .nilptr
 .exact .nilmap
 .exact .nilfunc
 .exact .nilif
 .exact .undef _
theorem BU {op:BinOp} {t:TypeId} {k:IntKind} {x y n:Int} (a:(binOp op t (.int k x) (.int k y)).run P w= .ok (.int k (k.wrap n)) w):
  PS0 P M ob w (binOp op t (.int k x) (.int k y)) obs base (BV k n):=
 ⟨fun hp=>⟨rfl,_,by rw [a,iK hp],.int _ _ hp⟩,rfl,_,a,.int _ _ (kA _ _)⟩
theorem aGq {op:BinOp} {t:TypeId} {k:IntKind} {x y:Int} (g:inR k x):PS0 P M ob w (binOp op t (.int k x) (.int k y)) obs base (aHN op k x y):=by
 have c:∀ {op:BinOp} {n:Int},(binOp op t (.int k x) (.int k y)).run P w= .ok (.int k n) w->inR k n->PS0 P M ob w (binOp op t (.int k x) (.int k y)) obs base (.val (.int k n)):=fun h1 h=>⟨rfl,_,h1,.int _ _ h⟩
 have a:∀ {op:BinOp} {b:Bool},(binOp op t (.int k x) (.int k y)).run P w= .ok (.bool b) w->PS0 P M ob w (binOp op t (.int k x) (.int k y)) obs base (.val (.bool b)):=fun h1=>⟨rfl,_,h1,.bool _⟩
 have d:∀ op,inR k (fQ op k x y):=fun op=>by
  unfold fQ
  cases op<;>exact kA _ _
 cases op with
 | add=>exact BU (by rw [binOp_add];rfl)
 | sub=>exact BU (by rw [binOp_sub];rfl)
 | mul=>exact BU (by rw [binOp_mul];rfl)
 | quo=>
  intro f
  have e:(binOp .quo t (.int k x) (.int k y)).run P w= .ok (.int k (k.wrap (x.tdiv y))) w:=by rw [binOp_quo];simp only [Op.intDiv,if_neg f];rfl
  exact ⟨fun hp=>⟨rfl,_,by rw [e,iK hp],.int _ _ hp⟩,rfl,_,e,.int _ _ (kA _ _)⟩
 | rem=>
  intro f
  exact c (by rw [binOp_rem];simp only [Op.intDiv,if_neg f];rfl) (ZJ g)
 | and=>exact c (by rw [binOp_and];rfl) (d .and)
 | or=>exact c (by rw [binOp_or];rfl) (d .or)
 | xor=>exact c (by rw [binOp_xor];rfl) (d .xor)
 | andNot=>exact c (by rw [binOp_andNot];rfl) (d .andNot)
 | shl=>exact trivial
 | shr=>exact trivial
 | eql=>exact a (by rw [binOp_eql];rfl)
 | neq=>exact a (by rw [binOp_neq];rfl)
 | lss=>exact a (by rw [binOp_lss];rfl)
 | leq=>exact a (by rw [binOp_leq];rfl)
 | gtr=>exact a (by rw [binOp_gtr];rfl)
 | geq=>exact a (by rw [binOp_geq];rfl)
theorem dF (l:List UInt8):(⟨l.toArray⟩:ByteArray).toList=l:=by rw [ByteArray.toList_eq]
theorem NG (l:List UInt8) (i j:Nat):(⟨l.toArray⟩:ByteArray).extract i j=⟨((l.take j).drop i).toArray⟩:=by
 have h:=Lib.extract_data ⟨l.toArray⟩ i j
 have:((⟨l.toArray⟩:ByteArray).extract i j).data=((l.take j).drop i).toArray:=by
  rw [<-Array.toList_inj,h]
  simp [List.drop_take]
 cases a:(⟨l.toArray⟩:ByteArray).extract i j with
 | mk d=>rw [a] at this;simp at this;rw [this]
theorem tR {M':Imm} {ob':Hs}:∀ {xs ys:List AVal} {c:Bool},ceq xs ys=some c->∀ {vs:List Value},cD M ob vs xs->cD M' ob' vs xs:=by
 intro xs
 induction xs with
 | nil=>intro ys c _ vs h;exact ⟨h.1,fun i v a _ n=>by simp at n⟩
 | cons x xs j=>
  intro ys c h vs d
  cases ys with
  | nil=>cases x<;>cases h
  | cons y ys=>
   cases x with
   | int k a=>
    cases y with
    | int p b=>
     simp only [ceq] at h
     obtain ⟨_,m⟩:=dW h
     cases g:ceq xs ys with
     | none=>simp [g] at m
     | some o=>
      match vs,d with
      | [],d=>exact absurd d.1 s_
      | v::vs,d=>
       have l:=j g (vs:=vs) ⟨by simpa using d.1,fun i u b e f=>d.2 (i+1) u b (by simpa using e) (by simpa using f)⟩
       refine ⟨by simpa using d.1,fun i u b e f=>?_⟩
       cases i with
       | zero=>
        simp at e f
        subst e f
        have:=(d.2 0 v _ rfl rfl).int_inv
        rw [this.1]
        exact .int _ _ this.2
       | succ i=>exact l.2 i u b (by simpa using e) (by simpa using f)
    | _=>cases h
   | _=>cases h
theorem LE:∀ {xs ys:List AVal} {c:Bool},ceq xs ys=some c->∃ g,ceq ys xs=some g:=by
 intro xs
 induction xs with
 | nil=>intro ys c h;cases ys with
  | nil=>exact ⟨true,rfl⟩
  | cons y ys=>cases h
 | cons x xs j=>
  intro ys c h
  cases ys with
  | nil=>cases x<;>cases h
  | cons y ys=>
   cases x with
   | int k a=>
    cases y with
    | int m b=>
     simp only [ceq] at h
     obtain ⟨f,l⟩:=dW h
     have:=tH f
     subst this
     cases e:ceq xs ys with
     | none=>simp [e] at l
     | some g=>
      obtain ⟨d,i⟩:=j e
      exact ⟨(b==a)&&d,by simp only [ceq,f,cond_true,i]⟩
    | _=>cases h
   | _=>cases h
theorem uC {P:Program} {w:World} {t e:TypeId} {a:Addr} {j:TypeInfo} (d:Nat) (h:P.underlying t=some (.pointer e)) (b:P.info? e=some j):(Op.equalIn (d+1) t (.pointer (some a)) (.pointer (some a))).run P w= .ok true w:=by
 by_cases hz:j.size=0<;>simp [Op.equalIn,run_underlying h,sizeOf,typeInfo,b,hz,run_sameAddr_same]
theorem aF1 {P:Program} {t e:TypeId} (h:P.underlying t=some (.pointer e)):P.underlying t=some (.pointer (P.pointee t)):=by
 simp [Program.pointee,h]
abbrev B2 (op:BinOp) (t:TypeId) (x y:Operand) (vx vy:Value):Sem Value:=eqGuard op t x y vx vy >>= fun _=>binOp op t vx vy
theorem aEo {s s':Sem Value} (h:∀ {r},s'.run P w=r->s.run P w=r) {r:OR} (k:PS0 P M ob w s' obs base r):PS0 P M ob w s obs base r:=
 Sd.mono (fun _ _ ⟨h1,u,a,h3⟩=>⟨h1,u,h a,h3⟩) (fun _ _ h=>h) (fun _ h=>h) k
theorem YE {op:BinOp} {t:TypeId} {x y:Operand} {b a:Value} {c:Bool} (h1:∀ op,eqGuard op t x y b a=Pure.pure ()) (d:∀ op,op= .eql\/op= .neq->binOp op t b a=(Op.equal t b a >>= fun r=>Pure.pure (.bool (if op= .eql then r else !r))))
  (h3:(Op.equal t b a).run P w= .ok c w):PS0 P M ob w (B2 op t x y b a) obs base (uJ op c):=by
 unfold uJ
 split
 .refine ⟨rfl,.bool c,?_,.bool c⟩
  simp only [B2,h1,d _ (.inl rfl)]
  simp only [Au,Bi,Ai,h3,if_true]
 .refine ⟨rfl,.bool (!c),?_,.bool _⟩
  simp only [B2,h1,d _ (.inr rfl)]
  simp only [Au,Bi,Ai,h3]
  rfl
 .exact trivial
theorem aFC {op:BinOp} {t:TypeId} {x y:Operand} {b a:Value} {c:Bool} {xs:List AVal} (h1:∀ op,eqGuard op t x y b a=Pure.pure ()) (e:∀ op,op= .eql\/op= .neq->binOp op t b a=(Op.equal t b a >>= fun r=>Pure.pure (.bool (if op= .eql then r else !r))))
  (h3:(Op.equal t b a).run P w= .ok c w) (d:c=true->xs=[]):PS0 P M ob w (B2 op t x y b a) obs base (aFD op xs):=by
 have:=YE (M:=M) (ob:=ob) (obs:=obs) (base:=base) (op:=op) h1 e h3
 unfold aFD
 unfold uJ at this
 split
 .exact ⟨c,d,this⟩
 .exact ⟨c,d,this⟩
 .exact trivial
theorem aGt (hE:EnvOK E) {og:Nat->AObj} {op:BinOp} {t:TypeId} {x y:Operand} {s u:Value} {a b:AVal} (l:Rep M ob s a) (m:Rep M ob u b):PS0 E.P M ob w (B2 op t x y s u) obs base (aGu E og (isC x||isC y) op t a b):=by
 unfold aGu
 split
 .rename_i k x' H F
  obtain ⟨rfl,L⟩:=l.int_inv
  obtain ⟨rfl,Y⟩:=m.int_inv
  have z:∀ op,(eqGuard op t x y (.int k x') (.int H F))=Pure.pure ():=fun op=>by cases op<;>rfl
  refine aEo (s':=binOp op t (.int k x') (.int H F)) (fun h=>by simp only [B2,z,Au,Bi,Ai];exact h) ?_
  split
  .intro Q
   have e:(binOp .shl t (.int k x') (.int H F)).run E.P w= .ok (.int k (k.wrap (x'*2 ^ min F.toNat k.bits))) w:=by
    rw [binOp_shl]
    simp only [Op.shift]
    rw [if_neg o_]
    rfl
   refine ⟨fun ⟨N,R⟩=>⟨rfl,_,?_,.int _ _ R⟩,rfl,_,e,.int _ _ (kA _ _)⟩
   rw [e,Fh N,iK R]
  .rintro ⟨Q,N⟩
   refine ⟨rfl,_,?_,.int _ _ (ZK _ L)⟩
   rw [binOp_shr]
   simp only [Op.shift]
   rw [if_neg o_,Fh N]
   rfl
  .refine sdc fun f=>?_
   have:=tH f
   subst this
   exact aGq L
 .rename_i l1 l2
  obtain ⟨rfl,L⟩:=l.str_inv
  obtain ⟨rfl,Y⟩:=m.str_inv
  have z:∀ op,(eqGuard op t x y (.string ⟨l1.toArray⟩) (.string ⟨l2.toArray⟩))=Pure.pure ():=fun op=>by cases op<;>rfl
  refine aEo (s':=binOp op t (.string ⟨l1.toArray⟩) (.string ⟨l2.toArray⟩)) (fun h=>by simp only [B2,z,Au,Bi,Ai];exact h) ?_
  split
  .intro Q
   refine ⟨rfl,.string ⟨(l1++l2).toArray⟩,?_,.str _ (by simpa using Q)⟩
   rw [binOp_string_add]
   rw [run_string_add_sum w _ _ (by rw [nC,nC];omega),ByteArray.mk_append_mk]
  .exact ⟨rfl,_,by rw [binOp_string_eql,dF,dF];rfl,.bool _⟩
  .exact ⟨rfl,_,by rw [binOp_string_neq,dF,dF];rfl,.bool _⟩
  .exact ⟨rfl,_,by rw [binOp_string_lss,dF,dF];rfl,.bool _⟩
  .exact ⟨rfl,_,by rw [binOp_string_leq,dF,dF];rfl,.bool _⟩
  .exact ⟨rfl,_,by rw [binOp_string_gtr,dF,dF];rfl,.bool _⟩
  .exact ⟨rfl,_,by rw [binOp_string_geq,dF,dF];rfl,.bool _⟩
  .exact trivial
 .rename_i xs ys
  refine sdc fun z=>?_
  obtain ⟨K,J⟩:=aS z
  have T:0<xB E.fl t:=by simpa [Fe] using K
  have q:=aB J
  rw [tQ] at q
  obtain ⟨vs,rfl,hl,S⟩:=l.agg_inv
  obtain ⟨us,rfl,C,A⟩:=m.agg_inv
  split
  .rename_i c i
   obtain ⟨V,n⟩:=LE i
   obtain ⟨G,I⟩:=(hE.fl t T).1 w x y _ _ vs us c i q (tR i ⟨hl,S⟩) (tR n ⟨C,A⟩)
   refine ⟨rfl,.bool c,?_,.bool c⟩
   simp only [B2,Au,G,Ai,binOp,I,Bi]
  .rename_i c i
   obtain ⟨V,n⟩:=LE i
   obtain ⟨G,I⟩:=(hE.fl t T).1 w x y _ _ vs us c i q (tR i ⟨hl,S⟩) (tR n ⟨C,A⟩)
   refine ⟨rfl,.bool (!c),?_,.bool _⟩
   simp only [B2,Au,G,Ai,binOp,I,Bi]
  .exact trivial
 .split
  .exact trivial
  .rename_i p W
   have d:=(hE.tab t p W).kind
   have two:∀ {s u:Value},(∀ op,eqGuard op t x y s u=Pure.pure ())->(∀ op,op= .eql\/op= .neq->binOp op t s u=(Op.equal t s u >>= fun r=>Pure.pure (.bool (if op= .eql then r else !r))))->
     ∀ {c:Bool},(Op.equal t s u).run E.P w= .ok c w->PS0 E.P M ob w (B2 op t x y s u) obs base (uJ op c):=fun h1 D _ h3=>YE h1 D h3
   split
   .have f:=‹p.kind=TK.bool›
    rw [f] at d
    obtain rfl:=l.bool_inv
    obtain rfl:=m.bool_inv
    exact two (fun op=>by cases op<;>rfl) (fun op g=>by rcases g with rfl | rfl<;>rfl) (run_equal_bool w t _ _ d.1)
   .have f:=‹p.kind=TK.slc _ _ _›
    rw [f] at d
    have:=l.untok.2
    obtain rfl:s= .slice none 0 0:=this
    cases m
    exact two (fun op=>by cases op<;>rfl) (fun op g=>by rcases g with rfl | rfl<;>rfl) (run_equal_slice_nil w t _ none 0 0 d.1.1)
   .have f:=‹p.kind=TK.slc _ _ _›
    rw [f] at d
    cases l
    cases m
    exact two (fun op=>by cases op<;>rfl) (fun op g=>by rcases g with rfl | rfl<;>rfl) (run_equal_slice_nil w t _ none 0 0 d.1.1)
   .have f:=‹p.kind=TK.slc _ _ _›
    rw [f] at d
    obtain ⟨a,c,rfl,h0,_⟩:=l.slice_inv
    cases m
    exact aFC (fun op=>by cases op<;>rfl) (fun op g=>by rcases g with rfl | rfl<;>rfl) (run_equal_slice_nil w t _ a _ c d.1.1) (fun e=>(h0 (by cases a<;>first | rfl | cases e)).1)
   .have f:=‹p.kind=TK.ptr _›
    rw [f] at d
    cases l
    cases m
    exact two (fun op=>by cases op<;>rfl) (fun op g=>by rcases g with rfl | rfl<;>rfl) (run_equal_pointer_nil w t _ (aF1 d.1))
   .have f:=‹p.kind=TK.ptr _›
    rw [f] at d
    obtain ⟨b,rfl,_⟩:=l.ref_inv
    cases m
    exact two (fun op=>by cases op<;>rfl) (fun op g=>by rcases g with rfl | rfl<;>rfl) (run_equal_pointer_nil w t _ (aF1 d.1))
   .have f:=‹p.kind=TK.ptr _›
    rw [f] at d
    obtain ⟨b,o,rfl,_⟩:=l.ptr_inv
    cases m
    exact two (fun op=>by cases op<;>rfl) (fun op g=>by rcases g with rfl | rfl<;>rfl) (run_equal_pointer_nil w t _ (aF1 d.1))
   .have f:=‹p.kind=TK.ptr _›
    rw [f] at d
    split
    .rename_i tj O
     refine sdc fun z=>?_
     obtain ⟨h1,D⟩:=aS z
     have h1:=aB h1
     have D:=aB D
     subst h1 D
     obtain ⟨b,rfl,X⟩:=l.ref_inv
     obtain ⟨b',rfl,B⟩:=m.ref_inv
     rw [X] at B
     cases B
     obtain ⟨j,U,_⟩:=Cb.1 (hE.tab _ tj O).size?
     refine two (fun op=>by cases op<;>rfl) (fun op g=>by rcases g with rfl | rfl<;>rfl) (c:=true) ?_
     exact uC 9999 d.1 U
    .exact trivial
   .have f:=‹p.kind=TK.iface›
    rw [f] at d
    obtain ⟨Z,v⟩:=d.1
    cases l
    cases m
    refine sdc fun hl=>two (fun op=>?_) (fun op g=>by rcases g with rfl | rfl<;>rfl) (run_equal_nil_nil w t (by simp only [Program.methodsAt,v]))
    cases op<;>first | rfl | (cases x<;>first | rfl | (cases y<;>first | rfl | cases hl))
   .have f:=‹p.kind=TK.iface›
    rw [f] at d
    obtain ⟨Z,v⟩:=d.1
    cases l
    cases m
    exact two (fun op=>by cases op<;>rfl) (fun op g=>by rcases g with rfl | rfl<;>rfl) (run_equal_held_nil w t _ _ (by simp only [Program.methodsAt,v]))
   .exact trivial
end
end Go.AW
